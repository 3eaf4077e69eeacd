/- pcm: chunks$1: the region that calls yield with a whole chunk. -/
import Derived.Test.YtijcecakofmhcaaDoorPcmW
import Derived.Test.YtijcecakofmhcaaDoorIter
import Derived.Test.YtijcecakofmhcaaDoorCut
import Derived.RangeFuncLeaves
import Derived.RangeFuncCalls
import Derived.RangeFuncBound
import Derived.Shelf.Abstract
import Derived.Shelf.RegionOpen
import Derived.WalkKit
import Derived.OwnWalkIn
import Derived.TacticsInMore
import Derived.LoopNIn
import Derived.LoopIn
namespace Go.Proofs.YtijcecakofmhcaaDoor
open Go.RowKit Go.Shelf
attribute [local go_sem] Oper.semAt_some

set_option maxHeartbeats 400000 in
theorem chunk_region (n l bn m D c' : Nat) (nm : ByteArray) (A' A1 A5 : Option Addr) (wr : World) (Q3 : Bool → World → Prop) (fn : FuncId) (tmps : Array Value) (assign body : Code) (K : Act → World → Prop) (Q : Exit → Act → World → Prop) (v2 v4 v5 v6 v7 v8 v9 v10 v11 v12 v13 v14 v15 v16 v17 v18 v19 v20 v21 v22 v23 v24 v25 v26 v27 v28 v29 v30 v31 v32 v33 v34 v35 v36 v37 v38 v39 v40 v41 v42 v43 v44 v45 v46 : Value)
    (k0 : wr.cell? ⟨bn, 0, none⟩ = some (.slice A' D c')) (hm : m < 4294967296) (hn : 1 ≤ n)
    (hcut1 : ∀ W : World, (Instr.slice 25 (.slice A' D c') none (some (.int .i64 4)) none).run Tryd.prog W = .ok (.slice A1 4 c') W)
    (hcut5 : ∀ W : World, (Instr.slice 25 (.slice A' D c') (some (.int .i64 8)) (some (.int .i64 (8 + (m : Int)))) (some (.int .i64 (8 + (m : Int))))).run Tryd.prog W = .ok (.slice A5 m m) W)
    (hcd : (convert 25 9 (.slice A1 4 c')).run Tryd.prog wr.drew = .ok (.string nm) wr.drew)
    (hy : (Instr.yield l #[.agg #[.string nm, .slice A5 m m, .bool false]]).run Tryd.prog wr.drew = .ok (.round l fn tmps assign body) wr.drew)
    (hR3 : RoundIn Fence.wide (n - 1) Tryd.prog l fn tmps assign body wr.drew (fun e W' => ∃ r, e = .returned (.bool r) ∧ Q3 r W'))
    (hK : ∀ r W' x27 x28 x29 x30 x31 x32 x33 x34 x35 x36 x37 x38, Q3 r W' → K { tmps := (.func (.yield l) #[] #[] :: .pointer (some ⟨bn, 0, none⟩) :: v2 :: .int .i64 (m : Int) :: v4 :: v5 :: v6 :: v7 :: v8 :: v9 :: v10 :: v11 :: v12 :: v13 :: v14 :: v15 :: v16 :: v17 :: v18 :: v19 :: v20 :: v21 :: v22 :: v23 :: v24 :: v25 :: v26 :: x27 :: x28 :: x29 :: x30 :: x31 :: x32 :: x33 :: x34 :: x35 :: x36 :: x37 :: x38 :: .bool (!r) :: v40 :: v41 :: v42 :: v43 :: v44 :: v45 :: v46 :: []).toArray, defers := [] } W') :
    Code.wpIn Fence.wide n Tryd.prog (Code.region 6
        #[{ dst := some 27, op := Op.move (Operand.tmp 0), type := 88, pos := "pcm.go:295", after := #[], guard := none },
          { dst := some 28, op := Op.load 25 (Operand.tmp 1), type := 25, pos := "pcm.go:295", after := #[],
            guard := none },
          { dst := some 29, op := Op.slice 25 (Operand.tmp 28) none (some (Operand.const (Value.int IntKind.i64 4))) none,
            type := 25, pos := "pcm.go:295", after := #[{ on := 1, ground := Ground.data }], guard := none },
          { dst := some 30, op := Op.convert 25 9 (Operand.tmp 29), type := 9, pos := "pcm.go:295",
            after := #[{ on := 2, ground := Ground.data }], guard := none },
          { dst := some 31, op := Op.load 25 (Operand.tmp 1), type := 25, pos := "pcm.go:295", after := #[],
            guard := none },
          { dst := some 32, op := Op.move (Operand.tmp 3), type := 3, pos := "pcm.go:295", after := #[], guard := none },
          { dst := some 33, op := Op.binOp BinOp.add 3 (Operand.const (Value.int IntKind.i64 8)) (Operand.tmp 32) 3,
            type := 3, pos := "pcm.go:295", after := #[{ on := 5, ground := Ground.data }], guard := none },
          { dst := some 34, op := Op.move (Operand.tmp 3), type := 3, pos := "pcm.go:295", after := #[], guard := none },
          { dst := some 35, op := Op.binOp BinOp.add 3 (Operand.const (Value.int IntKind.i64 8)) (Operand.tmp 34) 3,
            type := 3, pos := "pcm.go:295", after := #[{ on := 7, ground := Ground.data }], guard := none },
          { dst := some 36,
            op :=
              Op.slice 25 (Operand.tmp 31) (some (Operand.const (Value.int IntKind.i64 8))) (some (Operand.tmp 33))
                (some (Operand.tmp 35)),
            type := 25, pos := "pcm.go:295",
            after :=
              #[{ on := 4, ground := Ground.data }, { on := 6, ground := Ground.data },
                { on := 8, ground := Ground.data }],
            guard := none },
          { dst := some 37, op := Op.build 72 #[(0, Operand.tmp 30), (1, Operand.tmp 36)], type := 72,
            pos := "pcm.go:295", after := #[{ on := 3, ground := Ground.data }, { on := 9, ground := Ground.data }],
            guard := none },
          { dst := some 38,
            op := Op.call { callee := Callee.value (Operand.tmp 27), args := #[Operand.tmp 37], argTypes := #[72] },
            type := 4, pos := "pcm.go:295",
            after := #[{ on := 0, ground := Ground.data }, { on := 10, ground := Ground.data }], guard := none },
          { dst := some 39, op := Op.unOp UnOp.not 4 (Operand.tmp 38), type := 4, pos := "pcm.go:295",
            after := #[{ on := 11, ground := Ground.data }], guard := none }]
        true)
      (Exit.then K Q) { tmps := (.func (.yield l) #[] #[] :: .pointer (some ⟨bn, 0, none⟩) :: v2 :: .int .i64 (m : Int) :: v4 :: v5 :: v6 :: v7 :: v8 :: v9 :: v10 :: v11 :: v12 :: v13 :: v14 :: v15 :: v16 :: v17 :: v18 :: v19 :: v20 :: v21 :: v22 :: v23 :: v24 :: v25 :: v26 :: v27 :: v28 :: v29 :: v30 :: v31 :: v32 :: v33 :: v34 :: v35 :: v36 :: v37 :: v38 :: v39 :: v40 :: v41 :: v42 :: v43 :: v44 :: v45 :: v46 :: []).toArray, defers := [] } wr := by
  have hmo : Tryd.prog.follows .mixedOrders = true := by kernel_rfl
  have hw9 : IntKind.i64.wrap (8 + (m : Int)) = 8 + (m : Int) := IntWalk.i64_in _ (by omega)
  clear hm
  refine wpIn_mono (Q := Exit.then K (fun _ _ _ => False)) ?_ (fun e a w q => by cases e <;> first | exact q | exact q.elim)
  gi_region_with_o (refine hR3.mono ?_; rintro e W3 ⟨r3, rfl, hq3⟩)
  all_goals exact hK r3 W3 _ _ _ _ _ _ _ _ _ _ _ _ hq3
end Go.Proofs.YtijcecakofmhcaaDoor
