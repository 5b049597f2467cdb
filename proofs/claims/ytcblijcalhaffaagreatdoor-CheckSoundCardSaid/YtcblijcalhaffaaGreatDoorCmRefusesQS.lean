import Derived.Test.YtcblijcalhaffaaGreatDoorCmFormQS
namespace Go.Proofs.YtcblijcalhaffaaGreatDoor
open Go Go.BigFrame Go.RowKit Go.Proofs.YtcblijcalhaffaaGreatDoorW.PrintWords Go.Proofs.YtcblijcalhaffaaGreatDoorW.PrintLast Go.Proofs.YtcblijcalhaffaaGreatDoorW.PrintMore PCheckSound
open Go.Sort Go.Shelf
attribute [local go_sem] Oper.semAt_some

/-! law08.CheckRefuses. -/
/-- The box of a law's raw formula. -/
theorem raw_box (v : World) (u : Int) (A : Option Addr) (n c : Nat) : ∃ w, w = v.alloc (.cells #[.int .u8 u, .slice A n c] 24) ∧ w.heap[v.heap.size]? = some (.cells #[.int .u8 u, .slice A n c] 24 (0, 0)) ∧ Below v.heap.size v w :=
  ⟨_, rfl, heap_alloc_new v _, (Below.refl _ v).alloc (Nat.le_refl _) _⟩
theorem raw_cells {v w w1 : World} {u : Int} {A : Option Addr} {n c : Nat} (h : w.heap[v.heap.size]? = some (.cells #[.int .u8 u, .slice A n c] 24 (0, 0))) (hb : Below w.heap.size w w1) :
    w1.cell? ⟨v.heap.size, 0, none⟩ = some (.int .u8 u) ∧ w1.cell? ⟨v.heap.size, 1, none⟩ = some (.slice A n c) :=
  ⟨(blk_cell ((hb.block _ (blk_lt h)).trans h) 0).trans rfl, (blk_cell ((hb.block _ (blk_lt h)).trans h) 1).trans rfl⟩
theorem f_cells {w w1 : World} {pf V : Nat} {A : Option Addr} {n c : Nat} (h : w.heap[pf]? = some (.cells #[.int .i64 V, .slice A n c] 30 (0, 0))) (hb : Below w.heap.size w w1) :
    w1.cell? ⟨pf, 0, none⟩ = some (.int .i64 V) ∧ w1.cell? ⟨pf, 1, none⟩ = some (.slice A n c) :=
  ⟨(blk_cell ((hb.block _ (blk_lt h)).trans h) 0).trans rfl, (blk_cell ((hb.block _ (blk_lt h)).trans h) 1).trans rfl⟩
end Go.Proofs.YtcblijcalhaffaaGreatDoor
