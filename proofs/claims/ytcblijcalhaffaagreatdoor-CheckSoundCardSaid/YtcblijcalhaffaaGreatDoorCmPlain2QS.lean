import Derived.Test.YtcblijcalhaffaaGreatDoorCmProofQS
namespace Go.Proofs.YtcblijcalhaffaaGreatDoor
open Go Go.BigFrame Go.RowKit Go.Proofs.YtcblijcalhaffaaGreatDoorW.PrintWords Go.Proofs.YtcblijcalhaffaaGreatDoorW.PrintLast Go.Proofs.YtcblijcalhaffaaGreatDoorW.PrintMore PCheckSound

/-! What Check says of a proof whose literals are all right. -/
def pp (ps : List PStep) : List (Bool × List Int) := ps.map fun s => (s.del, s.lits)
theorem small_spec {l : List S86} (h : smallB l = true) : (∀ s ∈ l, s.f1.length ≤ 10) ∧ l.length ≤ 30 := by
  unfold smallB at h
  simp only [Bool.and_eq_true, List.all_eq_true, decide_eq_true_eq] at h
  exact h
/-- A read proof, to be appended. -/
theorem PC.F {w : World} {A : Option Addr} {ps : List PStep} (h : PC w A ps) : Kd.F k41 w (fun k => k < w.heap.size) A (ps.map ofP).length (ps.map ofP) := Kd.C_F (Kd.heap_iso _ (Kd.heap_pair Kd.heap_bool (Kd.heap_slice _ (Kd.heap_int .i64)))) h.c
theorem PC.rows {w W : World} {A : Option Addr} {ps : List PStep} (h : PC w A ps) (hb : Below w.heap.size w W) : Kd.F k41 W (fun k => k < w.heap.size) A ps.length (ps.map ofP) :=
  Kd.F_mono (Kd.F_below (Kd.C_F (Kd.heap_iso _ (Kd.heap_pair Kd.heap_bool (Kd.heap_slice _ (Kd.heap_int .i64)))) h) hb) (fun _ hk => hk)
/-- A report's box. -/
theorem x_cells {w w1 : World} {g : Nat} {a b c : Value} (h : w.heap[g]? = some (.cells #[a, b, c] 43 (0, 0))) (hb : Below w.heap.size w w1) :
    w1.cell? ⟨g, 0, none⟩ = some a ∧ w1.cell? ⟨g, 1, none⟩ = some b ∧ w1.cell? ⟨g, 2, none⟩ = some c :=
  ⟨(blk_cell ((hb.block _ (blk_lt h)).trans h) 0).trans rfl, (blk_cell ((hb.block _ (blk_lt h)).trans h) 1).trans rfl, (blk_cell ((hb.block _ (blk_lt h)).trans h) 2).trans rfl⟩
end Go.Proofs.YtcblijcalhaffaaGreatDoor
