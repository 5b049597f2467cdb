import Derived.Test.YtcblijcalhaffaaGreatDoorCmProofQF
namespace Go.Proofs.YtcblijcalhaffaaGreatDoor
open Go Go.BigFrame Go.RowKit Go.Proofs.YtcblijcalhaffaaGreatDoorW.PrintWords Go.Proofs.YtcblijcalhaffaaGreatDoorW.PrintLast Go.Proofs.YtcblijcalhaffaaGreatDoorW.PrintMore PCheckSound

/-! What Check says of a proof whose literals are all right. -/
def pp (ps : List PStep) : List (Bool × List Int) := ps.map fun s => (s.del, s.lits)
theorem pp_append (ps qs : List PStep) : pp (ps ++ qs) = pp ps ++ pp qs := List.map_append
theorem chkV_ok {V : Nat} {cs : List (List Int)} {ps : List PStep} (h : ∀ s ∈ ps, rightC V s.lits = true) : chkV V cs (ps.map ofP) = .tuple #[repV (chk cs (pp ps) 0), .int .i64 0] := by
  have e : pairs (ps.map ofP) = pp ps := by unfold pairs pp; rw [List.map_map]; rfl
  unfold chkV
  rw [e, if_pos (List.all_eq_true.2 fun s hs => by obtain ⟨p, hp, rfl⟩ := List.mem_map.1 hs; exact h p hp)]
theorem chk_rng : ∀ (q : List (Bool × List Int)) (cs : List (List Int)) (i : Nat), ((chk cs q i).1 = -1 ∨ (i : Int) ≤ (chk cs q i).1) ∧ ((chk cs q i).2 = -1 ∨ (i : Int) ≤ (chk cs q i).2)
  | [], cs, i => by simp [chk]
  | (true, c) :: q, cs, i => by
    simp only [chk]
    have := chk_rng q (remP cs c) (i + 1)
    omega
  | (false, c) :: q, cs, i => by
    simp only [chk]
    by_cases h1 : May cs c
    · rw [if_pos h1]
      split
      · simp
      · have := chk_rng q (cs ++ [c]) (i + 1)
        omega
    · rw [if_neg h1]; simp
theorem chk_del_end (c : List Int) : ∀ (p : List (Bool × List Int)) (cs : List (List Int)) (i : Nat), chk cs p i = (-1, -1) → chk cs (p ++ [(true, c)]) i = (-1, -1)
  | [], cs, i, _ => by simp [chk]
  | (true, d) :: p, cs, i, h => by
    simp only [List.cons_append, chk] at h ⊢
    exact chk_del_end c p _ _ h
  | (false, d) :: p, cs, i, h => by
    simp only [List.cons_append, chk] at h ⊢
    by_cases h1 : May cs d
    · rw [if_pos h1] at h ⊢
      by_cases hd : d = []
      · rw [if_pos hd] at h
        simp only [Prod.mk.injEq] at h
        omega
      · rw [if_neg hd] at h ⊢
        exact chk_del_end c p _ _ h
    · rw [if_neg h1] at h
      simp only [Prod.mk.injEq] at h
      omega
/-- What CheckFronts asks. -/
theorem chk_fronts (cs : List (List Int)) (p q : List (Bool × List Int)) : ∃ a1 b1 a2 b2 a3 b3 : Int, chk cs p 0 = (a1, b1) ∧ chk cs (p ++ q) 0 = (a2, b2) ∧ chk cs (p ++ [(true, [])]) 0 = (a3, b3) ∧
    ((0 ≤ a1 ∧ a2 = a1 ∧ b2 = b1) ∨ (a1 < 0 ∧ 0 ≤ b1 ∧ a2 = a1 ∧ b2 = b1) ∨ (a1 = -1 ∧ b1 = -1 ∧ a3 = -1 ∧ b3 = -1 ∧ (a2 = -1 ∨ (p.length : Int) ≤ a2) ∧ (b2 = -1 ∨ (p.length : Int) ≤ b2))) := by
  obtain ⟨h1, h2⟩ := chk_front p q cs 0
  have h3 := chk_rng p cs 0
  refine ⟨(chk cs p 0).1, (chk cs p 0).2, (chk cs (p ++ q) 0).1, (chk cs (p ++ q) 0).2, (chk cs (p ++ [(true, [])]) 0).1, (chk cs (p ++ [(true, [])]) 0).2, rfl, rfl, rfl, ?_⟩
  by_cases ha : 0 ≤ (chk cs p 0).1
  · have h4 := h1 (fun e => by rw [e] at ha; simp at ha)
    exact .inl ⟨ha, by rw [h4], by rw [h4]⟩
  · by_cases hb : 0 ≤ (chk cs p 0).2
    · have h4 := h1 (fun e => by rw [e] at hb; simp at hb)
      exact .inr (.inl ⟨by omega, hb, by rw [h4], by rw [h4]⟩)
    · have h4 : chk cs p 0 = (-1, -1) := by
        refine Prod.ext ?_ ?_ <;> dsimp only <;> omega
      have h5 := chk_del_end [] p cs 0 h4
      have h6 := h2 h4 (chk cs (p ++ q) 0).1 (.inl rfl)
      have h7 := h2 h4 (chk cs (p ++ q) 0).2 (.inr rfl)
      refine .inr (.inr ⟨by rw [h4], by rw [h4], by rw [h5], by rw [h5], ?_, ?_⟩) <;> omega
theorem small_spec {l : List S86} (h : smallB l = true) : (∀ s ∈ l, s.f1.length ≤ 10) ∧ l.length ≤ 30 := by
  unfold smallB at h
  simp only [Bool.and_eq_true, List.all_eq_true, decide_eq_true_eq] at h
  exact h
/-- A read proof, to be appended. -/
theorem PC.F {w : World} {A : Option Addr} {ps : List PStep} (h : PC w A ps) : Kd.F k41 w (fun k => k < w.heap.size) A (ps.map ofP).length (ps.map ofP) := Kd.C_F (Kd.heap_iso _ (Kd.heap_pair Kd.heap_bool (Kd.heap_slice _ (Kd.heap_int .i64)))) h.c
theorem PC.rows {w W : World} {A : Option Addr} {ps : List PStep} (h : PC w A ps) (hb : Below w.heap.size w W) : Kd.F k41 W (fun k => k < w.heap.size) A ps.length (ps.map ofP) :=
  Kd.F_mono (Kd.F_below (Kd.C_F (Kd.heap_iso _ (Kd.heap_pair Kd.heap_bool (Kd.heap_slice _ (Kd.heap_int .i64)))) h) hb) (fun _ hk => hk)
/-- A report's box. -/
theorem x_cells {w w1 : World} {g : Nat} {a b c : Value} (h : w.heap[g]? = some (.cells #[a, b, c] 43 (0, 0))) (hb : Below w.heap.size w w1) :
    w1.cell? ⟨g, 0, none⟩ = some a ∧ w1.cell? ⟨g, 1, none⟩ = some b ∧ w1.cell? ⟨g, 2, none⟩ = some c :=
  ⟨(blk_cell ((hb.block _ (blk_lt h)).trans h) 0).trans rfl, (blk_cell ((hb.block _ (blk_lt h)).trans h) 1).trans rfl, (blk_cell ((hb.block _ (blk_lt h)).trans h) 2).trans rfl⟩
end Go.Proofs.YtcblijcalhaffaaGreatDoor
