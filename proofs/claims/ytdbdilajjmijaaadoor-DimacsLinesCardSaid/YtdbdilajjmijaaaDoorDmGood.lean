import Derived.Test.YtdbdilajjmijaaaDoorDmRel
namespace Go.Proofs.YtdbdilajjmijaaaDoor
open Go

/-! What a reader that has met no error holds. -/
structure Rdr.Good (r : Rdr) : Prop where
  fresh : r.head = false → r.cls = []
  cls : r.cls.length ≤ r.n ∨ r.head = false
  n : r.n ≤ 200000
  opn : r.opn.length ≤ r.lits
  lits : r.lits ≤ 1000000
theorem Rdr.Good.few {r : Rdr} (h : r.Good) : r.cls.length ≤ 200000 := by
  rcases h.cls with h1 | h1
  · have := h.n; omega
  · rw [h.fresh h1]; simp
theorem good0 : rdr0.Good := ⟨fun _ => rfl, .inr rfl, by decide, by decide, by decide⟩
theorem word_good {r : Rdr} {w : List UInt8} (h : r.Good) (hh : r.head = true) (h0 : (wordR r w).1 = 0) : (wordR r w).2.Good ∧ (wordR r w).2.head = true := by
  have hc : r.cls.length ≤ r.n := by
    rcases h.cls with h1 | h1
    · exact h1
    · rw [hh] at h1; cases h1
  unfold wordR at h0 ⊢
  cases hl : litW w with
  | none => rw [hl] at h0; simp at h0
  | some l =>
    rw [hl] at h0
    simp only at h0 ⊢
    split
    · rename_i h1; rw [if_pos h1] at h0; simp at h0
    · rename_i h1
      rw [if_neg h1] at h0
      split
      · rename_i h2; rw [if_pos h2] at h0; simp at h0
      · rename_i h2
        rw [if_neg h2] at h0
        split
        · refine ⟨⟨fun he => ?_, .inl ?_, h.n, by simp, h.lits⟩, hh⟩
          · simp only [hh] at he; cases he
          · simp only [List.length_append, List.length_singleton]; omega
        · rename_i h3
          rw [if_neg h3] at h0
          split
          · rename_i h4; rw [if_pos h4] at h0; simp at h0
          · refine ⟨⟨fun he => ?_, .inl hc, h.n, ?_, by simp only; omega⟩, hh⟩
            · simp only [hh] at he; cases he
            · have := h.opn; simp only [List.length_append, List.length_singleton]; omega
theorem head_good {r : Rdr} {ws : List (List UInt8)} (h : r.Good) (hh : r.head = false) (h0 : (headR r ws).1 = 0) : (headR r ws).2.Good := by
  unfold headR at h0 ⊢
  split
  · rename_i a b x y
    split
    · rename_i h1
      simp only [h1, and_self, if_true] at h0
      split
      · rename_i v n hv hn
        simp only [hv, hn] at h0
        split
        · rename_i h2; rw [if_pos h2] at h0; simp at h0
        · refine ⟨fun he => (by cases he), .inl ?_, by simp only; omega, h.opn, h.lits⟩
          simp only [h.fresh hh]; simp
      · rename_i hn
        exfalso
        revert h0
        split
        · rename_i v n hv hn'
          exact absurd hn' (hn v n hv)
        · simp
    · rename_i h1
      exact h
  · exact h
theorem words_good : ∀ (ws : List (List UInt8)) {r : Rdr}, r.Good → r.head = true → (wordsR r ws).1 = 0 → (wordsR r ws).2.Good
  | [], _, h, _, _ => h
  | w :: ws, r, h, hh, h0 => by
    simp only [wordsR] at h0 ⊢
    split
    · rename_i h1
      rw [if_pos h1] at h0
      obtain ⟨h2, h3⟩ := word_good h hh h1
      exact words_good ws h2 h3 h0
    · rename_i h1
      rw [if_neg h1] at h0
      exact absurd h0 h1
theorem line_good {r : Rdr} {x : List UInt8} (h : r.Good) (h0 : (lineR r x).1 = 0) : (lineR r x).2.Good := by
  rw [lineR_W] at h0 ⊢
  unfold lineW at h0 ⊢
  split
  · exact h
  · rename_i w ws hw
    rw [hw] at h0
    simp only at h0
    split
    · exact h
    · rename_i h1
      rw [if_neg h1] at h0
      cases hh : r.head with
      | true =>
        rw [hh, if_pos rfl] at h0
        rw [if_pos rfl]
        exact words_good _ h hh h0
      | false =>
        rw [hh, if_neg (by simp)] at h0
        rw [if_neg (by simp)]
        exact head_good h hh h0

end Go.Proofs.YtdbdilajjmijaaaDoor
