import Derived.Test.YtdbdilajjmijaaaGreatDoorDnPrint
import Derived.Test.YtdbdilajjmijaaaGreatDoorDnErrIs
import Derived.Test.YtdbdilajjmijaaaGreatDoorDnPlain
import Derived.Test.YtdbdilajjmijaaaGreatDoorDnParse
namespace Go.Proofs.YtdbdilajjmijaaaGreatDoor
open Go Go.RowKit Go.Proofs.YtdbdilajjmijaaaGreatDoorW.PrintWords Go.Proofs.YtdbdilajjmijaaaGreatDoorW.PrintLast Go.Proofs.YtdbdilajjmijaaaGreatDoorW.PrintMore PDimacsCuts

/-! errors.As at a fault's pointer. -/
/-- The type that errors.As asks for. -/
def TypOk (w : World) : Prop := w.cell? ⟨0, 0, none⟩ = some (.iface 89 (.agg #[.pointer (some ⟨9, 33, none⟩)]))
theorem TypOk.below {w w' : World} (h : TypOk w) (B : Below w.heap.size w w') : TypOk w' := (B.cell (World.block_lt_of_cell? w _ h)).trans h
/-- What errors.As leaves: the target is set; besides, what nothing holds on to. -/
structure AsSet (w : World) (fb : Nat) (g : Addr) (w' : World) : Prop where
  far : ∀ (a : Addr) (v : Value), a.block ≠ fb → w.cell? a = some v → w'.cell? a = some v
  hit : w'.cell? ⟨fb, 0, none⟩ = some (.pointer (some g))
  below : Below fb w w'

theorem as_made (g : Addr) (fb : Nat) (old : Value) (w : World) (hg : w.cell? ⟨0, 0, none⟩ = some (.iface 89 (.agg #[.pointer (some ⟨9, 33, none⟩)]))) (ht : w.cell? ⟨fb, 0, none⟩ = some old) (hf : w.frozen? ⟨fb, 0, none⟩ = false) :
    Calls Tryz.prog 10 #[.iface 39 (.pointer (some g)), .iface 41 (.pointer (some ⟨fb, 0, none⟩))] w fun e w' => e = .returned (.bool true) ∧ AsSet w fb g w' := by
  refine (as_hit g ⟨fb, 0, none⟩ old w hg ht hf).mono ?_
  rintro e w' ⟨he, rfl⟩
  have hb := World.block_lt_of_cell? w _ ht
  dsimp only at hb
  refine ⟨he, ⟨fun a v ha hc => ?_, ?_, ?_⟩⟩
  · rw [World.cell?_setCell_other _ _ _ _ (fun h => ha (by rw [← h]))]
    exact cell_more (cell_more (cell_more (cell_more hc _) _) _) _
  · exact World.cell?_setCell_same _ _ _ (cell_more (cell_more (cell_more (cell_more ht _) _) _) _)
  · exact (((((Below.refl fb w).alloc (Nat.le_of_lt hb) _).alloc (by simp; omega) _).alloc (by simp; omega) _).alloc (by simp; omega) _).setCell (Nat.le_refl _) _

end Go.Proofs.YtdbdilajjmijaaaGreatDoor
namespace Go.Proofs.YtdbdilajjmijaaaGreatDoor
open Go

/-! What a text's formula, or its error, may be: no program in sight. -/
def Rdr.Rows (r : Rdr) : Prop := ∀ c ∈ r.cls, c.length ≤ 1000000
theorem word_code (r : Rdr) (w : List UInt8) : (wordR r w).1 ≤ 8 := by
  unfold wordR
  repeat' split
  all_goals simp
theorem head_code (r : Rdr) (ws : List (List UInt8)) : (headR r ws).1 ≤ 8 := by
  unfold headR
  repeat' split
  all_goals simp
theorem words_code : ∀ (ws : List (List UInt8)) (r : Rdr), (wordsR r ws).1 ≤ 8
  | [], _ => by simp [wordsR]
  | w :: ws, r => by
    simp only [wordsR]
    split
    · exact words_code ws _
    · exact word_code r w
theorem line_code (r : Rdr) (x : List UInt8) : (lineR r x).1 ≤ 8 := by
  unfold lineR
  repeat' split
  · simp
  · simp
  · exact words_code _ _
  · exact head_code _ _
theorem end_code (r : Rdr) : endR r ≤ 8 := by
  unfold endR
  repeat' split
  all_goals simp
theorem word_rows {r : Rdr} {w : List UInt8} (h : r.Good) (hr : r.Rows) : (wordR r w).2.Rows := by
  unfold wordR
  repeat' split
  all_goals first | exact hr | skip
  intro c hc
  simp only [List.mem_append, List.mem_singleton] at hc
  rcases hc with hc | rfl
  · exact hr c hc
  · have := h.opn; have := h.lits; omega
theorem head_rows {r : Rdr} {ws : List (List UInt8)} (hr : r.Rows) : (headR r ws).2.Rows := by
  unfold headR
  repeat' split
  all_goals exact hr
theorem words_rows : ∀ (ws : List (List UInt8)) {r : Rdr}, r.Good → r.head = true → r.Rows → (wordsR r ws).2.Rows
  | [], _, _, _, hr => hr
  | w :: ws, r, h, hh, hr => by
    simp only [wordsR]
    split
    · rename_i h1
      obtain ⟨h2, h3⟩ := word_good h hh h1
      exact words_rows ws h2 h3 (word_rows h hr)
    · exact word_rows h hr
theorem line_rows {r : Rdr} {x : List UInt8} (h : r.Good) (hr : r.Rows) : (lineR r x).2.Rows := by
  unfold lineR
  split
  · exact hr
  · split
    · exact hr
    · cases hh : r.head with
      | true => exact words_rows _ h hh hr
      | false => exact head_rows hr
theorem lines_inl : ∀ (ls : List (List UInt8)) (i : Nat) (r : Rdr) (e : Nat × Nat), linesR i r ls = .inl e → e.1 ≤ i + ls.length ∧ e.2 ≠ 0 ∧ e.2 ≤ 8
  | [], _, _, _, h => by simp [linesR] at h
  | x :: xs, i, r, e, h => by
    simp only [linesR] at h
    split at h
    · have := lines_inl xs _ _ e h
      simp only [List.length_cons]; omega
    · rename_i h1
      injection h with h
      subst h
      have := line_code r x
      simp only [List.length_cons]
      exact ⟨by omega, h1, this⟩
theorem lines_inr : ∀ (ls : List (List UInt8)) (i : Nat) (r r' : Rdr), linesR i r ls = .inr r' → r.Good → r.Rows → r'.Good ∧ r'.Rows
  | [], _, r, r', h, hg, hr => by
    simp only [linesR] at h
    injection h with h
    subst h
    exact ⟨hg, hr⟩
  | x :: xs, i, r, r', h, hg, hr => by
    simp only [linesR] at h
    split at h
    · rename_i h1
      exact lines_inr xs _ _ r' h (line_good hg h1) (line_rows hg hr)
    · cases h
theorem parse_inl {x : List UInt8} {i k : Nat} (h : parseR x = .inl (i, k)) : i ≤ x.length + 1 ∧ k ≠ 0 ∧ k ≤ 8 := by
  unfold parseR at h
  have hc := (cut_len 10 x).1
  cases hl : linesR 0 rdr0 (cutC 10 x) with
  | inl e =>
    rw [hl] at h
    injection h with h
    subst h
    have := lines_inl _ _ _ _ hl
    simp only at this
    exact ⟨by omega, this.2⟩
  | inr r =>
    rw [hl] at h
    simp only at h
    split at h
    · cases h
    · rename_i h1
      simp only [Sum.inl.injEq, Prod.mk.injEq] at h
      obtain ⟨rfl, rfl⟩ := h
      exact ⟨hc, h1, end_code r⟩
theorem parse_inr {x : List UInt8} {r : Rdr} (h : parseR x = .inr r) : r.cls.length ≤ 140737488355328 ∧ ∀ c ∈ r.cls, c.length ≤ 140737488355328 := by
  unfold parseR at h
  cases hl : linesR 0 rdr0 (cutC 10 x) with
  | inl e => rw [hl] at h; cases h
  | inr r' =>
    rw [hl] at h
    simp only at h
    split at h
    · injection h with h
      subst h
      obtain ⟨h1, h2⟩ := lines_inr _ _ _ _ hl good0 (fun c hc => by cases hc)
      exact ⟨Nat.le_trans h1.few (by decide), fun c hc => Nat.le_trans (h2 c hc) (by decide)⟩
    · cases h
end Go.Proofs.YtdbdilajjmijaaaGreatDoor
