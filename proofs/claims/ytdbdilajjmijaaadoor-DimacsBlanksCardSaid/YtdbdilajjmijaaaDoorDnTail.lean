import Derived.Test.YtdbdilajjmijaaaDoorDnPrint
import Derived.Test.YtdbdilajjmijaaaDoorDnErrIs
import Derived.Test.YtdbdilajjmijaaaDoorDnPlain
import Derived.Test.YtdbdilajjmijaaaDoorDnTold
namespace Go.Proofs.YtdbdilajjmijaaaDoor
open Go Go.RowKit Go.Proofs.YtdbdilajjmijaaaDoorW.PrintWords Go.Proofs.YtdbdilajjmijaaaDoorW.PrintLast Go.Proofs.YtdbdilajjmijaaaDoorW.PrintMore PDimacsBack

/-! errors.As at a fault's pointer. -/
/-- The type that errors.As asks for. -/
def TypOk (w : World) : Prop := w.cell? ⟨0, 0, none⟩ = some (.iface 99 (.agg #[.pointer (some ⟨9, 33, none⟩)]))
theorem TypOk.below {w w' : World} (h : TypOk w) (B : Below w.heap.size w w') : TypOk w' := (B.cell (World.block_lt_of_cell? w _ h)).trans h
/-- What errors.As leaves: the target is set; besides, what nothing holds on to. -/
structure AsSet (w : World) (fb : Nat) (g : Addr) (w' : World) : Prop where
  far : ∀ (a : Addr) (v : Value), a.block ≠ fb → w.cell? a = some v → w'.cell? a = some v
  hit : w'.cell? ⟨fb, 0, none⟩ = some (.pointer (some g))
  below : Below fb w w'

theorem as_made (g : Addr) (fb : Nat) (old : Value) (w : World) (hg : w.cell? ⟨0, 0, none⟩ = some (.iface 99 (.agg #[.pointer (some ⟨9, 33, none⟩)]))) (ht : w.cell? ⟨fb, 0, none⟩ = some old) (hf : w.frozen? ⟨fb, 0, none⟩ = false) :
    Calls Tryd.prog 17 #[.iface 46 (.pointer (some g)), .iface 48 (.pointer (some ⟨fb, 0, none⟩))] w fun e w' => e = .returned (.bool true) ∧ AsSet w fb g w' := by
  refine (as_hit g ⟨fb, 0, none⟩ old w hg ht hf).mono ?_
  rintro e w' ⟨he, rfl⟩
  have hb := World.block_lt_of_cell? w _ ht
  dsimp only at hb
  refine ⟨he, ⟨fun a v ha hc => ?_, ?_, ?_⟩⟩
  · rw [World.cell?_setCell_other _ _ _ _ (fun h => ha (by rw [← h]))]
    exact cell_more (cell_more (cell_more (cell_more hc _) _) _) _
  · exact World.cell?_setCell_same _ _ _ (cell_more (cell_more (cell_more (cell_more ht _) _) _) _)
  · exact (((((Below.refl fb w).alloc (Nat.le_of_lt hb) _).alloc (by simp; omega) _).alloc (by simp; omega) _).alloc (by simp; omega) _).setCell (Nat.le_refl _) _

end Go.Proofs.YtdbdilajjmijaaaDoor
namespace Go.Proofs.YtdbdilajjmijaaaDoor
open Go Go.RowKit Go.Proofs.YtdbdilajjmijaaaDoorW.PrintWords Go.Proofs.YtdbdilajjmijaaaDoorW.PrintLast Go.Proofs.YtdbdilajjmijaaaDoorW.PrintMore PDimacsBack

/-! What a text's formula, or its error, may be; the errors' texts. -/
def Rdr.Rows (r : Rdr) : Prop := ∀ c ∈ r.cls, c.length ≤ 1000000
theorem word_code (r : Rdr) (w : List UInt8) : (wordR r w).1 ≤ 8 := by
  unfold wordR
  repeat' split
  all_goals simp
theorem head_code (r : Rdr) (ws : List (List UInt8)) : (headR r ws).1 ≤ 8 := by
  unfold headR
  repeat' split
  all_goals simp
theorem words_code : ∀ (ws : List (List UInt8)) (r : Rdr), (wordsR r ws).1 ≤ 8
  | [], _ => by simp [wordsR]
  | w :: ws, r => by
    simp only [wordsR]
    split
    · exact words_code ws _
    · exact word_code r w
theorem line_code (r : Rdr) (x : List UInt8) : (lineR r x).1 ≤ 8 := by
  unfold lineR
  repeat' split
  · simp
  · simp
  · exact words_code _ _
  · exact head_code _ _
theorem end_code (r : Rdr) : endR r ≤ 8 := by
  unfold endR
  repeat' split
  all_goals simp
theorem word_rows {r : Rdr} {w : List UInt8} (h : r.Good) (hr : r.Rows) : (wordR r w).2.Rows := by
  unfold wordR
  repeat' split
  all_goals first | exact hr | skip
  intro c hc
  simp only [List.mem_append, List.mem_singleton] at hc
  rcases hc with hc | rfl
  · exact hr c hc
  · have := h.opn; have := h.lits; omega
theorem head_rows {r : Rdr} {ws : List (List UInt8)} (hr : r.Rows) : (headR r ws).2.Rows := by
  unfold headR
  repeat' split
  all_goals exact hr
theorem words_rows : ∀ (ws : List (List UInt8)) {r : Rdr}, r.Good → r.head = true → r.Rows → (wordsR r ws).2.Rows
  | [], _, _, _, hr => hr
  | w :: ws, r, h, hh, hr => by
    simp only [wordsR]
    split
    · rename_i h1
      obtain ⟨h2, h3⟩ := word_good h hh h1
      exact words_rows ws h2 h3 (word_rows h hr)
    · exact word_rows h hr
theorem line_rows {r : Rdr} {x : List UInt8} (h : r.Good) (hr : r.Rows) : (lineR r x).2.Rows := by
  unfold lineR
  split
  · exact hr
  · split
    · exact hr
    · cases hh : r.head with
      | true => exact words_rows _ h hh hr
      | false => exact head_rows hr
theorem lines_inl : ∀ (ls : List (List UInt8)) (i : Nat) (r : Rdr) (e : Nat × Nat), linesR i r ls = .inl e → e.1 ≤ i + ls.length ∧ e.2 ≠ 0 ∧ e.2 ≤ 8
  | [], _, _, _, h => by simp [linesR] at h
  | x :: xs, i, r, e, h => by
    simp only [linesR] at h
    split at h
    · have := lines_inl xs _ _ e h
      simp only [List.length_cons]; omega
    · rename_i h1
      injection h with h
      subst h
      have := line_code r x
      simp only [List.length_cons]
      exact ⟨by omega, h1, this⟩
theorem lines_inr : ∀ (ls : List (List UInt8)) (i : Nat) (r r' : Rdr), linesR i r ls = .inr r' → r.Good → r.Rows → r'.Good ∧ r'.Rows
  | [], _, r, r', h, hg, hr => by
    simp only [linesR] at h
    injection h with h
    subst h
    exact ⟨hg, hr⟩
  | x :: xs, i, r, r', h, hg, hr => by
    simp only [linesR] at h
    split at h
    · rename_i h1
      exact lines_inr xs _ _ r' h (line_good hg h1) (line_rows hg hr)
    · cases h
theorem parse_inl {x : List UInt8} {i k : Nat} (h : parseR x = .inl (i, k)) : i ≤ x.length + 1 ∧ k ≠ 0 ∧ k ≤ 8 := by
  unfold parseR at h
  have hc := (cut_len 10 x).1
  cases hl : linesR 0 rdr0 (cutC 10 x) with
  | inl e =>
    rw [hl] at h
    injection h with h
    subst h
    have := lines_inl _ _ _ _ hl
    simp only at this
    exact ⟨by omega, this.2⟩
  | inr r =>
    rw [hl] at h
    simp only at h
    split at h
    · cases h
    · rename_i h1
      simp only [Sum.inl.injEq, Prod.mk.injEq] at h
      obtain ⟨rfl, rfl⟩ := h
      exact ⟨hc, h1, end_code r⟩
theorem parse_inr {x : List UInt8} {r : Rdr} (h : parseR x = .inr r) : r.cls.length ≤ 140737488355328 ∧ ∀ c ∈ r.cls, c.length ≤ 140737488355328 := by
  unfold parseR at h
  cases hl : linesR 0 rdr0 (cutC 10 x) with
  | inl e => rw [hl] at h; cases h
  | inr r' =>
    rw [hl] at h
    simp only at h
    split at h
    · injection h with h
      subst h
      obtain ⟨h1, h2⟩ := lines_inr _ _ _ _ hl good0 (fun c hc => by cases hc)
      exact ⟨Nat.le_trans h1.few (by decide), fun c hc => Nat.le_trans (h2 c hc) (by decide)⟩
    · cases h

def errT (k : Nat) : List UInt8 := [101, 114, 114, 111, 114, 32] ++ Lib.itoa (k : Int)
def faultT (i k : Nat) : List UInt8 := [108, 105, 110, 101, 32] ++ Lib.itoa (i : Int) ++ [58, 32] ++ errT k
theorem errT_len {k : Nat} (hk : k ≤ 1000000000) : (errT k).length ≤ 18 := by
  have := itoa_len_small (k : Int) (by omega) (by omega)
  unfold errT
  simp only [List.length_append, List.length_cons, List.length_nil]; omega
theorem errno_any (k : Nat) (hk : k ≤ 1000000000) (w : World) (E : Env w) : Calls Tryd.prog 21 #[.int .i64 (k : Int)] w (Said w (.string (bs (errT k)))) := by
  have CI : Calls Tryd.prog 15 #[.int .i64 (k : Int)] w (Said w (.string (bs (Lib.itoa (k : Int))))) := itoa_any _ (by omega) (by omega) w E
  have ex1 := itoa_len_small (k : Int) (by omega) (by omega)
  have hE : bs (errT k) = ⟨#[101, 114, 114, 111, 114, 32]⟩ ++ bs (Lib.itoa (k : Int)) := by
    show _ = bs [101, 114, 114, 111, 114, 32] ++ bs _
    rw [bs_add]; rfl
  rw [hE]
  rw [← bs_size] at ex1
  clear E hE
  generalize bs (Lib.itoa (k : Int)) = X at *
  have o1 : (9223372036854775807 < 6 + X.size) = False := eq_false (by omega)
  go_enter Tryd.func21, Tryd.ntmps21
  go_wp2_with (go_at_call 15; refine CI.mono ?_; rintro e w8 ⟨rfl, hb⟩)
  go_ret
  exact ⟨rfl, hb⟩

theorem unwrap_any (b : Nat) (k : Nat) (w : World) (h1 : w.cell? ⟨b, 1, none⟩ = some (.int .i64 (k : Int))) : Calls Tryd.prog 22 #[.pointer (some ⟨b, 0, none⟩)] w fun e w' => e = .returned (.iface 44 (.int .i64 (k : Int))) ∧ w' = w := by
  go_enter Tryd.func22, Tryd.ntmps22
  go_wp2
  go_ret
  exact ⟨rfl, rfl⟩

set_option maxRecDepth 100000 in
set_option maxHeartbeats 4000000 in
theorem fault_any (b i k : Nat) (hi : i ≤ 1000000000) (hk : k ≤ 1000000000) (w : World) (h0 : w.cell? ⟨b, 0, none⟩ = some (.int .i64 (i : Int))) (h1 : w.cell? ⟨b, 1, none⟩ = some (.int .i64 (k : Int))) (E : Env w) :
    Calls Tryd.prog 20 #[.pointer (some ⟨b, 0, none⟩)] w (Said w (.string (bs (faultT i k)))) := by
  have ex1 := itoa_len_small (i : Int) (by omega) (by omega)
  have ex2 := errT_len hk
  have HD : Aside0 (bs (faultT i k) = ⟨#[108, 105, 110, 101, 32]⟩ ++ bs (Lib.itoa (i : Int)) ++ ⟨#[58, 32]⟩ ++ bs (errT k)) := ⟨by
    show _ = bs [108, 105, 110, 101, 32] ++ bs _ ++ bs [58, 32] ++ bs _
    rw [bs_add, bs_add, bs_add]; rfl⟩
  have HS : Aside0 (w.cell? ⟨b, 0, none⟩ = some (.int .i64 (i : Int)) ∧ w.cell? ⟨b, 1, none⟩ = some (.int .i64 (k : Int)) ∧ Aside0 (Env w) ∧ Aside0 (Below w.heap.size w w)) :=
    ⟨h0, h1, ⟨E⟩, ⟨Below.refl _ _⟩⟩
  have T1 : ∀ W, (W.cell? ⟨b, 0, none⟩ = some (.int .i64 (i : Int)) ∧ W.cell? ⟨b, 1, none⟩ = some (.int .i64 (k : Int)) ∧ Aside0 (Env W) ∧ Aside0 (Below w.heap.size w W)) → Calls Tryd.prog 15 #[.int .i64 (i : Int)] W (Said W (.string (bs (Lib.itoa (i : Int))))) := fun W e => itoa_any _ (by omega) (by omega) W e.2.2.1.out
  have T2 : ∀ W, (W.cell? ⟨b, 0, none⟩ = some (.int .i64 (i : Int)) ∧ W.cell? ⟨b, 1, none⟩ = some (.int .i64 (k : Int)) ∧ Aside0 (Env W) ∧ Aside0 (Below w.heap.size w W)) → Calls Tryd.prog 21 #[.int .i64 (k : Int)] W (Said W (.string (bs (errT k)))) := fun W e => errno_any _ (by omega) W e.2.2.1.out
  rw [← bs_size] at ex1 ex2
  clear E
  generalize bs (Lib.itoa (i : Int)) = X1 at *
  generalize bs (errT k) = X2 at *
  have o1 : (9223372036854775807 < 5 + X1.size) = False := eq_false (by omega)
  have o2 : (9223372036854775807 < 5 + X1.size + 2) = False := eq_false (by omega)
  have o3 : (9223372036854775807 < 5 + X1.size + 2 + X2.size) = False := eq_false (by omega)
  go_enter Tryd.func20, Tryd.ntmps20
  go_upto_region 1 with (fail)
  go_cut [2] (fun s2 wx => s2 = .string (bs (faultT i k)) ∧ Aside0 (wx.cell? ⟨b, 0, none⟩ = some (.int .i64 (i : Int)) ∧ wx.cell? ⟨b, 1, none⟩ = some (.int .i64 (k : Int)) ∧ Aside0 (Env wx) ∧ Aside0 (Below w.heap.size w wx)))
  case first =>
    clear h0 h1
    go_region_held (fun w' => w'.cell? ⟨b, 0, none⟩ = some (.int .i64 (i : Int)) ∧ w'.cell? ⟨b, 1, none⟩ = some (.int .i64 (k : Int)) ∧ Aside0 (Env w') ∧ Aside0 (Below w.heap.size w w'))
      (first | assumption | exact keepF HS.out (pw_below_drewN (Below.refl _ _) 1) | exact keepF (by assumption) hb)
      (first | (go_at_call 15; refine (T1 _ (by assumption)).mono ?_; rintro e w8 ⟨rfl, hb⟩) | (go_at_call 21; refine (T2 _ (by assumption)).mono ?_; rintro e w8 ⟨rfl, hb⟩))
    all_goals
      go_wp2_with fail
      go_meet
      case rel => exact ⟨by rw [HD.out], ⟨by assumption⟩⟩
  case rest =>
    obtain ⟨rfl, HC⟩ := hcut
    go_wp2
    go_ret
    exact ⟨rfl, HC.out.2.2.2.out⟩
end Go.Proofs.YtdbdilajjmijaaaDoor
