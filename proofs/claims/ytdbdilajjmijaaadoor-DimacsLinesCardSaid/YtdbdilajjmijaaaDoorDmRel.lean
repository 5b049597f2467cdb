import Derived.Test.YtdbdilajjmijaaaDoorDmPlain
import Derived.Laws.RangeString
import Derived.Laws.Cover4
import Derived.Laws.RangeAny
namespace Go.Proofs.YtdbdilajjmijaaaDoor
open Go

/-! Words whose bytes are no text: what the program makes of them parts from them, but nothing that is asked of them. -/
def Ascii (w : List UInt8) : Prop := ∀ c ∈ w, c.toNat < 128
/-- The same, or neither is plain; what stands first, if it's a letter c, is one. -/
def Like (x y : List UInt8) : Prop := x = y ∨ (¬ Ascii x ∧ ¬ Ascii y ∧ (x[0]? = some 99 ↔ y[0]? = some 99))

theorem Like.rfl' (x : List UInt8) : Like x x := .inl rfl
theorem not_ascii_ne {x : List UInt8} (h : ¬ Ascii x) : x ≠ [] := by rintro rfl; exact h (fun _ hc => by simp at hc)
theorem not_ascii_app {x y : List UInt8} (h : ¬ Ascii x) : ¬ Ascii (x ++ y) := fun h2 => h fun c hc => h2 c (by simp [hc])
theorem not_ascii_app' {x y : List UInt8} (h : ¬ Ascii y) : ¬ Ascii (x ++ y) := fun h2 => h fun c hc => h2 c (by simp [hc])
theorem Like.snoc {x y : List UInt8} (h : Like x y) (c : UInt8) : Like (x ++ [c]) (y ++ [c]) := by
  rcases h with rfl | ⟨h1, h2, h3⟩
  · exact .inl rfl
  · refine .inr ⟨not_ascii_app h1, not_ascii_app h2, ?_⟩
    have e1 := List.length_pos_iff.2 (not_ascii_ne h1)
    have e2 := List.length_pos_iff.2 (not_ascii_ne h2)
    rw [List.getElem?_append_left e1, List.getElem?_append_left e2]
    exact h3
def High (x : List UInt8) : Prop := x ≠ [] ∧ ∀ c ∈ x, 128 ≤ c.toNat
theorem High.not_ascii {x : List UInt8} (h : High x) : ¬ Ascii x := by
  obtain ⟨h1, h2⟩ := h
  match x, h1 with
  | c :: r, _ => exact fun h => by have := h c (by simp); have := h2 c (by simp); omega
theorem High.first {x : List UInt8} (h : High x) : x[0]? ≠ some 99 := by
  intro h2
  have := h.2 99 (List.mem_of_getElem? h2)
  rw [show (99 : UInt8).toNat = 99 from rfl] at this
  omega
theorem Like.app {x y e f : List UInt8} (h : Like x y) (he : High e) (hf : High f) : Like (x ++ e) (y ++ f) := by
  refine .inr ⟨not_ascii_app' he.not_ascii, not_ascii_app' hf.not_ascii, ?_⟩
  by_cases hx : x = []
  · have hy : y = [] := by
      rcases h with rfl | ⟨h1, _, _⟩
      · exact hx
      · exact absurd hx (not_ascii_ne h1)
    subst hx hy
    simp only [List.nil_append]
    exact ⟨fun h => absurd h he.first, fun h => absurd h hf.first⟩
  · have hy : y ≠ [] := by
      rcases h with rfl | ⟨_, h2, _⟩
      · exact hx
      · exact not_ascii_ne h2
    rw [List.getElem?_append_left (List.length_pos_iff.2 hx), List.getElem?_append_left (List.length_pos_iff.2 hy)]
    rcases h with rfl | ⟨_, _, h3⟩
    · rfl
    · exact h3
theorem Like.nil {x y : List UInt8} (h : Like x y) : x = [] ↔ y = [] := by
  rcases h with rfl | ⟨h1, h2, _⟩
  · rfl
  · exact ⟨fun e => absurd e (not_ascii_ne h1), fun e => absurd e (not_ascii_ne h2)⟩
theorem Like.first {x y : List UInt8} (h : Like x y) : x[0]? = some 99 ↔ y[0]? = some 99 := by
  rcases h with rfl | ⟨_, _, h3⟩
  · rfl
  · exact h3
theorem Like.plain {x y z : List UInt8} (h : Like x y) (hz : Ascii z) : x = z ↔ y = z := by
  rcases h with rfl | ⟨h1, h2, _⟩
  · rfl
  · exact ⟨fun e => absurd (e ▸ hz) h1, fun e => absurd (e ▸ hz) h2⟩
theorem digitsV_not {x : List UInt8} (h : ¬ Ascii x) : ∀ n, digitsV n x = none := by
  induction x with
  | nil => exact absurd (fun _ hc => by simp at hc) h
  | cons c r ih =>
    intro n
    simp only [digitsV]
    split
    · rfl
    · rename_i hc
      refine ih (fun h2 => h ?_) _
      intro d hd
      simp only [List.mem_cons] at hd
      rcases hd with rfl | hd
      · omega
      · exact h2 d hd
theorem numW_not {x : List UInt8} (h : ¬ Ascii x) : numW x = none := by
  unfold numW
  split
  · rfl
  · exact digitsV_not h 0
theorem litW_not {x : List UInt8} (h : ¬ Ascii x) : litW x = none := by
  unfold litW
  split
  · rename_i r
    have hr : ¬ Ascii r := fun h2 => h fun d hd => by
      simp only [List.mem_cons] at hd
      rcases hd with rfl | hd
      · decide
      · exact h2 d hd
    rw [numW_not hr]; rfl
  · rw [numW_not h]; rfl
theorem Like.num {x y : List UInt8} (h : Like x y) : numW x = numW y := by
  rcases h with rfl | ⟨h1, h2, _⟩
  · rfl
  · rw [numW_not h1, numW_not h2]
theorem Like.lit {x y : List UInt8} (h : Like x y) : litW x = litW y := by
  rcases h with rfl | ⟨h1, h2, _⟩
  · rfl
  · rw [litW_not h1, litW_not h2]
/-- A list of words that are like others. -/
def Likes : List (List UInt8) → List (List UInt8) → Prop
  | [], [] => True
  | x :: xs, y :: ys => Like x y ∧ Likes xs ys
  | _, _ => False
theorem Likes.snoc : ∀ {xs ys : List (List UInt8)} {x y : List UInt8}, Likes xs ys → Like x y → Likes (xs ++ [x]) (ys ++ [y])
  | [], [], _, _, _, h => ⟨h, trivial⟩
  | _ :: _, _ :: _, _, _, ⟨h1, h2⟩, h => ⟨h1, h2.snoc h⟩
theorem Likes.length : ∀ {xs ys : List (List UInt8)}, Likes xs ys → xs.length = ys.length
  | [], [], _ => rfl
  | _ :: _, _ :: _, ⟨_, h2⟩ => by simp [h2.length]

/-- A line's words are read. -/
def lineW (r : Rdr) (ws : List (List UInt8)) : Nat × Rdr := match ws with
  | [] => (0, r)
  | w :: ws => if w[0]? = some 99 then (0, r) else if r.head then wordsR r (w :: ws) else headR r (w :: ws)
theorem lineR_W (r : Rdr) (line : List UInt8) : lineR r line = lineW r (wordsB line) := by
  unfold lineR lineW
  cases wordsB line <;> rfl
theorem wordR_like (r : Rdr) {x y : List UInt8} (h : Like x y) : wordR r x = wordR r y := by unfold wordR; rw [h.lit]
theorem wordsR_likes : ∀ {xs ys : List (List UInt8)} (r : Rdr), Likes xs ys → wordsR r xs = wordsR r ys
  | [], [], _, _ => rfl
  | x :: xs, y :: ys, r, ⟨h1, h2⟩ => by
    simp only [wordsR]
    rw [wordR_like r h1]
    split
    · exact wordsR_likes _ h2
    · rfl
theorem headR_likes (r : Rdr) : ∀ {xs ys : List (List UInt8)}, Likes xs ys → headR r xs = headR r ys
  | [a, b, c, d], [a', b', c', d'], ⟨h1, h2, h3, h4, _⟩ => by
    simp only [headR]
    have e1 := h1.plain (z := [112]) (by intro c hc; simp at hc; subst hc; decide)
    have e2 := h2.plain (z := [99, 110, 102]) (by intro c hc; simp at hc; rcases hc with rfl | rfl | rfl <;> decide)
    simp only [e1, e2, h3.num, h4.num]
  | [], [], _ => rfl
  | [_], [_], _ => rfl
  | [_, _], [_, _], _ => rfl
  | [_, _, _], [_, _, _], _ => rfl
  | _ :: _ :: _ :: _ :: _ :: _, _ :: _ :: _ :: _ :: _ :: _, _ => rfl
  | [], _ :: _, h => h.elim
  | [_], _ :: _ :: _, h => h.2.elim
  | [_, _], _ :: _ :: _ :: _, h => h.2.2.elim
  | [_, _, _], _ :: _ :: _ :: _ :: _, h => h.2.2.2.elim
  | [_, _, _, _], _ :: _ :: _ :: _ :: _ :: _, h => h.2.2.2.2.elim
  | _ :: _, [], h => h.elim
  | _ :: _ :: _, [_], h => h.2.elim
  | _ :: _ :: _ :: _, [_, _], h => h.2.2.elim
  | _ :: _ :: _ :: _ :: _, [_, _, _], h => h.2.2.2.elim
  | _ :: _ :: _ :: _ :: _ :: _, [_, _, _, _], h => h.2.2.2.2.elim
theorem lineW_likes (r : Rdr) : ∀ {xs ys : List (List UInt8)}, Likes xs ys → lineW r xs = lineW r ys
  | [], [], _ => rfl
  | x :: xs, y :: ys, h => by
    simp only [lineW]
    rw [wordsR_likes r h, headR_likes r h]
    simp only [h.1.first]

/-! A rune is a plain byte, or bytes that aren't. -/
theorem get_data (s : ByteArray) (i : Nat) (h : i < s.size) : s.get! i = s.data.toList[i]'(by simpa using h) := by
  show s.get! i = _
  simp [ByteArray.get!, getElem!_pos, h]
theorem high_slice (s : ByteArray) (pos k : Nat) (hk : 0 < k) (hs : pos + k ≤ s.size) (h : ∀ j, j < k → 128 ≤ (s.get! (pos + j)).toNat) : High ((s.data.toList.drop pos).take k) := by
  have hl : s.data.toList.length = s.size := by simp
  refine ⟨fun e => by have := congrArg List.length e; rw [List.length_take, List.length_drop, hl] at this; simp at this; omega, ?_⟩
  intro c hc
  obtain ⟨j, hj, rfl⟩ := List.mem_iff_getElem.1 hc
  have hj2 : j < k := by rw [List.length_take] at hj; omega
  rw [List.getElem_take, List.getElem_drop]
  have := h j hj2
  rw [get_data s (pos + j) (by omega)] at this
  exact this
theorem decode_high (s : ByteArray) (pos : Nat) (h : pos < s.size) (hb : 128 ≤ (s.get! pos).toNat) :
    128 ≤ (Utf8.decode s pos).1 ∧ 0 < (Utf8.decode s pos).2 ∧ pos + (Utf8.decode s pos).2 ≤ s.size ∧ High ((s.data.toList.drop pos).take (Utf8.decode s pos).2) := by
  have one : High ((s.data.toList.drop pos).take 1) := high_slice s pos 1 (by omega) (by omega) (fun j hj => by have e : j = 0 := (by omega); subst e; exact hb)
  have e0 : s.get! (pos + 0) = s.get! pos := rfl
  unfold Utf8.decode
  simp only [e0]
  rw [if_neg (by omega)]
  split
  · rename_i h1
    simp only [Bool.and_eq_true, decide_eq_true_eq, beq_iff_eq] at h1
    split
    · refine ⟨by simpa using ‹_›, Nat.zero_lt_succ _, h1.2.1, high_slice s pos 2 (by omega) h1.2.1 fun j hj => ?_⟩
      match j, hj with
      | 0, _ => exact hb
      | 1, _ => omega
    · exact ⟨by decide, by decide, h, one⟩
  · split
    · rename_i h1
      simp only [Bool.and_eq_true, decide_eq_true_eq, beq_iff_eq] at h1
      split
      · rename_i h2
        simp only [Bool.and_eq_true, decide_eq_true_eq] at h2
        refine ⟨by simp only; omega, Nat.zero_lt_succ _, by simp only; omega, high_slice s pos 3 (by omega) (by omega) fun j hj => ?_⟩
        match j, hj with
        | 0, _ => exact hb
        | 1, _ => omega
        | 2, _ => omega
      · exact ⟨by decide, by decide, h, one⟩
    · split
      · rename_i h1
        simp only [Bool.and_eq_true, decide_eq_true_eq, beq_iff_eq] at h1
        split
        · rename_i h2
          simp only [Bool.and_eq_true, decide_eq_true_eq] at h2
          refine ⟨by simp only; omega, Nat.zero_lt_succ _, by simp only; omega, high_slice s pos 4 (by omega) (by omega) fun j hj => ?_⟩
          match j, hj with
          | 0, _ => exact hb
          | 1, _ => omega
          | 2, _ => omega
          | 3, _ => omega
        · exact ⟨by decide, by decide, h, one⟩
      · exact ⟨by decide, by decide, h, one⟩
theorem encode_high (r : Int) (h : 128 ≤ r) : High (Utf8.encode r).data.toList := by
  have key : ∀ n : Nat, n < 128 → 128 ≤ (UInt8.ofNat (128 + n)).toNat := by intro n hn; rw [UInt8.toNat_ofNat']; omega
  unfold Utf8.encode
  generalize hc : (if Utf8.valid r = true then r.toNat else Utf8.runeError) = c
  have hc2 : 128 ≤ c ∧ c < 1114112 := by
    rw [← hc]
    split
    · rename_i hv
      simp only [Utf8.valid, Bool.or_eq_true, Bool.and_eq_true, decide_eq_true_eq] at hv
      omega
    · exact ⟨by decide, by decide⟩
  simp only
  rw [if_neg (by omega)]
  split
  · refine ⟨by simp, fun d hd => ?_⟩
    simp only [List.mem_cons, List.not_mem_nil, or_false] at hd
    rcases hd with rfl | rfl
    · rw [show 0xC0 + c / 64 = 128 + (64 + c / 64) by omega]; exact key _ (by omega)
    · exact key _ (by omega)
  · split
    · refine ⟨by simp, fun d hd => ?_⟩
      simp only [List.mem_cons, List.not_mem_nil, or_false] at hd
      rcases hd with rfl | rfl | rfl
      · rw [show 0xE0 + c / 4096 = 128 + (96 + c / 4096) by omega]; exact key _ (by omega)
      · exact key _ (by omega)
      · exact key _ (by omega)
    · refine ⟨by simp, fun d hd => ?_⟩
      simp only [List.mem_cons, List.not_mem_nil, or_false] at hd
      rcases hd with rfl | rfl | rfl | rfl
      · rw [show 0xF0 + c / 262144 = 128 + (112 + c / 262144) by omega]; exact key _ (by omega)
      · exact key _ (by omega)
      · exact key _ (by omega)
      · exact key _ (by omega)
theorem encode_plain (c : UInt8) (h : c.toNat < 128) : (Utf8.encode (c.toNat : Int)).data.toList = [c] := by
  unfold Utf8.encode
  have hv : Utf8.valid (c.toNat : Int) = true := by
    simp only [Utf8.valid, Bool.or_eq_true, Bool.and_eq_true, decide_eq_true_eq]
    left; omega
  simp only [hv, if_true, Int.toNat_natCast]
  rw [if_pos (by omega)]
  simp
/-- The bytes of runes. -/
def runesL (rs : List Int) : List UInt8 := (runesBytes rs).data.toList
theorem runesL_nil : runesL [] = [] := rfl
theorem runesL_snoc (rs : List Int) (r : Int) : runesL (rs ++ [r]) = runesL rs ++ (Utf8.encode r).data.toList := by
  unfold runesL runesBytes
  rw [List.foldl_append]
  simp
/-- High bytes are taken to the word at hand. -/
theorem wfold_high (x : List UInt8) (h : High x) (out : List (List UInt8)) (a : List UInt8) : x.foldl wstep (out, a) = (out, a ++ x) :=
  wfold_word x (fun c hc => by
    have := h.2 c hc
    constructor
    · rintro rfl; rw [show (32 : UInt8).toNat = 32 from rfl] at this; omega
    · rintro rfl; rw [show (9 : UInt8).toNat = 9 from rfl] at this; omega) out a
end Go.Proofs.YtdbdilajjmijaaaDoor
