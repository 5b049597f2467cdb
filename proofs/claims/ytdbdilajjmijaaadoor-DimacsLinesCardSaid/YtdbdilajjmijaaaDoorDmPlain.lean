import Derived.Test.YtdbdilajjmijaaaDoorDrNum
namespace Go.Proofs.YtdbdilajjmijaaaDoor
open Go

/-! Formulas' texts and what reads them: no program in sight. -/
theorem dec_len : ∀ (k u : Nat), u < 10 ^ (k + 1) → (Lib.decDigits u).length ≤ k + 1
  | 0, u, h => by rw [Lib.decDigits, dif_pos (by simpa using h)]; simp
  | k + 1, u, h => by
    rw [Lib.decDigits]
    split
    · simp
    · have := dec_len k (u / 10) (by rw [Nat.pow_succ] at h; omega)
      simp; omega

/-- A number's digits, one by one. -/
def digitsV : Nat → List UInt8 → Option Nat
  | n, [] => some n
  | n, c :: r => if c.toNat < 48 ∨ 57 < c.toNat then none else digitsV (10 * n + (c.toNat - 48)) r
def numW (w : List UInt8) : Option Nat := if w = [] ∨ 9 < w.length ∨ (1 < w.length ∧ w[0]? = some 48) then none else digitsV 0 w
theorem digitsV_append (xs ys : List UInt8) : ∀ n, digitsV n (xs ++ ys) = (digitsV n xs).bind fun m => digitsV m ys := by
  induction xs with
  | nil => intro n; rfl
  | cons c r ih =>
    intro n
    simp only [List.cons_append, digitsV]
    split
    · rfl
    · exact ih _
theorem digitsV_dec (u : Nat) : digitsV 0 (Lib.decDigits u) = some u := by
  induction u using Nat.strongRecOn with
  | _ u ih =>
    rw [Lib.decDigits]
    split
    · rename_i h
      have := digit_ok u h
      simp only [digitsV]
      rw [if_neg (by omega)]
      simp only [Option.some.injEq]
      omega
    · rename_i h
      rw [digitsV_append, ih (u / 10) (by omega), Option.bind_some]
      have := digit_ok (u % 10) (by omega)
      simp only [digitsV]
      rw [if_neg (by omega)]
      simp only [Option.some.injEq]
      omega
/-- A numeral of more than one digit doesn't begin with a nought. -/
theorem dec_head (u : Nat) : 1 < (Lib.decDigits u).length → (Lib.decDigits u)[0]? ≠ some 48 := by
  induction u using Nat.strongRecOn with
  | _ u ih =>
    intro hl
    rw [Lib.decDigits] at hl ⊢
    split at hl
    · simp at hl
    · rename_i h
      rw [dif_neg h]
      have hne : 0 < (Lib.decDigits (u / 10)).length := List.length_pos_iff.2 (decDigits_ne _)
      rw [List.getElem?_append_left hne]
      by_cases h2 : u / 10 < 10
      · rw [Lib.decDigits, dif_pos h2]
        simp only [List.getElem?_cons_zero, ne_eq, Option.some.injEq]
        intro he
        have := congrArg UInt8.toNat he
        have h3 := digit_ok (u / 10) h2
        rw [show (48 : UInt8).toNat = 48 from rfl] at this
        omega
      · refine ih (u / 10) (by omega) ?_
        rw [Lib.decDigits, dif_neg h2]
        have := List.length_pos_iff.2 (decDigits_ne (u / 10 / 10))
        simp; omega
theorem numW_dec (u : Nat) (h : u < 1000000000) : numW (Lib.decDigits u) = some u := by
  have h1 := dec_len 8 u (by omega)
  have h2 := decDigits_ne u
  have h3 := dec_head u
  unfold numW
  rw [if_neg (by
    rintro (h | h | ⟨h4, h5⟩)
    · exact h2 h
    · omega
    · exact h3 h4 h5), digitsV_dec]

/-- A literal's word. -/
def litW (w : List UInt8) : Option Int := match w with
  | 45 :: r => (numW r).bind fun n => if n = 0 then none else some (-(n : Int))
  | w => (numW w).map fun n => (n : Int)
theorem litW_plain {w : List UInt8} (h : w[0]? ≠ some 45) : litW w = (numW w).map fun n => (n : Int) := by
  unfold litW
  split
  · simp at h
  · rfl
theorem dec_no_minus (u : Nat) : (Lib.decDigits u)[0]? ≠ some 45 := by
  intro h
  have := decDigits_all u 45 (List.mem_of_getElem? h)
  unfold Digit at this
  rw [show (45 : UInt8).toNat = 45 from rfl] at this
  omega
theorem litW_itoa (l : Int) (h0 : -1000000000 < l) (h1 : l < 1000000000) : litW (Lib.itoa l) = some l := by
  unfold Lib.itoa
  split
  · rename_i hn
    simp only [litW]
    rw [numW_dec _ (by omega), Option.bind_some, if_neg (by omega)]
    simp only [Option.some.injEq]; omega
  · rw [litW_plain (dec_no_minus _), numW_dec _ (by omega)]
    refine congrArg some ?_
    show ((_ : Nat) : Int) = l
    omega

/-- A line's words: what was told, and the word at hand. -/
def wstep (s : List (List UInt8) × List UInt8) (c : UInt8) : List (List UInt8) × List UInt8 :=
  if c ≠ 32 ∧ c ≠ 9 then (s.1, s.2 ++ [c]) else if s.2 ≠ [] then (s.1 ++ [s.2], []) else s
def wordsB (line : List UInt8) : List (List UInt8) := ((line ++ [32]).foldl wstep ([], [])).1
def Wordy (w : List UInt8) : Prop := w ≠ [] ∧ ∀ c ∈ w, c ≠ 32 ∧ c ≠ 9
theorem wfold_word (w : List UInt8) (h : ∀ c ∈ w, c ≠ 32 ∧ c ≠ 9) : ∀ out a, w.foldl wstep (out, a) = (out, a ++ w) := by
  induction w with
  | nil => intro out a; simp
  | cons c r ih =>
    intro out a
    rw [List.foldl_cons]
    have : wstep (out, a) c = (out, a ++ [c]) := by unfold wstep; rw [if_pos (h c (by simp))]
    rw [this, ih (fun x hx => h x (by simp [hx])), List.append_assoc]; rfl
theorem wfold_blank (out : List (List UInt8)) (w : List UInt8) (c : UInt8) (hc : c = 32 ∨ c = 9) (h : w ≠ []) : wstep (out, w) c = (out ++ [w], []) := by
  unfold wstep
  rw [if_neg (by rcases hc with rfl | rfl <;> simp), if_pos h]
theorem wfold_none (out : List (List UInt8)) (c : UInt8) (hc : c = 32 ∨ c = 9) : wstep (out, []) c = (out, []) := by
  unfold wstep
  rw [if_neg (by rcases hc with rfl | rfl <;> simp), if_neg (by simp)]
/-- Words with a blank behind each. -/
theorem wfold_words : ∀ (ws : List (List UInt8)), (∀ w ∈ ws, Wordy w) → ∀ out, (ws.flatMap fun w => w ++ [32]).foldl wstep (out, []) = (out ++ ws, [])
  | [], _, out => by simp
  | w :: ws, h, out => by
    have hw := h w (by simp)
    rw [List.flatMap_cons, List.foldl_append, List.foldl_append, wfold_word w hw.2, List.nil_append, List.foldl_cons, List.foldl_nil, wfold_blank out w 32 (.inl rfl) hw.1, wfold_words ws (fun x hx => h x (by simp [hx]))]
    simp
theorem wordsB_of (ws : List (List UInt8)) (h : ∀ w ∈ ws, Wordy w) (x : List UInt8) (hx : Wordy x) : wordsB ((ws.flatMap fun w => w ++ [32]) ++ x) = ws ++ [x] := by
  unfold wordsB
  rw [List.foldl_append, List.foldl_append, wfold_words ws h, wfold_word x hx.2, List.foldl_cons, List.foldl_nil]
  simp only [List.nil_append]
  rw [wfold_blank _ x 32 (.inl rfl) hx.1]
theorem wordsB_nil : wordsB [] = [] := rfl

/-- What a reader knows. -/
structure Rdr where
  vars : Nat
  cls : List (List Int)
  n : Nat
  lits : Nat
  opn : List Int
  head : Bool
def rdr0 : Rdr := ⟨0, [], 0, 0, [], false⟩
/-- One word behind the header: an error's number, and the reader. -/
def wordR (r : Rdr) (w : List UInt8) : Nat × Rdr := match litW w with
  | none => (3, r)
  | some l => if r.cls.length = r.n then (5, r) else if (r.vars : Int) < max l (-l) then (4, r) else
    if l = 0 then (0, { r with cls := r.cls ++ [r.opn], opn := [] }) else
    if 1000000 < r.lits + 1 then (8, { r with lits := r.lits + 1 }) else (0, { r with lits := r.lits + 1, opn := r.opn ++ [l] })
def wordsR : Rdr → List (List UInt8) → Nat × Rdr
  | r, [] => (0, r)
  | r, w :: ws => if (wordR r w).1 = 0 then wordsR (wordR r w).2 ws else wordR r w
def headR (r : Rdr) (ws : List (List UInt8)) : Nat × Rdr := match ws with
  | [a, b, x, y] => if a = [112] ∧ b = [99, 110, 102] then
      match numW x, numW y with
      | some v, some n => if 100000 < v ∨ 200000 < n then (8, r) else (0, { r with vars := v, n := n, head := true })
      | _, _ => (2, r)
    else (2, r)
  | _ => (2, r)
def lineR (r : Rdr) (line : List UInt8) : Nat × Rdr := match wordsB line with
  | [] => (0, r)
  | w :: ws => if w[0]? = some 99 then (0, r) else if r.head then wordsR r (w :: ws) else headR r (w :: ws)
def linesR : Nat → Rdr → List (List UInt8) → (Nat × Nat) ⊕ Rdr
  | _, r, [] => .inr r
  | i, r, x :: xs => if (lineR r x).1 = 0 then linesR (i + 1) (lineR r x).2 xs else .inl (i + 1, (lineR r x).1)
def endR (r : Rdr) : Nat := if r.head = false then 2 else if r.opn ≠ [] then 7 else if r.cls.length < r.n then 6 else 0
/-- The formula of a text, or a line and an error. -/
def parseR (s : List UInt8) : (Nat × Nat) ⊕ Rdr := match linesR 0 rdr0 (cutC 10 s) with
  | .inl e => .inl e
  | .inr r => if endR r = 0 then .inr r else .inl ((cutC 10 s).length, endR r)

/-! A formula's text, and back. -/
def clauseT (c : List Int) : List UInt8 := (c.flatMap fun l => Lib.itoa l ++ [32]) ++ [48]
def headT (v n : Nat) : List UInt8 := [112, 32, 99, 110, 102, 32] ++ Lib.itoa v ++ [32] ++ Lib.itoa n
def formT (v : Nat) (cs : List (List Int)) : List UInt8 := headT v cs.length ++ [10] ++ cs.flatMap fun c => clauseT c ++ [10]
theorem itoa_wordy (l : Int) : Wordy (Lib.itoa l) := ⟨itoa_ne l, fun c hc => by
  have h := itoa_bytes l c hc
  unfold Digit at h
  constructor
  · rintro rfl; rw [show (32 : UInt8).toNat = 32 from rfl] at h; omega
  · rintro rfl; rw [show (9 : UInt8).toNat = 9 from rfl] at h; omega⟩
theorem itoa_nl (l : Int) : (10 : UInt8) ∉ Lib.itoa l := fun hc => by
  have h := itoa_bytes l 10 hc
  unfold Digit at h
  rw [show (10 : UInt8).toNat = 10 from rfl] at h
  omega
theorem words_clause (c : List Int) : wordsB (clauseT c) = c.map Lib.itoa ++ [[48]] := by
  have := wordsB_of (c.map Lib.itoa) (fun w hw => by obtain ⟨l, _, rfl⟩ := List.mem_map.1 hw; exact itoa_wordy l) [48] ⟨by simp, fun c hc => by simp at hc; subst hc; decide⟩
  rw [List.flatMap_map] at this
  exact this
theorem words_head (v n : Nat) : wordsB (headT v n) = [[112], [99, 110, 102], Lib.itoa v, Lib.itoa n] := by
  have := wordsB_of [[112], [99, 110, 102], Lib.itoa v] (fun w hw => by
    simp only [List.mem_cons, List.not_mem_nil, or_false] at hw
    rcases hw with rfl | rfl | rfl
    · exact ⟨by simp, fun c hc => by simp at hc; subst hc; decide⟩
    · exact ⟨by simp, fun c hc => by simp at hc; rcases hc with rfl | rfl | rfl <;> decide⟩
    · exact itoa_wordy _) (Lib.itoa n) (itoa_wordy _)
  rw [show ([[112], [99, 110, 102], Lib.itoa (v : Int)].flatMap fun w => w ++ [32]) ++ Lib.itoa (n : Int) = headT v n by simp [headT]] at this
  rw [this]; rfl
theorem clauseT_nl (c : List Int) : (10 : UInt8) ∉ clauseT c := by
  unfold clauseT
  simp only [List.mem_append, List.mem_flatMap, List.mem_singleton]
  rintro (⟨l, _, h | h⟩ | h)
  · exact itoa_nl l h
  · exact absurd h (by decide)
  · exact absurd h (by decide)
theorem headT_nl (v n : Nat) : (10 : UInt8) ∉ headT v n := by
  unfold headT
  simp only [List.mem_append, List.mem_cons, List.not_mem_nil, or_false]
  rintro (((h | h) | h) | h)
  · rcases h with h | h | h | h | h | h <;> exact absurd h (by decide)
  · exact itoa_nl _ h
  · exact absurd h (by decide)
  · exact itoa_nl _ h
theorem cut_form (v : Nat) (cs : List (List Int)) : cutC 10 (formT v cs) = headT v cs.length :: (cs.map clauseT ++ [[]]) := by
  have key : ∀ cs : List (List Int), cutC 10 (cs.flatMap fun c => clauseT c ++ [10]) = cs.map clauseT ++ [[]] := by
    intro cs
    induction cs with
    | nil => rfl
    | cons c cs ih => rw [List.flatMap_cons, List.append_assoc, List.singleton_append, cutC_append 10 _ _ (clauseT_nl c), ih]; rfl
  unfold formT
  rw [List.append_assoc, List.singleton_append, cutC_append 10 _ _ (headT_nl _ _), key]
/-- A formula that may be. -/
def FormR (v : Nat) (cs : List (List Int)) : Prop := v ≤ 100000 ∧ cs.length ≤ 200000 ∧ (cs.map List.length).sum ≤ 1000000 ∧ ∀ c ∈ cs, ∀ l ∈ c, l ≠ 0 ∧ max l (-l) ≤ v
theorem wordsR_lits (v : Nat) (hv : v ≤ 100000) : ∀ (c : List Int) (r : Rdr), r.vars = v → r.cls.length ≠ r.n → (∀ l ∈ c, l ≠ 0 ∧ max l (-l) ≤ v) → r.lits + c.length ≤ 1000000 →
    wordsR r (c.map Lib.itoa ++ [[48]]) = (0, { r with cls := r.cls ++ [r.opn ++ c], opn := [], lits := r.lits + c.length })
  | [], r, hr, hn, _, _ => by
    have h : wordR r [48] = (0, { r with cls := r.cls ++ [r.opn], opn := [] }) := by
      have e : litW [48] = some 0 := by decide
      unfold wordR
      rw [e]
      simp only
      rw [if_neg hn, if_neg (by omega)]
      rfl
    simp [wordsR, h]
  | l :: c, r, hr, hn, hl, hs => by
    have h0 := hl l (by simp)
    have h : wordR r (Lib.itoa l) = (0, { r with lits := r.lits + 1, opn := r.opn ++ [l] }) := by
      unfold wordR
      rw [litW_itoa l (by omega) (by omega)]
      simp only
      rw [if_neg hn, if_neg (by omega), if_neg h0.1, if_neg (by simp at hs; omega)]
    rw [List.map_cons, List.cons_append, wordsR, h]
    simp only [if_true]
    rw [wordsR_lits v hv c { r with lits := r.lits + 1, opn := r.opn ++ [l] } hr hn (fun x hx => hl x (by simp [hx])) (by simp only [List.length_cons] at hs ⊢; omega)]
    simp only [List.length_cons, List.append_assoc, List.singleton_append, Nat.add_assoc, Nat.add_comm 1]
theorem line_clause (v : Nat) (hv : v ≤ 100000) (c : List Int) (r : Rdr) (hr : r.vars = v) (hh : r.head = true) (hn : r.cls.length ≠ r.n) (hl : ∀ l ∈ c, l ≠ 0 ∧ max l (-l) ≤ v) (hs : r.lits + c.length ≤ 1000000) :
    lineR r (clauseT c) = (0, { r with cls := r.cls ++ [r.opn ++ c], opn := [], lits := r.lits + c.length }) := by
  unfold lineR
  rw [words_clause]
  have hw := wordsR_lits v hv c r hr hn hl hs
  have h99 : ∀ l : Int, (Lib.itoa l)[0]? ≠ some 99 := fun l h => by
    have := itoa_bytes l 99 (List.mem_of_getElem? h)
    unfold Digit at this
    rw [show (99 : UInt8).toNat = 99 from rfl] at this
    omega
  cases c with
  | nil =>
    simp only [List.map_nil, List.nil_append] at hw ⊢
    rw [if_neg (by decide), if_pos hh, hw]
  | cons l c =>
    simp only [List.map_cons, List.cons_append] at hw ⊢
    rw [if_neg (h99 l), if_pos hh, hw]
theorem lines_form (v : Nat) (hv : v ≤ 100000) : ∀ (cs : List (List Int)) (i : Nat) (r : Rdr), r.vars = v → r.head = true → r.opn = [] → r.cls.length + cs.length = r.n → (∀ c ∈ cs, ∀ l ∈ c, l ≠ 0 ∧ max l (-l) ≤ v) → r.lits + (cs.map List.length).sum ≤ 1000000 →
    linesR i r (cs.map clauseT ++ [[]]) = .inr { r with cls := r.cls ++ cs, lits := r.lits + (cs.map List.length).sum }
  | [], i, r, _, _, _, _, _, _ => by simp [linesR, lineR, wordsB_nil]
  | c :: cs, i, r, hr, hh, ho, hn, hl, hs => by
    simp only [List.map_cons, List.sum_cons, List.length_cons] at hs hn
    have h := line_clause v hv c r hr hh (by omega) (hl c (by simp)) (by omega)
    rw [ho, List.nil_append] at h
    rw [List.map_cons, List.cons_append, linesR, h]
    simp only [if_true]
    rw [lines_form v hv cs (i + 1) { r with cls := r.cls ++ [c], opn := [], lits := r.lits + c.length } hr hh rfl (by simp; omega) (fun x hx => hl x (by simp [hx])) (by simp only; omega)]
    simp only [List.append_assoc, List.singleton_append, List.map_cons, List.sum_cons, Nat.add_assoc]
    congr 2
    rw [ho]
theorem itoa_nat (u : Nat) : Lib.itoa (u : Int) = Lib.decDigits u := by unfold Lib.itoa; rw [if_neg (by omega)]; simp
theorem line_head (v n : Nat) (hv : v ≤ 100000) (hn : n ≤ 200000) : lineR rdr0 (headT v n) = (0, { rdr0 with vars := v, n := n, head := true }) := by
  unfold lineR
  rw [words_head]
  simp only
  rw [if_neg (by decide), if_neg (by decide)]
  unfold headR
  simp only [if_true, and_self]
  rw [itoa_nat v, itoa_nat n, numW_dec v (by omega), numW_dec n (by omega)]
  simp only
  rw [if_neg (by omega)]
/-- A formula's text is its text. -/
theorem parseR_formT {v : Nat} {cs : List (List Int)} (h : FormR v cs) : parseR (formT v cs) = .inr ⟨v, cs, cs.length, (cs.map List.length).sum, [], true⟩ := by
  obtain ⟨h1, h2, h3, h4⟩ := h
  have e : linesR 0 rdr0 (cutC 10 (formT v cs)) = .inr ⟨v, cs, cs.length, (cs.map List.length).sum, [], true⟩ := by
    rw [cut_form, linesR, line_head v cs.length h1 h2]
    simp only [if_true]
    rw [lines_form v h1 cs _ _ rfl rfl rfl (by simp [rdr0]) h4 (by simp only [rdr0]; omega)]
    simp [rdr0]
  unfold parseR
  rw [e]
  simp [endR]

end Go.Proofs.YtdbdilajjmijaaaDoor
