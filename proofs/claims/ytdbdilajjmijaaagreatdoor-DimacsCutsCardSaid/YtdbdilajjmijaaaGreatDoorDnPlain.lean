import Derived.Lib.AtoiAll
import Derived.Lib.ItoaNum
import Derived.Lib.Split
import Derived.Lib.Strings
import Derived.Laws.RangeString
import Derived.Laws.Cover4
import Derived.Laws.RangeAny
namespace Go.Proofs.YtdbdilajjmijaaaGreatDoor
open Go

/-! Numerals, and texts that are cut: no program in sight. -/

theorem digit_ok (d : Nat) (h : d < 10) : 48 ≤ (UInt8.ofNat (48 + d)).toNat ∧ (UInt8.ofNat (48 + d)).toNat ≤ 57 ∧ (UInt8.ofNat (48 + d)).toNat - 48 = d := by
  rw [UInt8.toNat_ofNat']
  omega

def Digit (c : UInt8) : Prop := 48 ≤ c.toNat ∧ c.toNat ≤ 57
theorem decDigits_all (u : Nat) : ∀ c ∈ Lib.decDigits u, Digit c := by
  induction u using Nat.strongRecOn with
  | _ u ih =>
    intro c hc
    rw [Lib.decDigits] at hc
    split at hc
    · rename_i h
      simp only [List.mem_singleton] at hc
      subst hc
      have := digit_ok u h
      exact ⟨this.1, this.2.1⟩
    · rename_i h
      simp only [List.mem_append, List.mem_singleton] at hc
      rcases hc with hc | rfl
      · exact ih (u / 10) (by omega) c hc
      · have := digit_ok (u % 10) (by omega)
        exact ⟨this.1, this.2.1⟩
theorem decDigits_ne (u : Nat) : Lib.decDigits u ≠ [] := by
  rw [Lib.decDigits]
  split <;> simp

theorem parseUint10_append (xs ys : List UInt8) : ∀ (acc : Nat), Lib.parseUint10 acc (xs ++ ys) = match Lib.parseUint10 acc xs with | .ok a => Lib.parseUint10 a ys | .syntax => .syntax | .range => .range := by
  induction xs with
  | nil => intro acc; rfl
  | cons c r ih =>
    intro acc
    simp only [List.cons_append, Lib.parseUint10]
    split
    · split
      · rfl
      · split
        · rfl
        · exact ih _
    · rfl

theorem parseUint10_dec (u : Nat) : u < 1000000000000000000 → Lib.parseUint10 0 (Lib.decDigits u) = .ok u := by
  induction u using Nat.strongRecOn with
  | _ u ih =>
    intro hu
    rw [Lib.decDigits]
    split
    · rename_i h
      have := digit_ok u h
      simp only [Lib.parseUint10]
      rw [if_pos ⟨this.1, this.2.1⟩, if_neg (by omega), if_neg (by omega)]
      simp only [Lib.NumEnd.ok.injEq]
      omega
    · rename_i h
      rw [parseUint10_append, ih (u / 10) (by omega) (by omega)]
      have := digit_ok (u % 10) (by omega)
      simp only [Lib.parseUint10]
      rw [if_pos ⟨this.1, this.2.1⟩, if_neg (by omega), if_neg (by omega)]
      simp only [Lib.NumEnd.ok.injEq]
      omega

theorem atoi_itoa (n : Int) (h0 : -1000000000000000000 < n) (h1 : n < 1000000000000000000) : Lib.atoiAll (Lib.itoa n) = .ok n := by
  unfold Lib.itoa
  split
  · rename_i h
    unfold Lib.atoiAll
    have hp : Lib.parseMag (Lib.decDigits n.natAbs) = .ok n.natAbs := by
      unfold Lib.parseMag
      rw [if_neg (decDigits_ne _)]
      exact parseUint10_dec _ (by omega)
    simp only [show ((45 : UInt8).toNat = 43 ∨ (45 : UInt8).toNat = 45) from Or.inr rfl, if_true, hp]
    rw [if_neg (by simp), if_neg (by omega)]
    simp only [show ((45 : UInt8).toNat = 45) from rfl, if_true, Lib.NumEnd.ok.injEq]
    omega
  · rename_i h
    obtain ⟨u, rfl⟩ : ∃ u : Nat, n = u := ⟨n.toNat, by omega⟩
    rw [Int.toNat_natCast]
    have hp := parseUint10_dec u (by omega)
    have hd := decDigits_all u
    have hne := decDigits_ne u
    generalize Lib.decDigits u = l at *
    cases l with
    | nil => exact absurd rfl hne
    | cons c r =>
      have hc := hd c (by simp)
      unfold Digit at hc
      unfold Lib.atoiAll
      have hm : Lib.parseMag (c :: r) = .ok u := by
        unfold Lib.parseMag
        rw [if_neg (by simp)]; exact hp
      simp only
      rw [if_neg (by omega), hm]
      simp only
      rw [if_neg (by omega), if_neg (by omega), if_neg (by omega)]

/-- A numeral has no blank, no line's end. -/
theorem itoa_bytes (n : Int) : ∀ c ∈ Lib.itoa n, c.toNat = 45 ∨ Digit c := by
  intro c hc
  unfold Lib.itoa at hc
  split at hc
  · simp only [List.mem_cons] at hc
    rcases hc with rfl | hc
    · left; rfl
    · exact .inr (decDigits_all _ c hc)
  · exact .inr (decDigits_all _ c hc)
theorem itoa_ne (n : Int) : Lib.itoa n ≠ [] := by
  unfold Lib.itoa
  split
  · simp
  · exact decDigits_ne _

/-- A text cut at each byte c. -/
def cutC (c : UInt8) : List UInt8 → List (List UInt8)
  | [] => [[]]
  | b :: r => if b = c then [] :: cutC c r else
    match cutC c r with
    | [] => [[b]]
    | x :: xs => (b :: x) :: xs

theorem cutC_ne (c : UInt8) (l : List UInt8) : cutC c l ≠ [] := by
  cases l with
  | nil => simp [cutC]
  | cons b r => simp only [cutC]; split; · simp
                split <;> simp

theorem cutC_none (c : UInt8) (l : List UInt8) (h : c ∉ l) : cutC c l = [l] := by
  induction l with
  | nil => rfl
  | cons b r ih =>
    simp only [List.mem_cons, not_or] at h
    simp only [cutC]
    rw [if_neg (Ne.symm h.1), ih h.2]

theorem cutC_append (c : UInt8) (l r : List UInt8) (h : c ∉ l) : cutC c (l ++ c :: r) = l :: cutC c r := by
  induction l with
  | nil => simp [cutC]
  | cons b t ih =>
    simp only [List.mem_cons, not_or] at h
    simp only [List.cons_append, cutC]
    rw [if_neg (Ne.symm h.1), ih h.2]

theorem index_one (c : UInt8) (s : List UInt8) : (Lib.index s [c] = -1 ∧ c ∉ s) ∨ ∃ a r, s = a ++ c :: r ∧ c ∉ a ∧ Lib.index s [c] = (a.length : Int) := by
  induction s with
  | nil => left; exact ⟨rfl, by simp⟩
  | cons b l ih =>
    by_cases hb : b = c
    · subst hb
      right
      exact ⟨[], l, rfl, by simp, by simp [Lib.index]⟩
    · have hp : ([c] : List UInt8).isPrefixOf (b :: l) = false := by simp [List.isPrefixOf, Ne.symm hb]
      rcases ih with ⟨h1, h2⟩ | ⟨a, r, rfl, h2, h3⟩
      · left
        refine ⟨?_, by simp [h2, Ne.symm hb]⟩
        rw [Lib.index, hp, h1]; rfl
      · right
        refine ⟨b :: a, r, rfl, by simp [h2, Ne.symm hb], ?_⟩
        rw [Lib.index, hp, h3]
        simp only [Bool.false_eq_true, if_false, List.length_cons]
        rw [if_neg (by rw [beq_iff_eq]; omega)]
        omega

/-- strings.Split at one byte. -/
theorem split_one (c : UInt8) (s : List UInt8) : Lib.split s [c] = cutC c s := by
  have key : ∀ (n : Nat) (s : List UInt8), s.length ≤ n → Lib.split s [c] = cutC c s := by
    intro n
    induction n with
    | zero =>
      intro s hs
      obtain rfl : s = [] := List.length_eq_zero_iff.1 (by omega)
      rfl
    | succ n ih =>
      intro s hs
      rcases index_one c s with ⟨h1, h2⟩ | ⟨a, r, rfl, h2, h3⟩
      · unfold Lib.split
        rw [Lib.count_miss h1, cutC_none c s h2]; rfl
      · have hr : r.length ≤ n := by simp at hs; omega
        have hd : (a ++ c :: r).drop (a.length + 1) = r := by simp
        have ht : (a ++ c :: r).take a.length = a := by simp
        unfold Lib.split
        rw [Lib.count_hit (by simp) h3, show ([c] : List UInt8).length = 1 from rfl, hd, Nat.add_comm 1, Lib.splitK, if_neg (by rw [h3, beq_iff_eq]; omega), h3, Int.toNat_natCast, Nat.add_zero, ht]
        rw [show ([c] : List UInt8).length = 1 from rfl, hd, cutC_append c a r h2]
        congr 1
        exact ih r hr
  exact key s.length s (Nat.le_refl _)

/-! Proofs, as plain data. -/

/-- A step. -/
structure PStep where
  del : Bool
  lits : List Int

def RightL (l : Int) : Prop := l ≠ 0 ∧ l ≤ 100000 ∧ -100000 ≤ l
def RightP (p : List PStep) : Prop := ∀ s ∈ p, ∀ l ∈ s.lits, RightL l

def litsT (ls : List Int) : List UInt8 := ls.flatMap fun l => Lib.itoa l ++ [32]
/-- A step's line, but for its end. -/
def lineT (s : PStep) : List UInt8 := (if s.del then [100, 32] else []) ++ litsT s.lits ++ [48]
def textT (p : List PStep) : List UInt8 := p.flatMap fun s => lineT s ++ [10]

theorem lineT_nl (s : PStep) : (10 : UInt8) ∉ lineT s := by
  unfold lineT litsT
  simp only [List.mem_append, not_or, List.mem_flatMap, not_exists, not_and]
  refine ⟨⟨by split <;> decide, fun l _ => ⟨fun h => ?_, by decide⟩⟩, by decide⟩
  rcases itoa_bytes l _ h with h | h
  · simp at h
  · unfold Digit at h; simp at h

theorem cut_text (p : List PStep) : cutC 10 (textT p) = p.map lineT ++ [[]] := by
  unfold textT
  induction p with
  | nil => rfl
  | cons s p ih =>
    rw [List.flatMap_cons, List.append_assoc, List.singleton_append, cutC_append 10 _ _ (lineT_nl s), ih]
    rfl

theorem itoa_blank (l : Int) : (32 : UInt8) ∉ Lib.itoa l := by
  intro h
  rcases itoa_bytes l _ h with h | h
  · simp at h
  · unfold Digit at h; simp at h

theorem cut_lits (ls : List Int) : cutC 32 (litsT ls ++ [48]) = ls.map Lib.itoa ++ [[48]] := by
  unfold litsT
  induction ls with
  | nil => rfl
  | cons l ls ih =>
    rw [List.flatMap_cons, List.append_assoc, List.append_assoc, List.singleton_append, cutC_append 32 _ _ (itoa_blank l), ih]
    rfl

/-- One word of a line: its literal. -/
def wordP (w : List UInt8) : Option Int := match Lib.atoiAll w with
  | .ok l => if l ≠ 0 ∧ l ≤ 100000 ∧ -100000 ≤ l then some l else none
  | _ => none
def wordsP : List (List UInt8) → Option (List Int)
  | [] => some []
  | w :: ws => match wordP w with
    | none => none
    | some l => match wordsP ws with
      | none => none
      | some ls => some (l :: ls)
/-- A line's step. -/
def lineQ (d : Bool) (w : List (List UInt8)) : Option PStep := match wordsP w.dropLast with
  | none => none
  | some ls => if w.getLast? = some [48] then some ⟨d, ls⟩ else none
def lineP (x : List UInt8) : Option PStep := lineQ (Lib.hasPrefix x [100, 32]) (cutC 32 (if Lib.hasPrefix x [100, 32] then x.drop 2 else x))
def linesP : List (List UInt8) → Option (List PStep)
  | [] => some []
  | x :: xs => match lineP x with
    | none => none
    | some s => match linesP xs with
      | none => none
      | some p => some (s :: p)
/-- A text's proof. -/
def parseT (s : List UInt8) : Option (List PStep) := match linesP (cutC 10 s).dropLast with
  | none => none
  | some p => if textT p = s then some p else none

theorem wordP_itoa {l : Int} (h : RightL l) : wordP (Lib.itoa l) = some l := by
  unfold RightL at h
  unfold wordP
  rw [atoi_itoa l (by omega) (by omega)]
  simp only
  rw [if_pos h]
theorem wordsP_itoa {ls : List Int} (h : ∀ l ∈ ls, RightL l) : wordsP (ls.map Lib.itoa) = some ls := by
  induction ls with
  | nil => rfl
  | cons l ls ih =>
    simp only [List.map_cons, wordsP, wordP_itoa (h l (by simp)), ih (fun x hx => h x (by simp [hx]))]
theorem wordsP_right : ∀ (ws : List (List UInt8)) {ls : List Int}, wordsP ws = some ls → ∀ l ∈ ls, RightL l
  | [], ls, h, l, hl => by simp only [wordsP, Option.some.injEq] at h; subst h; simp at hl
  | w :: ws, ls, h, l, hl => by
    simp only [wordsP] at h
    cases hw : wordP w with
    | none => rw [hw] at h; simp at h
    | some x =>
      rw [hw] at h
      cases hs : wordsP ws with
      | none => rw [hs] at h; simp at h
      | some xs =>
        rw [hs] at h
        simp only [Option.some.injEq] at h
        subst h
        simp only [List.mem_cons] at hl
        rcases hl with rfl | hl
        · unfold wordP at hw
          split at hw
          · split at hw
            · rename_i hr
              simp only [Option.some.injEq] at hw
              subst hw; exact hr
            · simp at hw
          · simp at hw
        · exact wordsP_right ws hs l hl

theorem no_d (ls : List Int) : Lib.hasPrefix (litsT ls ++ [48]) [100, 32] = false := by
  unfold Lib.hasPrefix
  cases ls with
  | nil => decide
  | cons l ls =>
    unfold litsT
    rw [List.flatMap_cons, List.append_assoc, List.append_assoc]
    have hne := itoa_ne l
    have hb := itoa_bytes l
    generalize Lib.itoa l = x at *
    cases x with
    | nil => exact absurd rfl hne
    | cons c r =>
      have := hb c (by simp)
      unfold Digit at this
      simp only [List.cons_append, List.isPrefixOf, Bool.and_eq_false_imp, beq_iff_eq]
      intro h
      subst h
      simp at this

theorem lineP_lineT {s : PStep} (h : ∀ l ∈ s.lits, RightL l) : lineP (lineT s) = some s := by
  obtain ⟨d, ls⟩ := s
  unfold lineP lineT
  cases d with
  | false =>
    simp only [Bool.false_eq_true, if_false, List.nil_append, no_d]
    unfold lineQ
    rw [cut_lits, List.dropLast_concat, wordsP_itoa h]
    simp
  | true =>
    have hp : Lib.hasPrefix (([100, 32] : List UInt8) ++ litsT ls ++ [48]) [100, 32] = true := by
      unfold Lib.hasPrefix; rw [List.append_assoc]; simp
    simp only [if_true, hp]
    have hd : List.drop 2 (([100, 32] : List UInt8) ++ litsT ls ++ [48]) = litsT ls ++ [48] := rfl
    rw [hd]
    unfold lineQ
    rw [cut_lits, List.dropLast_concat, wordsP_itoa h]
    simp

theorem linesP_text {p : List PStep} (h : RightP p) : linesP (p.map lineT) = some p := by
  induction p with
  | nil => rfl
  | cons s p ih => simp only [List.map_cons, linesP, lineP_lineT (h s (by simp)), ih (fun x hx => h x (by simp [hx]))]

theorem parseT_textT {p : List PStep} (h : RightP p) : parseT (textT p) = some p := by
  unfold parseT
  rw [cut_text, List.dropLast_concat, linesP_text h]
  simp

theorem lineP_right {x : List UInt8} {s : PStep} (h : lineP x = some s) : ∀ l ∈ s.lits, RightL l := by
  unfold lineP lineQ at h
  generalize cutC 32 _ = w at h
  split at h
  · simp at h
  · rename_i ls hw
    split at h
    · simp only [Option.some.injEq] at h
      subst h
      exact wordsP_right _ hw
    · simp at h
theorem linesP_right : ∀ (xs : List (List UInt8)) {p : List PStep}, linesP xs = some p → RightP p
  | [], p, h => by simp only [linesP, Option.some.injEq] at h; subst h; intro s hs; simp at hs
  | x :: xs, p, h => by
    simp only [linesP] at h
    cases hx : lineP x with
    | none => rw [hx] at h; simp at h
    | some s =>
      rw [hx] at h
      cases hs : linesP xs with
      | none => rw [hs] at h; simp at h
      | some q =>
        rw [hs] at h
        simp only [Option.some.injEq] at h
        subst h
        intro y hy
        simp only [List.mem_cons] at hy
        rcases hy with rfl | hy
        · exact lineP_right hx
        · exact linesP_right xs hs y hy
theorem parseT_sound {s : List UInt8} {p : List PStep} (h : parseT s = some p) : RightP p ∧ textT p = s := by
  unfold parseT at h
  split at h
  · simp at h
  · rename_i q hq
    split at h
    · rename_i ht
      simp only [Option.some.injEq] at h
      subst h
      exact ⟨linesP_right _ hq, ht⟩
    · simp at h

theorem textT_inj {p q : List PStep} (hp : RightP p) (hq : RightP q) (h : textT p = textT q) : p = q := by
  have := parseT_textT hp
  rw [h, parseT_textT hq] at this
  exact (Option.some.inj this).symm
theorem textT_append (p q : List PStep) : textT (p ++ q) = textT p ++ textT q := by unfold textT; rw [List.flatMap_append]

end Go.Proofs.YtdbdilajjmijaaaGreatDoor
namespace Go.Proofs.YtdbdilajjmijaaaGreatDoor
open Go

/-! Formulas' texts and what reads them: no program in sight. -/
theorem dec_len : ∀ (k u : Nat), u < 10 ^ (k + 1) → (Lib.decDigits u).length ≤ k + 1
  | 0, u, h => by rw [Lib.decDigits, dif_pos (by simpa using h)]; simp
  | k + 1, u, h => by
    rw [Lib.decDigits]
    split
    · simp
    · have := dec_len k (u / 10) (by rw [Nat.pow_succ] at h; omega)
      simp; omega

/-- A number's digits, one by one. -/
def digitsV : Nat → List UInt8 → Option Nat
  | n, [] => some n
  | n, c :: r => if c.toNat < 48 ∨ 57 < c.toNat then none else digitsV (10 * n + (c.toNat - 48)) r
def numW (w : List UInt8) : Option Nat := if w = [] ∨ 9 < w.length ∨ (1 < w.length ∧ w[0]? = some 48) then none else digitsV 0 w
theorem digitsV_append (xs ys : List UInt8) : ∀ n, digitsV n (xs ++ ys) = (digitsV n xs).bind fun m => digitsV m ys := by
  induction xs with
  | nil => intro n; rfl
  | cons c r ih =>
    intro n
    simp only [List.cons_append, digitsV]
    split
    · rfl
    · exact ih _
theorem digitsV_dec (u : Nat) : digitsV 0 (Lib.decDigits u) = some u := by
  induction u using Nat.strongRecOn with
  | _ u ih =>
    rw [Lib.decDigits]
    split
    · rename_i h
      have := digit_ok u h
      simp only [digitsV]
      rw [if_neg (by omega)]
      simp only [Option.some.injEq]
      omega
    · rename_i h
      rw [digitsV_append, ih (u / 10) (by omega), Option.bind_some]
      have := digit_ok (u % 10) (by omega)
      simp only [digitsV]
      rw [if_neg (by omega)]
      simp only [Option.some.injEq]
      omega
/-- A numeral of more than one digit doesn't begin with a nought. -/
theorem dec_head (u : Nat) : 1 < (Lib.decDigits u).length → (Lib.decDigits u)[0]? ≠ some 48 := by
  induction u using Nat.strongRecOn with
  | _ u ih =>
    intro hl
    rw [Lib.decDigits] at hl ⊢
    split at hl
    · simp at hl
    · rename_i h
      rw [dif_neg h]
      have hne : 0 < (Lib.decDigits (u / 10)).length := List.length_pos_iff.2 (decDigits_ne _)
      rw [List.getElem?_append_left hne]
      by_cases h2 : u / 10 < 10
      · rw [Lib.decDigits, dif_pos h2]
        simp only [List.getElem?_cons_zero, ne_eq, Option.some.injEq]
        intro he
        have := congrArg UInt8.toNat he
        have h3 := digit_ok (u / 10) h2
        rw [show (48 : UInt8).toNat = 48 from rfl] at this
        omega
      · refine ih (u / 10) (by omega) ?_
        rw [Lib.decDigits, dif_neg h2]
        have := List.length_pos_iff.2 (decDigits_ne (u / 10 / 10))
        simp; omega
theorem numW_dec (u : Nat) (h : u < 1000000000) : numW (Lib.decDigits u) = some u := by
  have h1 := dec_len 8 u (by omega)
  have h2 := decDigits_ne u
  have h3 := dec_head u
  unfold numW
  rw [if_neg (by
    rintro (h | h | ⟨h4, h5⟩)
    · exact h2 h
    · omega
    · exact h3 h4 h5), digitsV_dec]

/-- A literal's word. -/
def litW (w : List UInt8) : Option Int := match w with
  | 45 :: r => (numW r).bind fun n => if n = 0 then none else some (-(n : Int))
  | w => (numW w).map fun n => (n : Int)
theorem litW_plain {w : List UInt8} (h : w[0]? ≠ some 45) : litW w = (numW w).map fun n => (n : Int) := by
  unfold litW
  split
  · simp at h
  · rfl
theorem dec_no_minus (u : Nat) : (Lib.decDigits u)[0]? ≠ some 45 := by
  intro h
  have := decDigits_all u 45 (List.mem_of_getElem? h)
  unfold Digit at this
  rw [show (45 : UInt8).toNat = 45 from rfl] at this
  omega
theorem litW_itoa (l : Int) (h0 : -1000000000 < l) (h1 : l < 1000000000) : litW (Lib.itoa l) = some l := by
  unfold Lib.itoa
  split
  · rename_i hn
    simp only [litW]
    rw [numW_dec _ (by omega), Option.bind_some, if_neg (by omega)]
    simp only [Option.some.injEq]; omega
  · rw [litW_plain (dec_no_minus _), numW_dec _ (by omega)]
    refine congrArg some ?_
    show ((_ : Nat) : Int) = l
    omega

/-- A line's words: what was told, and the word at hand. -/
def wstep (s : List (List UInt8) × List UInt8) (c : UInt8) : List (List UInt8) × List UInt8 :=
  if c ≠ 32 ∧ c ≠ 9 then (s.1, s.2 ++ [c]) else if s.2 ≠ [] then (s.1 ++ [s.2], []) else s
def wordsB (line : List UInt8) : List (List UInt8) := ((line ++ [32]).foldl wstep ([], [])).1
def Wordy (w : List UInt8) : Prop := w ≠ [] ∧ ∀ c ∈ w, c ≠ 32 ∧ c ≠ 9
theorem wfold_word (w : List UInt8) (h : ∀ c ∈ w, c ≠ 32 ∧ c ≠ 9) : ∀ out a, w.foldl wstep (out, a) = (out, a ++ w) := by
  induction w with
  | nil => intro out a; simp
  | cons c r ih =>
    intro out a
    rw [List.foldl_cons]
    have : wstep (out, a) c = (out, a ++ [c]) := by unfold wstep; rw [if_pos (h c (by simp))]
    rw [this, ih (fun x hx => h x (by simp [hx])), List.append_assoc]; rfl
theorem wfold_blank (out : List (List UInt8)) (w : List UInt8) (c : UInt8) (hc : c = 32 ∨ c = 9) (h : w ≠ []) : wstep (out, w) c = (out ++ [w], []) := by
  unfold wstep
  rw [if_neg (by rcases hc with rfl | rfl <;> simp), if_pos h]
theorem wfold_none (out : List (List UInt8)) (c : UInt8) (hc : c = 32 ∨ c = 9) : wstep (out, []) c = (out, []) := by
  unfold wstep
  rw [if_neg (by rcases hc with rfl | rfl <;> simp), if_neg (by simp)]
/-- Words with a blank behind each. -/
theorem wfold_words : ∀ (ws : List (List UInt8)), (∀ w ∈ ws, Wordy w) → ∀ out, (ws.flatMap fun w => w ++ [32]).foldl wstep (out, []) = (out ++ ws, [])
  | [], _, out => by simp
  | w :: ws, h, out => by
    have hw := h w (by simp)
    rw [List.flatMap_cons, List.foldl_append, List.foldl_append, wfold_word w hw.2, List.nil_append, List.foldl_cons, List.foldl_nil, wfold_blank out w 32 (.inl rfl) hw.1, wfold_words ws (fun x hx => h x (by simp [hx]))]
    simp
theorem wordsB_of (ws : List (List UInt8)) (h : ∀ w ∈ ws, Wordy w) (x : List UInt8) (hx : Wordy x) : wordsB ((ws.flatMap fun w => w ++ [32]) ++ x) = ws ++ [x] := by
  unfold wordsB
  rw [List.foldl_append, List.foldl_append, wfold_words ws h, wfold_word x hx.2, List.foldl_cons, List.foldl_nil]
  simp only [List.nil_append]
  rw [wfold_blank _ x 32 (.inl rfl) hx.1]
theorem wordsB_nil : wordsB [] = [] := rfl

/-- What a reader knows. -/
structure Rdr where
  vars : Nat
  cls : List (List Int)
  n : Nat
  lits : Nat
  opn : List Int
  head : Bool
def rdr0 : Rdr := ⟨0, [], 0, 0, [], false⟩
/-- One word behind the header: an error's number, and the reader. -/
def wordR (r : Rdr) (w : List UInt8) : Nat × Rdr := match litW w with
  | none => (3, r)
  | some l => if r.cls.length = r.n then (5, r) else if (r.vars : Int) < max l (-l) then (4, r) else
    if l = 0 then (0, { r with cls := r.cls ++ [r.opn], opn := [] }) else
    if 1000000 < r.lits + 1 then (8, { r with lits := r.lits + 1 }) else (0, { r with lits := r.lits + 1, opn := r.opn ++ [l] })
def wordsR : Rdr → List (List UInt8) → Nat × Rdr
  | r, [] => (0, r)
  | r, w :: ws => if (wordR r w).1 = 0 then wordsR (wordR r w).2 ws else wordR r w
def headR (r : Rdr) (ws : List (List UInt8)) : Nat × Rdr := match ws with
  | [a, b, x, y] => if a = [112] ∧ b = [99, 110, 102] then
      match numW x, numW y with
      | some v, some n => if 100000 < v ∨ 200000 < n then (8, r) else (0, { r with vars := v, n := n, head := true })
      | _, _ => (2, r)
    else (2, r)
  | _ => (2, r)
def lineR (r : Rdr) (line : List UInt8) : Nat × Rdr := match wordsB line with
  | [] => (0, r)
  | w :: ws => if w[0]? = some 99 then (0, r) else if r.head then wordsR r (w :: ws) else headR r (w :: ws)
def linesR : Nat → Rdr → List (List UInt8) → (Nat × Nat) ⊕ Rdr
  | _, r, [] => .inr r
  | i, r, x :: xs => if (lineR r x).1 = 0 then linesR (i + 1) (lineR r x).2 xs else .inl (i + 1, (lineR r x).1)
def endR (r : Rdr) : Nat := if r.head = false then 2 else if r.opn ≠ [] then 7 else if r.cls.length < r.n then 6 else 0
/-- The formula of a text, or a line and an error. -/
def parseR (s : List UInt8) : (Nat × Nat) ⊕ Rdr := match linesR 0 rdr0 (cutC 10 s) with
  | .inl e => .inl e
  | .inr r => if endR r = 0 then .inr r else .inl ((cutC 10 s).length, endR r)

/-! A formula's text, and back. -/
def clauseT (c : List Int) : List UInt8 := (c.flatMap fun l => Lib.itoa l ++ [32]) ++ [48]
def headT (v n : Nat) : List UInt8 := [112, 32, 99, 110, 102, 32] ++ Lib.itoa v ++ [32] ++ Lib.itoa n
def formT (v : Nat) (cs : List (List Int)) : List UInt8 := headT v cs.length ++ [10] ++ cs.flatMap fun c => clauseT c ++ [10]
theorem itoa_wordy (l : Int) : Wordy (Lib.itoa l) := ⟨itoa_ne l, fun c hc => by
  have h := itoa_bytes l c hc
  unfold Digit at h
  constructor
  · rintro rfl; rw [show (32 : UInt8).toNat = 32 from rfl] at h; omega
  · rintro rfl; rw [show (9 : UInt8).toNat = 9 from rfl] at h; omega⟩
theorem itoa_nl (l : Int) : (10 : UInt8) ∉ Lib.itoa l := fun hc => by
  have h := itoa_bytes l 10 hc
  unfold Digit at h
  rw [show (10 : UInt8).toNat = 10 from rfl] at h
  omega
theorem words_clause (c : List Int) : wordsB (clauseT c) = c.map Lib.itoa ++ [[48]] := by
  have := wordsB_of (c.map Lib.itoa) (fun w hw => by obtain ⟨l, _, rfl⟩ := List.mem_map.1 hw; exact itoa_wordy l) [48] ⟨by simp, fun c hc => by simp at hc; subst hc; decide⟩
  rw [List.flatMap_map] at this
  exact this
theorem words_head (v n : Nat) : wordsB (headT v n) = [[112], [99, 110, 102], Lib.itoa v, Lib.itoa n] := by
  have := wordsB_of [[112], [99, 110, 102], Lib.itoa v] (fun w hw => by
    simp only [List.mem_cons, List.not_mem_nil, or_false] at hw
    rcases hw with rfl | rfl | rfl
    · exact ⟨by simp, fun c hc => by simp at hc; subst hc; decide⟩
    · exact ⟨by simp, fun c hc => by simp at hc; rcases hc with rfl | rfl | rfl <;> decide⟩
    · exact itoa_wordy _) (Lib.itoa n) (itoa_wordy _)
  rw [show ([[112], [99, 110, 102], Lib.itoa (v : Int)].flatMap fun w => w ++ [32]) ++ Lib.itoa (n : Int) = headT v n by simp [headT]] at this
  rw [this]; rfl
theorem clauseT_nl (c : List Int) : (10 : UInt8) ∉ clauseT c := by
  unfold clauseT
  simp only [List.mem_append, List.mem_flatMap, List.mem_singleton]
  rintro (⟨l, _, h | h⟩ | h)
  · exact itoa_nl l h
  · exact absurd h (by decide)
  · exact absurd h (by decide)
theorem headT_nl (v n : Nat) : (10 : UInt8) ∉ headT v n := by
  unfold headT
  simp only [List.mem_append, List.mem_cons, List.not_mem_nil, or_false]
  rintro (((h | h) | h) | h)
  · rcases h with h | h | h | h | h | h <;> exact absurd h (by decide)
  · exact itoa_nl _ h
  · exact absurd h (by decide)
  · exact itoa_nl _ h
theorem cut_form (v : Nat) (cs : List (List Int)) : cutC 10 (formT v cs) = headT v cs.length :: (cs.map clauseT ++ [[]]) := by
  have key : ∀ cs : List (List Int), cutC 10 (cs.flatMap fun c => clauseT c ++ [10]) = cs.map clauseT ++ [[]] := by
    intro cs
    induction cs with
    | nil => rfl
    | cons c cs ih => rw [List.flatMap_cons, List.append_assoc, List.singleton_append, cutC_append 10 _ _ (clauseT_nl c), ih]; rfl
  unfold formT
  rw [List.append_assoc, List.singleton_append, cutC_append 10 _ _ (headT_nl _ _), key]
/-- A formula that may be. -/
def FormR (v : Nat) (cs : List (List Int)) : Prop := v ≤ 100000 ∧ cs.length ≤ 200000 ∧ (cs.map List.length).sum ≤ 1000000 ∧ ∀ c ∈ cs, ∀ l ∈ c, l ≠ 0 ∧ max l (-l) ≤ v
theorem wordsR_lits (v : Nat) (hv : v ≤ 100000) : ∀ (c : List Int) (r : Rdr), r.vars = v → r.cls.length ≠ r.n → (∀ l ∈ c, l ≠ 0 ∧ max l (-l) ≤ v) → r.lits + c.length ≤ 1000000 →
    wordsR r (c.map Lib.itoa ++ [[48]]) = (0, { r with cls := r.cls ++ [r.opn ++ c], opn := [], lits := r.lits + c.length })
  | [], r, hr, hn, _, _ => by
    have h : wordR r [48] = (0, { r with cls := r.cls ++ [r.opn], opn := [] }) := by
      have e : litW [48] = some 0 := by decide
      unfold wordR
      rw [e]
      simp only
      rw [if_neg hn, if_neg (by omega)]
      rfl
    simp [wordsR, h]
  | l :: c, r, hr, hn, hl, hs => by
    have h0 := hl l (by simp)
    have h : wordR r (Lib.itoa l) = (0, { r with lits := r.lits + 1, opn := r.opn ++ [l] }) := by
      unfold wordR
      rw [litW_itoa l (by omega) (by omega)]
      simp only
      rw [if_neg hn, if_neg (by omega), if_neg h0.1, if_neg (by simp at hs; omega)]
    rw [List.map_cons, List.cons_append, wordsR, h]
    simp only [if_true]
    rw [wordsR_lits v hv c { r with lits := r.lits + 1, opn := r.opn ++ [l] } hr hn (fun x hx => hl x (by simp [hx])) (by simp only [List.length_cons] at hs ⊢; omega)]
    simp only [List.length_cons, List.append_assoc, List.singleton_append, Nat.add_assoc, Nat.add_comm 1]
theorem line_clause (v : Nat) (hv : v ≤ 100000) (c : List Int) (r : Rdr) (hr : r.vars = v) (hh : r.head = true) (hn : r.cls.length ≠ r.n) (hl : ∀ l ∈ c, l ≠ 0 ∧ max l (-l) ≤ v) (hs : r.lits + c.length ≤ 1000000) :
    lineR r (clauseT c) = (0, { r with cls := r.cls ++ [r.opn ++ c], opn := [], lits := r.lits + c.length }) := by
  unfold lineR
  rw [words_clause]
  have hw := wordsR_lits v hv c r hr hn hl hs
  have h99 : ∀ l : Int, (Lib.itoa l)[0]? ≠ some 99 := fun l h => by
    have := itoa_bytes l 99 (List.mem_of_getElem? h)
    unfold Digit at this
    rw [show (99 : UInt8).toNat = 99 from rfl] at this
    omega
  cases c with
  | nil =>
    simp only [List.map_nil, List.nil_append] at hw ⊢
    rw [if_neg (by decide), if_pos hh, hw]
  | cons l c =>
    simp only [List.map_cons, List.cons_append] at hw ⊢
    rw [if_neg (h99 l), if_pos hh, hw]
theorem lines_form (v : Nat) (hv : v ≤ 100000) : ∀ (cs : List (List Int)) (i : Nat) (r : Rdr), r.vars = v → r.head = true → r.opn = [] → r.cls.length + cs.length = r.n → (∀ c ∈ cs, ∀ l ∈ c, l ≠ 0 ∧ max l (-l) ≤ v) → r.lits + (cs.map List.length).sum ≤ 1000000 →
    linesR i r (cs.map clauseT ++ [[]]) = .inr { r with cls := r.cls ++ cs, lits := r.lits + (cs.map List.length).sum }
  | [], i, r, _, _, _, _, _, _ => by simp [linesR, lineR, wordsB_nil]
  | c :: cs, i, r, hr, hh, ho, hn, hl, hs => by
    simp only [List.map_cons, List.sum_cons, List.length_cons] at hs hn
    have h := line_clause v hv c r hr hh (by omega) (hl c (by simp)) (by omega)
    rw [ho, List.nil_append] at h
    rw [List.map_cons, List.cons_append, linesR, h]
    simp only [if_true]
    rw [lines_form v hv cs (i + 1) { r with cls := r.cls ++ [c], opn := [], lits := r.lits + c.length } hr hh rfl (by simp; omega) (fun x hx => hl x (by simp [hx])) (by simp only; omega)]
    simp only [List.append_assoc, List.singleton_append, List.map_cons, List.sum_cons, Nat.add_assoc]
    congr 2
    rw [ho]
theorem itoa_nat (u : Nat) : Lib.itoa (u : Int) = Lib.decDigits u := by unfold Lib.itoa; rw [if_neg (by omega)]; simp
theorem line_head (v n : Nat) (hv : v ≤ 100000) (hn : n ≤ 200000) : lineR rdr0 (headT v n) = (0, { rdr0 with vars := v, n := n, head := true }) := by
  unfold lineR
  rw [words_head]
  simp only
  rw [if_neg (by decide), if_neg (by decide)]
  unfold headR
  simp only [if_true, and_self]
  rw [itoa_nat v, itoa_nat n, numW_dec v (by omega), numW_dec n (by omega)]
  simp only
  rw [if_neg (by omega)]
/-- A formula's text is its text. -/
theorem parseR_formT {v : Nat} {cs : List (List Int)} (h : FormR v cs) : parseR (formT v cs) = .inr ⟨v, cs, cs.length, (cs.map List.length).sum, [], true⟩ := by
  obtain ⟨h1, h2, h3, h4⟩ := h
  have e : linesR 0 rdr0 (cutC 10 (formT v cs)) = .inr ⟨v, cs, cs.length, (cs.map List.length).sum, [], true⟩ := by
    rw [cut_form, linesR, line_head v cs.length h1 h2]
    simp only [if_true]
    rw [lines_form v h1 cs _ _ rfl rfl rfl (by simp [rdr0]) h4 (by simp only [rdr0]; omega)]
    simp [rdr0]
  unfold parseR
  rw [e]
  simp [endR]

end Go.Proofs.YtdbdilajjmijaaaGreatDoor
namespace Go.Proofs.YtdbdilajjmijaaaGreatDoor
open Go

/-! Words whose bytes are no text: what the program makes of them parts from them, but nothing that is asked of them. -/
def Ascii (w : List UInt8) : Prop := ∀ c ∈ w, c.toNat < 128
/-- The same, or neither is plain; what stands first, if it's a letter c, is one. -/
def Like (x y : List UInt8) : Prop := x = y ∨ (¬ Ascii x ∧ ¬ Ascii y ∧ (x[0]? = some 99 ↔ y[0]? = some 99))

theorem Like.rfl' (x : List UInt8) : Like x x := .inl rfl
theorem not_ascii_ne {x : List UInt8} (h : ¬ Ascii x) : x ≠ [] := by rintro rfl; exact h (fun _ hc => by simp at hc)
theorem not_ascii_app {x y : List UInt8} (h : ¬ Ascii x) : ¬ Ascii (x ++ y) := fun h2 => h fun c hc => h2 c (by simp [hc])
theorem not_ascii_app' {x y : List UInt8} (h : ¬ Ascii y) : ¬ Ascii (x ++ y) := fun h2 => h fun c hc => h2 c (by simp [hc])
theorem Like.snoc {x y : List UInt8} (h : Like x y) (c : UInt8) : Like (x ++ [c]) (y ++ [c]) := by
  rcases h with rfl | ⟨h1, h2, h3⟩
  · exact .inl rfl
  · refine .inr ⟨not_ascii_app h1, not_ascii_app h2, ?_⟩
    have e1 := List.length_pos_iff.2 (not_ascii_ne h1)
    have e2 := List.length_pos_iff.2 (not_ascii_ne h2)
    rw [List.getElem?_append_left e1, List.getElem?_append_left e2]
    exact h3
def High (x : List UInt8) : Prop := x ≠ [] ∧ ∀ c ∈ x, 128 ≤ c.toNat
theorem High.not_ascii {x : List UInt8} (h : High x) : ¬ Ascii x := by
  obtain ⟨h1, h2⟩ := h
  match x, h1 with
  | c :: r, _ => exact fun h => by have := h c (by simp); have := h2 c (by simp); omega
theorem High.first {x : List UInt8} (h : High x) : x[0]? ≠ some 99 := by
  intro h2
  have := h.2 99 (List.mem_of_getElem? h2)
  rw [show (99 : UInt8).toNat = 99 from rfl] at this
  omega
theorem Like.app {x y e f : List UInt8} (h : Like x y) (he : High e) (hf : High f) : Like (x ++ e) (y ++ f) := by
  refine .inr ⟨not_ascii_app' he.not_ascii, not_ascii_app' hf.not_ascii, ?_⟩
  by_cases hx : x = []
  · have hy : y = [] := by
      rcases h with rfl | ⟨h1, _, _⟩
      · exact hx
      · exact absurd hx (not_ascii_ne h1)
    subst hx hy
    simp only [List.nil_append]
    exact ⟨fun h => absurd h he.first, fun h => absurd h hf.first⟩
  · have hy : y ≠ [] := by
      rcases h with rfl | ⟨_, h2, _⟩
      · exact hx
      · exact not_ascii_ne h2
    rw [List.getElem?_append_left (List.length_pos_iff.2 hx), List.getElem?_append_left (List.length_pos_iff.2 hy)]
    rcases h with rfl | ⟨_, _, h3⟩
    · rfl
    · exact h3
theorem Like.nil {x y : List UInt8} (h : Like x y) : x = [] ↔ y = [] := by
  rcases h with rfl | ⟨h1, h2, _⟩
  · rfl
  · exact ⟨fun e => absurd e (not_ascii_ne h1), fun e => absurd e (not_ascii_ne h2)⟩
theorem Like.first {x y : List UInt8} (h : Like x y) : x[0]? = some 99 ↔ y[0]? = some 99 := by
  rcases h with rfl | ⟨_, _, h3⟩
  · rfl
  · exact h3
theorem Like.plain {x y z : List UInt8} (h : Like x y) (hz : Ascii z) : x = z ↔ y = z := by
  rcases h with rfl | ⟨h1, h2, _⟩
  · rfl
  · exact ⟨fun e => absurd (e ▸ hz) h1, fun e => absurd (e ▸ hz) h2⟩
theorem digitsV_not {x : List UInt8} (h : ¬ Ascii x) : ∀ n, digitsV n x = none := by
  induction x with
  | nil => exact absurd (fun _ hc => by simp at hc) h
  | cons c r ih =>
    intro n
    simp only [digitsV]
    split
    · rfl
    · rename_i hc
      refine ih (fun h2 => h ?_) _
      intro d hd
      simp only [List.mem_cons] at hd
      rcases hd with rfl | hd
      · omega
      · exact h2 d hd
theorem numW_not {x : List UInt8} (h : ¬ Ascii x) : numW x = none := by
  unfold numW
  split
  · rfl
  · exact digitsV_not h 0
theorem litW_not {x : List UInt8} (h : ¬ Ascii x) : litW x = none := by
  unfold litW
  split
  · rename_i r
    have hr : ¬ Ascii r := fun h2 => h fun d hd => by
      simp only [List.mem_cons] at hd
      rcases hd with rfl | hd
      · decide
      · exact h2 d hd
    rw [numW_not hr]; rfl
  · rw [numW_not h]; rfl
theorem Like.num {x y : List UInt8} (h : Like x y) : numW x = numW y := by
  rcases h with rfl | ⟨h1, h2, _⟩
  · rfl
  · rw [numW_not h1, numW_not h2]
theorem Like.lit {x y : List UInt8} (h : Like x y) : litW x = litW y := by
  rcases h with rfl | ⟨h1, h2, _⟩
  · rfl
  · rw [litW_not h1, litW_not h2]
/-- A list of words that are like others. -/
def Likes : List (List UInt8) → List (List UInt8) → Prop
  | [], [] => True
  | x :: xs, y :: ys => Like x y ∧ Likes xs ys
  | _, _ => False
theorem Likes.snoc : ∀ {xs ys : List (List UInt8)} {x y : List UInt8}, Likes xs ys → Like x y → Likes (xs ++ [x]) (ys ++ [y])
  | [], [], _, _, _, h => ⟨h, trivial⟩
  | _ :: _, _ :: _, _, _, ⟨h1, h2⟩, h => ⟨h1, h2.snoc h⟩
theorem Likes.length : ∀ {xs ys : List (List UInt8)}, Likes xs ys → xs.length = ys.length
  | [], [], _ => rfl
  | _ :: _, _ :: _, ⟨_, h2⟩ => by simp [h2.length]

/-- A line's words are read. -/
def lineW (r : Rdr) (ws : List (List UInt8)) : Nat × Rdr := match ws with
  | [] => (0, r)
  | w :: ws => if w[0]? = some 99 then (0, r) else if r.head then wordsR r (w :: ws) else headR r (w :: ws)
theorem lineR_W (r : Rdr) (line : List UInt8) : lineR r line = lineW r (wordsB line) := by
  unfold lineR lineW
  cases wordsB line <;> rfl
theorem wordR_like (r : Rdr) {x y : List UInt8} (h : Like x y) : wordR r x = wordR r y := by unfold wordR; rw [h.lit]
theorem wordsR_likes : ∀ {xs ys : List (List UInt8)} (r : Rdr), Likes xs ys → wordsR r xs = wordsR r ys
  | [], [], _, _ => rfl
  | x :: xs, y :: ys, r, ⟨h1, h2⟩ => by
    simp only [wordsR]
    rw [wordR_like r h1]
    split
    · exact wordsR_likes _ h2
    · rfl
theorem headR_likes (r : Rdr) : ∀ {xs ys : List (List UInt8)}, Likes xs ys → headR r xs = headR r ys
  | [a, b, c, d], [a', b', c', d'], ⟨h1, h2, h3, h4, _⟩ => by
    simp only [headR]
    have e1 := h1.plain (z := [112]) (by intro c hc; simp at hc; subst hc; decide)
    have e2 := h2.plain (z := [99, 110, 102]) (by intro c hc; simp at hc; rcases hc with rfl | rfl | rfl <;> decide)
    simp only [e1, e2, h3.num, h4.num]
  | [], [], _ => rfl
  | [_], [_], _ => rfl
  | [_, _], [_, _], _ => rfl
  | [_, _, _], [_, _, _], _ => rfl
  | _ :: _ :: _ :: _ :: _ :: _, _ :: _ :: _ :: _ :: _ :: _, _ => rfl
  | [], _ :: _, h => h.elim
  | [_], _ :: _ :: _, h => h.2.elim
  | [_, _], _ :: _ :: _ :: _, h => h.2.2.elim
  | [_, _, _], _ :: _ :: _ :: _ :: _, h => h.2.2.2.elim
  | [_, _, _, _], _ :: _ :: _ :: _ :: _ :: _, h => h.2.2.2.2.elim
  | _ :: _, [], h => h.elim
  | _ :: _ :: _, [_], h => h.2.elim
  | _ :: _ :: _ :: _, [_, _], h => h.2.2.elim
  | _ :: _ :: _ :: _ :: _, [_, _, _], h => h.2.2.2.elim
  | _ :: _ :: _ :: _ :: _ :: _, [_, _, _, _], h => h.2.2.2.2.elim
theorem lineW_likes (r : Rdr) : ∀ {xs ys : List (List UInt8)}, Likes xs ys → lineW r xs = lineW r ys
  | [], [], _ => rfl
  | x :: xs, y :: ys, h => by
    simp only [lineW]
    rw [wordsR_likes r h, headR_likes r h]
    simp only [h.1.first]

/-! A rune is a plain byte, or bytes that aren't. -/
theorem get_data (s : ByteArray) (i : Nat) (h : i < s.size) : s.get! i = s.data.toList[i]'(by simpa using h) := by
  show s.get! i = _
  simp [ByteArray.get!, getElem!_pos, h]
theorem high_slice (s : ByteArray) (pos k : Nat) (hk : 0 < k) (hs : pos + k ≤ s.size) (h : ∀ j, j < k → 128 ≤ (s.get! (pos + j)).toNat) : High ((s.data.toList.drop pos).take k) := by
  have hl : s.data.toList.length = s.size := by simp
  refine ⟨fun e => by have := congrArg List.length e; rw [List.length_take, List.length_drop, hl] at this; simp at this; omega, ?_⟩
  intro c hc
  obtain ⟨j, hj, rfl⟩ := List.mem_iff_getElem.1 hc
  have hj2 : j < k := by rw [List.length_take] at hj; omega
  rw [List.getElem_take, List.getElem_drop]
  have := h j hj2
  rw [get_data s (pos + j) (by omega)] at this
  exact this
theorem decode_high (s : ByteArray) (pos : Nat) (h : pos < s.size) (hb : 128 ≤ (s.get! pos).toNat) :
    128 ≤ (Utf8.decode s pos).1 ∧ 0 < (Utf8.decode s pos).2 ∧ pos + (Utf8.decode s pos).2 ≤ s.size ∧ High ((s.data.toList.drop pos).take (Utf8.decode s pos).2) := by
  have one : High ((s.data.toList.drop pos).take 1) := high_slice s pos 1 (by omega) (by omega) (fun j hj => by have e : j = 0 := (by omega); subst e; exact hb)
  have e0 : s.get! (pos + 0) = s.get! pos := rfl
  unfold Utf8.decode
  simp only [e0]
  rw [if_neg (by omega)]
  split
  · rename_i h1
    simp only [Bool.and_eq_true, decide_eq_true_eq, beq_iff_eq] at h1
    split
    · refine ⟨by simpa using ‹_›, Nat.zero_lt_succ _, h1.2.1, high_slice s pos 2 (by omega) h1.2.1 fun j hj => ?_⟩
      match j, hj with
      | 0, _ => exact hb
      | 1, _ => omega
    · exact ⟨by decide, by decide, h, one⟩
  · split
    · rename_i h1
      simp only [Bool.and_eq_true, decide_eq_true_eq, beq_iff_eq] at h1
      split
      · rename_i h2
        simp only [Bool.and_eq_true, decide_eq_true_eq] at h2
        refine ⟨by simp only; omega, Nat.zero_lt_succ _, by simp only; omega, high_slice s pos 3 (by omega) (by omega) fun j hj => ?_⟩
        match j, hj with
        | 0, _ => exact hb
        | 1, _ => omega
        | 2, _ => omega
      · exact ⟨by decide, by decide, h, one⟩
    · split
      · rename_i h1
        simp only [Bool.and_eq_true, decide_eq_true_eq, beq_iff_eq] at h1
        split
        · rename_i h2
          simp only [Bool.and_eq_true, decide_eq_true_eq] at h2
          refine ⟨by simp only; omega, Nat.zero_lt_succ _, by simp only; omega, high_slice s pos 4 (by omega) (by omega) fun j hj => ?_⟩
          match j, hj with
          | 0, _ => exact hb
          | 1, _ => omega
          | 2, _ => omega
          | 3, _ => omega
        · exact ⟨by decide, by decide, h, one⟩
      · exact ⟨by decide, by decide, h, one⟩
theorem encode_high (r : Int) (h : 128 ≤ r) : High (Utf8.encode r).data.toList := by
  have key : ∀ n : Nat, n < 128 → 128 ≤ (UInt8.ofNat (128 + n)).toNat := by intro n hn; rw [UInt8.toNat_ofNat']; omega
  unfold Utf8.encode
  generalize hc : (if Utf8.valid r = true then r.toNat else Utf8.runeError) = c
  have hc2 : 128 ≤ c ∧ c < 1114112 := by
    rw [← hc]
    split
    · rename_i hv
      simp only [Utf8.valid, Bool.or_eq_true, Bool.and_eq_true, decide_eq_true_eq] at hv
      omega
    · exact ⟨by decide, by decide⟩
  simp only
  rw [if_neg (by omega)]
  split
  · refine ⟨by simp, fun d hd => ?_⟩
    simp only [List.mem_cons, List.not_mem_nil, or_false] at hd
    rcases hd with rfl | rfl
    · rw [show 0xC0 + c / 64 = 128 + (64 + c / 64) by omega]; exact key _ (by omega)
    · exact key _ (by omega)
  · split
    · refine ⟨by simp, fun d hd => ?_⟩
      simp only [List.mem_cons, List.not_mem_nil, or_false] at hd
      rcases hd with rfl | rfl | rfl
      · rw [show 0xE0 + c / 4096 = 128 + (96 + c / 4096) by omega]; exact key _ (by omega)
      · exact key _ (by omega)
      · exact key _ (by omega)
    · refine ⟨by simp, fun d hd => ?_⟩
      simp only [List.mem_cons, List.not_mem_nil, or_false] at hd
      rcases hd with rfl | rfl | rfl | rfl
      · rw [show 0xF0 + c / 262144 = 128 + (112 + c / 262144) by omega]; exact key _ (by omega)
      · exact key _ (by omega)
      · exact key _ (by omega)
      · exact key _ (by omega)
theorem encode_plain (c : UInt8) (h : c.toNat < 128) : (Utf8.encode (c.toNat : Int)).data.toList = [c] := by
  unfold Utf8.encode
  have hv : Utf8.valid (c.toNat : Int) = true := by
    simp only [Utf8.valid, Bool.or_eq_true, Bool.and_eq_true, decide_eq_true_eq]
    left; omega
  simp only [hv, if_true, Int.toNat_natCast]
  rw [if_pos (by omega)]
  simp
/-- The bytes of runes. -/
def runesL (rs : List Int) : List UInt8 := (runesBytes rs).data.toList
theorem runesL_nil : runesL [] = [] := rfl
theorem runesL_snoc (rs : List Int) (r : Int) : runesL (rs ++ [r]) = runesL rs ++ (Utf8.encode r).data.toList := by
  unfold runesL runesBytes
  rw [List.foldl_append]
  simp
/-- High bytes are taken to the word at hand. -/
theorem wfold_high (x : List UInt8) (h : High x) (out : List (List UInt8)) (a : List UInt8) : x.foldl wstep (out, a) = (out, a ++ x) :=
  wfold_word x (fun c hc => by
    have := h.2 c hc
    constructor
    · rintro rfl; rw [show (32 : UInt8).toNat = 32 from rfl] at this; omega
    · rintro rfl; rw [show (9 : UInt8).toNat = 9 from rfl] at this; omega) out a
end Go.Proofs.YtdbdilajjmijaaaGreatDoor
namespace Go.Proofs.YtdbdilajjmijaaaGreatDoor
open Go

/-! What a reader that has met no error holds. -/
structure Rdr.Good (r : Rdr) : Prop where
  fresh : r.head = false → r.cls = []
  cls : r.cls.length ≤ r.n ∨ r.head = false
  n : r.n ≤ 200000
  opn : r.opn.length ≤ r.lits
  lits : r.lits ≤ 1000000
theorem Rdr.Good.few {r : Rdr} (h : r.Good) : r.cls.length ≤ 200000 := by
  rcases h.cls with h1 | h1
  · have := h.n; omega
  · rw [h.fresh h1]; simp
theorem good0 : rdr0.Good := ⟨fun _ => rfl, .inr rfl, by decide, by decide, by decide⟩
theorem word_good {r : Rdr} {w : List UInt8} (h : r.Good) (hh : r.head = true) (h0 : (wordR r w).1 = 0) : (wordR r w).2.Good ∧ (wordR r w).2.head = true := by
  have hc : r.cls.length ≤ r.n := by
    rcases h.cls with h1 | h1
    · exact h1
    · rw [hh] at h1; cases h1
  unfold wordR at h0 ⊢
  cases hl : litW w with
  | none => rw [hl] at h0; simp at h0
  | some l =>
    rw [hl] at h0
    simp only at h0 ⊢
    split
    · rename_i h1; rw [if_pos h1] at h0; simp at h0
    · rename_i h1
      rw [if_neg h1] at h0
      split
      · rename_i h2; rw [if_pos h2] at h0; simp at h0
      · rename_i h2
        rw [if_neg h2] at h0
        split
        · refine ⟨⟨fun he => ?_, .inl ?_, h.n, by simp, h.lits⟩, hh⟩
          · simp only [hh] at he; cases he
          · simp only [List.length_append, List.length_singleton]; omega
        · rename_i h3
          rw [if_neg h3] at h0
          split
          · rename_i h4; rw [if_pos h4] at h0; simp at h0
          · refine ⟨⟨fun he => ?_, .inl hc, h.n, ?_, by simp only; omega⟩, hh⟩
            · simp only [hh] at he; cases he
            · have := h.opn; simp only [List.length_append, List.length_singleton]; omega
theorem head_good {r : Rdr} {ws : List (List UInt8)} (h : r.Good) (hh : r.head = false) (h0 : (headR r ws).1 = 0) : (headR r ws).2.Good := by
  unfold headR at h0 ⊢
  split
  · rename_i a b x y
    split
    · rename_i h1
      simp only [h1, and_self, if_true] at h0
      split
      · rename_i v n hv hn
        simp only [hv, hn] at h0
        split
        · rename_i h2; rw [if_pos h2] at h0; simp at h0
        · refine ⟨fun he => (by cases he), .inl ?_, by simp only; omega, h.opn, h.lits⟩
          simp only [h.fresh hh]; simp
      · rename_i hn
        exfalso
        revert h0
        split
        · rename_i v n hv hn'
          exact absurd hn' (hn v n hv)
        · simp
    · rename_i h1
      exact h
  · exact h
theorem words_good : ∀ (ws : List (List UInt8)) {r : Rdr}, r.Good → r.head = true → (wordsR r ws).1 = 0 → (wordsR r ws).2.Good
  | [], _, h, _, _ => h
  | w :: ws, r, h, hh, h0 => by
    simp only [wordsR] at h0 ⊢
    split
    · rename_i h1
      rw [if_pos h1] at h0
      obtain ⟨h2, h3⟩ := word_good h hh h1
      exact words_good ws h2 h3 h0
    · rename_i h1
      rw [if_neg h1] at h0
      exact absurd h0 h1
theorem line_good {r : Rdr} {x : List UInt8} (h : r.Good) (h0 : (lineR r x).1 = 0) : (lineR r x).2.Good := by
  rw [lineR_W] at h0 ⊢
  unfold lineW at h0 ⊢
  split
  · exact h
  · rename_i w ws hw
    rw [hw] at h0
    simp only at h0
    split
    · exact h
    · rename_i h1
      rw [if_neg h1] at h0
      cases hh : r.head with
      | true =>
        rw [hh, if_pos rfl] at h0
        rw [if_pos rfl]
        exact words_good _ h hh h0
      | false =>
        rw [hh, if_neg (by simp)] at h0
        rw [if_neg (by simp)]
        exact head_good h hh h0

end Go.Proofs.YtdbdilajjmijaaaGreatDoor
namespace Go.Proofs.YtdbdilajjmijaaaGreatDoor
open Go

/-! A wrong word behind a formula: no program in sight. -/
theorem linesR_append : ∀ (a b : List (List UInt8)) (i : Nat) (r : Rdr), linesR i r (a ++ b) = match linesR i r a with
    | .inl e => .inl e
    | .inr r' => linesR (i + a.length) r' b
  | [], b, i, r => by simp [linesR]
  | x :: a, b, i, r => by
    rw [List.cons_append, linesR, linesR]
    split
    · rw [linesR_append a b (i + 1) (lineR r x).2, List.length_cons, show i + 1 + a.length = i + (a.length + 1) by omega]
    · rfl
theorem lines_clauses (v : Nat) (hv : v ≤ 100000) (cs : List (List Int)) (i : Nat) (r : Rdr) (h1 : r.vars = v) (h2 : r.head = true) (h3 : r.opn = []) (h4 : r.cls.length + cs.length = r.n) (h5 : ∀ c ∈ cs, ∀ l ∈ c, l ≠ 0 ∧ max l (-l) ≤ v) (h6 : r.lits + (cs.map List.length).sum ≤ 1000000) :
    linesR i r (cs.map clauseT) = .inr { r with cls := r.cls ++ cs, lits := r.lits + (cs.map List.length).sum } := by
  have h := lines_form v hv cs i r h1 h2 h3 h4 h5 h6
  rw [linesR_append] at h
  cases hl : linesR i r (cs.map clauseT) with
  | inl e => rw [hl] at h; cases h
  | inr r' =>
    rw [hl] at h
    simp only [linesR, lineR, wordsB_nil, if_true] at h
    exact h
def remark : List UInt8 := [99, 32, 114, 101, 109, 97, 114, 107]
def remT (n : Nat) : List UInt8 := (List.replicate n (remark ++ [10])).flatten
theorem remT_succ (n : Nat) : remT (n + 1) = remT n ++ (remark ++ [10]) := by
  unfold remT
  rw [List.replicate_succ', List.flatten_append]; simp
theorem cut_rem (x : List UInt8) : ∀ n, cutC 10 (remT n ++ x) = List.replicate n remark ++ cutC 10 x
  | 0 => rfl
  | n + 1 => by
    unfold remT
    rw [List.replicate_succ, List.flatten_cons, List.append_assoc, List.append_assoc, List.singleton_append, cutC_append 10 _ _ (by decide), List.replicate_succ, List.cons_append]
    congr 1
    exact cut_rem x n
theorem lines_rem (r : Rdr) : ∀ (n i : Nat), linesR i r (List.replicate n remark) = .inr r
  | 0, _ => rfl
  | n + 1, i => by
    have h : lineR r remark = (0, r) := by
      have e : wordsB remark = [[99], [114, 101, 109, 97, 114, 107]] := by rfl
      unfold lineR
      rw [e]
      rfl
    rw [List.replicate_succ, linesR, h]
    simp only [if_true]
    exact lines_rem r n (i + 1)
theorem cut_clauses (cs : List (List Int)) (x : List UInt8) : cutC 10 ((cs.flatMap fun c => clauseT c ++ [10]) ++ x) = cs.map clauseT ++ cutC 10 x := by
  induction cs with
  | nil => rfl
  | cons c cs ih =>
    rw [List.flatMap_cons, List.append_assoc, List.append_assoc, List.singleton_append, cutC_append 10 _ _ (clauseT_nl c), ih]; rfl
def badW (q : Nat) : List UInt8 := match q with
  | 0 => [120]
  | 1 => [49, 32, 120]
  | 2 => [48, 48]
  | _ => [48]
def badC (q : Nat) : Nat := match q with
  | 0 => 3
  | 1 => 5
  | 2 => 3
  | _ => 5
theorem bad_line (r : Rdr) (h : r.cls.length = r.n) (hh : r.head = true) (q : Nat) (hq : q < 4) : (lineR r (badW q)).1 = badC q := by
  match q, hq with
  | 0, _ =>
    have e : wordsB (badW 0) = [[120]] := by rfl
    have e2 : litW [120] = none := by rfl
    unfold lineR
    rw [e]
    simp only
    rw [if_neg (by decide), if_pos hh]
    simp [wordsR, wordR, e2, badC]
  | 1, _ =>
    have e : wordsB (badW 1) = [[49], [120]] := by rfl
    have e2 : litW [49] = some 1 := by rfl
    unfold lineR
    rw [e]
    simp only
    rw [if_neg (by decide), if_pos hh]
    simp [wordsR, wordR, e2, badC, h]
  | 2, _ =>
    have e : wordsB (badW 2) = [[48, 48]] := by rfl
    have e2 : litW [48, 48] = none := by rfl
    unfold lineR
    rw [e]
    simp only
    rw [if_neg (by decide), if_pos hh]
    simp [wordsR, wordR, e2, badC]
  | 3, _ =>
    have e : wordsB (badW 3) = [[48]] := by rfl
    have e2 : litW [48] = some 0 := by rfl
    unfold lineR
    rw [e]
    simp only
    rw [if_neg (by decide), if_pos hh]
    simp [wordsR, wordR, e2, badC, h]
theorem parse_bad {V : Nat} {cs : List (List Int)} (h : FormR V cs) (n q : Nat) (hq : q < 4) : parseR (remT n ++ formT V cs ++ badW q ++ [10, 10]) = .inl (n + 1 + cs.length + 1, badC q) := by
  obtain ⟨h1, h2, h3, h4⟩ := h
  have hbn : (10 : UInt8) ∉ badW q := by
    match q, hq with
    | 0, _ => decide
    | 1, _ => decide
    | 2, _ => decide
    | 3, _ => decide
  have hc : cutC 10 (remT n ++ formT V cs ++ badW q ++ [10, 10]) = List.replicate n remark ++ ([headT V cs.length] ++ (cs.map clauseT ++ (badW q :: cutC 10 [10]))) := by
    rw [List.append_assoc, List.append_assoc, cut_rem]
    congr 1
    unfold formT
    rw [List.append_assoc, List.append_assoc, List.singleton_append, cutC_append 10 _ _ (headT_nl _ _), List.singleton_append]
    congr 1
    rw [cut_clauses]
    congr 1
    exact cutC_append 10 _ _ hbn
  unfold parseR
  rw [hc, linesR_append, lines_rem]
  simp only
  rw [linesR_append]
  have hhead : linesR (0 + (List.replicate n remark).length) rdr0 [headT V cs.length] = .inr { rdr0 with vars := V, n := cs.length, head := true } := by
    rw [linesR, line_head V cs.length h1 h2]
    simp [linesR]
  rw [hhead]
  simp only
  rw [linesR_append, lines_clauses V h1 cs _ _ rfl rfl rfl (by simp [rdr0]) h4 (by simp only [rdr0]; omega)]
  simp only
  have hb := bad_line { rdr0 with vars := V, n := cs.length, head := true, cls := rdr0.cls ++ cs, lits := rdr0.lits + (cs.map List.length).sum } (by simp [rdr0]) rfl q hq
  rw [linesR, if_neg (by rw [hb]; match q, hq with
    | 0, _ => decide
    | 1, _ => decide
    | 2, _ => decide
    | 3, _ => decide), hb]
  simp only [List.length_replicate, List.length_map, List.length_cons, List.length_nil, Nat.zero_add]
end Go.Proofs.YtdbdilajjmijaaaGreatDoor
namespace Go.Proofs.YtdbdilajjmijaaaGreatDoor
open Go

/-! A word's number, as the law reckons it: no program in sight. -/
theorem snoc_ind {α : Type} {p : List α → Prop} (h0 : p []) (h1 : ∀ l x, p l → p (l ++ [x])) (l : List α) : p l := by
  rw [← List.reverse_reverse l]
  induction l.reverse with
  | nil => exact h0
  | cons x r ih => rw [List.reverse_cons]; exact h1 _ _ ih
theorem dec_of_digits : ∀ (w : List UInt8), w ≠ [] → (1 < w.length → w[0]? ≠ some 48) → ∀ n, digitsV 0 w = some n → Lib.decDigits n = w := by
  intro w
  refine snoc_ind (p := fun w => w ≠ [] → (1 < w.length → w[0]? ≠ some 48) → ∀ n, digitsV 0 w = some n → Lib.decDigits n = w) (fun h => absurd rfl h) ?_ w
  intro v c ih _ hz n hn
  rw [digitsV_append] at hn
  cases hm : digitsV 0 v with
  | none => rw [hm] at hn; cases hn
  | some m =>
    rw [hm, Option.bind_some] at hn
    simp only [digitsV] at hn
    split at hn
    · cases hn
    · rename_i hc
      simp only [Option.some.injEq] at hn
      have hd : UInt8.ofNat (48 + (c.toNat - 48)) = c := by
        apply UInt8.toNat_inj.1
        rw [UInt8.toNat_ofNat']
        omega
      by_cases hv : v = []
      · subst hv
        simp only [digitsV, Option.some.injEq] at hm
        subst hm
        have e : n = c.toNat - 48 := by omega
        rw [Lib.decDigits, dif_pos (by omega), e, hd]; rfl
      · have hl := List.length_pos_iff.2 hv
        have hz1 : v[0]? ≠ some 48 := by
          have := hz (by simp; omega)
          rw [List.getElem?_append_left hl] at this
          exact this
        have h1 := ih hv (fun _ => hz1) m hm
        have hm0 : m ≠ 0 := by
          rintro rfl
          rw [Lib.decDigits, dif_pos (by decide)] at h1
          rw [← h1] at hz1
          exact hz1 rfl
        rw [Lib.decDigits, dif_neg (by omega), show n / 10 = m by omega, h1, show n % 10 = c.toNat - 48 by omega, hd]
theorem dec_long : ∀ (k u : Nat), 10 ^ k ≤ u → k + 1 ≤ (Lib.decDigits u).length
  | 0, u, _ => List.length_pos_iff.2 (decDigits_ne u)
  | k + 1, u, h => by
    have hp : 10 ^ (k + 1) = 10 ^ k * 10 := Nat.pow_succ _ _
    have hk : 0 < 10 ^ k := Nat.pow_pos (by decide)
    rw [Lib.decDigits, dif_neg (by omega)]
    have := dec_long k (u / 10) (by omega)
    simp; omega
def lawNum (w : List UInt8) : Option Nat := match Lib.atoiAll w with
  | .ok l => if 0 ≤ l ∧ w.length ≤ 9 ∧ Lib.itoa l = w then some l.toNat else none
  | _ => none
theorem lawNum_eq (w : List UInt8) : lawNum w = numW w := by
  cases hn : numW w with
  | some n =>
    have h := hn
    unfold numW at h
    split at h
    · cases h
    · rename_i hc
      have h0 : w ≠ [] := fun e => hc (.inl e)
      have h9 : w.length ≤ 9 := by
        rcases Nat.lt_or_ge 9 w.length with h9 | h9
        · exact absurd (.inr (.inl h9)) hc
        · exact h9
      have hz : 1 < w.length → w[0]? ≠ some 48 := fun h1 h2 => hc (.inr (.inr ⟨h1, h2⟩))
      have hd := dec_of_digits w h0 hz n h
      have hi : Lib.itoa (n : Int) = w := by unfold Lib.itoa; rw [if_neg (by omega), Int.toNat_natCast, hd]
      have hb : n < 1000000000 := by
        rcases Nat.lt_or_ge n 1000000000 with h1 | h1
        · exact h1
        · have := dec_long 9 n (by omega)
          rw [hd] at this
          omega
      have ha := atoi_itoa (n : Int) (by omega) (by omega)
      rw [hi] at ha
      unfold lawNum
      rw [ha]
      simp only
      rw [if_pos ⟨by omega, h9, hi⟩]
      simp
  | none =>
    unfold lawNum
    split
    · rename_i l hl
      split
      · rename_i h
        exfalso
        obtain ⟨h1, h2, h3⟩ := h
        have hi : Lib.itoa l = Lib.decDigits l.toNat := by unfold Lib.itoa; rw [if_neg (by omega)]
        rw [hi] at h3
        have hb : l.toNat < 1000000000 := by
          rcases Nat.lt_or_ge l.toNat 1000000000 with h4 | h4
          · exact h4
          · have := dec_long 9 l.toNat (by omega)
            rw [h3] at this
            omega
        have := numW_dec l.toNat hb
        rw [h3, hn] at this
        cases this
      · rfl
    · rfl
end Go.Proofs.YtdbdilajjmijaaaGreatDoor
namespace Go.Proofs.YtdbdilajjmijaaaGreatDoor
open Go

/-! A text of a header alone: no program in sight. -/
theorem line_head_any (v n : Nat) (hv : v < 200000) (hn : n < 400000) : lineR rdr0 (headT v n) = if 100000 < v ∨ 200000 < n then (8, rdr0) else (0, { rdr0 with vars := v, n := n, head := true }) := by
  unfold lineR
  rw [words_head]
  simp only
  rw [if_neg (by decide), if_neg (by decide)]
  unfold headR
  simp only [if_true, and_self]
  rw [itoa_nat v, itoa_nat n, numW_dec v (by omega), numW_dec n (by omega)]
theorem parse_head (v n : Nat) (hv : v < 200000) (hn : n < 400000) : parseR (headT v n ++ [10]) = if 100000 < v ∨ 200000 < n then .inl (1, 8) else if 0 < n then .inl (2, 6) else .inr { rdr0 with vars := v, n := n, head := true } := by
  have hc : cutC 10 (headT v n ++ [10]) = [headT v n, []] := by
    have := cutC_append 10 (headT v n) [] (headT_nl v n)
    simpa [cutC] using this
  unfold parseR
  rw [hc, linesR, line_head_any v n hv hn]
  by_cases h : 100000 < v ∨ 200000 < n
  · simp only [if_pos h]
    simp
  · simp only [if_neg h]
    have e : ∀ r : Rdr, lineR r [] = (0, r) := fun r => by unfold lineR; rw [wordsB_nil]
    simp only [if_true, linesR, e]
    by_cases h0 : 0 < n
    · simp [endR, rdr0, h0]
    · have : n = 0 := by omega
      subst this
      simp [endR, rdr0]
end Go.Proofs.YtdbdilajjmijaaaGreatDoor
namespace Go.Proofs.YtdbdilajjmijaaaGreatDoor
open Go

/-! Words with gaps of all kinds: no program in sight. -/
def gapT : Nat → List UInt8
  | 0 => [32]
  | 1 => [10]
  | 2 => [9]
  | 3 => [32, 32, 9, 32]
  | 4 => [10, 99, 99, 32, 49, 32, 50, 32, 48, 10]
  | _ => [10, 10]
def bodyT (gs : Nat → Nat) : Nat → List (List UInt8) → List UInt8
  | _, [] => []
  | k, w :: ws => w ++ gapT (gs k) ++ bodyT gs (k + 1) ws
theorem bodyT_append (gs : Nat → Nat) : ∀ (a b : List (List UInt8)) (k : Nat), bodyT gs k (a ++ b) = bodyT gs k a ++ bodyT gs (k + a.length) b
  | [], b, k => by simp [bodyT]
  | w :: a, b, k => by
    simp only [List.cons_append, bodyT, List.length_cons]
    rw [bodyT_append gs a b (k + 1), List.append_assoc, List.append_assoc, List.append_assoc, show k + 1 + a.length = k + (a.length + 1) by omega]
theorem bodyT_snoc (gs : Nat → Nat) (a : List (List UInt8)) (w : List UInt8) : bodyT gs 0 (a ++ [w]) = bodyT gs 0 a ++ (w ++ gapT (gs a.length)) := by
  rw [bodyT_append]
  simp [bodyT]
theorem wordsR_append : ∀ (a b : List (List UInt8)) (r r1 : Rdr), wordsR r a = (0, r1) → wordsR r (a ++ b) = wordsR r1 b
  | [], b, r, r1, h => by
    simp only [wordsR, Prod.mk.injEq, true_and] at h
    subst h; rfl
  | w :: a, b, r, r1, h => by
    simp only [wordsR] at h
    simp only [List.cons_append, wordsR]
    split at h
    · rename_i h1
      rw [if_pos h1]
      exact wordsR_append a b _ r1 h
    · rename_i h1
      rw [h] at h1
      exact absurd rfl h1
theorem wordsR_cons {w : List UInt8} {ws : List (List UInt8)} {r r2 : Rdr} (h : wordsR r (w :: ws) = (0, r2)) : wordsR r [w] = (0, (wordR r w).2) ∧ wordsR (wordR r w).2 ws = (0, r2) := by
  simp only [wordsR] at h ⊢
  split at h
  · rename_i h1
    rw [if_pos h1]
    exact ⟨rfl, h⟩
  · rename_i h1
    rw [h] at h1
    exact absurd rfl h1
theorem wordR_head (r : Rdr) (w : List UInt8) : (wordR r w).2.head = r.head := by
  unfold wordR
  repeat' split
  all_goals rfl
theorem line_words {r r1 : Rdr} {line : List UInt8} {ws : List (List UInt8)} (h : wordsB line = ws) (hh : r.head = true) (hc : ∀ w ∈ ws, w[0]? ≠ some 99) (hw : wordsR r ws = (0, r1)) : lineR r line = (0, r1) := by
  unfold lineR
  rw [h]
  cases ws with
  | nil => exact hw
  | cons w ws =>
    simp only
    rw [if_neg (hc w (by simp)), if_pos hh, hw]
theorem wfold_blanks : ∀ (g : List UInt8), (∀ c ∈ g, c = 32 ∨ c = 9) → ∀ out : List (List UInt8), g.foldl wstep (out, []) = (out, [])
  | [], _, _ => rfl
  | c :: g, h, out => by
    rw [List.foldl_cons, wfold_none out c (h c (by simp))]
    exact wfold_blanks g (fun x hx => h x (by simp [hx])) out
theorem wfold_gap (out : List (List UInt8)) (w g : List UInt8) (hg : g ≠ []) (h : ∀ c ∈ g, c = 32 ∨ c = 9) (hw : w ≠ []) : g.foldl wstep (out, w) = (out ++ [w], []) := by
  cases g with
  | nil => exact absurd rfl hg
  | cons c g =>
    rw [List.foldl_cons, wfold_blank out w c (h c (by simp)) hw]
    exact wfold_blanks g (fun x hx => h x (by simp [hx])) _
theorem words_pre {pre : List UInt8} {ws : List (List UInt8)} (h : pre.foldl wstep ([], []) = (ws, [])) : wordsB pre = ws := by
  unfold wordsB
  rw [List.foldl_append, h, List.foldl_cons, wfold_none _ _ (.inl rfl)]; rfl
theorem fold_word {pre w : List UInt8} {ws : List (List UInt8)} (h : pre.foldl wstep ([], []) = (ws, [])) (hw : Wordy w) : (pre ++ w).foldl wstep ([], []) = (ws, w) := by
  rw [List.foldl_append, h, wfold_word w hw.2]; simp
theorem words_pre_word {pre w : List UInt8} {ws : List (List UInt8)} (h : pre.foldl wstep ([], []) = (ws, [])) (hw : Wordy w) : wordsB (pre ++ w) = ws ++ [w] := by
  unfold wordsB
  rw [List.foldl_append, fold_word h hw, List.foldl_cons, wfold_blank _ _ _ (.inl rfl) hw.1]; rfl
theorem remark_line (r : Rdr) : lineR r [99, 99, 32, 49, 32, 50, 32, 48] = (0, r) := by
  have e : wordsB [99, 99, 32, 49, 32, 50, 32, 48] = [[99, 99], [49], [50], [48]] := by rfl
  unfold lineR
  rw [e]
  rfl
theorem empty_line (r : Rdr) : lineR r [] = (0, r) := by unfold lineR; rw [wordsB_nil]
theorem nl_not {pre w : List UInt8} (h1 : (10 : UInt8) ∉ pre) (h2 : (10 : UInt8) ∉ w) : (10 : UInt8) ∉ pre ++ w := by simp [h1, h2]

theorem lines_toks (gs : Nat → Nat) : ∀ (ts : List (List UInt8)) (k i : Nat) (r r1 r2 : Rdr) (pre : List UInt8) (ws : List (List UInt8)), (10 : UInt8) ∉ pre → pre.foldl wstep ([], []) = (ws, []) → r.head = true → r1.head = true → (∀ w ∈ ws, w[0]? ≠ some 99) → wordsR r ws = (0, r1) →
    (∀ t ∈ ts, Wordy t ∧ (10 : UInt8) ∉ t ∧ t[0]? ≠ some 99) → wordsR r1 ts = (0, r2) → linesR i r (cutC 10 (pre ++ bodyT gs k ts)) = .inr r2
  | [], k, i, r, r1, r2, pre, ws, hp, hf, hh, hh1, hc, hw, ht, h => by
    simp only [wordsR, Prod.mk.injEq, true_and] at h
    subst h
    have hcut : cutC 10 (pre ++ bodyT gs k []) = [pre] := by
      simp only [bodyT, List.append_nil]
      exact cutC_none 10 pre hp
    rw [hcut, linesR, line_words (words_pre hf) hh hc hw]
    simp [linesR]
  | t :: ts, k, i, r, r1, r2, pre, ws, hp, hf, hh, hh1, hc, hw, ht, h => by
    obtain ⟨h1, h2⟩ := wordsR_cons h
    obtain ⟨t1, t2, t3⟩ := ht t (by simp)
    have ht' : ∀ x ∈ ts, Wordy x ∧ (10 : UInt8) ∉ x ∧ x[0]? ≠ some 99 := fun x hx => ht x (by simp [hx])
    have hws : wordsR r (ws ++ [t]) = (0, (wordR r1 t).2) := (wordsR_append ws [t] r r1 hw).trans h1
    have hcs : ∀ w ∈ ws ++ [t], w[0]? ≠ some 99 := fun w hx => by
      rcases List.mem_append.1 hx with hx | hx
      · exact hc w hx
      · simp only [List.mem_singleton] at hx; subst hx; exact t3
    have hh2 : (wordR r1 t).2.head = true := (wordR_head r1 t).trans hh1
    have blank : ∀ g : List UInt8, g ≠ [] → (∀ c ∈ g, c = 32 ∨ c = 9) → linesR i r (cutC 10 (pre ++ (t ++ g ++ bodyT gs (k + 1) ts))) = .inr r2 := fun g hg hb => by
      have hn : (10 : UInt8) ∉ pre ++ t ++ g := nl_not (nl_not hp t2) (fun hx => by rcases hb 10 hx with h | h <;> exact absurd h (by decide))
      have hfold : (pre ++ t ++ g).foldl wstep ([], []) = (ws ++ [t], []) := by
        rw [List.foldl_append, fold_word hf t1, wfold_gap ws t g hg hb t1.1]
      have := lines_toks gs ts (k + 1) i r _ r2 (pre ++ t ++ g) (ws ++ [t]) hn hfold hh hh2 hcs hws ht' h2
      simpa only [List.append_assoc] using this
    have first : ∀ rest : List UInt8, linesR i r (cutC 10 (pre ++ (t ++ 10 :: rest))) = linesR (i + 1) (wordR r1 t).2 (cutC 10 rest) := fun rest => by
      rw [← List.append_assoc, cutC_append 10 _ _ (nl_not hp t2), linesR, line_words (words_pre_word hf t1) hh hcs hws]
      simp only [if_true]
    have next := fun j => lines_toks gs ts (k + 1) j (wordR r1 t).2 (wordR r1 t).2 r2 [] [] (by simp) rfl hh2 hh2 (by simp) rfl ht' h2
    simp only [List.nil_append] at next
    rw [bodyT]
    generalize gs k = q
    unfold gapT
    split
    · exact blank [32] (by simp) (by simp)
    · rw [List.append_assoc, List.singleton_append, first]; exact next _
    · exact blank [9] (by simp) (by simp)
    · exact blank [32, 32, 9, 32] (by simp) (by simp)
    · rw [List.append_assoc, List.cons_append, first]
      have hcut : cutC 10 ([99, 99, 32, 49, 32, 50, 32, 48, 10] ++ bodyT gs (k + 1) ts) = [99, 99, 32, 49, 32, 50, 32, 48] :: cutC 10 (bodyT gs (k + 1) ts) := cutC_append 10 [99, 99, 32, 49, 32, 50, 32, 48] (bodyT gs (k + 1) ts) (by decide)
      rw [hcut, linesR, remark_line]
      simp only [if_true]
      exact next _
    · rw [List.append_assoc, List.cons_append, first]
      have hcut : cutC 10 ([10] ++ bodyT gs (k + 1) ts) = [] :: cutC 10 (bodyT gs (k + 1) ts) := cutC_append 10 [] (bodyT gs (k + 1) ts) (by simp)
      rw [hcut, linesR, empty_line]
      simp only [if_true]
      exact next _

def wordsOf (cs : List (List Int)) : List (List UInt8) := cs.flatMap fun c => c.map Lib.itoa ++ [[48]]
theorem words_form (v : Nat) (hv : v ≤ 100000) : ∀ (cs : List (List Int)) (r : Rdr), r.vars = v → r.opn = [] → r.cls.length + cs.length = r.n → (∀ c ∈ cs, ∀ l ∈ c, l ≠ 0 ∧ max l (-l) ≤ v) → r.lits + (cs.map List.length).sum ≤ 1000000 →
    wordsR r (wordsOf cs) = (0, { r with cls := r.cls ++ cs, lits := r.lits + (cs.map List.length).sum })
  | [], r, _, _, _, _, _ => by simp [wordsOf, wordsR]
  | c :: cs, r, hr, ho, hn, hl, hs => by
    simp only [List.map_cons, List.sum_cons, List.length_cons] at hs hn
    have h := wordsR_lits v hv c r hr (by omega) (hl c (by simp)) (by omega)
    rw [ho, List.nil_append] at h
    have h2 := words_form v hv cs { r with cls := r.cls ++ [c], opn := [], lits := r.lits + c.length } hr rfl (by simp; omega) (fun x hx => hl x (by simp [hx])) (by simp only; omega)
    unfold wordsOf at h2 ⊢
    rw [List.flatMap_cons, wordsR_append _ _ _ _ h, h2]
    simp only [List.append_assoc, List.singleton_append, List.map_cons, List.sum_cons, Nat.add_assoc]
    congr 2
    rw [ho]
def headB (v n : Nat) : List UInt8 := [32, 32, 112, 32, 99, 110, 102, 32] ++ Lib.itoa v ++ [9] ++ Lib.itoa n ++ [32]
theorem words_headB (v n : Nat) : wordsB (headB v n) = [[112], [99, 110, 102], Lib.itoa v, Lib.itoa n] := by
  refine words_pre ?_
  unfold headB
  rw [List.foldl_append, List.foldl_append, List.foldl_append, List.foldl_append]
  rw [show ([32, 32, 112, 32, 99, 110, 102, 32] : List UInt8).foldl wstep ([], []) = ([[112], [99, 110, 102]], []) by rfl]
  rw [wfold_word (Lib.itoa (v : Int)) (itoa_wordy _).2, List.nil_append, wfold_gap _ _ [9] (by simp) (by simp) (itoa_wordy (v : Int)).1, wfold_word (Lib.itoa (n : Int)) (itoa_wordy _).2, List.nil_append, wfold_gap _ _ [32] (by simp) (by simp) (itoa_wordy (n : Int)).1]
  simp
theorem headB_nl (v n : Nat) : (10 : UInt8) ∉ headB v n := by
  unfold headB
  simp only [List.mem_append, List.mem_cons, List.not_mem_nil, or_false]
  rintro ((((h | h) | h) | h) | h)
  · rcases h with h | h | h | h | h | h | h | h <;> exact absurd h (by decide)
  · exact itoa_nl _ h
  · exact absurd h (by decide)
  · exact itoa_nl _ h
  · exact absurd h (by decide)
def startT : List UInt8 := [99, 32, 102, 105, 114, 115, 116, 10, 10]
/-- What DimacsBlanks hands to Parse. -/
def blankT (gs : Nat → Nat) (v : Nat) (cs : List (List Int)) : List UInt8 := startT ++ headB v cs.length ++ [10] ++ bodyT gs 0 (wordsOf cs)
theorem parse_blank (gs : Nat → Nat) {v : Nat} {cs : List (List Int)} (h : FormR v cs) : parseR (blankT gs v cs) = .inr ⟨v, cs, cs.length, (cs.map List.length).sum, [], true⟩ := by
  obtain ⟨h1, h2, h3, h4⟩ := h
  have hcut : cutC 10 (blankT gs v cs) = [99, 32, 102, 105, 114, 115, 116] :: [] :: headB v cs.length :: cutC 10 (bodyT gs 0 (wordsOf cs)) := by
    unfold blankT startT
    have e : ([99, 32, 102, 105, 114, 115, 116, 10, 10] ++ headB v cs.length ++ [10] ++ bodyT gs 0 (wordsOf cs) : List UInt8) = [99, 32, 102, 105, 114, 115, 116] ++ 10 :: ([] ++ 10 :: (headB v cs.length ++ 10 :: bodyT gs 0 (wordsOf cs))) := by simp
    rw [e, cutC_append 10 _ _ (by decide), cutC_append 10 _ _ (by simp), cutC_append 10 _ _ (headB_nl _ _)]
  have hrem : lineR rdr0 [99, 32, 102, 105, 114, 115, 116] = (0, rdr0) := by
    have e : wordsB [99, 32, 102, 105, 114, 115, 116] = [[99], [102, 105, 114, 115, 116]] := by rfl
    unfold lineR
    rw [e]
    rfl
  have hhead : lineR rdr0 (headB v cs.length) = (0, { rdr0 with vars := v, n := cs.length, head := true }) := by
    rw [← line_head v cs.length h1 h2]
    unfold lineR
    rw [words_headB, words_head]
  have hw := words_form v h1 cs { rdr0 with vars := v, n := cs.length, head := true } rfl rfl (by simp [rdr0]) h4 (by simp only [rdr0]; omega)
  have hall : ∀ t ∈ wordsOf cs, Wordy t ∧ (10 : UInt8) ∉ t ∧ t[0]? ≠ some 99 := fun t ht => by
    unfold wordsOf at ht
    simp only [List.mem_flatMap, List.mem_append, List.mem_map, List.mem_singleton] at ht
    obtain ⟨c, _, ⟨l, _, rfl⟩ | rfl⟩ := ht
    · refine ⟨itoa_wordy l, itoa_nl l, fun h => ?_⟩
      have := itoa_bytes l 99 (List.mem_of_getElem? h)
      unfold Digit at this
      rw [show (99 : UInt8).toNat = 99 from rfl] at this
      omega
    · exact ⟨⟨by simp, fun c hc => by simp at hc; subst hc; decide⟩, by decide, by decide⟩
  have hbody := lines_toks gs (wordsOf cs) 0 3 { rdr0 with vars := v, n := cs.length, head := true } { rdr0 with vars := v, n := cs.length, head := true } _ [] [] (by simp) rfl rfl rfl (by simp) rfl hall hw
  simp only [List.nil_append] at hbody
  have e : linesR 0 rdr0 (cutC 10 (blankT gs v cs)) = .inr ⟨v, cs, cs.length, (cs.map List.length).sum, [], true⟩ := by
    rw [hcut, linesR, hrem]
    simp only [if_true]
    rw [linesR, empty_line]
    simp only [if_true]
    rw [linesR, hhead]
    simp only [if_true]
    rw [hbody]
    simp [rdr0]
  unfold parseR
  rw [e]
  simp [endR]
theorem gapT_len (q : Nat) : (gapT q).length ≤ 10 := by
  unfold gapT
  split <;> simp
theorem bodyT_len (gs : Nat → Nat) (B : Nat) : ∀ (ws : List (List UInt8)) (k : Nat), (∀ w ∈ ws, w.length ≤ B) → (bodyT gs k ws).length ≤ ws.length * (B + 10)
  | [], k, _ => by simp [bodyT]
  | w :: ws, k, h => by
    have h1 := bodyT_len gs B ws (k + 1) (fun x hx => h x (by simp [hx]))
    have h2 := h w (by simp)
    have h3 := gapT_len (gs k)
    simp only [bodyT, List.length_append, List.length_cons, Nat.add_mul, Nat.one_mul]
    omega
end Go.Proofs.YtdbdilajjmijaaaGreatDoor
