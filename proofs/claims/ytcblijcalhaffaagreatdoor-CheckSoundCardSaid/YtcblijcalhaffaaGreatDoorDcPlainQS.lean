import Derived.Lib.AtoiAll
import Derived.Lib.ItoaNum
import Derived.Lib.Split
import Derived.Lib.Strings
namespace Go.Proofs.YtcblijcalhaffaaGreatDoor
open Go

/-! Numerals, and texts that are cut: no program in sight. -/

theorem digit_ok (d : Nat) (h : d < 10) : 48 ≤ (UInt8.ofNat (48 + d)).toNat ∧ (UInt8.ofNat (48 + d)).toNat ≤ 57 ∧ (UInt8.ofNat (48 + d)).toNat - 48 = d := by
  rw [UInt8.toNat_ofNat']
  omega

def Digit (c : UInt8) : Prop := 48 ≤ c.toNat ∧ c.toNat ≤ 57
theorem decDigits_all (u : Nat) : ∀ c ∈ Lib.decDigits u, Digit c := by
  induction u using Nat.strongRecOn with
  | _ u ih =>
    intro c hc
    rw [Lib.decDigits] at hc
    split at hc
    · rename_i h
      simp only [List.mem_singleton] at hc
      subst hc
      have := digit_ok u h
      exact ⟨this.1, this.2.1⟩
    · rename_i h
      simp only [List.mem_append, List.mem_singleton] at hc
      rcases hc with hc | rfl
      · exact ih (u / 10) (by omega) c hc
      · have := digit_ok (u % 10) (by omega)
        exact ⟨this.1, this.2.1⟩
theorem decDigits_ne (u : Nat) : Lib.decDigits u ≠ [] := by
  rw [Lib.decDigits]
  split <;> simp

theorem parseUint10_append (xs ys : List UInt8) : ∀ (acc : Nat), Lib.parseUint10 acc (xs ++ ys) = match Lib.parseUint10 acc xs with | .ok a => Lib.parseUint10 a ys | .syntax => .syntax | .range => .range := by
  induction xs with
  | nil => intro acc; rfl
  | cons c r ih =>
    intro acc
    simp only [List.cons_append, Lib.parseUint10]
    split
    · split
      · rfl
      · split
        · rfl
        · exact ih _
    · rfl

theorem parseUint10_dec (u : Nat) : u < 1000000000000000000 → Lib.parseUint10 0 (Lib.decDigits u) = .ok u := by
  induction u using Nat.strongRecOn with
  | _ u ih =>
    intro hu
    rw [Lib.decDigits]
    split
    · rename_i h
      have := digit_ok u h
      simp only [Lib.parseUint10]
      rw [if_pos ⟨this.1, this.2.1⟩, if_neg (by omega), if_neg (by omega)]
      simp only [Lib.NumEnd.ok.injEq]
      omega
    · rename_i h
      rw [parseUint10_append, ih (u / 10) (by omega) (by omega)]
      have := digit_ok (u % 10) (by omega)
      simp only [Lib.parseUint10]
      rw [if_pos ⟨this.1, this.2.1⟩, if_neg (by omega), if_neg (by omega)]
      simp only [Lib.NumEnd.ok.injEq]
      omega

theorem atoi_itoa (n : Int) (h0 : -1000000000000000000 < n) (h1 : n < 1000000000000000000) : Lib.atoiAll (Lib.itoa n) = .ok n := by
  unfold Lib.itoa
  split
  · rename_i h
    unfold Lib.atoiAll
    have hp : Lib.parseMag (Lib.decDigits n.natAbs) = .ok n.natAbs := by
      unfold Lib.parseMag
      rw [if_neg (decDigits_ne _)]
      exact parseUint10_dec _ (by omega)
    simp only [show ((45 : UInt8).toNat = 43 ∨ (45 : UInt8).toNat = 45) from Or.inr rfl, if_true, hp]
    rw [if_neg (by simp), if_neg (by omega)]
    simp only [show ((45 : UInt8).toNat = 45) from rfl, if_true, Lib.NumEnd.ok.injEq]
    omega
  · rename_i h
    obtain ⟨u, rfl⟩ : ∃ u : Nat, n = u := ⟨n.toNat, by omega⟩
    rw [Int.toNat_natCast]
    have hp := parseUint10_dec u (by omega)
    have hd := decDigits_all u
    have hne := decDigits_ne u
    generalize Lib.decDigits u = l at *
    cases l with
    | nil => exact absurd rfl hne
    | cons c r =>
      have hc := hd c (by simp)
      unfold Digit at hc
      unfold Lib.atoiAll
      have hm : Lib.parseMag (c :: r) = .ok u := by
        unfold Lib.parseMag
        rw [if_neg (by simp)]; exact hp
      simp only
      rw [if_neg (by omega), hm]
      simp only
      rw [if_neg (by omega), if_neg (by omega), if_neg (by omega)]

/-- A numeral has no blank, no line's end. -/
theorem itoa_bytes (n : Int) : ∀ c ∈ Lib.itoa n, c.toNat = 45 ∨ Digit c := by
  intro c hc
  unfold Lib.itoa at hc
  split at hc
  · simp only [List.mem_cons] at hc
    rcases hc with rfl | hc
    · left; rfl
    · exact .inr (decDigits_all _ c hc)
  · exact .inr (decDigits_all _ c hc)
theorem itoa_ne (n : Int) : Lib.itoa n ≠ [] := by
  unfold Lib.itoa
  split
  · simp
  · exact decDigits_ne _

/-- A text cut at each byte c. -/
def cutC (c : UInt8) : List UInt8 → List (List UInt8)
  | [] => [[]]
  | b :: r => if b = c then [] :: cutC c r else
    match cutC c r with
    | [] => [[b]]
    | x :: xs => (b :: x) :: xs

theorem cutC_ne (c : UInt8) (l : List UInt8) : cutC c l ≠ [] := by
  cases l with
  | nil => simp [cutC]
  | cons b r => simp only [cutC]; split; · simp
                split <;> simp

theorem cutC_none (c : UInt8) (l : List UInt8) (h : c ∉ l) : cutC c l = [l] := by
  induction l with
  | nil => rfl
  | cons b r ih =>
    simp only [List.mem_cons, not_or] at h
    simp only [cutC]
    rw [if_neg (Ne.symm h.1), ih h.2]

theorem cutC_append (c : UInt8) (l r : List UInt8) (h : c ∉ l) : cutC c (l ++ c :: r) = l :: cutC c r := by
  induction l with
  | nil => simp [cutC]
  | cons b t ih =>
    simp only [List.mem_cons, not_or] at h
    simp only [List.cons_append, cutC]
    rw [if_neg (Ne.symm h.1), ih h.2]

theorem index_one (c : UInt8) (s : List UInt8) : (Lib.index s [c] = -1 ∧ c ∉ s) ∨ ∃ a r, s = a ++ c :: r ∧ c ∉ a ∧ Lib.index s [c] = (a.length : Int) := by
  induction s with
  | nil => left; exact ⟨rfl, by simp⟩
  | cons b l ih =>
    by_cases hb : b = c
    · subst hb
      right
      exact ⟨[], l, rfl, by simp, by simp [Lib.index]⟩
    · have hp : ([c] : List UInt8).isPrefixOf (b :: l) = false := by simp [List.isPrefixOf, Ne.symm hb]
      rcases ih with ⟨h1, h2⟩ | ⟨a, r, rfl, h2, h3⟩
      · left
        refine ⟨?_, by simp [h2, Ne.symm hb]⟩
        rw [Lib.index, hp, h1]; rfl
      · right
        refine ⟨b :: a, r, rfl, by simp [h2, Ne.symm hb], ?_⟩
        rw [Lib.index, hp, h3]
        simp only [Bool.false_eq_true, if_false, List.length_cons]
        rw [if_neg (by rw [beq_iff_eq]; omega)]
        omega

/-- strings.Split at one byte. -/
theorem split_one (c : UInt8) (s : List UInt8) : Lib.split s [c] = cutC c s := by
  have key : ∀ (n : Nat) (s : List UInt8), s.length ≤ n → Lib.split s [c] = cutC c s := by
    intro n
    induction n with
    | zero =>
      intro s hs
      obtain rfl : s = [] := List.length_eq_zero_iff.1 (by omega)
      rfl
    | succ n ih =>
      intro s hs
      rcases index_one c s with ⟨h1, h2⟩ | ⟨a, r, rfl, h2, h3⟩
      · unfold Lib.split
        rw [Lib.count_miss h1, cutC_none c s h2]; rfl
      · have hr : r.length ≤ n := by simp at hs; omega
        have hd : (a ++ c :: r).drop (a.length + 1) = r := by simp
        have ht : (a ++ c :: r).take a.length = a := by simp
        unfold Lib.split
        rw [Lib.count_hit (by simp) h3, show ([c] : List UInt8).length = 1 from rfl, hd, Nat.add_comm 1, Lib.splitK, if_neg (by rw [h3, beq_iff_eq]; omega), h3, Int.toNat_natCast, Nat.add_zero, ht]
        rw [show ([c] : List UInt8).length = 1 from rfl, hd, cutC_append c a r h2]
        congr 1
        exact ih r hr
  exact key s.length s (Nat.le_refl _)

/-! Proofs, as plain data. -/

/-- A step. -/
structure PStep where
  del : Bool
  lits : List Int

def RightL (l : Int) : Prop := l ≠ 0 ∧ l ≤ 100000 ∧ -100000 ≤ l
def RightP (p : List PStep) : Prop := ∀ s ∈ p, ∀ l ∈ s.lits, RightL l

def litsT (ls : List Int) : List UInt8 := ls.flatMap fun l => Lib.itoa l ++ [32]
/-- A step's line, but for its end. -/
def lineT (s : PStep) : List UInt8 := (if s.del then [100, 32] else []) ++ litsT s.lits ++ [48]
def textT (p : List PStep) : List UInt8 := p.flatMap fun s => lineT s ++ [10]

theorem lineT_nl (s : PStep) : (10 : UInt8) ∉ lineT s := by
  unfold lineT litsT
  simp only [List.mem_append, not_or, List.mem_flatMap, not_exists, not_and]
  refine ⟨⟨by split <;> decide, fun l _ => ⟨fun h => ?_, by decide⟩⟩, by decide⟩
  rcases itoa_bytes l _ h with h | h
  · simp at h
  · unfold Digit at h; simp at h

theorem cut_text (p : List PStep) : cutC 10 (textT p) = p.map lineT ++ [[]] := by
  unfold textT
  induction p with
  | nil => rfl
  | cons s p ih =>
    rw [List.flatMap_cons, List.append_assoc, List.singleton_append, cutC_append 10 _ _ (lineT_nl s), ih]
    rfl

theorem itoa_blank (l : Int) : (32 : UInt8) ∉ Lib.itoa l := by
  intro h
  rcases itoa_bytes l _ h with h | h
  · simp at h
  · unfold Digit at h; simp at h

theorem cut_lits (ls : List Int) : cutC 32 (litsT ls ++ [48]) = ls.map Lib.itoa ++ [[48]] := by
  unfold litsT
  induction ls with
  | nil => rfl
  | cons l ls ih =>
    rw [List.flatMap_cons, List.append_assoc, List.append_assoc, List.singleton_append, cutC_append 32 _ _ (itoa_blank l), ih]
    rfl

/-- One word of a line: its literal. -/
def wordP (w : List UInt8) : Option Int := match Lib.atoiAll w with
  | .ok l => if l ≠ 0 ∧ l ≤ 100000 ∧ -100000 ≤ l then some l else none
  | _ => none
def wordsP : List (List UInt8) → Option (List Int)
  | [] => some []
  | w :: ws => match wordP w with
    | none => none
    | some l => match wordsP ws with
      | none => none
      | some ls => some (l :: ls)
/-- A line's step. -/
def lineQ (d : Bool) (w : List (List UInt8)) : Option PStep := match wordsP w.dropLast with
  | none => none
  | some ls => if w.getLast? = some [48] then some ⟨d, ls⟩ else none
def lineP (x : List UInt8) : Option PStep := lineQ (Lib.hasPrefix x [100, 32]) (cutC 32 (if Lib.hasPrefix x [100, 32] then x.drop 2 else x))
def linesP : List (List UInt8) → Option (List PStep)
  | [] => some []
  | x :: xs => match lineP x with
    | none => none
    | some s => match linesP xs with
      | none => none
      | some p => some (s :: p)
/-- A text's proof. -/
def parseT (s : List UInt8) : Option (List PStep) := match linesP (cutC 10 s).dropLast with
  | none => none
  | some p => if textT p = s then some p else none

theorem wordP_itoa {l : Int} (h : RightL l) : wordP (Lib.itoa l) = some l := by
  unfold RightL at h
  unfold wordP
  rw [atoi_itoa l (by omega) (by omega)]
  simp only
  rw [if_pos h]
theorem wordsP_itoa {ls : List Int} (h : ∀ l ∈ ls, RightL l) : wordsP (ls.map Lib.itoa) = some ls := by
  induction ls with
  | nil => rfl
  | cons l ls ih =>
    simp only [List.map_cons, wordsP, wordP_itoa (h l (by simp)), ih (fun x hx => h x (by simp [hx]))]
theorem wordsP_right : ∀ (ws : List (List UInt8)) {ls : List Int}, wordsP ws = some ls → ∀ l ∈ ls, RightL l
  | [], ls, h, l, hl => by simp only [wordsP, Option.some.injEq] at h; subst h; simp at hl
  | w :: ws, ls, h, l, hl => by
    simp only [wordsP] at h
    cases hw : wordP w with
    | none => rw [hw] at h; simp at h
    | some x =>
      rw [hw] at h
      cases hs : wordsP ws with
      | none => rw [hs] at h; simp at h
      | some xs =>
        rw [hs] at h
        simp only [Option.some.injEq] at h
        subst h
        simp only [List.mem_cons] at hl
        rcases hl with rfl | hl
        · unfold wordP at hw
          split at hw
          · split at hw
            · rename_i hr
              simp only [Option.some.injEq] at hw
              subst hw; exact hr
            · simp at hw
          · simp at hw
        · exact wordsP_right ws hs l hl

theorem no_d (ls : List Int) : Lib.hasPrefix (litsT ls ++ [48]) [100, 32] = false := by
  unfold Lib.hasPrefix
  cases ls with
  | nil => decide
  | cons l ls =>
    unfold litsT
    rw [List.flatMap_cons, List.append_assoc, List.append_assoc]
    have hne := itoa_ne l
    have hb := itoa_bytes l
    generalize Lib.itoa l = x at *
    cases x with
    | nil => exact absurd rfl hne
    | cons c r =>
      have := hb c (by simp)
      unfold Digit at this
      simp only [List.cons_append, List.isPrefixOf, Bool.and_eq_false_imp, beq_iff_eq]
      intro h
      subst h
      simp at this

theorem lineP_lineT {s : PStep} (h : ∀ l ∈ s.lits, RightL l) : lineP (lineT s) = some s := by
  obtain ⟨d, ls⟩ := s
  unfold lineP lineT
  cases d with
  | false =>
    simp only [Bool.false_eq_true, if_false, List.nil_append, no_d]
    unfold lineQ
    rw [cut_lits, List.dropLast_concat, wordsP_itoa h]
    simp
  | true =>
    have hp : Lib.hasPrefix (([100, 32] : List UInt8) ++ litsT ls ++ [48]) [100, 32] = true := by
      unfold Lib.hasPrefix; rw [List.append_assoc]; simp
    simp only [if_true, hp]
    have hd : List.drop 2 (([100, 32] : List UInt8) ++ litsT ls ++ [48]) = litsT ls ++ [48] := rfl
    rw [hd]
    unfold lineQ
    rw [cut_lits, List.dropLast_concat, wordsP_itoa h]
    simp

theorem linesP_text {p : List PStep} (h : RightP p) : linesP (p.map lineT) = some p := by
  induction p with
  | nil => rfl
  | cons s p ih => simp only [List.map_cons, linesP, lineP_lineT (h s (by simp)), ih (fun x hx => h x (by simp [hx]))]

theorem parseT_textT {p : List PStep} (h : RightP p) : parseT (textT p) = some p := by
  unfold parseT
  rw [cut_text, List.dropLast_concat, linesP_text h]
  simp

theorem lineP_right {x : List UInt8} {s : PStep} (h : lineP x = some s) : ∀ l ∈ s.lits, RightL l := by
  unfold lineP lineQ at h
  generalize cutC 32 _ = w at h
  split at h
  · simp at h
  · rename_i ls hw
    split at h
    · simp only [Option.some.injEq] at h
      subst h
      exact wordsP_right _ hw
    · simp at h
theorem linesP_right : ∀ (xs : List (List UInt8)) {p : List PStep}, linesP xs = some p → RightP p
  | [], p, h => by simp only [linesP, Option.some.injEq] at h; subst h; intro s hs; simp at hs
  | x :: xs, p, h => by
    simp only [linesP] at h
    cases hx : lineP x with
    | none => rw [hx] at h; simp at h
    | some s =>
      rw [hx] at h
      cases hs : linesP xs with
      | none => rw [hs] at h; simp at h
      | some q =>
        rw [hs] at h
        simp only [Option.some.injEq] at h
        subst h
        intro y hy
        simp only [List.mem_cons] at hy
        rcases hy with rfl | hy
        · exact lineP_right hx
        · exact linesP_right xs hs y hy
theorem parseT_sound {s : List UInt8} {p : List PStep} (h : parseT s = some p) : RightP p ∧ textT p = s := by
  unfold parseT at h
  split at h
  · simp at h
  · rename_i q hq
    split at h
    · rename_i ht
      simp only [Option.some.injEq] at h
      subst h
      exact ⟨linesP_right _ hq, ht⟩
    · simp at h

theorem textT_append (p q : List PStep) : textT (p ++ q) = textT p ++ textT q := by unfold textT; rw [List.flatMap_append]

end Go.Proofs.YtcblijcalhaffaaGreatDoor
namespace Go.Proofs.YtcblijcalhaffaaGreatDoor
open Go

/-! A proof's bytes. -/

/-- A literal's number. -/
def numL (l : Int) : Nat := if l < 0 then (-2 * l + 1).toNat else (2 * l).toNat
/-- A number in groups of seven bits. -/
def encN (n : Nat) : List UInt8 :=
  if h : n < 128 then [UInt8.ofNat n] else UInt8.ofNat (n % 128 + 128) :: encN (n / 128)
termination_by n
decreasing_by omega
def stepB (s : PStep) : List UInt8 := (if s.del then 100 else 97) :: (s.lits.flatMap fun l => encN (numL l)) ++ [0]
def binT (p : List PStep) : List UInt8 := p.flatMap stepB

/-- How a part is read. -/
inductive Got (α : Type) where
  | ok (v : α) (rest : List UInt8)
  | form
  | short

/-- The literal of a number. -/
def atN (n : Nat) : Int := if n % 2 = 1 then -((n / 2 : Nat) : Int) else ((n / 2 : Nat) : Int)
/-- A last byte: the number is whole. -/
def endP (n : Nat) (c : UInt8) (r : List UInt8) : Got Int := if n > 200001 then .form else if c = 0 ∨ n < 2 then .form else .ok (atN n) r
/-- The next literal. -/
def litP : List UInt8 → Got Int
  | [] => .short
  | c0 :: r0 =>
    if c0.toNat < 128 then endP c0.toNat c0 r0 else
    match r0 with
    | [] => .short
    | c1 :: r1 =>
      if c1.toNat < 128 then endP (c0.toNat % 128 + 128 * c1.toNat) c1 r1 else
      match r1 with
      | [] => .short
      | c2 :: r2 =>
        if c2.toNat < 128 then endP (c0.toNat % 128 + 128 * (c1.toNat % 128) + 16384 * c2.toNat) c2 r2 else .form

/-- The literals up to a step's end. -/
def litsP : Nat → List UInt8 → Got (List Int)
  | 0, _ => .short
  | f + 1, b => match b with
    | [] => .short
    | c :: r => if c = 0 then .ok [] r else
      match litP (c :: r) with
      | .form => .form
      | .short => .short
      | .ok l rest => match litsP f rest with
        | .form => .form
        | .short => .short
        | .ok ls q => .ok (l :: ls) q

/-- The next step. -/
def stepP (b : List UInt8) : Got PStep := match b with
  | [] => .short
  | c :: r => if c = 97 ∨ c = 100 then
      match litsP (r.length + 1) r with
      | .form => .form
      | .short => .short
      | .ok ls q => .ok ⟨c = 100, ls⟩ q
    else .form

/-- The proof of bytes. -/
def binP : Nat → List UInt8 → Got (List PStep)
  | 0, _ => .short
  | f + 1, b => match b with
    | [] => .ok [] []
    | c :: r => match stepP (c :: r) with
      | .form => .form
      | .short => .short
      | .ok s rest => match binP f rest with
        | .form => .form
        | .short => .short
        | .ok p q => .ok (s :: p) q
def parseB (b : List UInt8) : Got (List PStep) := binP (b.length + 1) b

theorem byte_lt (c : UInt8) : c.toNat < 256 := c.toNat_lt
theorem byte_of (c : UInt8) : UInt8.ofNat c.toNat = c := UInt8.ofNat_toNat

theorem atN_right {n : Nat} (h0 : 2 ≤ n) (h1 : n ≤ 200001) : RightL (atN n) ∧ numL (atN n) = n := by
  unfold atN RightL numL
  split <;> split <;> (refine ⟨⟨?_, ?_, ?_⟩, ?_⟩ <;> omega)

theorem encN_small {n : Nat} (h : n < 128) : encN n = [UInt8.ofNat n] := by rw [encN, dif_pos h]
theorem encN_big {n : Nat} (h : ¬ n < 128) : encN n = UInt8.ofNat (n % 128 + 128) :: encN (n / 128) := by rw [encN, dif_neg h]

theorem encN_len {n : Nat} : 1 ≤ (encN n).length := by
  rw [encN]; split <;> simp
theorem flat_len (ls : List Int) : ls.length ≤ (ls.flatMap fun l => encN (numL l)).length := by
  induction ls with
  | nil => simp
  | cons l ls ih =>
    rw [List.flatMap_cons, List.length_append, List.length_cons]
    have := @encN_len (numL l)
    omega

theorem stepB_len (s : PStep) : 1 ≤ (stepB s).length := by unfold stepB; simp
/-! What is read is right, and is what was written. -/
theorem endP_ok {n : Nat} {c : UInt8} {r q : List UInt8} {l : Int} (h : endP n c r = .ok l q) : l = atN n ∧ q = r ∧ 2 ≤ n ∧ n ≤ 200001 ∧ c ≠ 0 := by
  unfold endP at h
  split at h
  · cases h
  · split at h
    · cases h
    · rename_i h1 h2
      simp only [not_or] at h2
      cases h
      exact ⟨rfl, rfl, by omega, by omega, h2.1⟩

theorem litP_sound {b r : List UInt8} {l : Int} (h : litP b = .ok l r) : RightL l ∧ b = encN (numL l) ++ r := by
  match b, h with
  | [], h => simp [litP] at h
  | c0 :: r0, h =>
    simp only [litP] at h
    by_cases a : c0.toNat < 128
    · rw [if_pos a] at h
      obtain ⟨rfl, rfl, h2, h3, _⟩ := endP_ok h
      obtain ⟨hr, hn⟩ := atN_right h2 h3
      refine ⟨hr, ?_⟩
      rw [hn, encN_small a, byte_of]; rfl
    · rw [if_neg a] at h
      match r0, h with
      | [], h => simp at h
      | c1 :: r1, h =>
        simp only at h
        have k0 := byte_lt c0
        by_cases a1 : c1.toNat < 128
        · rw [if_pos a1] at h
          obtain ⟨rfl, rfl, h2, h3, hc⟩ := endP_ok h
          obtain ⟨hr, hn⟩ := atN_right h2 h3
          refine ⟨hr, ?_⟩
          have hc1 : c1.toNat ≠ 0 := fun e => hc (by rw [← byte_of c1, e]; rfl)
          rw [hn, encN_big (by omega), show (c0.toNat % 128 + 128 * c1.toNat) % 128 + 128 = c0.toNat by omega, show (c0.toNat % 128 + 128 * c1.toNat) / 128 = c1.toNat by omega, encN_small a1, byte_of, byte_of]
          rfl
        · rw [if_neg a1] at h
          match r1, h with
          | [], h => simp at h
          | c2 :: r2, h =>
            simp only at h
            have k1 := byte_lt c1
            by_cases a2 : c2.toNat < 128
            · rw [if_pos a2] at h
              obtain ⟨rfl, rfl, h2, h3, hc⟩ := endP_ok h
              obtain ⟨hr, hn⟩ := atN_right h2 h3
              refine ⟨hr, ?_⟩
              have hc2 : c2.toNat ≠ 0 := fun e => hc (by rw [← byte_of c2, e]; rfl)
              rw [hn, encN_big (by omega), show (c0.toNat % 128 + 128 * (c1.toNat % 128) + 16384 * c2.toNat) % 128 + 128 = c0.toNat by omega,
                show (c0.toNat % 128 + 128 * (c1.toNat % 128) + 16384 * c2.toNat) / 128 = c1.toNat % 128 + 128 * c2.toNat by omega, encN_big (by omega), show (c1.toNat % 128 + 128 * c2.toNat) % 128 + 128 = c1.toNat by omega,
                show (c1.toNat % 128 + 128 * c2.toNat) / 128 = c2.toNat by omega, encN_small a2, byte_of, byte_of, byte_of]
              rfl
            · rw [if_neg a2] at h; cases h

theorem litsP_sound : ∀ (f : Nat) (b r : List UInt8) (ls : List Int), litsP f b = .ok ls r → (∀ l ∈ ls, RightL l) ∧ b = (ls.flatMap fun l => encN (numL l)) ++ 0 :: r
  | 0, _, _, _, h => by simp [litsP] at h
  | f + 1, [], _, _, h => by simp [litsP] at h
  | f + 1, c :: q, r, ls, h => by
    simp only [litsP] at h
    by_cases hc : c = 0
    · rw [if_pos hc] at h
      cases h
      subst hc
      exact ⟨by simp, rfl⟩
    · rw [if_neg hc] at h
      cases hl : litP (c :: q) with
      | form => rw [hl] at h; cases h
      | short => rw [hl] at h; cases h
      | ok l rest =>
        rw [hl] at h
        simp only at h
        cases hs : litsP f rest with
        | form => rw [hs] at h; cases h
        | short => rw [hs] at h; cases h
        | ok ms q2 =>
          rw [hs] at h
          cases h
          obtain ⟨h1, h2⟩ := litP_sound hl
          obtain ⟨h3, h4⟩ := litsP_sound f rest _ _ hs
          refine ⟨fun x hx => ?_, ?_⟩
          · simp only [List.mem_cons] at hx
            rcases hx with rfl | hx
            · exact h1
            · exact h3 x hx
          · rw [h2, h4, List.flatMap_cons, List.append_assoc]

theorem stepP_sound {b r : List UInt8} {s : PStep} (h : stepP b = .ok s r) : (∀ l ∈ s.lits, RightL l) ∧ b = stepB s ++ r := by
  match b, h with
  | [], h => simp [stepP] at h
  | c :: q, h =>
    simp only [stepP] at h
    by_cases hc : c = 97 ∨ c = 100
    · rw [if_pos hc] at h
      cases hs : litsP (q.length + 1) q with
      | form => rw [hs] at h; cases h
      | short => rw [hs] at h; cases h
      | ok ls q2 =>
        rw [hs] at h
        cases h
        obtain ⟨h1, h2⟩ := litsP_sound _ _ _ _ hs
        refine ⟨h1, ?_⟩
        unfold stepB
        rw [List.cons_append, List.cons_append, List.append_assoc, List.singleton_append, ← h2]
        rcases hc with rfl | rfl <;> simp
    · rw [if_neg hc] at h; cases h

theorem binP_sound : ∀ (f : Nat) (b r : List UInt8) (p : List PStep), binP f b = .ok p r → RightP p ∧ b = binT p ∧ r = []
  | 0, _, _, _, h => by simp [binP] at h
  | f + 1, [], r, p, h => by
    simp only [binP] at h
    cases h
    exact ⟨fun s hs => by simp at hs, rfl, rfl⟩
  | f + 1, c :: q, r, p, h => by
    simp only [binP] at h
    cases hs : stepP (c :: q) with
    | form => rw [hs] at h; cases h
    | short => rw [hs] at h; cases h
    | ok s rest =>
      rw [hs] at h
      simp only at h
      cases hp : binP f rest with
      | form => rw [hp] at h; cases h
      | short => rw [hp] at h; cases h
      | ok p2 q2 =>
        rw [hp] at h
        cases h
        obtain ⟨h1, h2⟩ := stepP_sound hs
        obtain ⟨h3, h4, h5⟩ := binP_sound f rest _ _ hp
        refine ⟨fun x hx => ?_, ?_, h5⟩
        · simp only [List.mem_cons] at hx
          rcases hx with rfl | hx
          · exact h1
          · exact h3 x hx
        · rw [h2, h4]; unfold binT; rw [List.flatMap_cons]
theorem parseB_sound {b r : List UInt8} {p : List PStep} (h : parseB b = .ok p r) : RightP p ∧ b = binT p ∧ r = [] := binP_sound _ _ _ _ h

theorem binT_append (p q : List PStep) : binT (p ++ q) = binT p ++ binT q := by unfold binT; rw [List.flatMap_append]

end Go.Proofs.YtcblijcalhaffaaGreatDoor
namespace Go.Proofs.YtcblijcalhaffaaGreatDoor
open Go

/-! Bytes that go on. -/
theorem litP_shorter {b q : List UInt8} {l : Int} (h : litP b = .ok l q) : q.length < b.length := by
  have := (litP_sound h).2
  have := @encN_len (numL l)
  have := congrArg List.length (litP_sound h).2
  simp at this; omega
theorem stepP_shorter {b q : List UInt8} {s : PStep} (h : stepP b = .ok s q) : q.length < b.length := by
  have := stepB_len s
  have := congrArg List.length (stepP_sound h).2
  simp at this; omega

/-- The two ends. -/
def End (x : List UInt8) : Prop := x = [0] ∨ x = [1, 0]

theorem End.len {x : List UInt8} (h : End x) : 1 ≤ x.length ∧ x.length ≤ 2 := by
  rcases h with rfl | rfl <;> simp

/-! How long a literal's bytes are. -/
theorem encN_length {n : Nat} (h : n ≤ 200001) : (encN n).length = if n < 128 then 1 else if n < 16384 then 2 else 3 := by
  by_cases a : n < 128
  · rw [encN_small a, if_pos a]; rfl
  · rw [encN_big a, if_neg a]
    by_cases b : n / 128 < 128
    · rw [encN_small b, if_pos (by omega)]; rfl
    · rw [encN_big b, encN_small (by omega), if_neg (by omega)]; rfl

end Go.Proofs.YtcblijcalhaffaaGreatDoor
