import Derived.Test.YtefppfgcgcfleaaDoorDrNum
namespace Go.Proofs.YtefppfgcgcfleaaDoor
open Go

/-! A proof's bytes. -/

/-- A literal's number. -/
def numL (l : Int) : Nat := if l < 0 then (-2 * l + 1).toNat else (2 * l).toNat
/-- A number in groups of seven bits. -/
def encN (n : Nat) : List UInt8 :=
  if h : n < 128 then [UInt8.ofNat n] else UInt8.ofNat (n % 128 + 128) :: encN (n / 128)
termination_by n
decreasing_by omega
def stepB (s : PStep) : List UInt8 := (if s.del then 100 else 97) :: (s.lits.flatMap fun l => encN (numL l)) ++ [0]
def binT (p : List PStep) : List UInt8 := p.flatMap stepB

/-- How a part is read. -/
inductive Got (α : Type) where
  | ok (v : α) (rest : List UInt8)
  | form
  | short

/-- The literal of a number. -/
def atN (n : Nat) : Int := if n % 2 = 1 then -((n / 2 : Nat) : Int) else ((n / 2 : Nat) : Int)
/-- A last byte: the number is whole. -/
def endP (n : Nat) (c : UInt8) (r : List UInt8) : Got Int := if n > 200001 then .form else if c = 0 ∨ n < 2 then .form else .ok (atN n) r
/-- The next literal. -/
def litP : List UInt8 → Got Int
  | [] => .short
  | c0 :: r0 =>
    if c0.toNat < 128 then endP c0.toNat c0 r0 else
    match r0 with
    | [] => .short
    | c1 :: r1 =>
      if c1.toNat < 128 then endP (c0.toNat % 128 + 128 * c1.toNat) c1 r1 else
      match r1 with
      | [] => .short
      | c2 :: r2 =>
        if c2.toNat < 128 then endP (c0.toNat % 128 + 128 * (c1.toNat % 128) + 16384 * c2.toNat) c2 r2 else .form

/-- The literals up to a step's end. -/
def litsP : Nat → List UInt8 → Got (List Int)
  | 0, _ => .short
  | f + 1, b => match b with
    | [] => .short
    | c :: r => if c = 0 then .ok [] r else
      match litP (c :: r) with
      | .form => .form
      | .short => .short
      | .ok l rest => match litsP f rest with
        | .form => .form
        | .short => .short
        | .ok ls q => .ok (l :: ls) q

/-- The next step. -/
def stepP (b : List UInt8) : Got PStep := match b with
  | [] => .short
  | c :: r => if c = 97 ∨ c = 100 then
      match litsP (r.length + 1) r with
      | .form => .form
      | .short => .short
      | .ok ls q => .ok ⟨c = 100, ls⟩ q
    else .form

/-- The proof of bytes. -/
def binP : Nat → List UInt8 → Got (List PStep)
  | 0, _ => .short
  | f + 1, b => match b with
    | [] => .ok [] []
    | c :: r => match stepP (c :: r) with
      | .form => .form
      | .short => .short
      | .ok s rest => match binP f rest with
        | .form => .form
        | .short => .short
        | .ok p q => .ok (s :: p) q
def parseB (b : List UInt8) : Got (List PStep) := binP (b.length + 1) b

theorem byte_lt (c : UInt8) : c.toNat < 256 := c.toNat_lt
theorem byte_of (c : UInt8) : UInt8.ofNat c.toNat = c := UInt8.ofNat_toNat

theorem numL_range {l : Int} (h : RightL l) : 2 ≤ numL l ∧ numL l ≤ 200001 := by
  unfold RightL at h; unfold numL; split <;> omega
theorem atN_numL {l : Int} (h : RightL l) : atN (numL l) = l := by
  unfold RightL at h; unfold numL atN; split <;> split <;> omega
theorem atN_right {n : Nat} (h0 : 2 ≤ n) (h1 : n ≤ 200001) : RightL (atN n) ∧ numL (atN n) = n := by
  unfold atN RightL numL
  split <;> split <;> (refine ⟨⟨?_, ?_, ?_⟩, ?_⟩ <;> omega)

theorem encN_small {n : Nat} (h : n < 128) : encN n = [UInt8.ofNat n] := by rw [encN, dif_pos h]
theorem encN_big {n : Nat} (h : ¬ n < 128) : encN n = UInt8.ofNat (n % 128 + 128) :: encN (n / 128) := by rw [encN, dif_neg h]

theorem encN_head {n : Nat} (h : 2 ≤ n) : ∃ c r, encN n = c :: r ∧ c ≠ 0 := by
  by_cases h1 : n < 128
  · rw [encN_small h1]
    refine ⟨_, _, rfl, fun e => ?_⟩
    have := congrArg UInt8.toNat e
    rw [UInt8.toNat_ofNat'] at this
    simp at this; omega
  · rw [encN_big h1]
    refine ⟨_, _, rfl, fun e => ?_⟩
    have := congrArg UInt8.toNat e
    rw [UInt8.toNat_ofNat'] at this
    simp at this; omega

/-- A number that is written is read. -/
theorem litP_enc {n : Nat} (h0 : 2 ≤ n) (h1 : n ≤ 200001) (r : List UInt8) : litP (encN n ++ r) = .ok (atN n) r := by
  by_cases a : n < 128
  · rw [encN_small a]
    have e : (UInt8.ofNat n).toNat = n := by rw [UInt8.toNat_ofNat']; omega
    simp only [List.singleton_append, litP, e]
    rw [if_pos a]
    unfold endP
    rw [if_neg (by omega), if_neg]
    intro hx
    rcases hx with hx | hx
    · rw [hx] at e; simp at e; omega
    · omega
  · have e0 : (UInt8.ofNat (n % 128 + 128)).toNat = n % 128 + 128 := by rw [UInt8.toNat_ofNat']; omega
    rw [encN_big a]
    by_cases b : n / 128 < 128
    · rw [encN_small b]
      have e : (UInt8.ofNat (n / 128)).toNat = n / 128 := by rw [UInt8.toNat_ofNat']; omega
      simp only [List.cons_append, List.nil_append, litP, e0, e]
      rw [if_neg (by omega), if_pos b, show (n % 128 + 128) % 128 + 128 * (n / 128) = n by omega]
      unfold endP
      rw [if_neg (by omega), if_neg]
      intro hx
      rcases hx with hx | hx
      · rw [hx] at e; simp at e; omega
      · omega
    · have e1 : (UInt8.ofNat (n / 128 % 128 + 128)).toNat = n / 128 % 128 + 128 := by rw [UInt8.toNat_ofNat']; omega
      have c : n / 128 / 128 < 128 := by omega
      rw [encN_big b, encN_small c]
      have e : (UInt8.ofNat (n / 128 / 128)).toNat = n / 128 / 128 := by rw [UInt8.toNat_ofNat']; omega
      simp only [List.cons_append, List.nil_append, litP, e0, e1, e]
      rw [if_neg (by omega), if_neg (by omega), if_pos c, show (n % 128 + 128) % 128 + 128 * ((n / 128 % 128 + 128) % 128) + 16384 * (n / 128 / 128) = n by omega]
      unfold endP
      rw [if_neg (by omega), if_neg]
      intro hx
      rcases hx with hx | hx
      · rw [hx] at e; simp at e; omega
      · omega

theorem litsP_enc : ∀ (ls : List Int) (f : Nat) (r : List UInt8), (∀ l ∈ ls, RightL l) → ls.length < f → litsP f ((ls.flatMap fun l => encN (numL l)) ++ 0 :: r) = .ok ls r
  | [], 0, _, _, hf => by simp at hf
  | [], f + 1, r, _, _ => by simp [litsP]
  | l :: ls, 0, _, _, hf => by simp at hf
  | l :: ls, f + 1, r, h, hf => by
    have hr := numL_range (h l (by simp))
    have hh := encN_head hr.1
    rw [List.flatMap_cons, List.append_assoc]
    have hl := litP_enc hr.1 hr.2 ((ls.flatMap fun l => encN (numL l)) ++ 0 :: r)
    have ih := litsP_enc ls f r (fun x hx => h x (by simp [hx])) (by simp at hf; omega)
    obtain ⟨c, q, e, hc⟩ := hh
    rw [e, List.cons_append] at hl ⊢
    simp only [litsP]
    rw [if_neg hc, hl]
    simp only [ih, atN_numL (h l (by simp))]

theorem encN_len {n : Nat} : 1 ≤ (encN n).length := by
  rw [encN]; split <;> simp
theorem flat_len (ls : List Int) : ls.length ≤ (ls.flatMap fun l => encN (numL l)).length := by
  induction ls with
  | nil => simp
  | cons l ls ih =>
    rw [List.flatMap_cons, List.length_append, List.length_cons]
    have := @encN_len (numL l)
    omega

theorem stepP_enc {s : PStep} (h : ∀ l ∈ s.lits, RightL l) (r : List UInt8) : stepP (stepB s ++ r) = .ok s r := by
  obtain ⟨d, ls⟩ := s
  have hl : litsP (((ls.flatMap fun l => encN (numL l)) ++ 0 :: r).length + 1) ((ls.flatMap fun l => encN (numL l)) ++ 0 :: r) = .ok ls r := by
    refine litsP_enc ls _ r h ?_
    have := flat_len ls
    simp only [List.length_append, List.length_cons]
    omega
  unfold stepB
  rw [List.cons_append, List.cons_append, List.append_assoc, List.singleton_append]
  cases d with
  | true =>
    simp only [stepP, if_true]
    rw [if_pos (by simp), hl]
    simp
  | false =>
    simp only [stepP, Bool.false_eq_true, if_false]
    rw [if_pos (by simp), hl]
    simp

theorem binP_enc : ∀ (p : List PStep) (f : Nat), RightP p → p.length < f → binP f (binT p) = .ok p []
  | [], 0, _, hf => by simp at hf
  | [], f + 1, _, _ => by simp [binP, binT]
  | s :: p, 0, _, hf => by simp at hf
  | s :: p, f + 1, h, hf => by
    have hs := stepP_enc (s := s) (fun l hl => h s (by simp) l hl) (binT p)
    have ih := binP_enc p f (fun x hx => h x (by simp [hx])) (by simp at hf; omega)
    unfold binT at hs ih ⊢
    rw [List.flatMap_cons]
    have hc : ∃ c q, stepB s = c :: q := ⟨_, _, rfl⟩
    obtain ⟨c, q, e⟩ := hc
    rw [e, List.cons_append] at hs ⊢
    simp only [binP, hs, ih]

theorem stepB_len (s : PStep) : 1 ≤ (stepB s).length := by unfold stepB; simp
theorem binT_len (p : List PStep) : p.length ≤ (binT p).length := by
  unfold binT
  induction p with
  | nil => simp
  | cons s p ih =>
    rw [List.flatMap_cons, List.length_append, List.length_cons]
    have := stepB_len s
    omega
/-- A proof comes back from its bytes. -/
theorem parseB_binT {p : List PStep} (h : RightP p) : parseB (binT p) = .ok p [] := binP_enc p _ h (by have := binT_len p; omega)

/-! What is read is right, and is what was written. -/
theorem endP_ok {n : Nat} {c : UInt8} {r q : List UInt8} {l : Int} (h : endP n c r = .ok l q) : l = atN n ∧ q = r ∧ 2 ≤ n ∧ n ≤ 200001 ∧ c ≠ 0 := by
  unfold endP at h
  split at h
  · cases h
  · split at h
    · cases h
    · rename_i h1 h2
      simp only [not_or] at h2
      cases h
      exact ⟨rfl, rfl, by omega, by omega, h2.1⟩

theorem litP_sound {b r : List UInt8} {l : Int} (h : litP b = .ok l r) : RightL l ∧ b = encN (numL l) ++ r := by
  match b, h with
  | [], h => simp [litP] at h
  | c0 :: r0, h =>
    simp only [litP] at h
    by_cases a : c0.toNat < 128
    · rw [if_pos a] at h
      obtain ⟨rfl, rfl, h2, h3, _⟩ := endP_ok h
      obtain ⟨hr, hn⟩ := atN_right h2 h3
      refine ⟨hr, ?_⟩
      rw [hn, encN_small a, byte_of]; rfl
    · rw [if_neg a] at h
      match r0, h with
      | [], h => simp at h
      | c1 :: r1, h =>
        simp only at h
        have k0 := byte_lt c0
        by_cases a1 : c1.toNat < 128
        · rw [if_pos a1] at h
          obtain ⟨rfl, rfl, h2, h3, hc⟩ := endP_ok h
          obtain ⟨hr, hn⟩ := atN_right h2 h3
          refine ⟨hr, ?_⟩
          have hc1 : c1.toNat ≠ 0 := fun e => hc (by rw [← byte_of c1, e]; rfl)
          rw [hn, encN_big (by omega), show (c0.toNat % 128 + 128 * c1.toNat) % 128 + 128 = c0.toNat by omega, show (c0.toNat % 128 + 128 * c1.toNat) / 128 = c1.toNat by omega, encN_small a1, byte_of, byte_of]
          rfl
        · rw [if_neg a1] at h
          match r1, h with
          | [], h => simp at h
          | c2 :: r2, h =>
            simp only at h
            have k1 := byte_lt c1
            by_cases a2 : c2.toNat < 128
            · rw [if_pos a2] at h
              obtain ⟨rfl, rfl, h2, h3, hc⟩ := endP_ok h
              obtain ⟨hr, hn⟩ := atN_right h2 h3
              refine ⟨hr, ?_⟩
              have hc2 : c2.toNat ≠ 0 := fun e => hc (by rw [← byte_of c2, e]; rfl)
              rw [hn, encN_big (by omega), show (c0.toNat % 128 + 128 * (c1.toNat % 128) + 16384 * c2.toNat) % 128 + 128 = c0.toNat by omega,
                show (c0.toNat % 128 + 128 * (c1.toNat % 128) + 16384 * c2.toNat) / 128 = c1.toNat % 128 + 128 * c2.toNat by omega, encN_big (by omega), show (c1.toNat % 128 + 128 * c2.toNat) % 128 + 128 = c1.toNat by omega,
                show (c1.toNat % 128 + 128 * c2.toNat) / 128 = c2.toNat by omega, encN_small a2, byte_of, byte_of, byte_of]
              rfl
            · rw [if_neg a2] at h; cases h

theorem litsP_sound : ∀ (f : Nat) (b r : List UInt8) (ls : List Int), litsP f b = .ok ls r → (∀ l ∈ ls, RightL l) ∧ b = (ls.flatMap fun l => encN (numL l)) ++ 0 :: r
  | 0, _, _, _, h => by simp [litsP] at h
  | f + 1, [], _, _, h => by simp [litsP] at h
  | f + 1, c :: q, r, ls, h => by
    simp only [litsP] at h
    by_cases hc : c = 0
    · rw [if_pos hc] at h
      cases h
      subst hc
      exact ⟨by simp, rfl⟩
    · rw [if_neg hc] at h
      cases hl : litP (c :: q) with
      | form => rw [hl] at h; cases h
      | short => rw [hl] at h; cases h
      | ok l rest =>
        rw [hl] at h
        simp only at h
        cases hs : litsP f rest with
        | form => rw [hs] at h; cases h
        | short => rw [hs] at h; cases h
        | ok ms q2 =>
          rw [hs] at h
          cases h
          obtain ⟨h1, h2⟩ := litP_sound hl
          obtain ⟨h3, h4⟩ := litsP_sound f rest _ _ hs
          refine ⟨fun x hx => ?_, ?_⟩
          · simp only [List.mem_cons] at hx
            rcases hx with rfl | hx
            · exact h1
            · exact h3 x hx
          · rw [h2, h4, List.flatMap_cons, List.append_assoc]

theorem stepP_sound {b r : List UInt8} {s : PStep} (h : stepP b = .ok s r) : (∀ l ∈ s.lits, RightL l) ∧ b = stepB s ++ r := by
  match b, h with
  | [], h => simp [stepP] at h
  | c :: q, h =>
    simp only [stepP] at h
    by_cases hc : c = 97 ∨ c = 100
    · rw [if_pos hc] at h
      cases hs : litsP (q.length + 1) q with
      | form => rw [hs] at h; cases h
      | short => rw [hs] at h; cases h
      | ok ls q2 =>
        rw [hs] at h
        cases h
        obtain ⟨h1, h2⟩ := litsP_sound _ _ _ _ hs
        refine ⟨h1, ?_⟩
        unfold stepB
        rw [List.cons_append, List.cons_append, List.append_assoc, List.singleton_append, ← h2]
        rcases hc with rfl | rfl <;> simp
    · rw [if_neg hc] at h; cases h

theorem binP_sound : ∀ (f : Nat) (b r : List UInt8) (p : List PStep), binP f b = .ok p r → RightP p ∧ b = binT p ∧ r = []
  | 0, _, _, _, h => by simp [binP] at h
  | f + 1, [], r, p, h => by
    simp only [binP] at h
    cases h
    exact ⟨fun s hs => by simp at hs, rfl, rfl⟩
  | f + 1, c :: q, r, p, h => by
    simp only [binP] at h
    cases hs : stepP (c :: q) with
    | form => rw [hs] at h; cases h
    | short => rw [hs] at h; cases h
    | ok s rest =>
      rw [hs] at h
      simp only at h
      cases hp : binP f rest with
      | form => rw [hp] at h; cases h
      | short => rw [hp] at h; cases h
      | ok p2 q2 =>
        rw [hp] at h
        cases h
        obtain ⟨h1, h2⟩ := stepP_sound hs
        obtain ⟨h3, h4, h5⟩ := binP_sound f rest _ _ hp
        refine ⟨fun x hx => ?_, ?_, h5⟩
        · simp only [List.mem_cons] at hx
          rcases hx with rfl | hx
          · exact h1
          · exact h3 x hx
        · rw [h2, h4]; unfold binT; rw [List.flatMap_cons]
theorem parseB_sound {b r : List UInt8} {p : List PStep} (h : parseB b = .ok p r) : RightP p ∧ b = binT p ∧ r = [] := binP_sound _ _ _ _ h

theorem binT_inj {p q : List PStep} (hp : RightP p) (hq : RightP q) (h : binT p = binT q) : p = q := by
  have := parseB_binT hp
  rw [h, parseB_binT hq] at this
  injection this with h1 h2
  exact h1.symm
theorem binT_append (p q : List PStep) : binT (p ++ q) = binT p ++ binT q := by unfold binT; rw [List.flatMap_append]

end Go.Proofs.YtefppfgcgcfleaaDoor
