import Derived.Test.YtefppfgcgcfleaaDoorDrBin
namespace Go.Proofs.YtefppfgcgcfleaaDoor
open Go

/-! Bytes that go on. -/
theorem endP_ext {n : Nat} {c : UInt8} {r x : List UInt8} : (endP n c r = .form → endP n c (r ++ x) = .form) ∧ (∀ l q, endP n c r = .ok l q → endP n c (r ++ x) = .ok l (q ++ x)) := by
  unfold endP
  split
  · exact ⟨fun h => h, fun _ _ h => by cases h⟩
  · split
    · exact ⟨fun h => h, fun _ _ h => by cases h⟩
    · exact ⟨fun h => (by cases h), fun _ _ h => by cases h; rfl⟩

theorem endP_whole {n : Nat} {c : UInt8} {r : List UInt8} : endP n c r ≠ .short := by
  unfold endP
  split
  · intro h; cases h
  · split
    · intro h; cases h
    · intro h; cases h

theorem litP_ext (b x : List UInt8) : (litP b = .form → litP (b ++ x) = .form) ∧ (∀ l q, litP b = .ok l q → litP (b ++ x) = .ok l (q ++ x)) := by
  match b with
  | [] => exact ⟨fun h => by simp [litP] at h, fun _ _ h => by simp [litP] at h⟩
  | c0 :: r0 =>
    simp only [List.cons_append, litP]
    by_cases a : c0.toNat < 128
    · rw [if_pos a, if_pos a]; exact endP_ext
    · rw [if_neg a, if_neg a]
      match r0 with
      | [] => exact ⟨fun h => by simp at h, fun _ _ h => by simp at h⟩
      | c1 :: r1 =>
        simp only [List.cons_append]
        by_cases a1 : c1.toNat < 128
        · rw [if_pos a1, if_pos a1]; exact endP_ext
        · rw [if_neg a1, if_neg a1]
          match r1 with
          | [] => exact ⟨fun h => by simp at h, fun _ _ h => by simp at h⟩
          | c2 :: r2 =>
            simp only [List.cons_append]
            by_cases a2 : c2.toNat < 128
            · rw [if_pos a2, if_pos a2]; exact endP_ext
            · rw [if_neg a2, if_neg a2]; exact ⟨fun h => h, fun _ _ h => by cases h⟩

theorem litsP_ext : ∀ (f g : Nat) (b x : List UInt8), f ≤ g → (litsP f b = .form → litsP g (b ++ x) = .form) ∧ (∀ l q, litsP f b = .ok l q → litsP g (b ++ x) = .ok l (q ++ x))
  | 0, _, _, _, _ => ⟨fun h => by simp [litsP] at h, fun _ _ h => by simp [litsP] at h⟩
  | f + 1, 0, _, _, h => by omega
  | f + 1, g + 1, [], x, _ => ⟨fun h => by simp [litsP] at h, fun _ _ h => by simp [litsP] at h⟩
  | f + 1, g + 1, c :: r, x, hfg => by
    have L := litP_ext (c :: r) x
    rw [List.cons_append] at L
    simp only [List.cons_append, litsP]
    by_cases hc : c = 0
    · rw [if_pos hc, if_pos hc]
      exact ⟨fun h => (by cases h), fun _ _ h => by cases h; rfl⟩
    · rw [if_neg hc, if_neg hc]
      cases hl : litP (c :: r) with
      | form => rw [L.1 hl]; exact ⟨fun h => h, fun _ _ h => by cases h⟩
      | short => exact ⟨fun h => (by cases h), fun _ _ h => by cases h⟩
      | ok l rest =>
        rw [L.2 l rest hl]
        have I := litsP_ext f g rest x (by omega)
        simp only
        cases hs : litsP f rest with
        | form => rw [I.1 hs]; exact ⟨fun h => h, fun _ _ h => by cases h⟩
        | short => exact ⟨fun h => (by cases h), fun _ _ h => by cases h⟩
        | ok ls q => rw [I.2 ls q hs]; exact ⟨fun h => (by cases h), fun _ _ h => by cases h; rfl⟩

theorem stepP_ext (b x : List UInt8) : (stepP b = .form → stepP (b ++ x) = .form) ∧ (∀ s q, stepP b = .ok s q → stepP (b ++ x) = .ok s (q ++ x)) := by
  match b with
  | [] => exact ⟨fun h => by simp [stepP] at h, fun _ _ h => by simp [stepP] at h⟩
  | c :: r =>
    simp only [List.cons_append, stepP]
    by_cases hc : c = 97 ∨ c = 100
    · rw [if_pos hc, if_pos hc]
      have I := litsP_ext (r.length + 1) ((r ++ x).length + 1) r x (by simp)
      cases hs : litsP (r.length + 1) r with
      | form => rw [I.1 hs]; exact ⟨fun h => h, fun _ _ h => by cases h⟩
      | short => exact ⟨fun h => (by cases h), fun _ _ h => by cases h⟩
      | ok ls q => rw [I.2 ls q hs]; exact ⟨fun h => (by cases h), fun _ _ h => by cases h; rfl⟩
    · rw [if_neg hc, if_neg hc]; exact ⟨fun h => h, fun _ _ h => by cases h⟩

theorem binP_ext : ∀ (f g : Nat) (b x : List UInt8), f ≤ g → binP f b = .form → binP g (b ++ x) = .form
  | 0, _, _, _, _, h => by simp [binP] at h
  | f + 1, 0, _, _, h, _ => by omega
  | f + 1, g + 1, [], x, _, h => by simp [binP] at h
  | f + 1, g + 1, c :: r, x, hfg, h => by
    have L := stepP_ext (c :: r) x
    rw [List.cons_append] at L ⊢
    simp only [binP] at h ⊢
    cases hs : stepP (c :: r) with
    | form => rw [L.1 hs]
    | short => rw [hs] at h; cases h
    | ok s rest =>
      rw [L.2 s rest hs]
      rw [hs] at h
      simp only at h ⊢
      cases hp : binP f rest with
      | form => rw [binP_ext f g rest x (by omega) hp]
      | short => rw [hp] at h; cases h
      | ok p q => rw [hp] at h; cases h

/-- What is no front of a proof's bytes stays none. -/
theorem parseB_form {b : List UInt8} (h : parseB b = .form) (x : List UInt8) : parseB (b ++ x) = .form := binP_ext _ _ b x (by simp) h

theorem litP_short {c : UInt8} {r : List UInt8} (h : litP (c :: r) = .short) : ∃ l, litP (c :: r ++ [1, 0]) = .ok l [0] := by
  simp only [List.cons_append, litP] at h ⊢
  by_cases a : c.toNat < 128
  · rw [if_pos a] at h; exact absurd h endP_whole
  · rw [if_neg a] at h ⊢
    have k0 := byte_lt c
    match r, h with
    | [], _ =>
      simp only [List.nil_append]
      rw [if_pos (by decide)]
      refine ⟨atN (c.toNat % 128 + 128 * (1 : UInt8).toNat), ?_⟩
      unfold endP
      rw [if_neg (by simp; omega), if_neg (by simp)]
    | c1 :: r1, h =>
      simp only [List.cons_append] at h ⊢
      by_cases a1 : c1.toNat < 128
      · rw [if_pos a1] at h; exact absurd h endP_whole
      · rw [if_neg a1] at h ⊢
        have k1 := byte_lt c1
        match r1, h with
        | [], _ =>
          simp only [List.nil_append]
          rw [if_pos (by decide)]
          refine ⟨atN (c.toNat % 128 + 128 * (c1.toNat % 128) + 16384 * (1 : UInt8).toNat), ?_⟩
          unfold endP
          rw [if_neg (by simp; omega), if_neg (by simp)]
        | c2 :: r2, h =>
          simp only at h
          by_cases a2 : c2.toNat < 128
          · rw [if_pos a2] at h; exact absurd h endP_whole
          · rw [if_neg a2] at h; cases h

theorem litP_shorter {b q : List UInt8} {l : Int} (h : litP b = .ok l q) : q.length < b.length := by
  have := (litP_sound h).2
  have := @encN_len (numL l)
  have := congrArg List.length (litP_sound h).2
  simp at this; omega
theorem stepP_shorter {b q : List UInt8} {s : PStep} (h : stepP b = .ok s q) : q.length < b.length := by
  have := stepB_len s
  have := congrArg List.length (stepP_sound h).2
  simp at this; omega

/-- The two ends. -/
def End (x : List UInt8) : Prop := x = [0] ∨ x = [1, 0]

theorem litsP_short : ∀ (f : Nat) (b : List UInt8), b.length < f → litsP f b = .short → ∃ x, End x ∧ ∀ g, f + 3 ≤ g → ∃ ls, litsP g (b ++ x) = .ok ls []
  | 0, _, hb, _ => by simp at hb
  | f + 1, [], _, _ => ⟨[0], .inl rfl, fun g hg => by
      obtain ⟨g, rfl⟩ : ∃ m, g = m + 1 := ⟨g - 1, by omega⟩
      exact ⟨[], by simp [litsP]⟩⟩
  | f + 1, c :: r, hb, h => by
    simp only [litsP] at h
    by_cases hc : c = 0
    · rw [if_pos hc] at h; cases h
    · rw [if_neg hc] at h
      cases hl : litP (c :: r) with
      | form => rw [hl] at h; cases h
      | short =>
        obtain ⟨l, hl2⟩ := litP_short hl
        refine ⟨[1, 0], .inr rfl, fun g hg => ?_⟩
        obtain ⟨g, rfl⟩ : ∃ m, g = m + 2 := ⟨g - 2, by omega⟩
        refine ⟨[l], ?_⟩
        rw [List.cons_append] at hl2 ⊢
        simp only [litsP]
        rw [if_neg hc, hl2]
        simp
      | ok l rest =>
        rw [hl] at h
        simp only at h
        have hlen := litP_shorter hl
        cases hs : litsP f rest with
        | form => rw [hs] at h; cases h
        | ok ls q => rw [hs] at h; cases h
        | short =>
          obtain ⟨x, hx, I⟩ := litsP_short f rest (by simp at hb hlen; omega) hs
          refine ⟨x, hx, fun g hg => ?_⟩
          obtain ⟨g, rfl⟩ : ∃ m, g = m + 1 := ⟨g - 1, by omega⟩
          obtain ⟨ls, hls⟩ := I g (by omega)
          refine ⟨l :: ls, ?_⟩
          have L := (litP_ext (c :: r) x).2 l rest hl
          rw [List.cons_append] at L ⊢
          simp only [litsP]
          rw [if_neg hc, L]
          simp only [hls]

theorem litsP_fuel : ∀ (f g : Nat) (b : List UInt8), b.length < f → b.length < g → litsP f b = litsP g b
  | 0, _, _, h, _ => by omega
  | f + 1, 0, _, _, h => by omega
  | f + 1, g + 1, [], _, _ => rfl
  | f + 1, g + 1, c :: r, hf, hg => by
    simp only [litsP]
    split
    · rfl
    · cases hl : litP (c :: r) with
      | form => rfl
      | short => rfl
      | ok l rest =>
        have hlen := litP_shorter hl
        simp only
        rw [litsP_fuel f g rest (by simp at hf hlen; omega) (by simp at hg hlen; omega)]
theorem binP_fuel : ∀ (f g : Nat) (b : List UInt8), b.length < f → b.length < g → binP f b = binP g b
  | 0, _, _, h, _ => by omega
  | f + 1, 0, _, _, h => by omega
  | f + 1, g + 1, [], _, _ => rfl
  | f + 1, g + 1, c :: r, hf, hg => by
    simp only [binP]
    cases hl : stepP (c :: r) with
    | form => rfl
    | short => rfl
    | ok s rest =>
      have hlen := stepP_shorter hl
      simp only
      rw [binP_fuel f g rest (by simp at hf hlen; omega) (by simp at hg hlen; omega)]

theorem End.len {x : List UInt8} (h : End x) : 1 ≤ x.length ∧ x.length ≤ 2 := by
  rcases h with rfl | rfl <;> simp

theorem stepP_short {c : UInt8} {r : List UInt8} (h : stepP (c :: r) = .short) : ∃ x, End x ∧ ∃ s, stepP (c :: r ++ x) = .ok s [] := by
  simp only [stepP] at h
  by_cases hc : c = 97 ∨ c = 100
  · rw [if_pos hc] at h
    cases hs : litsP (r.length + 1) r with
    | form => rw [hs] at h; cases h
    | ok ls q => rw [hs] at h; cases h
    | short =>
      obtain ⟨x, hx, I⟩ := litsP_short _ r (by omega) hs
      refine ⟨x, hx, ?_⟩
      obtain ⟨ls, hls⟩ := I (r.length + 4) (by omega)
      rw [litsP_fuel (r.length + 4) ((r ++ x).length + 1) (r ++ x) (by have := hx.len; simp; omega) (by omega)] at hls
      refine ⟨⟨c = 100, ls⟩, ?_⟩
      rw [List.cons_append]
      simp only [stepP]
      rw [if_pos hc, hls]
  · rw [if_neg hc] at h; cases h

theorem binP_short : ∀ (f : Nat) (b : List UInt8), b.length < f → binP f b = .short → ∃ x, End x ∧ ∃ p, binP (f + 3) (b ++ x) = .ok p []
  | 0, _, hb, _ => by omega
  | f + 1, [], _, h => by simp [binP] at h
  | f + 1, c :: r, hb, h => by
    simp only [binP] at h
    cases hs : stepP (c :: r) with
    | form => rw [hs] at h; cases h
    | short =>
      obtain ⟨x, hx, s, h2⟩ := stepP_short hs
      refine ⟨x, hx, [s], ?_⟩
      rw [List.cons_append] at h2 ⊢
      simp only [binP, h2]
    | ok s rest =>
      rw [hs] at h
      simp only at h
      have hlen := stepP_shorter hs
      cases hp : binP f rest with
      | form => rw [hp] at h; cases h
      | ok p q => rw [hp] at h; cases h
      | short =>
        obtain ⟨x, hx, p, I⟩ := binP_short f rest (by simp at hb hlen; omega) hp
        refine ⟨x, hx, s :: p, ?_⟩
        have L := (stepP_ext (c :: r) x).2 s rest hs
        rw [List.cons_append] at L ⊢
        have e : binP (f + 1 + 3) (c :: (r ++ x)) = match stepP (c :: (r ++ x)) with
          | .form => .form
          | .short => .short
          | .ok s rest => match binP (f + 3) rest with
            | .form => .form
            | .short => .short
            | .ok p q => .ok (s :: p) q := rfl
        rw [e, L]
        simp only [I]

/-- What is a front of a proof's bytes, and none's, goes on to some by one of two ends. -/
theorem parseB_short {b : List UInt8} (h : parseB b = .short) : ∃ x, End x ∧ ∃ p, parseB (b ++ x) = .ok p [] := by
  obtain ⟨x, hx, p, hp⟩ := binP_short _ b (by omega) h
  refine ⟨x, hx, p, ?_⟩
  unfold parseB
  rw [← binP_fuel (b.length + 1 + 3) _ (b ++ x) (by have := hx.len; simp; omega) (by omega)]
  exact hp

/-! How long a literal's bytes are. -/
theorem encN_length {n : Nat} (h : n ≤ 200001) : (encN n).length = if n < 128 then 1 else if n < 16384 then 2 else 3 := by
  by_cases a : n < 128
  · rw [encN_small a, if_pos a]; rfl
  · rw [encN_big a, if_neg a]
    by_cases b : n / 128 < 128
    · rw [encN_small b, if_pos (by omega)]; rfl
    · rw [encN_big b, encN_small (by omega), if_neg (by omega)]; rfl

end Go.Proofs.YtefppfgcgcfleaaDoor
