import Derived.Test.YtopoejfbcbnmdaaDoorOpts1
import Derived.Test.YtopoejfbcbnmdaaDoorShelf
namespace Go.Proofs.YtopoejfbcbnmdaaDoor
open Go Go.RowKit

theorem tk_fit (n : Nat) (h1 : n ≤ 4611686018427387904) (w : World) : Calls Tryd.prog 45 #[.int .i64 n] w fun e w' => e = .returned (.int .i64 n) ∧ w' = w := by
  go_enter Tryd.func45, Tryd.ntmps45
  go_wp2
  all_goals go_ret
  all_goals exact ⟨ret_i (by omega), rfl⟩

theorem tk_times (a b : Nat) (ha : a ≤ 4611686018427387904) (hb : b ≤ 4611686018427387904) (hab : a * b ≤ 4611686018427387904) (w : World) :
    Calls Tryd.prog 33 #[.int .i64 a, .int .i64 b] w fun e w' => e = .returned (.int .i64 ((a * b : Nat) : Int)) ∧ w' = w := by
  have Ca := fun w => tk_fit a ha w
  have Cb := fun w => tk_fit b hb w
  have Cm := fun w => Tryd.bits_Mul64 a b (by omega) (by omega) w
  rw [show a * b / 18446744073709551616 = 0 from Nat.div_eq_of_lt (by omega), show a * b % 18446744073709551616 = a * b from Nat.mod_eq_of_lt (by omega)] at Cm
  generalize a * b = p at *
  go_enter Tryd.func33, Tryd.ntmps33
  go_wp2_with fail
  refine (Ca _).mono ?_
  rintro e w1 ⟨rfl, rfl⟩
  go_wp2_with fail
  refine (Cb _).mono ?_
  rintro e w1 ⟨rfl, rfl⟩
  go_wp2_with fail
  refine (Cm _).mono ?_
  rintro e w1 ⟨rfl, rfl⟩
  clear Ca Cb Cm
  go_wp2_with fail
  all_goals go_ret
  all_goals exact ⟨ret_i (by omega), rfl⟩

theorem tk_sum (a b : Nat) (hab : a + b ≤ 4611686018427387904) (w : World) :
    Calls Tryd.prog 35 #[.int .i64 a, .int .i64 b] w fun e w' => e = .returned (.int .i64 ((a + b : Nat) : Int)) ∧ w' = w := by
  have Ca := fun w => tk_fit a (by omega) w
  have Cb := fun w => tk_fit b (by omega) w
  go_enter Tryd.func35, Tryd.ntmps35
  go_wp2_with fail
  refine (Ca _).mono ?_
  rintro e w1 ⟨rfl, rfl⟩
  go_wp2_with fail
  refine (Cb _).mono ?_
  rintro e w1 ⟨rfl, rfl⟩
  clear Ca Cb
  go_wp2_with fail
  all_goals go_ret
  all_goals exact ⟨ret_i (by omega), rfl⟩

theorem Lib_bitLen (i : Nat) (h0 : 0 < i) (h : i < 2 ^ 20) : ∃ l, Lib.bitLen i = l + 1 ∧ 2 ^ l ≤ i ∧ i < 2 * 2 ^ l ∧ l < 20 := by
  have key : ∀ (f : Nat) (x : Nat), 0 < x → x < 2 ^ f → ∃ l, Lib.bitLenAux f x = l + 1 ∧ 2 ^ l ≤ x ∧ x < 2 * 2 ^ l := by
    intro f
    induction f with
    | zero => intro x h0 h1; simp at h1; omega
    | succ f ih =>
      intro x h0 h1
      simp only [Lib.bitLenAux]
      rw [if_neg (by omega)]
      by_cases hx : x / 2 = 0
      · refine ⟨0, ?_, by omega, by omega⟩
        rw [hx]
        cases f <;> simp [Lib.bitLenAux]
      · obtain ⟨l, h2, h3, h4⟩ := ih (x / 2) (by omega) (by rw [Nat.pow_succ] at h1; omega)
        refine ⟨l + 1, by rw [h2]; omega, ?_, ?_⟩ <;> rw [Nat.pow_succ] <;> omega
  obtain ⟨l, h1, h2, h3⟩ := key 64 i h0 (Nat.lt_of_lt_of_le h (by decide))
  refine ⟨l, h1, h2, h3, ?_⟩
  rcases Nat.lt_or_ge l 20 with h4 | h4
  · exact h4
  · have : (2 : Nat) ^ 20 ≤ 2 ^ l := Nat.pow_le_pow_right (by decide) h4
    omega

/-- The row's number. -/
def lubyF : Nat → Nat → Nat
  | 0, _ => 1
  | f + 1, i => if i + 1 = 2 ^ Lib.bitLen i then 2 ^ (Lib.bitLen i - 1) else lubyF f (i - (2 ^ (Lib.bitLen i - 1) - 1))
def luby (k : Nat) : Nat := lubyF (k + 1) k

theorem lubyF_bd : ∀ (f i : Nat), 0 < i → i < 2 ^ 20 → i < f → 1 ≤ lubyF f i ∧ lubyF f i ≤ i := by
  intro f
  induction f with
  | zero => intro i _ _ h; omega
  | succ f ih =>
    intro i h0 h1 hf
    obtain ⟨l, hl, h2, h3, h4⟩ := Lib_bitLen i h0 h1
    simp only [lubyF, hl, Nat.add_sub_cancel]
    split
    · exact ⟨Nat.one_le_two_pow, h2⟩
    · rename_i hne
      rw [Nat.pow_succ] at hne
      have hp : 2 ≤ 2 ^ l := by
        cases l with
        | zero => simp at h2 h3 hne; omega
        | succ l => rw [Nat.pow_succ]; have := Nat.one_le_two_pow (n := l); omega
      have := ih (i - (2 ^ l - 1)) (by omega) (by omega) (by omega)
      omega
theorem luby_bd {k : Nat} (h0 : 0 < k) (h : k < 2 ^ 20) : 1 ≤ luby k ∧ luby k ≤ k := lubyF_bd _ _ h0 h (by omega)
theorem luby_one : luby 1 = 1 := by decide

set_option maxHeartbeats 1000000 in
theorem tk_luby (k : Nat) (h0 : 0 < k) (h : k < 2 ^ 20) (w : World) : Calls Tryd.prog 20 #[.int .i64 k] w fun e w' => e = .returned (.int .i64 (luby k)) ∧ w' = w := by
  obtain ⟨R, hR⟩ : ∃ R, luby k = R := ⟨_, rfl⟩
  rw [hR]
  have hR2 : lubyF (k + 1) k = R := hR
  have hRh := Lib.hid hR2
  clear hR hR2
  go_enter Tryd.func20, Tryd.ntmps20
  go_wp2_with fail
  go_loop [0] (fun v => ∃ (i f : Nat), 0 < i ∧ i ≤ k ∧ i < f ∧ v = .int .i64 i ∧ RowKit.Hid (lubyF f i = R)) (fun v => (intOf v).toNat)
  case atStart => exact ⟨k, k + 1, h0, Nat.le_refl _, by omega, rfl, hRh⟩
  case round =>
    obtain ⟨i, f, hi0, hik, hif, rfl, Hf⟩ := hrel
    obtain ⟨l, hl, h2, h3, h4⟩ := Lib_bitLen i hi0 (by omega)
    have C := Tryd.bits_Len i w (by omega) (by omega)
    rw [Int.toNat_natCast, hl] at C
    cases f with
    | zero => omega
    | succ f =>
      have hf := Hf.out
      simp only [lubyF, hl, Nat.add_sub_cancel, Nat.pow_succ] at hf
      have hfh := Lib.hid hf
      have hlh := Lib.hid hl
      clear Hf hf hl
      go_wp2_with fail
      refine C.mono ?_
      clear C
      rintro e w' ⟨rfl, rfl⟩
      go_wp2_with fail
      all_goals
        have hP : ((2 : Int) ^ l) = ((2 ^ l : Nat) : Int) := by push_cast; rfl
        have hP1 : ((2 : Int) ^ (l + 1)) = ((2 ^ l * 2 : Nat) : Int) := by rw [Int.pow_succ, hP]; push_cast; rfl
        have e1 : wrap64 ((2 : Int) ^ l) = ((2 ^ l : Nat) : Int) := by rw [hP]; unfold wrap64; omega
        have e2 : wrap64 (wrap64 ((2 : Int) ^ (l + 1)) - 1) = ((2 ^ l * 2 : Nat) : Int) - 1 := by rw [hP1]; unfold wrap64; omega
        have e3 : wrap64 (wrap64 ((2 : Int) ^ l) - 1) = ((2 ^ l : Nat) : Int) - 1 := by rw [hP]; unfold wrap64; omega
        have e4 : wrap64 ((i : Int) - (((2 ^ l : Nat) : Int) - 1)) = ((i - (2 ^ l - 1) : Nat) : Int) := by unfold wrap64; omega
      · have ht : ((i : Int) == wrap64 (wrap64 ((2 : Int) ^ (l + 1)) - 1)) = true := by first | assumption | (simp only [beq_iff_eq]; assumption)
        rw [e2] at ht
        have heq : i + 1 = 2 ^ l * 2 := by have := beq_iff_eq.1 ht; omega
        have hf := hfh.out
        rw [if_pos heq] at hf
        go_ret
        exact ⟨ret_i (by rw [e1, hf]), rfl⟩
      · have ht : ((i : Int) == wrap64 (wrap64 ((2 : Int) ^ (l + 1)) - 1)) = false := by first | assumption | (simp only [beq_eq_false_iff_ne, ne_eq]; assumption)
        rw [e2] at ht
        have hne : ¬ i + 1 = 2 ^ l * 2 := by have := beq_eq_false_iff_ne.1 ht; omega
        have hf := hfh.out
        rw [if_neg hne] at hf
        have hp : 2 ≤ 2 ^ l := by
          cases l with
          | zero => simp at h2 h3 hne; omega
          | succ l => rw [Nat.pow_succ]; have := Nat.one_le_two_pow (n := l); omega
        refine ⟨⟨i - (2 ^ l - 1), f, by omega, by omega, by omega, by rw [e3, e4], Lib.hid hf⟩, ?_⟩
        rw [e3, e4]
        simp [intOf]
        omega

end Go.Proofs.YtopoejfbcbnmdaaDoor
