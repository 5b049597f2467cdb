import Derived.Test.YtopoejfbcbnmdaaDoorTicks
namespace Go.Proofs.YtopoejfbcbnmdaaDoor
open Go Go.RowKit

theorem Below.drewNO {B : Nat} {a w : World} (h : Below B a w) (n : Nat) : Below B a (w.drewN n) := ⟨h.os, h.tape, h.output, h.size, h.block⟩

/-- A call that makes what nothing holds on to. -/
def Gave (w : World) (v : Value) (e : Ending) (w' : World) : Prop := e = .returned v ∧ Below w.heap.size w w'

set_option maxHeartbeats 1000000 in
theorem restart_any (o : Opt) (k re : Nat) (hre : o.re = re) (h0 : 0 < k) (h : k < 2 ^ 20) (h1 : re ≤ 100000) (w : World) :
    Calls Tryd.prog 19 #[.agg o.vals, .int .i64 k] w (Gave w (.int .i64 ((luby k * re : Nat) : Int))) := by
  unfold Opt.vals
  rw [hre]
  have hl := luby_bd h0 h
  have Cl := fun w => tk_luby k h0 h w
  have hm : luby k * re ≤ 2 ^ 20 * 100000 := Nat.mul_le_mul (by omega) h1
  have Ct := fun w => tk_times (luby k) re (by omega) (by omega) (by omega) w
  generalize luby k * re = p at *
  generalize luby k = q at *
  clear hre
  go_enter Tryd.func19, Tryd.ntmps19
  go_wp2_with fail
  go_quiet ((first
    | (go_at_call 20; exact Calls.quiet_of_same (Cl _))
    | (go_at_call 33; exact Calls.quiet_of_same (Ct _))))
  go_wp2_with fail
  go_ret
  exact ⟨rfl, Below.drewNO ((Below.refl _ _).alloc (Nat.le_refl _) _) _⟩

/-- How many pairs there are. -/
def tri (k : Nat) : Nat := k * (k - 1) / 2
theorem tri_even {k : Nat} (h : k % 2 = 0) : k / 2 * (k - 1) = tri k := by
  obtain ⟨m, rfl⟩ : ∃ m, k = 2 * m := ⟨k / 2, by omega⟩
  unfold tri
  rw [Nat.mul_div_cancel_left m (by decide), Nat.mul_assoc, Nat.mul_div_cancel_left _ (by decide)]
theorem tri_odd {k : Nat} (h : k % 2 = 1) : k * ((k - 1) / 2) = tri k := by
  obtain ⟨m, rfl⟩ : ∃ m, k = 2 * m + 1 := ⟨k / 2, by omega⟩
  unfold tri
  rw [show (2 * m + 1 - 1) = 2 * m by omega, Nat.mul_div_cancel_left m (by decide), show (2 * m + 1) * (2 * m) = 2 * ((2 * m + 1) * m) by rw [← Nat.mul_assoc, Nat.mul_comm (2 * m + 1) 2, Nat.mul_assoc], Nat.mul_div_cancel_left _ (by decide)]
theorem tri_le {k : Nat} (h : k ≤ 2 ^ 20) : tri k ≤ 2 ^ 40 := by
  unfold tri
  have : k * (k - 1) ≤ 2 ^ 20 * 2 ^ 20 := Nat.mul_le_mul h (by omega)
  omega
theorem tri_succ (k : Nat) : tri (k + 1) = tri k + k := by
  unfold tri
  rw [Nat.add_sub_cancel]
  cases k with
  | zero => rfl
  | succ k =>
    rw [Nat.add_sub_cancel]
    have : (k + 1 + 1) * (k + 1) = (k + 1) * k + 2 * (k + 1) := by rw [Nat.add_mul (k + 1) 1 (k + 1), Nat.mul_comm (k + 1) (k + 1)]; rw [show (k + 1) * (k + 1) = (k + 1) * k + (k + 1) from Nat.mul_succ _ _]; omega
    rw [this, Nat.add_mul_div_left _ _ (by decide)]

set_option maxHeartbeats 1000000 in
theorem reduce_any (o : Opt) (k fi ri : Nat) (hfi : o.fi = fi) (hri : o.ri = ri) (h0 : 0 < k) (h : k < 2 ^ 20) (h1 : fi ≤ 100000) (h2 : ri ≤ 100000) (w : World) :
    Calls Tryd.prog 21 #[.agg o.vals, .int .i64 k] w (Gave w (.int .i64 ((k * fi + tri k * ri : Nat) : Int))) := by
  unfold Opt.vals
  rw [hfi, hri]
  have ht := tri_le (k := k) (by omega)
  have m1 : k * fi ≤ 2 ^ 20 * 100000 := Nat.mul_le_mul (by omega) h1
  have m2 : tri k * ri ≤ 2 ^ 40 * 100000 := Nat.mul_le_mul ht h2
  have C1 := fun w => tk_times k fi (by omega) (by omega) (by omega) w
  have C3 := fun w => tk_times (tri k) ri (by omega) (by omega) (by omega) w
  have C4 := fun w => tk_sum (k * fi) (tri k * ri) (by omega) w
  by_cases hp : k % 2 = 0
  · have C2 := fun w => tk_times (k / 2) (k - 1) (by omega) (by omega) (by rw [tri_even hp]; omega) w
    rw [tri_even hp] at C2
    have e1 : ((k / 2 : Nat) : Int) = (k : Int) / 2 := by omega
    have e2 : ((k - 1 : Nat) : Int) = (k : Int) - 1 := by omega
    rw [e1, e2] at C2
    have hb : ((k : Int) % 2 == 0) = true := by simp; omega
    generalize k * fi + tri k * ri = r at *
    generalize k * fi = p at *
    generalize tri k * ri = q at *
    generalize tri k = t at *
    clear hfi hri hp e1 e2
    go_enter Tryd.func21, Tryd.ntmps21
    go_wp2_with fail
    go_quiet ((first
      | (go_at_call 33; with_reducible exact Calls.quiet_of_same (C1 _))
      | (go_at_call 33; with_reducible exact Calls.quiet_of_same (C2 _))
      | (go_at_call 33; with_reducible exact Calls.quiet_of_same (C3 _))
      | (go_at_call 35; exact Calls.quiet_of_same (C4 _))))
    go_wp2_with fail
    go_ret
    exact ⟨rfl, Below.drewNO ((Below.refl _ _).alloc (Nat.le_refl _) _) _⟩
  · have hp1 : k % 2 = 1 := by omega
    have C2 := fun w => tk_times k ((k - 1) / 2) (by omega) (by omega) (by rw [tri_odd hp1]; omega) w
    rw [tri_odd hp1] at C2
    have e1 : (((k - 1) / 2 : Nat) : Int) = ((k : Int) - 1) / 2 := by omega
    rw [e1] at C2
    have hb : ((k : Int) % 2 == 0) = false := by simp; omega
    generalize k * fi + tri k * ri = r at *
    generalize k * fi = p at *
    generalize tri k * ri = q at *
    generalize tri k = t at *
    clear hfi hri hp hp1 e1
    go_enter Tryd.func21, Tryd.ntmps21
    go_wp2_with fail
    go_quiet ((first
      | (go_at_call 33; with_reducible exact Calls.quiet_of_same (C1 _))
      | (go_at_call 33; with_reducible exact Calls.quiet_of_same (C2 _))
      | (go_at_call 33; with_reducible exact Calls.quiet_of_same (C3 _))
      | (go_at_call 35; exact Calls.quiet_of_same (C4 _))))
    go_wp2_with fail
    go_ret
    exact ⟨rfl, Below.drewNO ((Below.refl _ _).alloc (Nat.le_refl _) _) _⟩

end Go.Proofs.YtopoejfbcbnmdaaDoor
