import Derived.Test.YtopoejfbcbnmdaaDoorFit21
namespace Go.Proofs.YtopoejfbcbnmdaaDoor
open Go Go.RowKit

theorem and_one16 (x : Nat) (h : x < 65536) : bits .and .u16 (x : Int) 1 = (x : Int) % 2 := by
  unfold bits
  simp only [BitVec.ofInt_natCast, IntKind.bits]
  show IntKind.u16.wrap (((BitVec.ofNat 16 x &&& BitVec.ofInt 16 1).toNat : Nat) : Int) = _
  rw [BitVec.toNat_and, BitVec.toNat_ofNat, show (BitVec.ofInt 16 1).toNat = 1 from by decide, Nat.mod_eq_of_lt (show x < 2 ^ 16 by omega), Nat.and_one_is_mod]
  rw [IntWalk.u16_in _ (by omega)]
  omega

/-- Options that may be, of raw numbers. -/
def madeO (x0 x1 x2 x3 x4 x5 x6 x7 x8 x9 x10 x11 : Nat) : Opt :=
  ⟨-1, -1, 1 + (x0 : Int) % 200, 1 + (x1 : Int) % 200, 1 + (x2 : Int) % 100, (x3 : Int) % 300, (x4 : Int) % 3,
    if x4 % 3 = 0 then 1 + (x4 : Int) / 4 % 64 else if x4 % 3 = 1 then 17 + (x4 : Int) / 4 % 200 else 0, if x4 % 3 = 2 then (x4 : Int) / 4 % 1001 else 0,
    (x5 : Int) % 3, (x6 : Int) % 3, (x7 : Int) % 5, (x7 : Int) % 5 + (x11 : Int) % 9, (x8 : Int) % 2, (x9 : Int) % 2, x10⟩

set_option maxRecDepth 100000 in
set_option maxHeartbeats 4000000 in
theorem made_a (x0 x1 x2 x3 x4 x5 x6 x7 x8 x9 x10 x11 : Nat) (b0 : x0 < 65536) (b1 : x1 < 65536) (b2 : x2 < 65536) (b3 : x3 < 65536) (b4 : x4 < 65536) (b5 : x5 < 65536) (b6 : x6 < 65536) (b7 : x7 < 65536) (b8 : x8 < 65536) (b9 : x9 < 65536) (b10 : x10 < 65536) (b11 : x11 < 65536) (hx : x4 % 3 = 0) (w : World) : Calls Tryd.prog 18 #[.agg #[.int .u16 x0, .int .u16 x1, .int .u16 x2, .int .u16 x3, .int .u16 x4, .int .u16 x5, .int .u16 x6, .int .u16 x7, .int .u16 x8, .int .u16 x9, .int .u16 x10, .int .u16 x11]] w (fun e w' => e = .returned (.agg #[.int .i64 (-1), .int .i64 (-1), .int .i64 (1 + (x0 : Int) % 200), .int .i64 (1 + (x1 : Int) % 200), .int .i64 (1 + (x2 : Int) % 100), .int .i64 ((x3 : Int) % 300), .int .i64 ((x4 : Int) % 3), .int .i64 (1 + (x4 : Int) / 4 % 64), .int .i64 (0), .int .i64 ((x5 : Int) % 3), .int .i64 ((x6 : Int) % 3), .int .i64 ((x7 : Int) % 5), .int .i64 ((x7 : Int) % 5 + (x11 : Int) % 9), .int .i64 ((x8 : Int) % 2), .int .i64 ((x9 : Int) % 2), .int .u64 x10]) ∧ w' = ((w.alloc (.cells #[.int .u16 x0, .int .u16 x1, .int .u16 x2, .int .u16 x3, .int .u16 x4, .int .u16 x5, .int .u16 x6, .int .u16 x7, .int .u16 x8, .int .u16 x9, .int .u16 x10, .int .u16 x11] 46)).alloc (.cells #[.int .i64 (-1), .int .i64 (-1), .int .i64 (1 + (x0 : Int) % 200), .int .i64 (1 + (x1 : Int) % 200), .int .i64 (1 + (x2 : Int) % 100), .int .i64 ((x3 : Int) % 300), .int .i64 ((x4 : Int) % 3), .int .i64 (1 + (x4 : Int) / 4 % 64), .int .i64 (0), .int .i64 ((x5 : Int) % 3), .int .i64 ((x6 : Int) % 3), .int .i64 ((x7 : Int) % 5), .int .i64 ((x7 : Int) % 5 + (x11 : Int) % 9), .int .i64 ((x8 : Int) % 2), .int .i64 ((x9 : Int) % 2), .int .u64 x10] 24)).alloc (.cells #[.int .i64 (-1), .int .i64 (-1), .int .i64 (1 + (x0 : Int) % 200), .int .i64 (1 + (x1 : Int) % 200), .int .i64 (1 + (x2 : Int) % 100), .int .i64 ((x3 : Int) % 300), .int .i64 ((x4 : Int) % 3), .int .i64 (1 + (x4 : Int) / 4 % 64), .int .i64 (0), .int .i64 ((x5 : Int) % 3), .int .i64 ((x6 : Int) % 3), .int .i64 ((x7 : Int) % 5), .int .i64 ((x7 : Int) % 5 + (x11 : Int) % 9), .int .i64 ((x8 : Int) % 2), .int .i64 ((x9 : Int) % 2), .int .u64 x10] 24)) := by
  have a8 := and_one16 x8 b8
  have a9 := and_one16 x9 b9
  have e0 : ((x4 : Int) % 3 == 0) = true := by simp; omega
  clear hx
  go_enter Tryd.func18, Tryd.ntmps18
  go_wp2_with fail
  as_aux_lemma =>
    exact bodyPost_ret (v := .agg #[.int .i64 (-1), .int .i64 (-1), .int .i64 (1 + (x0 : Int) % 200), .int .i64 (1 + (x1 : Int) % 200), .int .i64 (1 + (x2 : Int) % 100), .int .i64 ((x3 : Int) % 300), .int .i64 ((x4 : Int) % 3), .int .i64 (1 + (x4 : Int) / 4 % 64), .int .i64 (0), .int .i64 ((x5 : Int) % 3), .int .i64 ((x6 : Int) % 3), .int .i64 ((x7 : Int) % 5), .int .i64 ((x7 : Int) % 5 + (x11 : Int) % 9), .int .i64 ((x8 : Int) % 2), .int .i64 ((x9 : Int) % 2), .int .u64 x10]) (by simp [results, Tryd.results18, go_sem]) rfl ⟨rfl, rfl⟩

set_option maxRecDepth 100000 in
set_option maxHeartbeats 4000000 in
theorem made_b (x0 x1 x2 x3 x4 x5 x6 x7 x8 x9 x10 x11 : Nat) (b0 : x0 < 65536) (b1 : x1 < 65536) (b2 : x2 < 65536) (b3 : x3 < 65536) (b4 : x4 < 65536) (b5 : x5 < 65536) (b6 : x6 < 65536) (b7 : x7 < 65536) (b8 : x8 < 65536) (b9 : x9 < 65536) (b10 : x10 < 65536) (b11 : x11 < 65536) (hx : x4 % 3 = 1) (w : World) : Calls Tryd.prog 18 #[.agg #[.int .u16 x0, .int .u16 x1, .int .u16 x2, .int .u16 x3, .int .u16 x4, .int .u16 x5, .int .u16 x6, .int .u16 x7, .int .u16 x8, .int .u16 x9, .int .u16 x10, .int .u16 x11]] w (fun e w' => e = .returned (.agg #[.int .i64 (-1), .int .i64 (-1), .int .i64 (1 + (x0 : Int) % 200), .int .i64 (1 + (x1 : Int) % 200), .int .i64 (1 + (x2 : Int) % 100), .int .i64 ((x3 : Int) % 300), .int .i64 ((x4 : Int) % 3), .int .i64 (17 + (x4 : Int) / 4 % 200), .int .i64 (0), .int .i64 ((x5 : Int) % 3), .int .i64 ((x6 : Int) % 3), .int .i64 ((x7 : Int) % 5), .int .i64 ((x7 : Int) % 5 + (x11 : Int) % 9), .int .i64 ((x8 : Int) % 2), .int .i64 ((x9 : Int) % 2), .int .u64 x10]) ∧ w' = ((w.alloc (.cells #[.int .u16 x0, .int .u16 x1, .int .u16 x2, .int .u16 x3, .int .u16 x4, .int .u16 x5, .int .u16 x6, .int .u16 x7, .int .u16 x8, .int .u16 x9, .int .u16 x10, .int .u16 x11] 46)).alloc (.cells #[.int .i64 (-1), .int .i64 (-1), .int .i64 (1 + (x0 : Int) % 200), .int .i64 (1 + (x1 : Int) % 200), .int .i64 (1 + (x2 : Int) % 100), .int .i64 ((x3 : Int) % 300), .int .i64 ((x4 : Int) % 3), .int .i64 (17 + (x4 : Int) / 4 % 200), .int .i64 (0), .int .i64 ((x5 : Int) % 3), .int .i64 ((x6 : Int) % 3), .int .i64 ((x7 : Int) % 5), .int .i64 ((x7 : Int) % 5 + (x11 : Int) % 9), .int .i64 ((x8 : Int) % 2), .int .i64 ((x9 : Int) % 2), .int .u64 x10] 24)).alloc (.cells #[.int .i64 (-1), .int .i64 (-1), .int .i64 (1 + (x0 : Int) % 200), .int .i64 (1 + (x1 : Int) % 200), .int .i64 (1 + (x2 : Int) % 100), .int .i64 ((x3 : Int) % 300), .int .i64 ((x4 : Int) % 3), .int .i64 (17 + (x4 : Int) / 4 % 200), .int .i64 (0), .int .i64 ((x5 : Int) % 3), .int .i64 ((x6 : Int) % 3), .int .i64 ((x7 : Int) % 5), .int .i64 ((x7 : Int) % 5 + (x11 : Int) % 9), .int .i64 ((x8 : Int) % 2), .int .i64 ((x9 : Int) % 2), .int .u64 x10] 24)) := by
  have a8 := and_one16 x8 b8
  have a9 := and_one16 x9 b9
  have e0 : ((x4 : Int) % 3 == 0) = false := by simp; omega
  have e1 : ((x4 : Int) % 3 == 1) = true := by simp; omega
  clear hx
  go_enter Tryd.func18, Tryd.ntmps18
  go_wp2_with fail
  as_aux_lemma =>
    exact bodyPost_ret (v := .agg #[.int .i64 (-1), .int .i64 (-1), .int .i64 (1 + (x0 : Int) % 200), .int .i64 (1 + (x1 : Int) % 200), .int .i64 (1 + (x2 : Int) % 100), .int .i64 ((x3 : Int) % 300), .int .i64 ((x4 : Int) % 3), .int .i64 (17 + (x4 : Int) / 4 % 200), .int .i64 (0), .int .i64 ((x5 : Int) % 3), .int .i64 ((x6 : Int) % 3), .int .i64 ((x7 : Int) % 5), .int .i64 ((x7 : Int) % 5 + (x11 : Int) % 9), .int .i64 ((x8 : Int) % 2), .int .i64 ((x9 : Int) % 2), .int .u64 x10]) (by simp [results, Tryd.results18, go_sem]) rfl ⟨rfl, rfl⟩

set_option maxRecDepth 100000 in
set_option maxHeartbeats 4000000 in
theorem made_c (x0 x1 x2 x3 x4 x5 x6 x7 x8 x9 x10 x11 : Nat) (b0 : x0 < 65536) (b1 : x1 < 65536) (b2 : x2 < 65536) (b3 : x3 < 65536) (b4 : x4 < 65536) (b5 : x5 < 65536) (b6 : x6 < 65536) (b7 : x7 < 65536) (b8 : x8 < 65536) (b9 : x9 < 65536) (b10 : x10 < 65536) (b11 : x11 < 65536) (hx : x4 % 3 = 2) (w : World) : Calls Tryd.prog 18 #[.agg #[.int .u16 x0, .int .u16 x1, .int .u16 x2, .int .u16 x3, .int .u16 x4, .int .u16 x5, .int .u16 x6, .int .u16 x7, .int .u16 x8, .int .u16 x9, .int .u16 x10, .int .u16 x11]] w (fun e w' => e = .returned (.agg #[.int .i64 (-1), .int .i64 (-1), .int .i64 (1 + (x0 : Int) % 200), .int .i64 (1 + (x1 : Int) % 200), .int .i64 (1 + (x2 : Int) % 100), .int .i64 ((x3 : Int) % 300), .int .i64 ((x4 : Int) % 3), .int .i64 (0), .int .i64 ((x4 : Int) / 4 % 1001), .int .i64 ((x5 : Int) % 3), .int .i64 ((x6 : Int) % 3), .int .i64 ((x7 : Int) % 5), .int .i64 ((x7 : Int) % 5 + (x11 : Int) % 9), .int .i64 ((x8 : Int) % 2), .int .i64 ((x9 : Int) % 2), .int .u64 x10]) ∧ w' = ((w.alloc (.cells #[.int .u16 x0, .int .u16 x1, .int .u16 x2, .int .u16 x3, .int .u16 x4, .int .u16 x5, .int .u16 x6, .int .u16 x7, .int .u16 x8, .int .u16 x9, .int .u16 x10, .int .u16 x11] 46)).alloc (.cells #[.int .i64 (-1), .int .i64 (-1), .int .i64 (1 + (x0 : Int) % 200), .int .i64 (1 + (x1 : Int) % 200), .int .i64 (1 + (x2 : Int) % 100), .int .i64 ((x3 : Int) % 300), .int .i64 ((x4 : Int) % 3), .int .i64 (0), .int .i64 ((x4 : Int) / 4 % 1001), .int .i64 ((x5 : Int) % 3), .int .i64 ((x6 : Int) % 3), .int .i64 ((x7 : Int) % 5), .int .i64 ((x7 : Int) % 5 + (x11 : Int) % 9), .int .i64 ((x8 : Int) % 2), .int .i64 ((x9 : Int) % 2), .int .u64 x10] 24)).alloc (.cells #[.int .i64 (-1), .int .i64 (-1), .int .i64 (1 + (x0 : Int) % 200), .int .i64 (1 + (x1 : Int) % 200), .int .i64 (1 + (x2 : Int) % 100), .int .i64 ((x3 : Int) % 300), .int .i64 ((x4 : Int) % 3), .int .i64 (0), .int .i64 ((x4 : Int) / 4 % 1001), .int .i64 ((x5 : Int) % 3), .int .i64 ((x6 : Int) % 3), .int .i64 ((x7 : Int) % 5), .int .i64 ((x7 : Int) % 5 + (x11 : Int) % 9), .int .i64 ((x8 : Int) % 2), .int .i64 ((x9 : Int) % 2), .int .u64 x10] 24)) := by
  have a8 := and_one16 x8 b8
  have a9 := and_one16 x9 b9
  have e0 : ((x4 : Int) % 3 == 0) = false := by simp; omega
  have e1 : ((x4 : Int) % 3 == 1) = false := by simp; omega
  clear hx
  go_enter Tryd.func18, Tryd.ntmps18
  go_wp2_with fail
  as_aux_lemma =>
    exact bodyPost_ret (v := .agg #[.int .i64 (-1), .int .i64 (-1), .int .i64 (1 + (x0 : Int) % 200), .int .i64 (1 + (x1 : Int) % 200), .int .i64 (1 + (x2 : Int) % 100), .int .i64 ((x3 : Int) % 300), .int .i64 ((x4 : Int) % 3), .int .i64 (0), .int .i64 ((x4 : Int) / 4 % 1001), .int .i64 ((x5 : Int) % 3), .int .i64 ((x6 : Int) % 3), .int .i64 ((x7 : Int) % 5), .int .i64 ((x7 : Int) % 5 + (x11 : Int) % 9), .int .i64 ((x8 : Int) % 2), .int .i64 ((x9 : Int) % 2), .int .u64 x10]) (by simp [results, Tryd.results18, go_sem]) rfl ⟨rfl, rfl⟩

/-- What Made leaves. -/
def MadeSaid (w : World) (arr : Array Value) (o : Opt) (e : Ending) (w' : World) : Prop := e = .returned (.agg o.vals) ∧ w' = ((w.alloc (.cells arr 46)).alloc (.cells o.vals 24)).alloc (.cells o.vals 24)
theorem made_ex (x0 x1 x2 x3 x4 x5 x6 x7 x8 x9 x10 x11 : Nat) (b0 : x0 < 65536) (b1 : x1 < 65536) (b2 : x2 < 65536) (b3 : x3 < 65536) (b4 : x4 < 65536) (b5 : x5 < 65536) (b6 : x6 < 65536) (b7 : x7 < 65536) (b8 : x8 < 65536) (b9 : x9 < 65536) (b10 : x10 < 65536) (b11 : x11 < 65536) (w : World) : Calls Tryd.prog 18 #[.agg #[.int .u16 x0, .int .u16 x1, .int .u16 x2, .int .u16 x3, .int .u16 x4, .int .u16 x5, .int .u16 x6, .int .u16 x7, .int .u16 x8, .int .u16 x9, .int .u16 x10, .int .u16 x11]] w (MadeSaid w #[.int .u16 x0, .int .u16 x1, .int .u16 x2, .int .u16 x3, .int .u16 x4, .int .u16 x5, .int .u16 x6, .int .u16 x7, .int .u16 x8, .int .u16 x9, .int .u16 x10, .int .u16 x11] (madeO x0 x1 x2 x3 x4 x5 x6 x7 x8 x9 x10 x11)) := by
  unfold MadeSaid madeO Opt.vals
  dsimp only
  by_cases h0 : x4 % 3 = 0
  · simp only [h0, if_true, show ¬ (0 = 2) by decide, if_false]
    exact made_a x0 x1 x2 x3 x4 x5 x6 x7 x8 x9 x10 x11 b0 b1 b2 b3 b4 b5 b6 b7 b8 b9 b10 b11 h0 w
  by_cases h1 : x4 % 3 = 1
  · simp only [h1, if_true, show ¬ (1 = 0) by decide, show ¬ (1 = 2) by decide, if_false]
    exact made_b x0 x1 x2 x3 x4 x5 x6 x7 x8 x9 x10 x11 b0 b1 b2 b3 b4 b5 b6 b7 b8 b9 b10 b11 h1 w
  have h2 : x4 % 3 = 2 := by omega
  simp only [h2, if_true, show ¬ (2 = 0) by decide, show ¬ (2 = 1) by decide, if_false]
  exact made_c x0 x1 x2 x3 x4 x5 x6 x7 x8 x9 x10 x11 b0 b1 b2 b3 b4 b5 b6 b7 b8 b9 b10 b11 h2 w
theorem made_any (x0 x1 x2 x3 x4 x5 x6 x7 x8 x9 x10 x11 : Nat) (b0 : x0 < 65536) (b1 : x1 < 65536) (b2 : x2 < 65536) (b3 : x3 < 65536) (b4 : x4 < 65536) (b5 : x5 < 65536) (b6 : x6 < 65536) (b7 : x7 < 65536) (b8 : x8 < 65536) (b9 : x9 < 65536) (b10 : x10 < 65536) (b11 : x11 < 65536) (w : World) : Calls Tryd.prog 18 #[.agg #[.int .u16 x0, .int .u16 x1, .int .u16 x2, .int .u16 x3, .int .u16 x4, .int .u16 x5, .int .u16 x6, .int .u16 x7, .int .u16 x8, .int .u16 x9, .int .u16 x10, .int .u16 x11]] w (Gave w (.agg (madeO x0 x1 x2 x3 x4 x5 x6 x7 x8 x9 x10 x11).vals)) :=
  (made_ex x0 x1 x2 x3 x4 x5 x6 x7 x8 x9 x10 x11 b0 b1 b2 b3 b4 b5 b6 b7 b8 b9 b10 b11 w).mono fun e w' ⟨he, hw⟩ => ⟨he, by subst hw; exact (((Below.refl _ _).alloc (Nat.le_refl _) _).alloc (by simp) _).alloc (by simp; omega) _⟩

end Go.Proofs.YtopoejfbcbnmdaaDoor
