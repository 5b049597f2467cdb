import Derived.Test.YtcblijcalhaffaaGreatDoorDcOneQS
import Derived.Deep.QuietTactic
import Derived.RegionTactic
import Derived.BigRegion
import Derived.Lib.SplitLaws
namespace Go.Proofs.YtcblijcalhaffaaGreatDoor
open Go Go.RowKit Go.Proofs.YtcblijcalhaffaaGreatDoorW.PrintWords Go.Proofs.YtcblijcalhaffaaGreatDoorW.PrintLast Go.Proofs.YtcblijcalhaffaaGreatDoorW.PrintMore PCheckSound

/-- Bytes that are read. -/
def Rd (w : World) (A : Option Addr) (b : List UInt8) : Prop := Kd.C (Kd.int .u8) w A b.length (bts b)
theorem Rd.below {w w' : World} {A : Option Addr} {b : List UInt8} (h : Rd w A b) (B : Below w.heap.size w w') : Rd w' A b := Kd.C_below h B
theorem cut_bytes (A : Option Addr) (c : Nat) (b : List UInt8) (j : Int) (h0 : 0 ≤ j) (hm : j ≤ b.length) (hc : b.length ≤ c) :
    ∃ A' : Option Addr, (∀ W : World, (Instr.slice 53 (.slice A b.length c) (some (.int .i64 j)) none none).run Tryz.prog W = .ok (.slice A' (b.drop j.toNat).length (c - j.toNat)) W) ∧ (∀ w, Rd w A b → Rd w A' (b.drop j.toNat)) ∧ (b.drop j.toNat).length ≤ c - j.toNat := by
  obtain ⟨i0, hi, _, hz1, _⟩ := info_parts byte_inf
  refine ⟨if c = j.toNat then A else A.map (·.add (j.toNat * 1)), fun W => ?_, fun w h => ?_, ?_⟩
  · rw [List.length_drop]
    exact cut_from (P := Tryz.prog) 53 5 .i64 Tryz.underlying53 hi 1 hz1 A b.length c j h0 hm W
  · unfold Rd at h ⊢
    have h2 : (Kd.int .u8).C w A (bts b).length (bts b) := by rw [bts_length]; exact h
    have h3 := Kd.C_drop (m := j.toNat) (c := c) h2 (by rw [bts_length]; omega) (by rw [bts_length]; exact hc)
    have e : (bts b).drop j.toNat = bts (b.drop j.toNat) := by simp [bts, List.map_drop]
    rw [e, bts_length] at h3
    exact h3
  · rw [List.length_drop]; omega

theorem and64 (a b : Nat) (ha : a < 2 ^ 62) (hb : b < 2 ^ 62) : Go.bits .and .i64 (a : Int) (b : Int) = ((a &&& b : Nat) : Int) := by
  unfold Go.bits
  simp only [BitVec.ofInt_natCast, IntKind.bits]
  show IntKind.i64.wrap (((BitVec.ofNat 64 a &&& BitVec.ofNat 64 b).toNat : Nat) : Int) = _
  rw [BitVec.toNat_and, BitVec.toNat_ofNat, BitVec.toNat_ofNat, Nat.mod_eq_of_lt (by omega), Nat.mod_eq_of_lt (by omega)]
  have : a &&& b ≤ a := Nat.and_le_left
  rw [IntKind.wrap_i64]; omega
theorem or64 (a b : Nat) (ha : a < 2 ^ 62) (hb : b < 2 ^ 62) : Go.bits .or .i64 (a : Int) (b : Int) = ((a ||| b : Nat) : Int) := by
  unfold Go.bits
  simp only [BitVec.ofInt_natCast, IntKind.bits]
  show IntKind.i64.wrap (((BitVec.ofNat 64 a ||| BitVec.ofNat 64 b).toNat : Nat) : Int) = _
  rw [BitVec.toNat_or, BitVec.toNat_ofNat, BitVec.toNat_ofNat, Nat.mod_eq_of_lt (by omega), Nat.mod_eq_of_lt (by omega)]
  have : a ||| b < 2 ^ 62 := Nat.or_lt_two_pow ha hb
  rw [IntKind.wrap_i64]; omega
theorem or_add (k a x : Nat) (ha : a < 2 ^ k) : a ||| x * 2 ^ k = a + x * 2 ^ k := by
  have h := Nat.shiftLeft_add_eq_or_of_lt ha x
  rw [Nat.shiftLeft_eq] at h
  rw [Nat.or_comm, ← h]
  omega
theorem and127 (c : UInt8) : Go.bits .and .u8 (c.toNat : Int) 127 = ((c.toNat % 128 : Nat) : Int) := by
  have key : ∀ m : Fin 256, Go.bits .and .u8 (m.val : Int) 127 = ((m.val % 128 : Nat) : Int) := by decide +kernel
  exact key ⟨c.toNat, c.toNat_lt⟩

set_option maxRecDepth 100000 in
set_option maxHeartbeats 1600000 in
theorem at_any (n : Nat) (h0 : 2 ≤ n) (h1 : n ≤ 200001) (w : World) : Calls Tryz.prog 73 #[.int .i64 ((n : Int) - 2)] w (fun e w' => e = .returned (.int .i64 (atN n)) ∧ w' = w) := by
  obtain ⟨m, rfl⟩ : ∃ m, n = m + 2 := ⟨n - 2, by omega⟩
  have e : ((m + 2 : Nat) : Int) - 2 = (m : Int) := by omega
  rw [e]
  clear e
  have ha := and64 m 1 (by omega) (by decide)
  rw [Nat.and_one_is_mod] at ha
  have hq : ((m : Int).tdiv 2) = ((m / 2 : Nat) : Int) := by rw [Int.tdiv_eq_ediv_of_nonneg (by omega)]; omega
  by_cases hp : m % 2 = 1
  · have er : atN (m + 2) = -(((m / 2 : Nat) : Int) + 1) := by unfold atN; rw [if_pos (by omega)]; omega
    rw [er]
    rw [hp] at ha
    clear er hp
    have ha2 : Go.bits .and .i64 (m : Int) 1 = 1 := ha
    clear ha
    have hq2 : ((m / 2 : Nat) : Int) = (m : Int) / 2 := by omega
    rw [hq2] at hq ⊢
    go_enter Tryz.func73, Tryz.ntmps73
    go_wp2
    go_ret
    exact ⟨rfl, rfl⟩
  · have er : atN (m + 2) = ((m / 2 : Nat) : Int) + 1 := by unfold atN; rw [if_neg (by omega)]; omega
    rw [er]
    rw [show m % 2 = 0 by omega] at ha
    clear er hp
    have ha2 : Go.bits .and .i64 (m : Int) 1 = 0 := ha
    clear ha
    have hq2 : ((m / 2 : Nat) : Int) = (m : Int) / 2 := by omega
    rw [hq2] at hq ⊢
    go_enter Tryz.func73, Tryz.ntmps73
    go_wp2
    go_ret
    exact ⟨rfl, rfl⟩

/-- What the next literal's call leaves. -/
def LitSaid (w0 w : World) (g : Got Int) (e : Ending) (w' : World) : Prop := Below w.heap.size w w' ∧ match g with
  | .ok l r => ∃ A c, e = .returned (.tuple #[.int .i64 l, .slice A r.length c, .int .i64 0]) ∧ r.length ≤ c ∧ Rd w0 A r
  | .form => e = .returned (.tuple #[.int .i64 0, .slice none 0 0, .int .i64 9])
  | .short => e = .returned (.tuple #[.int .i64 0, .slice none 0 0, .int .i64 10])

/-- The literal from its i-th byte on, n so far. -/
def litI (i : Nat) (n : Nat) : List UInt8 → Got Int
  | [] => .short
  | c :: r => if n + c.toNat % 128 * 128 ^ i > 200001 then .form else if c.toNat < 128 then (if c = 0 ∨ n + c.toNat % 128 * 128 ^ i < 2 then .form else .ok (atN (n + c.toNat % 128 * 128 ^ i)) r) else if i = 2 then .form else litI (i + 1) (n + c.toNat % 128 * 128 ^ i) r
theorem endP_I (n : Nat) (c : UInt8) (r : List UInt8) : endP n c r = if n > 200001 then .form else if c = 0 ∨ n < 2 then .form else .ok (atN n) r := rfl
theorem litI_zero (b : List UInt8) : litI 0 0 b = litP b := by
  match b with
  | [] => rfl
  | c0 :: r0 =>
    have h0 := c0.toNat_lt
    rw [litI]
    simp only [litP, endP_I, Nat.pow_zero, Nat.mul_one, Nat.zero_add]
    rw [if_neg (show ¬ c0.toNat % 128 > 200001 by omega)]
    by_cases a : c0.toNat < 128
    · rw [if_pos a, if_pos a, Nat.mod_eq_of_lt a, if_neg (show ¬ c0.toNat > 200001 by omega)]
    · rw [if_neg a, if_neg a, if_neg (by decide)]
      match r0 with
      | [] => rfl
      | c1 :: r1 =>
        have h1 := c1.toNat_lt
        rw [litI]
        simp only [Nat.pow_one]
        rw [if_neg (show ¬ c0.toNat % 128 + c1.toNat % 128 * 128 > 200001 by omega)]
        by_cases a1 : c1.toNat < 128
        · rw [if_pos a1, if_pos a1, Nat.mod_eq_of_lt a1, Nat.mul_comm 128, if_neg (show ¬ c0.toNat % 128 + c1.toNat * 128 > 200001 by omega)]
        · rw [if_neg a1, if_neg a1, if_neg (by decide)]
          match r1 with
          | [] => rfl
          | c2 :: r2 =>
            rw [litI]
            have e : c0.toNat % 128 + c1.toNat % 128 * 128 + c2.toNat % 128 * 128 ^ 2 = c0.toNat % 128 + 128 * (c1.toNat % 128) + 16384 * (c2.toNat % 128) := by omega
            simp only [Nat.reduceAdd, e]
            by_cases a2 : c2.toNat < 128
            · rw [if_pos a2, if_pos a2, Nat.mod_eq_of_lt a2]
            · rw [if_neg a2, if_neg a2]
              split <;> simp

theorem at_byte {w : World} {A : Option Addr} {b : List UInt8} (h : Rd w A b) (j : Nat) (hj : j < b.length) : ∃ ad, A = some ad ∧ w.cell? (ad.add j) = some (.int .u8 ((nth b 0 j).toNat : Int)) := by
  obtain ⟨ad, h1, h2⟩ := at_num h j hj
  refine ⟨ad, h1, ?_⟩
  rw [h2]
  have e : nth (bts b) 0 j = ((nth b 0 j).toNat : Int) := by
    unfold nth bts
    rw [List.getD_eq_getElem?_getD, List.getD_eq_getElem?_getD, List.getElem?_map, List.getElem?_eq_getElem hj]
    rfl
  rw [e]
theorem drop_cons {α : Type} {b : List α} {j : Nat} (h : j < b.length) (z : α) : b.drop j = nth b z j :: b.drop (j + 1) := by
  unfold nth
  rw [List.getD_eq_getElem?_getD, List.getElem?_eq_getElem h, List.drop_eq_getElem_cons h]; rfl

set_option maxRecDepth 100000 in
set_option maxHeartbeats 1600000 in
theorem literal_any (w0 : World) (A : Option Addr) (c : Nat) (b : List UInt8) (w : World) (h0 : Rd w0 A b) (hb : Below w0.heap.size w0 w) (hc : b.length ≤ c) :
    Calls Tryz.prog 63 #[.slice A b.length c] w (LitSaid w0 w (litP b)) := by
  have hr := h0.below hb
  have hm := hr.2.1
  have HR0 := Aside0.mk h0
  clear h0 hb
  have HR := Aside0.mk hr
  have HC := Aside0.mk hc
  clear hr hc
  have hE : litI 0 0 (b.drop 0) = litP b := litI_zero b
  have HE := Aside0.mk hE
  clear hE
  generalize litP b = g at *
  go_enter Tryz.func63, Tryz.ntmps63
  go_wp2
  go_loopg [5, 10] 3 (fun gk v5 v10 w' => ∃ (i n : Nat), v5 = .int .i64 (n : Int) ∧ v10 = .int .i64 (i : Int) ∧ i + gk = 3 ∧ i ≤ 2 ∧ i ≤ b.length ∧ Aside0 (n < 128 ^ i) ∧ Aside0 (litI i n (b.drop i) = g) ∧ Aside0 (Below w.heap.size w w'))
  case atStart => exact ⟨0, 0, rfl, rfl, rfl, by omega, by omega, ⟨by decide⟩, HE, ⟨Below.refl _ _⟩⟩
  case round =>
    clear HE
    obtain ⟨i, n, rfl, rfl, hi, hi2, hib, hn, HE, HB⟩ := hrel
    by_cases hil : i < b.length
    · obtain ⟨ad, e0, hx⟩ := at_byte HR.out i hil
      cases e0
      replace hx := (HB.out.cell (World.block_lt_of_cell? w _ hx)).trans hx
      have q1 : ((i : Int) < (b.length : Int)) = True := eq_true (by omega)
      have q2 : (0 ≤ (i : Int)) = True := eq_true (by omega)
      have hE := HE.out
      rw [drop_cons hil 0, litI] at hE
      have ha := and127 (nth b 0 i)
      have hcl := (nth b 0 i).toNat_lt
      have hz : (nth b 0 i = 0) ↔ (nth b 0 i).toNat = 0 := ⟨fun h => by rw [h]; rfl, fun h => UInt8.toNat_inj.1 (by rw [h]; rfl)⟩
      have Hz := Aside0.mk hz
      clear hz
      generalize nth b 0 i = x at *
      have C := number_any (-100000) (by unfold RightL; omega)
      rw [show numL (-100000) = 200001 from rfl] at C
      obtain ⟨A1, k1, hk1, hk2⟩ := cut_bytes (some ad) c b ((i : Int) + 1) (by omega) (by omega) HC.out
      have ej : ((i : Int) + 1).toNat = i + 1 := by omega
      rw [ej] at k1 hk1 hk2
      have HK1 := Aside0.mk hk1
      have HK2 := Aside0.mk hk2
      obtain ⟨N, hN⟩ : ∃ N, n + x.toNat % 128 * 128 ^ i = N := ⟨_, rfl⟩
      rw [hN] at hE
      clear hk1 hk2 ej HE
      go_upto_region 5 with (fail)
      obtain ⟨a, ha1⟩ : ∃ a, x.toNat = a := ⟨_, rfl⟩
      rw [ha1] at ha hcl hN hE Hz
      have hcl2 : a < 256 := hcl
      clear hcl
      have HN := Aside0.mk hN
      clear hN
      rcases (by omega : i = 0 ∨ i = 1 ∨ i = 2) with h7 | h7 | h7
      · have hN := HN.out
        have hn2 := hn.out
        rw [h7] at hN hn2
        have hi7 : (i : Int) = 0 := by omega
        have hn3 : n < 1 := hn2
        have hN2 : N = n + a % 128 * 1 := hN.symm
        have hor : Go.bits .or .i64 (n : Int) ((a : Int) % 128) = (N : Int) := by
          have h1 := or64 n (a % 128 * 2 ^ 0) (by omega) (by omega)
          rw [or_add 0 n (a % 128) hn3] at h1
          have e1 : ((a % 128 * 2 ^ 0 : Nat) : Int) = ((a : Int) % 128) := by omega
          rw [e1] at h1
          rw [h1, hN2]
          first | done | rfl
        have HI7 := Aside0.mk h7
        have HGK := Aside0.mk hi
        have HIL := Aside0.mk hil
        have HN2 := Aside0.mk hN2
        rw [show ((i : Int) + 1) = (1 : Int) by omega] at k1
        simp only [hi7, ha1] at hx ⊢
        clear hN hn2 hN2 HN h7 hn hi7 hi hi2 hib hil
        by_cases hbig : 200001 < N
        · rw [if_pos hbig] at hE
          subst hE
          have q5 : ((200001 : Int) < (N : Int)) = True := eq_true (by omega)
          clear hbig
          go_wp2_with (first | (go_at_call 51; refine (C _).mono ?_; rintro e w1 ⟨rfl, hb⟩; have HB2 := Aside0.mk (below_step (by repeat (first | (with_reducible first | exact HB.out | apply below_alloc | apply pw_below_drewN | apply below_drew1) | exact HB.out)) hb); clear HB; have HB := HB2; clear HB2 hb))
          go_ret3
          exact ⟨HB.out, rfl⟩
        rw [if_neg hbig] at hE
        have q5 : ((200001 : Int) < (N : Int)) = False := eq_false (by omega)
        by_cases hsm : a < 128
        · rw [if_pos hsm] at hE
          have q6 : ((a : Int) < 128) = True := eq_true (by omega)
          by_cases hzz : a = 0 ∨ N < 2
          · have hzz2 : x = 0 ∨ N < 2 := by rcases hzz with h | h; exact .inl (Hz.out.2 h); exact .inr h
            rw [if_pos hzz2] at hE
            subst hE
            clear hzz2 hbig hsm
            rcases (by omega : a = 0 ∨ (a ≠ 0 ∧ N < 2)) with h0 | ⟨h0, h2⟩
            · have q8 : ((a : Int) == 0) = true := by simp; omega
              clear hzz h0
              go_wp2_with (first | (go_at_call 51; refine (C _).mono ?_; rintro e w1 ⟨rfl, hb⟩; have HB2 := Aside0.mk (below_step (by repeat (first | (with_reducible first | exact HB.out | apply below_alloc | apply pw_below_drewN | apply below_drew1) | exact HB.out)) hb); clear HB; have HB := HB2; clear HB2 hb))
              go_ret3
              exact ⟨HB.out, rfl⟩
            · have q8 : ((a : Int) == 0) = false := by simp; omega
              have q9 : ((N : Int) < 2) = True := eq_true (by omega)
              clear hzz h0 h2
              go_wp2_with (first | (go_at_call 51; refine (C _).mono ?_; rintro e w1 ⟨rfl, hb⟩; have HB2 := Aside0.mk (below_step (by repeat (first | (with_reducible first | exact HB.out | apply below_alloc | apply pw_below_drewN | apply below_drew1) | exact HB.out)) hb); clear HB; have HB := HB2; clear HB2 hb))
              go_ret3
              exact ⟨HB.out, rfl⟩
          · have hzz2 : ¬ (x = 0 ∨ N < 2) := by rintro (h | h); exact hzz (.inl (Hz.out.1 h)); exact hzz (.inr h)
            rw [if_neg hzz2] at hE
            subst hE
            have q8 : ((a : Int) == 0) = false := by simp; omega
            have q9 : ((N : Int) < 2) = False := eq_false (by omega)
            have Ca := fun w => at_any N (by omega) (by omega) w
            have hw : IntKind.i64.wrap ((N : Int) - 2) = (N : Int) - 2 := by rw [IntKind.wrap_i64]; omega
            have hw2 : IntKind.i64.wrap 1 = 1 := rfl
            have hb1 : (2 : Int) ≤ (N : Int) := by omega
            have hb2 : (N : Int) ≤ 200001 := by omega
            clear hzz hzz2 hbig hsm
            go_wp2_with (first | (go_at_call 51; refine (C _).mono ?_; rintro e w1 ⟨rfl, hb⟩; have HB2 := Aside0.mk (below_step (by repeat (first | (with_reducible first | exact HB.out | apply below_alloc | apply pw_below_drewN | apply below_drew1) | exact HB.out)) hb); clear HB; have HB := HB2; clear HB2 hb))
            go_quiet ((go_at_call 73; with_reducible exact Calls.quiet_of_same (Ca _)))
            go_wp2
            go_ret3
            exact ⟨(by repeat (first | (with_reducible first | exact HB.out | apply below_alloc | apply pw_below_drewN | apply below_drew1) | exact HB.out)), A1, _, by rw [List.length_drop]; rfl, HK2.out, HK1.out _ HR0.out⟩
        · rw [if_neg hsm] at hE
          have q6 : ((a : Int) < 128) = False := eq_false (by omega)
          rw [if_neg (by have := HI7.out; omega)] at hE
          have HE := Aside0.mk hE
          clear hE hbig hsm
          go_wp2_with (first | (go_at_call 51; refine (C _).mono ?_; rintro e w1 ⟨rfl, hb⟩; have HB2 := Aside0.mk (below_step (by repeat (first | (with_reducible first | exact HB.out | apply below_alloc | apply pw_below_drewN | apply below_drew1) | exact HB.out)) hb); clear HB; have HB := HB2; clear HB2 hb))
          go_roundg 2
          case measure => have := HI7.out; have := HGK.out; omega
          case rel =>
            refine ⟨1, N, rfl, rfl, rfl, by omega, by have := HI7.out; have := HIL.out; omega, ⟨?_⟩, ⟨?_⟩, HB⟩
            · have := HN2.out; have := hn3; omega
            · have h1 := HE.out; rw [HI7.out] at h1; exact h1
      · have hN := HN.out
        have hn2 := hn.out
        rw [h7] at hN hn2
        have hi7 : (i : Int) = 1 := by omega
        have hn3 : n < 128 := hn2
        have hN2 : N = n + a % 128 * 128 := hN.symm
        have hor : Go.bits .or .i64 (n : Int) ((a : Int) % 128 * 128) = (N : Int) := by
          have h1 := or64 n (a % 128 * 2 ^ 7) (by omega) (by omega)
          rw [or_add 7 n (a % 128) hn3] at h1
          have e1 : ((a % 128 * 2 ^ 7 : Nat) : Int) = ((a : Int) % 128 * 128) := by omega
          rw [e1] at h1
          rw [h1, hN2]
          first | done | rfl
        have HI7 := Aside0.mk h7
        have HGK := Aside0.mk hi
        have HIL := Aside0.mk hil
        have HN2 := Aside0.mk hN2
        rw [show ((i : Int) + 1) = (2 : Int) by omega] at k1
        simp only [hi7, ha1] at hx ⊢
        clear hN hn2 hN2 HN h7 hn hi7 hi hi2 hib hil
        by_cases hbig : 200001 < N
        · rw [if_pos hbig] at hE
          subst hE
          have q5 : ((200001 : Int) < (N : Int)) = True := eq_true (by omega)
          clear hbig
          go_wp2_with (first | (go_at_call 51; refine (C _).mono ?_; rintro e w1 ⟨rfl, hb⟩; have HB2 := Aside0.mk (below_step (by repeat (first | (with_reducible first | exact HB.out | apply below_alloc | apply pw_below_drewN | apply below_drew1) | exact HB.out)) hb); clear HB; have HB := HB2; clear HB2 hb))
          go_ret3
          exact ⟨HB.out, rfl⟩
        rw [if_neg hbig] at hE
        have q5 : ((200001 : Int) < (N : Int)) = False := eq_false (by omega)
        by_cases hsm : a < 128
        · rw [if_pos hsm] at hE
          have q6 : ((a : Int) < 128) = True := eq_true (by omega)
          by_cases hzz : a = 0 ∨ N < 2
          · have hzz2 : x = 0 ∨ N < 2 := by rcases hzz with h | h; exact .inl (Hz.out.2 h); exact .inr h
            rw [if_pos hzz2] at hE
            subst hE
            clear hzz2 hbig hsm
            rcases (by omega : a = 0 ∨ (a ≠ 0 ∧ N < 2)) with h0 | ⟨h0, h2⟩
            · have q8 : ((a : Int) == 0) = true := by simp; omega
              clear hzz h0
              go_wp2_with (first | (go_at_call 51; refine (C _).mono ?_; rintro e w1 ⟨rfl, hb⟩; have HB2 := Aside0.mk (below_step (by repeat (first | (with_reducible first | exact HB.out | apply below_alloc | apply pw_below_drewN | apply below_drew1) | exact HB.out)) hb); clear HB; have HB := HB2; clear HB2 hb))
              go_ret3
              exact ⟨HB.out, rfl⟩
            · have q8 : ((a : Int) == 0) = false := by simp; omega
              have q9 : ((N : Int) < 2) = True := eq_true (by omega)
              clear hzz h0 h2
              go_wp2_with (first | (go_at_call 51; refine (C _).mono ?_; rintro e w1 ⟨rfl, hb⟩; have HB2 := Aside0.mk (below_step (by repeat (first | (with_reducible first | exact HB.out | apply below_alloc | apply pw_below_drewN | apply below_drew1) | exact HB.out)) hb); clear HB; have HB := HB2; clear HB2 hb))
              go_ret3
              exact ⟨HB.out, rfl⟩
          · have hzz2 : ¬ (x = 0 ∨ N < 2) := by rintro (h | h); exact hzz (.inl (Hz.out.1 h)); exact hzz (.inr h)
            rw [if_neg hzz2] at hE
            subst hE
            have q8 : ((a : Int) == 0) = false := by simp; omega
            have q9 : ((N : Int) < 2) = False := eq_false (by omega)
            have Ca := fun w => at_any N (by omega) (by omega) w
            have hw : IntKind.i64.wrap ((N : Int) - 2) = (N : Int) - 2 := by rw [IntKind.wrap_i64]; omega
            have hw2 : IntKind.i64.wrap 2 = 2 := rfl
            have hb1 : (2 : Int) ≤ (N : Int) := by omega
            have hb2 : (N : Int) ≤ 200001 := by omega
            clear hzz hzz2 hbig hsm
            go_wp2_with (first | (go_at_call 51; refine (C _).mono ?_; rintro e w1 ⟨rfl, hb⟩; have HB2 := Aside0.mk (below_step (by repeat (first | (with_reducible first | exact HB.out | apply below_alloc | apply pw_below_drewN | apply below_drew1) | exact HB.out)) hb); clear HB; have HB := HB2; clear HB2 hb))
            go_quiet ((go_at_call 73; with_reducible exact Calls.quiet_of_same (Ca _)))
            go_wp2
            go_ret3
            exact ⟨(by repeat (first | (with_reducible first | exact HB.out | apply below_alloc | apply pw_below_drewN | apply below_drew1) | exact HB.out)), A1, _, by rw [List.length_drop]; rfl, HK2.out, HK1.out _ HR0.out⟩
        · rw [if_neg hsm] at hE
          have q6 : ((a : Int) < 128) = False := eq_false (by omega)
          rw [if_neg (by have := HI7.out; omega)] at hE
          have HE := Aside0.mk hE
          clear hE hbig hsm
          go_wp2_with (first | (go_at_call 51; refine (C _).mono ?_; rintro e w1 ⟨rfl, hb⟩; have HB2 := Aside0.mk (below_step (by repeat (first | (with_reducible first | exact HB.out | apply below_alloc | apply pw_below_drewN | apply below_drew1) | exact HB.out)) hb); clear HB; have HB := HB2; clear HB2 hb))
          go_roundg 1
          case measure => have := HI7.out; have := HGK.out; omega
          case rel =>
            refine ⟨2, N, rfl, rfl, rfl, by omega, by have := HI7.out; have := HIL.out; omega, ⟨?_⟩, ⟨?_⟩, HB⟩
            · have := HN2.out; have := hn3; omega
            · have h1 := HE.out; rw [HI7.out] at h1; exact h1
      · have hN := HN.out
        have hn2 := hn.out
        rw [h7] at hN hn2
        have hi7 : (i : Int) = 2 := by omega
        have hn3 : n < 16384 := hn2
        have hN2 : N = n + a % 128 * 16384 := hN.symm
        have hor : Go.bits .or .i64 (n : Int) ((a : Int) % 128 * 16384) = (N : Int) := by
          have h1 := or64 n (a % 128 * 2 ^ 14) (by omega) (by omega)
          rw [or_add 14 n (a % 128) hn3] at h1
          have e1 : ((a % 128 * 2 ^ 14 : Nat) : Int) = ((a : Int) % 128 * 16384) := by omega
          rw [e1] at h1
          rw [h1, hN2]
          first | done | rfl
        have HI7 := Aside0.mk h7
        have HGK := Aside0.mk hi
        have HIL := Aside0.mk hil
        have HN2 := Aside0.mk hN2
        rw [show ((i : Int) + 1) = (3 : Int) by omega] at k1
        simp only [hi7, ha1] at hx ⊢
        clear hN hn2 hN2 HN h7 hn hi7 hi hi2 hib hil
        by_cases hbig : 200001 < N
        · rw [if_pos hbig] at hE
          subst hE
          have q5 : ((200001 : Int) < (N : Int)) = True := eq_true (by omega)
          clear hbig
          go_wp2_with (first | (go_at_call 51; refine (C _).mono ?_; rintro e w1 ⟨rfl, hb⟩; have HB2 := Aside0.mk (below_step (by repeat (first | (with_reducible first | exact HB.out | apply below_alloc | apply pw_below_drewN | apply below_drew1) | exact HB.out)) hb); clear HB; have HB := HB2; clear HB2 hb))
          go_ret3
          exact ⟨HB.out, rfl⟩
        rw [if_neg hbig] at hE
        have q5 : ((200001 : Int) < (N : Int)) = False := eq_false (by omega)
        by_cases hsm : a < 128
        · rw [if_pos hsm] at hE
          have q6 : ((a : Int) < 128) = True := eq_true (by omega)
          by_cases hzz : a = 0 ∨ N < 2
          · have hzz2 : x = 0 ∨ N < 2 := by rcases hzz with h | h; exact .inl (Hz.out.2 h); exact .inr h
            rw [if_pos hzz2] at hE
            subst hE
            clear hzz2 hbig hsm
            rcases (by omega : a = 0 ∨ (a ≠ 0 ∧ N < 2)) with h0 | ⟨h0, h2⟩
            · have q8 : ((a : Int) == 0) = true := by simp; omega
              clear hzz h0
              go_wp2_with (first | (go_at_call 51; refine (C _).mono ?_; rintro e w1 ⟨rfl, hb⟩; have HB2 := Aside0.mk (below_step (by repeat (first | (with_reducible first | exact HB.out | apply below_alloc | apply pw_below_drewN | apply below_drew1) | exact HB.out)) hb); clear HB; have HB := HB2; clear HB2 hb))
              go_ret3
              exact ⟨HB.out, rfl⟩
            · have q8 : ((a : Int) == 0) = false := by simp; omega
              have q9 : ((N : Int) < 2) = True := eq_true (by omega)
              clear hzz h0 h2
              go_wp2_with (first | (go_at_call 51; refine (C _).mono ?_; rintro e w1 ⟨rfl, hb⟩; have HB2 := Aside0.mk (below_step (by repeat (first | (with_reducible first | exact HB.out | apply below_alloc | apply pw_below_drewN | apply below_drew1) | exact HB.out)) hb); clear HB; have HB := HB2; clear HB2 hb))
              go_ret3
              exact ⟨HB.out, rfl⟩
          · have hzz2 : ¬ (x = 0 ∨ N < 2) := by rintro (h | h); exact hzz (.inl (Hz.out.1 h)); exact hzz (.inr h)
            rw [if_neg hzz2] at hE
            subst hE
            have q8 : ((a : Int) == 0) = false := by simp; omega
            have q9 : ((N : Int) < 2) = False := eq_false (by omega)
            have Ca := fun w => at_any N (by omega) (by omega) w
            have hw : IntKind.i64.wrap ((N : Int) - 2) = (N : Int) - 2 := by rw [IntKind.wrap_i64]; omega
            have hw2 : IntKind.i64.wrap 3 = 3 := rfl
            have hb1 : (2 : Int) ≤ (N : Int) := by omega
            have hb2 : (N : Int) ≤ 200001 := by omega
            clear hzz hzz2 hbig hsm
            go_wp2_with (first | (go_at_call 51; refine (C _).mono ?_; rintro e w1 ⟨rfl, hb⟩; have HB2 := Aside0.mk (below_step (by repeat (first | (with_reducible first | exact HB.out | apply below_alloc | apply pw_below_drewN | apply below_drew1) | exact HB.out)) hb); clear HB; have HB := HB2; clear HB2 hb))
            go_quiet ((go_at_call 73; with_reducible exact Calls.quiet_of_same (Ca _)))
            go_wp2
            go_ret3
            exact ⟨(by repeat (first | (with_reducible first | exact HB.out | apply below_alloc | apply pw_below_drewN | apply below_drew1) | exact HB.out)), A1, _, by rw [List.length_drop]; rfl, HK2.out, HK1.out _ HR0.out⟩
        · rw [if_neg hsm] at hE
          have q6 : ((a : Int) < 128) = False := eq_false (by omega)
          rw [if_pos (by have := HI7.out; omega)] at hE
          subst hE
          clear hbig hsm
          go_wp2_with (first | (go_at_call 51; refine (C _).mono ?_; rintro e w1 ⟨rfl, hb⟩; have HB2 := Aside0.mk (below_step (by repeat (first | (with_reducible first | exact HB.out | apply below_alloc | apply pw_below_drewN | apply below_drew1) | exact HB.out)) hb); clear HB; have HB := HB2; clear HB2 hb))
          go_ret3
          exact ⟨HB.out, rfl⟩
    · have q1 : ((i : Int) < (b.length : Int)) = False := eq_false (by omega)
      have hE := HE.out
      rw [List.drop_of_length_le (by omega), litI] at hE
      subst hE
      clear HE
      go_wp2
      go_ret3
      exact ⟨HB.out, rfl⟩

end Go.Proofs.YtcblijcalhaffaaGreatDoor
namespace Go.Proofs.YtcblijcalhaffaaGreatDoor
open Go Go.RowKit Go.Proofs.YtcblijcalhaffaaGreatDoorW.PrintWords Go.Proofs.YtcblijcalhaffaaGreatDoorW.PrintLast Go.Proofs.YtcblijcalhaffaaGreatDoorW.PrintMore PCheckSound

def joinG (ls : List Int) : Got (List Int) → Got (List Int)
  | .ok ms q => .ok (ls ++ ms) q
  | .form => .form
  | .short => .short
def stepG (d : Bool) : Got (List Int) → Got PStep
  | .ok ls q => .ok ⟨d, ls⟩ q
  | .form => .form
  | .short => .short
theorem stepP_G (c : UInt8) (r : List UInt8) (h : c = 97 ∨ c = 100) : stepP (c :: r) = stepG (decide (c = 100)) (litsP (r.length + 1) r) := by
  simp only [stepP]
  rw [if_pos h]
  cases litsP (r.length + 1) r <;> rfl
theorem joinG_nil (g : Got (List Int)) : joinG [] g = g := by cases g <;> rfl
theorem joinG_cons (ls : List Int) (f : Nat) (c : UInt8) (r q : List UInt8) (l : Int) (hc : c ≠ 0) (h : litP (c :: r) = .ok l q) : joinG ls (litsP (f + 1) (c :: r)) = joinG (ls ++ [l]) (litsP f q) := by
  rw [litsP, if_neg hc, h]
  simp only
  cases litsP f q <;> simp [joinG]
theorem joinG_form (ls : List Int) (f : Nat) (c : UInt8) (r : List UInt8) (hc : c ≠ 0) (h : litP (c :: r) = .form) : joinG ls (litsP (f + 1) (c :: r)) = .form := by
  rw [litsP, if_neg hc, h]
  rfl
theorem joinG_short (ls : List Int) (f : Nat) (c : UInt8) (r : List UInt8) (hc : c ≠ 0) (h : litP (c :: r) = .short) : joinG ls (litsP (f + 1) (c :: r)) = .short := by
  rw [litsP, if_neg hc, h]
  rfl
theorem joinG_end (ls : List Int) (f : Nat) (r : List UInt8) : joinG ls (litsP (f + 1) (0 :: r)) = .ok ls r := by
  rw [litsP]
  simp [joinG]

/-- What the next step's call leaves. -/
def StepSaid (w0 w : World) (g : Got PStep) (e : Ending) (w' : World) : Prop := Below w.heap.size w w' ∧ match g with
  | .ok s r => ∃ V A c, e = .returned (.tuple #[.agg #[.bool s.del, V], .slice A r.length c, .int .i64 0]) ∧ r.length ≤ c ∧ Rd w0 A r ∧ Kd.R (Kd.int .i64) 3 w' w.heap.size (fun _ => True) V s.lits
  | .form => ∃ d A n c, e = .returned (.tuple #[.agg #[.bool d, .slice A n c], .slice none 0 0, .int .i64 9])
  | .short => ∃ d A n c, e = .returned (.tuple #[.agg #[.bool d, .slice A n c], .slice none 0 0, .int .i64 10])

theorem add0 (ad : Addr) : ad.add 0 = ad := by unfold Addr.add; split <;> simp_all
theorem byte_ne (c : UInt8) (n : Nat) (h : c ≠ UInt8.ofNat n) : ((c.toNat : Int) == (n : Int)) = false ∧ ((c.toNat : Int) != (n : Int)) = true := by
  have : c.toNat ≠ n := fun e => h (by rw [← e, UInt8.ofNat_toNat])
  constructor
  · simp; omega
  · simp; omega


set_option maxRecDepth 100000 in
set_option maxHeartbeats 3200000 in
theorem step_bad (w0 : World) (A : Option Addr) (c : Nat) (b : List UInt8) (x : UInt8) (r : List UInt8) (hbx : b = x :: r) (w : World) (h0 : Rd w0 A b) (hb : Below w0.heap.size w0 w) (hx : ¬ (x = 97 ∨ x = 100)) :
    Calls Tryz.prog 46 #[.slice A b.length c] w (StepSaid w0 w .form) := by
  have hu := Tryz.underlying41
  obtain ⟨ad, e0, hcell⟩ := at_byte (h0.below hb) 0 (by rw [hbx]; simp)
  cases e0
  rw [hbx, show nth (x :: r) 0 0 = x from rfl, add0] at hcell
  have hm := h0.2.1
  have q3 := byte_ne x 97 (fun h => hx (.inl h))
  have q4 := byte_ne x 100 (fun h => hx (.inr h))
  have e1 : ((x.toNat : Int) == 100) = false := q4.1
  have e2 : ((x.toNat : Int) != 97) = true := q3.2
  have e3 : ((x.toNat : Int) != 100) = true := q4.2
  have q00 : ((0 : Int) < (b.length : Int)) = True := eq_true (by rw [hbx]; simp)
  have q01 : (0 < b.length) = True := eq_true (by rw [hbx]; simp)
  have HB := Aside0.mk (Below.refl w.heap.size w)
  clear h0 hb hx q3 q4 hbx
  have hcl := Aside0.mk (World.block_lt_of_cell? w _ hcell)
  have Hc := Aside0.mk hcell
  clear hcell
  go_enter Tryz.func46, Tryz.ntmps46
  go_wp2_with (first
    | (((with_reducible refine gate_dst (N := 2) rfl ?_); refine box_event ?hg (N := 2) ?hd (cs := #[.bool false, .slice none 0 0]) (t := 41) ?hr ?_; (case hd => rfl); (case hg => rfl); (case hr => first | (go_simp; done) | (go_simp; rfl)); intro ga hg w5 hbox hb; have GEA := Aside0.mk ((by rw [hg]; exact (below_size (by repeat (first | (with_reducible first | exact HB.out | apply below_alloc | apply pw_below_drewN | apply below_drew1) | exact HB.out)))) : w.heap.size ≤ ga); have n0_ := Aside0.mk (below_step (by repeat (first | (with_reducible first | exact HB.out | apply below_alloc | apply pw_below_drewN | apply below_drew1) | exact HB.out)) hb); have BKA := Aside0.mk hbox; clear HB; have HB := n0_; clear n0_ hb hbox hg); have hx5 := (HB.out.cell hcl.out).trans Hc.out)
    | (((with_reducible refine gate_dst (N := 5) rfl ?_); refine box_event ?hg (N := 5) ?hd (cs := #[.bool false, .slice none 0 0]) (t := 41) ?hr ?_; (case hd => rfl); (case hg => rfl); (case hr => first | (go_simp; done) | (go_simp; rfl)); intro gb hg w6 hbox hb; have GEB := Aside0.mk ((by rw [hg]; exact (below_size (by repeat (first | (with_reducible first | exact HB.out | apply below_alloc | apply pw_below_drewN | apply below_drew1) | exact HB.out)))) : w.heap.size ≤ gb); have n0_ := Aside0.mk (below_step (by repeat (first | (with_reducible first | exact HB.out | apply below_alloc | apply pw_below_drewN | apply below_drew1) | exact HB.out)) hb); have BKB := Aside0.mk hbox; have n1_ := Aside0.mk (blk_below BKA.out hb); have hne : ga ≠ gb := (by have := blk_lt BKA.out; rw [hg]; simp; omega); clear HB BKA; have HB := n0_; have BKA := n1_; clear n0_ n1_ hb hbox hg; have ne1 : (ga = gb) = False := eq_false hne; have ne2 : (gb = ga) = False := eq_false (Ne.symm hne); clear hne; have ca0 : w6.cell? ⟨ga, 0, none⟩ = some (.bool false) := (blk_cell BKA.out 0).trans rfl; have ca1 : w6.cell? ⟨ga, 1, none⟩ = some (.slice none 0 0) := (blk_cell BKA.out 1).trans rfl; have fa0 := blk_frozen BKA.out 0; have fa1 := blk_frozen BKA.out 1; have cb0 : w6.cell? ⟨gb, 0, none⟩ = some (.bool false) := (blk_cell BKB.out 0).trans rfl; have cb1 : w6.cell? ⟨gb, 1, none⟩ = some (.slice none 0 0) := (blk_cell BKB.out 1).trans rfl; have fb0 := blk_frozen BKB.out 0; have fb1 := blk_frozen BKB.out 1); have hx6 := (HB.out.cell hcl.out).trans Hc.out; have hx7 : ((w6.setCell ⟨gb, 0, none⟩ (.bool false)).setCell ⟨gb, 1, none⟩ (.slice none 0 0)).cell? ad = some (.int .u8 (x.toNat : Int)) := ((by repeat (first | (with_reducible first | exact HB.out | apply below_alloc | apply pw_below_drewN | apply below_drew1 | refine below_set ?_ GEB.out | refine below_set ?_ GEA.out) | exact HB.out)) : Below w.heap.size w ((w6.setCell ⟨gb, 0, none⟩ (.bool false)).setCell ⟨gb, 1, none⟩ (.slice none 0 0))).cell hcl.out |>.trans Hc.out))
  exact bodyPost_ret (v := .tuple #[.agg #[.bool false, .slice none 0 0], .slice none 0 0, .int .i64 9]) (by simp [results, Tryz.results46, go_sem, *]) rfl ⟨(by repeat (first | (with_reducible first | exact HB.out | apply below_alloc | apply pw_below_drewN | apply below_drew1 | refine below_set ?_ GEB.out | refine below_set ?_ GEA.out) | exact HB.out)), _, _, _, _, rfl⟩

set_option maxRecDepth 100000 in
set_option maxHeartbeats 1600000 in
theorem step_true (w0 : World) (A : Option Addr) (c : Nat) (b : List UInt8) (r : List UInt8) (hbx : b = 100 :: r) (w : World) (h0 : Rd w0 A b) (hb : Below w0.heap.size w0 w) (hc : b.length ≤ c) (hX : b.length ≤ 1099511627776) :
    Calls Tryz.prog 46 #[.slice A b.length c] w (StepSaid w0 w (stepG true (litsP (r.length + 1) r))) := by
  have hu := Tryz.underlying41
  obtain ⟨ad, e0, hcell⟩ := at_byte (h0.below hb) 0 (by rw [hbx]; simp)
  cases e0
  rw [hbx, show nth (100 :: r) 0 0 = 100 from rfl, add0, show ((100 : UInt8).toNat : Int) = 100 from rfl] at hcell
  have hm := h0.2.1
  have q00 : ((0 : Int) < (b.length : Int)) = True := eq_true (by rw [hbx]; simp; try omega)
  have q01 : (0 < b.length) = True := eq_true (by rw [hbx]; simp)
  have HB := Aside0.mk (Below.refl w.heap.size w)
  obtain ⟨A1, k1, hk1, hk2⟩ := cut_bytes (some ad) c b 1 (by omega) (by rw [hbx]; simp; omega) hc
  have hd1 : b.drop (1 : Int).toNat = r := by rw [hbx]; rfl
  rw [hd1] at k1 hk1 hk2
  have HR1 := Aside0.mk (hk1 _ h0)
  have HK2 := Aside0.mk hk2
  have HW0 := Aside0.mk hb
  have HXX : Aside0 (r.length ≤ 1099511627776) := ⟨by rw [hbx] at hX; simp at hX; omega⟩
  have hmr : r.length ≤ 1099511627776 := HXX.out
  have hG : joinG [] (litsP (r.length + 1) r) = litsP (r.length + 1) r := joinG_nil _
  have HG0 := Aside0.mk hG
  clear hd1 hk1 hk2 hX hc hb h0 hbx hG
  obtain ⟨G, hGG⟩ : ∃ G, litsP (r.length + 1) r = G := ⟨_, rfl⟩
  have HGG := Aside0.mk hGG
  rw [hGG]
  clear hGG
  have hcl := Aside0.mk (World.block_lt_of_cell? w _ hcell)
  have Hc := Aside0.mk hcell
  clear hcell
  go_enter Tryz.func46, Tryz.ntmps46
  go_wp2_with (first
    | (((with_reducible refine gate_dst (N := 2) rfl ?_); refine box_event ?hg (N := 2) ?hd (cs := #[.bool false, .slice none 0 0]) (t := 41) ?hr ?_; (case hd => rfl); (case hg => rfl); (case hr => first | (go_simp; done) | (go_simp; rfl)); intro ga hg w5 hbox hb; have GEA := Aside0.mk ((by rw [hg]; exact (below_size (by repeat (first | (with_reducible first | exact HB.out | apply below_alloc | apply pw_below_drewN | apply below_drew1) | exact HB.out)))) : w.heap.size ≤ ga); have n0_ := Aside0.mk (below_step (by repeat (first | (with_reducible first | exact HB.out | apply below_alloc | apply pw_below_drewN | apply below_drew1) | exact HB.out)) hb); have BKA := Aside0.mk hbox; clear HB; have HB := n0_; clear n0_ hb hbox hg); have hx5 := (HB.out.cell hcl.out).trans Hc.out)
    | (((with_reducible refine gate_dst (N := 5) rfl ?_); refine box_event ?hg (N := 5) ?hd (cs := #[.bool false, .slice none 0 0]) (t := 41) ?hr ?_; (case hd => rfl); (case hg => rfl); (case hr => first | (go_simp; done) | (go_simp; rfl)); intro gb hg w6 hbox hb; have GEB := Aside0.mk ((by rw [hg]; exact (below_size (by repeat (first | (with_reducible first | exact HB.out | apply below_alloc | apply pw_below_drewN | apply below_drew1) | exact HB.out)))) : w.heap.size ≤ gb); have n0_ := Aside0.mk (below_step (by repeat (first | (with_reducible first | exact HB.out | apply below_alloc | apply pw_below_drewN | apply below_drew1) | exact HB.out)) hb); have BKB := Aside0.mk hbox; have n1_ := Aside0.mk (blk_below BKA.out hb); have hne : ga ≠ gb := (by have := blk_lt BKA.out; rw [hg]; simp; omega); clear HB BKA; have HB := n0_; have BKA := n1_; clear n0_ n1_ hb hbox hg; have ne1 : (ga = gb) = False := eq_false hne; have ne2 : (gb = ga) = False := eq_false (Ne.symm hne); clear hne; have ca0 : w6.cell? ⟨ga, 0, none⟩ = some (.bool false) := (blk_cell BKA.out 0).trans rfl; have ca1 : w6.cell? ⟨ga, 1, none⟩ = some (.slice none 0 0) := (blk_cell BKA.out 1).trans rfl; have fa0 := blk_frozen BKA.out 0; have fa1 := blk_frozen BKA.out 1; have cb0 : w6.cell? ⟨gb, 0, none⟩ = some (.bool false) := (blk_cell BKB.out 0).trans rfl; have cb1 : w6.cell? ⟨gb, 1, none⟩ = some (.slice none 0 0) := (blk_cell BKB.out 1).trans rfl; have fb0 := blk_frozen BKB.out 0; have fb1 := blk_frozen BKB.out 1); have hx6 := (HB.out.cell hcl.out).trans Hc.out; have hx7 : ((w6.setCell ⟨gb, 0, none⟩ (.bool true)).setCell ⟨gb, 1, none⟩ (.slice none 0 0)).cell? ad = some (.int .u8 100) := ((by repeat (first | (with_reducible first | exact HB.out | apply below_alloc | apply pw_below_drewN | apply below_drew1 | refine below_set ?_ GEB.out | refine below_set ?_ GEA.out) | exact HB.out)) : Below w.heap.size w ((w6.setCell ⟨gb, 0, none⟩ (.bool true)).setCell ⟨gb, 1, none⟩ (.slice none 0 0))).cell hcl.out |>.trans Hc.out))
  clear hx5 hx6 hx7
  go_loopg [0] r.length (fun gk v0 w' => ∃ (q : List UInt8) (A2 : Option Addr) (c2 f : Nat) (ls : List Int) (V : Value), v0 = .slice A2 q.length c2 ∧ q.length = gk ∧ q.length ≤ c2 ∧ q.length < f ∧ Aside0 (ls.length + q.length ≤ r.length) ∧ Aside0 (Rd w0 A2 q) ∧ Aside0 (joinG ls (litsP f q) = G) ∧ Aside0 (Kd.R (Kd.int .i64) 3 w' w.heap.size (fun _ => True) V ls) ∧ Aside0 (w'.heap[ga]? = some (.cells #[.bool false, .slice none 0 0] 41 (0, 0))) ∧ Aside0 (w'.heap[gb]? = some (.cells #[.bool true, V] 41 (0, 0))) ∧ Aside0 (Below w.heap.size w w'))
  case atStart =>
    refine ⟨r, A1, _, r.length + 1, [], .slice none 0 0, rfl, rfl, HK2.out, by omega, ⟨by simp⟩, HR1, ⟨by rw [HGG.out]; exact joinG_nil _⟩, ⟨Kd.R_nil _ _ _ _ _⟩, ⟨blk_far (p := ⟨gb, 1, none⟩) (blk_far (p := ⟨gb, 0, none⟩) BKA.out (by simpa using ne1) (.bool true)) (by simpa using ne1) (.slice none 0 0)⟩, ⟨blk_put (cs := #[.bool true, .slice none 0 0]) (blk_put (cs := #[.bool false, .slice none 0 0]) BKB.out 0 (.bool true) rfl) 1 (.slice none 0 0) rfl⟩, ⟨(by repeat (first | (with_reducible first | exact HB.out | apply below_alloc | apply pw_below_drewN | apply below_drew1 | refine below_set ?_ GEB.out | refine below_set ?_ GEA.out) | exact HB.out))⟩⟩
  case round =>
    clear HB BKA BKB ca0 ca1 fa0 fa1 cb0 cb1 fb0 fb1
    obtain ⟨q, A2, c2, f, ls, V, rfl, hgk, hq2, hqf, HLN, HR2, HJ, HO, BKA, BKB, HB⟩ := hrel
    obtain ⟨AV, cV, rfl⟩ := Kd.R_slice HO.out
    have ca0 : wr.cell? ⟨ga, 0, none⟩ = some (.bool false) := (blk_cell BKA.out 0).trans rfl
    have ca1 : wr.cell? ⟨ga, 1, none⟩ = some (.slice none 0 0) := (blk_cell BKA.out 1).trans rfl
    have fa0 := blk_frozen BKA.out 0
    have fa1 := blk_frozen BKA.out 1
    have cb0 : wr.cell? ⟨gb, 0, none⟩ = some (.bool true) := (blk_cell BKB.out 0).trans rfl
    have cb1 : wr.cell? ⟨gb, 1, none⟩ = some ((.slice AV ls.length cV)) := (blk_cell BKB.out 1).trans rfl
    have fb0 := blk_frozen BKB.out 0
    have fb1 := blk_frozen BKB.out 1
    have hml : ls.length ≤ 1099511627776 := by have := HLN.out; have := HXX.out; omega
    have hmq : q.length ≤ 1099511627776 := by have := HLN.out; have := HXX.out; omega
    have HGK := Aside0.mk hgk
    have HQF := Aside0.mk hqf
    have HQ2 := Aside0.mk hq2
    have HBW := Aside0.mk (below_step HW0.out HB.out)
    clear hgk hqf hq2
    obtain ⟨f, rfl⟩ : ∃ g, f = g + 1 := ⟨f - 1, by have := HQF.out; omega⟩
    obtain hq | ⟨y, q2, hq⟩ : q = [] ∨ ∃ y q2, q = y :: q2 := by cases q with | nil => exact .inl rfl | cons y q2 => exact .inr ⟨y, q2, rfl⟩
    · have hG2 : G = .short := by rw [← HJ.out, hq]; rfl
      subst hG2
      have z1 : (0 < q.length) = False := eq_false (by rw [hq]; simp)
      have z2 : ((q.length : Int) == 0) = true := by rw [hq]; rfl
      clear HGG HJ hq
      go_wp2
      exact bodyPost_ret (v := .tuple #[.agg #[.bool true, .slice AV ls.length cV], .slice none 0 0, .int .i64 10]) (by simp [results, Tryz.results46, go_sem, *]) rfl ⟨(by repeat (first | (with_reducible first | exact HB.out | apply below_alloc | apply pw_below_drewN | apply below_drew1 | refine below_set ?_ GEB.out | refine below_set ?_ GEA.out) | exact HB.out)), _, _, _, _, rfl⟩
    have z1 : (0 < q.length) = True := eq_true (by rw [hq]; simp)
    have z2 : ((q.length : Int) == 0) = false := by rw [hq]; simp; omega
    obtain ⟨ad2, e2, hy⟩ := at_byte HR2.out 0 (by rw [hq]; simp)
    cases e2
    rw [hq, show nth (y :: q2) 0 0 = y from rfl, add0] at hy
    replace hy := (HBW.out.cell (World.block_lt_of_cell? w0 _ hy)).trans hy
    by_cases hy0 : y = 0
    · subst hy0
      have hG2 : G = .ok ls q2 := by rw [← HJ.out, hq]; exact joinG_end ls f q2
      subst hG2
      rw [show ((0 : UInt8).toNat : Int) = 0 from rfl] at hy
      obtain ⟨A3, k3, hk3, hk4⟩ := cut_bytes (some ad2) c2 q 1 (by omega) (by rw [hq]; simp; omega) HQ2.out
      have hd3 : q.drop (1 : Int).toNat = q2 := by rw [hq]; rfl
      rw [hd3] at k3 hk3 hk4
      have HK3 := Aside0.mk (hk3 _ HR2.out)
      have HK4 := Aside0.mk hk4
      clear HGG HJ hq hd3 hk3 hk4 k1
      go_wp2
      go_region
      all_goals go_wp2
      all_goals
        refine bodyPost_ret (v := .tuple #[.agg #[.bool true, .slice AV ls.length cV], .slice A3 q2.length (c2 - 1), .int .i64 0]) (by simp [results, Tryz.results46, go_sem, *]) rfl ⟨(by repeat (first | (with_reducible first | exact HB.out | apply below_alloc | apply pw_below_drewN | apply below_drew1 | refine below_set ?_ GEB.out | refine below_set ?_ GEA.out) | exact HB.out)), .slice AV ls.length cV, A3, _, rfl, HK4.out, HK3.out, ?_⟩
        exact Kd.R_drew (Kd.R_mono (Kd.R_far (p := ⟨ga, 1, none⟩) (Kd.R_far (p := ⟨ga, 0, none⟩) (Kd.R_types HO.out BKA.out (by decide)) (fun _ hk => hk.2) _) (fun _ hk => hk.2) _) (fun _ _ => trivial))
    have z3 : ((y.toNat : Int) != 0) = true := (byte_ne y 0 hy0).2
    have C := literal_any w0 (some ad2) c2 q wr HR2.out HBW.out HQ2.out
    cases hlit : litP q with
    | form =>
      have hG2 : G = .form := by rw [← HJ.out, hq]; rw [hq] at hlit; exact joinG_form ls f y q2 hy0 hlit
      subst hG2
      rw [hlit] at C
      clear HGG HJ hq hlit hy0 k1
      go_wp2_with (go_at_call 63; refine C.mono ?_)
      rintro e w7 ⟨hb, rfl⟩
      clear C hy
      have BKA2 := Aside0.mk (blk_below BKA.out hb)
      have BKB2 := Aside0.mk (blk_below BKB.out hb)
      have HO2 := Aside0.mk (Kd.R_below HO.out hb)
      have HB2 := Aside0.mk (below_step HB.out hb)
      clear HB HO BKA BKB hb ca0 ca1 fa0 fa1 cb0 cb1 fb0 fb1
      have HB := HB2
      have HO := HO2
      have BKA := BKA2
      have BKB := BKB2
      clear HB2 HO2 BKA2 BKB2
      have ca0 : w7.cell? ⟨ga, 0, none⟩ = some (.bool false) := (blk_cell BKA.out 0).trans rfl
      have ca1 : w7.cell? ⟨ga, 1, none⟩ = some (.slice none 0 0) := (blk_cell BKA.out 1).trans rfl
      have fa0 := blk_frozen BKA.out 0
      have fa1 := blk_frozen BKA.out 1
      have cb0 : w7.cell? ⟨gb, 0, none⟩ = some (.bool true) := (blk_cell BKB.out 0).trans rfl
      have cb1 : w7.cell? ⟨gb, 1, none⟩ = some ((.slice AV ls.length cV)) := (blk_cell BKB.out 1).trans rfl
      have fb0 := blk_frozen BKB.out 0
      have fb1 := blk_frozen BKB.out 1
      go_wp2
      exact bodyPost_ret (v := .tuple #[.agg #[.bool true, .slice AV ls.length cV], .slice none 0 0, .int .i64 9]) (by simp [results, Tryz.results46, go_sem, *]) rfl ⟨(by repeat (first | (with_reducible first | exact HB.out | apply below_alloc | apply pw_below_drewN | apply below_drew1 | refine below_set ?_ GEB.out | refine below_set ?_ GEA.out) | exact HB.out)), _, _, _, _, rfl⟩
    | short =>
      have hG2 : G = .short := by rw [← HJ.out, hq]; rw [hq] at hlit; exact joinG_short ls f y q2 hy0 hlit
      subst hG2
      rw [hlit] at C
      clear HGG HJ hq hlit hy0 k1
      go_wp2_with (go_at_call 63; refine C.mono ?_)
      rintro e w7 ⟨hb, rfl⟩
      clear C hy
      have BKA2 := Aside0.mk (blk_below BKA.out hb)
      have BKB2 := Aside0.mk (blk_below BKB.out hb)
      have HO2 := Aside0.mk (Kd.R_below HO.out hb)
      have HB2 := Aside0.mk (below_step HB.out hb)
      clear HB HO BKA BKB hb ca0 ca1 fa0 fa1 cb0 cb1 fb0 fb1
      have HB := HB2
      have HO := HO2
      have BKA := BKA2
      have BKB := BKB2
      clear HB2 HO2 BKA2 BKB2
      have ca0 : w7.cell? ⟨ga, 0, none⟩ = some (.bool false) := (blk_cell BKA.out 0).trans rfl
      have ca1 : w7.cell? ⟨ga, 1, none⟩ = some (.slice none 0 0) := (blk_cell BKA.out 1).trans rfl
      have fa0 := blk_frozen BKA.out 0
      have fa1 := blk_frozen BKA.out 1
      have cb0 : w7.cell? ⟨gb, 0, none⟩ = some (.bool true) := (blk_cell BKB.out 0).trans rfl
      have cb1 : w7.cell? ⟨gb, 1, none⟩ = some ((.slice AV ls.length cV)) := (blk_cell BKB.out 1).trans rfl
      have fb0 := blk_frozen BKB.out 0
      have fb1 := blk_frozen BKB.out 1
      go_wp2
      exact bodyPost_ret (v := .tuple #[.agg #[.bool true, .slice AV ls.length cV], .slice none 0 0, .int .i64 10]) (by simp [results, Tryz.results46, go_sem, *]) rfl ⟨(by repeat (first | (with_reducible first | exact HB.out | apply below_alloc | apply pw_below_drewN | apply below_drew1 | refine below_set ?_ GEB.out | refine below_set ?_ GEA.out) | exact HB.out)), _, _, _, _, rfl⟩
    | ok l q3 =>
      have hG2 : joinG (ls ++ [l]) (litsP f q3) = G := by rw [← HJ.out, hq]; rw [hq] at hlit; exact (joinG_cons ls f y q2 q3 l hy0 hlit).symm
      have hsh : q3.length < q.length := by rw [hq] at hlit ⊢; exact litP_shorter hlit
      rw [hlit] at C
      have HJ2 := Aside0.mk hG2
      have HSH := Aside0.mk hsh
      clear HJ hq hlit hy0 hG2 hsh k1
      go_wp2_with (go_at_call 63; refine C.mono ?_)
      rintro e w7 ⟨hb, A3, c3, rfl, h1, h2⟩
      have H1 := Aside0.mk h1
      have H2 := Aside0.mk h2
      clear C hy h1 h2
      have BKA2 := Aside0.mk (blk_below BKA.out hb)
      have BKB2 := Aside0.mk (blk_below BKB.out hb)
      have HO2 := Aside0.mk (Kd.R_below HO.out hb)
      have HB2 := Aside0.mk (below_step HB.out hb)
      clear HB HO BKA BKB hb ca0 ca1 fa0 fa1 cb0 cb1 fb0 fb1
      have HB := HB2
      have HO := HO2
      have BKA := BKA2
      have BKB := BKB2
      clear HB2 HO2 BKA2 BKB2
      have ca0 : w7.cell? ⟨ga, 0, none⟩ = some (.bool false) := (blk_cell BKA.out 0).trans rfl
      have ca1 : w7.cell? ⟨ga, 1, none⟩ = some (.slice none 0 0) := (blk_cell BKA.out 1).trans rfl
      have fa0 := blk_frozen BKA.out 0
      have fa1 := blk_frozen BKA.out 1
      have cb0 : w7.cell? ⟨gb, 0, none⟩ = some (.bool true) := (blk_cell BKB.out 0).trans rfl
      have cb1 : w7.cell? ⟨gb, 1, none⟩ = some ((.slice AV ls.length cV)) := (blk_cell BKB.out 1).trans rfl
      have fb0 := blk_frozen BKB.out 0
      have fb1 := blk_frozen BKB.out 1
      have hml3 : q3.length ≤ 1099511627776 := by have := HSH.out; omega
      go_wp2_with ((with_reducible refine gate_builtin (b := .append) (xs := #[.tmp 47, .tmp 49]) rfl ?_); at_builtin; refine Kd.R_append (Kd.int .i64) (w0 := w) w.heap.size rfl (.tmp 47) (.tmp 49) 34 3 (.int .i64 0) 8 rfl Tryz.underlying34 info3 rfl (by decide) (by decide) _ ls l [.int .i64 l] (fun _ => True) (fun _ => False) rfl ?aX rfl (fun _ hk => hk.elim) (fun _ _ => trivial) ?aO ?aB ?aS ?aL ?_; (case aX => first | rfl | (simp [Act.eval]; done)); (case aO => exact HO.out); (case aB => exact HB.out); (case aS => exact below_size HB.out); (case aL => omega))
      intro v1 w8 ho hb hg hat
      obtain ⟨A8, c8, rfl⟩ := Kd.R_slice ho
      rw [show (ls ++ [l]).length = ls.length + 1 by simp] at ho
      have BKA2 := Aside0.mk (blk_grown BKA.out hg (Kd.R_ne HO.out BKA.out (by decide)))
      have BKB2 := Aside0.mk (blk_grown BKB.out hg (Kd.R_ne HO.out BKB.out (by decide)))
      have HO2 := Aside0.mk ho
      have HB2 := Aside0.mk hb
      clear HB HO BKA BKB hb hg ho hat ca0 ca1 fa0 fa1 cb0 cb1 fb0 fb1
      have HB := HB2
      have HO := HO2
      have BKA := BKA2
      have BKB := BKB2
      clear HB2 HO2 BKA2 BKB2
      have ca0 : w8.cell? ⟨ga, 0, none⟩ = some (.bool false) := (blk_cell BKA.out 0).trans rfl
      have ca1 : w8.cell? ⟨ga, 1, none⟩ = some (.slice none 0 0) := (blk_cell BKA.out 1).trans rfl
      have fa0 := blk_frozen BKA.out 0
      have fa1 := blk_frozen BKA.out 1
      have cb0 : w8.cell? ⟨gb, 0, none⟩ = some (.bool true) := (blk_cell BKB.out 0).trans rfl
      have cb1 : w8.cell? ⟨gb, 1, none⟩ = some ((.slice AV ls.length cV)) := (blk_cell BKB.out 1).trans rfl
      have fb0 := blk_frozen BKB.out 0
      have fb1 := blk_frozen BKB.out 1
      go_wp2
      go_roundg q3.length
      case measure => have := HSH.out; have := HGK.out; omega
      case rel =>
        refine ⟨q3, A3, c3, f, ls ++ [l], .slice A8 (ls.length + 1) c8, rfl, rfl, H1.out, by have := HSH.out; have := HQF.out; omega, ⟨by have := HSH.out; have := HLN.out; simp; omega⟩, H2, HJ2, ⟨?_⟩, ⟨?_⟩, ⟨?_⟩, ⟨(by repeat (first | (with_reducible first | exact HB.out | apply below_alloc | apply pw_below_drewN | apply below_drew1 | refine below_set ?_ GEB.out | refine below_set ?_ GEA.out) | exact HB.out))⟩⟩
        · exact Kd.R_mono (Kd.R_far (p := ⟨gb, 1, none⟩) (Kd.R_types HO.out BKB.out (by decide)) (fun _ hk => hk.2) _) (fun _ _ => trivial)
        · exact blk_far (p := ⟨gb, 1, none⟩) BKA.out (by simpa using ne1) _
        · exact blk_put (cs := #[.bool true, .slice AV ls.length cV]) BKB.out 1 _ rfl
  

set_option maxRecDepth 100000 in
set_option maxHeartbeats 1600000 in
theorem step_false (w0 : World) (A : Option Addr) (c : Nat) (b : List UInt8) (r : List UInt8) (hbx : b = 97 :: r) (w : World) (h0 : Rd w0 A b) (hb : Below w0.heap.size w0 w) (hc : b.length ≤ c) (hX : b.length ≤ 1099511627776) :
    Calls Tryz.prog 46 #[.slice A b.length c] w (StepSaid w0 w (stepG false (litsP (r.length + 1) r))) := by
  have hu := Tryz.underlying41
  obtain ⟨ad, e0, hcell⟩ := at_byte (h0.below hb) 0 (by rw [hbx]; simp)
  cases e0
  rw [hbx, show nth (97 :: r) 0 0 = 97 from rfl, add0, show ((97 : UInt8).toNat : Int) = 97 from rfl] at hcell
  have hm := h0.2.1
  have q00 : ((0 : Int) < (b.length : Int)) = True := eq_true (by rw [hbx]; simp; try omega)
  have q01 : (0 < b.length) = True := eq_true (by rw [hbx]; simp)
  have HB := Aside0.mk (Below.refl w.heap.size w)
  obtain ⟨A1, k1, hk1, hk2⟩ := cut_bytes (some ad) c b 1 (by omega) (by rw [hbx]; simp; omega) hc
  have hd1 : b.drop (1 : Int).toNat = r := by rw [hbx]; rfl
  rw [hd1] at k1 hk1 hk2
  have HR1 := Aside0.mk (hk1 _ h0)
  have HK2 := Aside0.mk hk2
  have HW0 := Aside0.mk hb
  have HXX : Aside0 (r.length ≤ 1099511627776) := ⟨by rw [hbx] at hX; simp at hX; omega⟩
  have hmr : r.length ≤ 1099511627776 := HXX.out
  have hG : joinG [] (litsP (r.length + 1) r) = litsP (r.length + 1) r := joinG_nil _
  have HG0 := Aside0.mk hG
  clear hd1 hk1 hk2 hX hc hb h0 hbx hG
  obtain ⟨G, hGG⟩ : ∃ G, litsP (r.length + 1) r = G := ⟨_, rfl⟩
  have HGG := Aside0.mk hGG
  rw [hGG]
  clear hGG
  have hcl := Aside0.mk (World.block_lt_of_cell? w _ hcell)
  have Hc := Aside0.mk hcell
  clear hcell
  go_enter Tryz.func46, Tryz.ntmps46
  go_wp2_with (first
    | (((with_reducible refine gate_dst (N := 2) rfl ?_); refine box_event ?hg (N := 2) ?hd (cs := #[.bool false, .slice none 0 0]) (t := 41) ?hr ?_; (case hd => rfl); (case hg => rfl); (case hr => first | (go_simp; done) | (go_simp; rfl)); intro ga hg w5 hbox hb; have GEA := Aside0.mk ((by rw [hg]; exact (below_size (by repeat (first | (with_reducible first | exact HB.out | apply below_alloc | apply pw_below_drewN | apply below_drew1) | exact HB.out)))) : w.heap.size ≤ ga); have n0_ := Aside0.mk (below_step (by repeat (first | (with_reducible first | exact HB.out | apply below_alloc | apply pw_below_drewN | apply below_drew1) | exact HB.out)) hb); have BKA := Aside0.mk hbox; clear HB; have HB := n0_; clear n0_ hb hbox hg); have hx5 := (HB.out.cell hcl.out).trans Hc.out)
    | (((with_reducible refine gate_dst (N := 5) rfl ?_); refine box_event ?hg (N := 5) ?hd (cs := #[.bool false, .slice none 0 0]) (t := 41) ?hr ?_; (case hd => rfl); (case hg => rfl); (case hr => first | (go_simp; done) | (go_simp; rfl)); intro gb hg w6 hbox hb; have GEB := Aside0.mk ((by rw [hg]; exact (below_size (by repeat (first | (with_reducible first | exact HB.out | apply below_alloc | apply pw_below_drewN | apply below_drew1) | exact HB.out)))) : w.heap.size ≤ gb); have n0_ := Aside0.mk (below_step (by repeat (first | (with_reducible first | exact HB.out | apply below_alloc | apply pw_below_drewN | apply below_drew1) | exact HB.out)) hb); have BKB := Aside0.mk hbox; have n1_ := Aside0.mk (blk_below BKA.out hb); have hne : ga ≠ gb := (by have := blk_lt BKA.out; rw [hg]; simp; omega); clear HB BKA; have HB := n0_; have BKA := n1_; clear n0_ n1_ hb hbox hg; have ne1 : (ga = gb) = False := eq_false hne; have ne2 : (gb = ga) = False := eq_false (Ne.symm hne); clear hne; have ca0 : w6.cell? ⟨ga, 0, none⟩ = some (.bool false) := (blk_cell BKA.out 0).trans rfl; have ca1 : w6.cell? ⟨ga, 1, none⟩ = some (.slice none 0 0) := (blk_cell BKA.out 1).trans rfl; have fa0 := blk_frozen BKA.out 0; have fa1 := blk_frozen BKA.out 1; have cb0 : w6.cell? ⟨gb, 0, none⟩ = some (.bool false) := (blk_cell BKB.out 0).trans rfl; have cb1 : w6.cell? ⟨gb, 1, none⟩ = some (.slice none 0 0) := (blk_cell BKB.out 1).trans rfl; have fb0 := blk_frozen BKB.out 0; have fb1 := blk_frozen BKB.out 1); have hx6 := (HB.out.cell hcl.out).trans Hc.out; have hx7 : ((w6.setCell ⟨gb, 0, none⟩ (.bool false)).setCell ⟨gb, 1, none⟩ (.slice none 0 0)).cell? ad = some (.int .u8 97) := ((by repeat (first | (with_reducible first | exact HB.out | apply below_alloc | apply pw_below_drewN | apply below_drew1 | refine below_set ?_ GEB.out | refine below_set ?_ GEA.out) | exact HB.out)) : Below w.heap.size w ((w6.setCell ⟨gb, 0, none⟩ (.bool false)).setCell ⟨gb, 1, none⟩ (.slice none 0 0))).cell hcl.out |>.trans Hc.out))
  clear hx5 hx6 hx7
  go_loopg [0] r.length (fun gk v0 w' => ∃ (q : List UInt8) (A2 : Option Addr) (c2 f : Nat) (ls : List Int) (V : Value), v0 = .slice A2 q.length c2 ∧ q.length = gk ∧ q.length ≤ c2 ∧ q.length < f ∧ Aside0 (ls.length + q.length ≤ r.length) ∧ Aside0 (Rd w0 A2 q) ∧ Aside0 (joinG ls (litsP f q) = G) ∧ Aside0 (Kd.R (Kd.int .i64) 3 w' w.heap.size (fun _ => True) V ls) ∧ Aside0 (w'.heap[ga]? = some (.cells #[.bool false, .slice none 0 0] 41 (0, 0))) ∧ Aside0 (w'.heap[gb]? = some (.cells #[.bool false, V] 41 (0, 0))) ∧ Aside0 (Below w.heap.size w w'))
  case atStart =>
    refine ⟨r, A1, _, r.length + 1, [], .slice none 0 0, rfl, rfl, HK2.out, by omega, ⟨by simp⟩, HR1, ⟨by rw [HGG.out]; exact joinG_nil _⟩, ⟨Kd.R_nil _ _ _ _ _⟩, ⟨blk_far (p := ⟨gb, 1, none⟩) (blk_far (p := ⟨gb, 0, none⟩) BKA.out (by simpa using ne1) (.bool false)) (by simpa using ne1) (.slice none 0 0)⟩, ⟨blk_put (cs := #[.bool false, .slice none 0 0]) (blk_put (cs := #[.bool false, .slice none 0 0]) BKB.out 0 (.bool false) rfl) 1 (.slice none 0 0) rfl⟩, ⟨(by repeat (first | (with_reducible first | exact HB.out | apply below_alloc | apply pw_below_drewN | apply below_drew1 | refine below_set ?_ GEB.out | refine below_set ?_ GEA.out) | exact HB.out))⟩⟩
  case round =>
    clear HB BKA BKB ca0 ca1 fa0 fa1 cb0 cb1 fb0 fb1
    obtain ⟨q, A2, c2, f, ls, V, rfl, hgk, hq2, hqf, HLN, HR2, HJ, HO, BKA, BKB, HB⟩ := hrel
    obtain ⟨AV, cV, rfl⟩ := Kd.R_slice HO.out
    have ca0 : wr.cell? ⟨ga, 0, none⟩ = some (.bool false) := (blk_cell BKA.out 0).trans rfl
    have ca1 : wr.cell? ⟨ga, 1, none⟩ = some (.slice none 0 0) := (blk_cell BKA.out 1).trans rfl
    have fa0 := blk_frozen BKA.out 0
    have fa1 := blk_frozen BKA.out 1
    have cb0 : wr.cell? ⟨gb, 0, none⟩ = some (.bool false) := (blk_cell BKB.out 0).trans rfl
    have cb1 : wr.cell? ⟨gb, 1, none⟩ = some ((.slice AV ls.length cV)) := (blk_cell BKB.out 1).trans rfl
    have fb0 := blk_frozen BKB.out 0
    have fb1 := blk_frozen BKB.out 1
    have hml : ls.length ≤ 1099511627776 := by have := HLN.out; have := HXX.out; omega
    have hmq : q.length ≤ 1099511627776 := by have := HLN.out; have := HXX.out; omega
    have HGK := Aside0.mk hgk
    have HQF := Aside0.mk hqf
    have HQ2 := Aside0.mk hq2
    have HBW := Aside0.mk (below_step HW0.out HB.out)
    clear hgk hqf hq2
    obtain ⟨f, rfl⟩ : ∃ g, f = g + 1 := ⟨f - 1, by have := HQF.out; omega⟩
    obtain hq | ⟨y, q2, hq⟩ : q = [] ∨ ∃ y q2, q = y :: q2 := by cases q with | nil => exact .inl rfl | cons y q2 => exact .inr ⟨y, q2, rfl⟩
    · have hG2 : G = .short := by rw [← HJ.out, hq]; rfl
      subst hG2
      have z1 : (0 < q.length) = False := eq_false (by rw [hq]; simp)
      have z2 : ((q.length : Int) == 0) = true := by rw [hq]; rfl
      clear HGG HJ hq
      go_wp2
      exact bodyPost_ret (v := .tuple #[.agg #[.bool false, .slice AV ls.length cV], .slice none 0 0, .int .i64 10]) (by simp [results, Tryz.results46, go_sem, *]) rfl ⟨(by repeat (first | (with_reducible first | exact HB.out | apply below_alloc | apply pw_below_drewN | apply below_drew1 | refine below_set ?_ GEB.out | refine below_set ?_ GEA.out) | exact HB.out)), _, _, _, _, rfl⟩
    have z1 : (0 < q.length) = True := eq_true (by rw [hq]; simp)
    have z2 : ((q.length : Int) == 0) = false := by rw [hq]; simp; omega
    obtain ⟨ad2, e2, hy⟩ := at_byte HR2.out 0 (by rw [hq]; simp)
    cases e2
    rw [hq, show nth (y :: q2) 0 0 = y from rfl, add0] at hy
    replace hy := (HBW.out.cell (World.block_lt_of_cell? w0 _ hy)).trans hy
    by_cases hy0 : y = 0
    · subst hy0
      have hG2 : G = .ok ls q2 := by rw [← HJ.out, hq]; exact joinG_end ls f q2
      subst hG2
      rw [show ((0 : UInt8).toNat : Int) = 0 from rfl] at hy
      obtain ⟨A3, k3, hk3, hk4⟩ := cut_bytes (some ad2) c2 q 1 (by omega) (by rw [hq]; simp; omega) HQ2.out
      have hd3 : q.drop (1 : Int).toNat = q2 := by rw [hq]; rfl
      rw [hd3] at k3 hk3 hk4
      have HK3 := Aside0.mk (hk3 _ HR2.out)
      have HK4 := Aside0.mk hk4
      clear HGG HJ hq hd3 hk3 hk4 k1
      go_wp2
      go_region
      all_goals go_wp2
      all_goals
        refine bodyPost_ret (v := .tuple #[.agg #[.bool false, .slice AV ls.length cV], .slice A3 q2.length (c2 - 1), .int .i64 0]) (by simp [results, Tryz.results46, go_sem, *]) rfl ⟨(by repeat (first | (with_reducible first | exact HB.out | apply below_alloc | apply pw_below_drewN | apply below_drew1 | refine below_set ?_ GEB.out | refine below_set ?_ GEA.out) | exact HB.out)), .slice AV ls.length cV, A3, _, rfl, HK4.out, HK3.out, ?_⟩
        exact Kd.R_drew (Kd.R_mono (Kd.R_far (p := ⟨ga, 1, none⟩) (Kd.R_far (p := ⟨ga, 0, none⟩) (Kd.R_types HO.out BKA.out (by decide)) (fun _ hk => hk.2) _) (fun _ hk => hk.2) _) (fun _ _ => trivial))
    have z3 : ((y.toNat : Int) != 0) = true := (byte_ne y 0 hy0).2
    have C := literal_any w0 (some ad2) c2 q wr HR2.out HBW.out HQ2.out
    cases hlit : litP q with
    | form =>
      have hG2 : G = .form := by rw [← HJ.out, hq]; rw [hq] at hlit; exact joinG_form ls f y q2 hy0 hlit
      subst hG2
      rw [hlit] at C
      clear HGG HJ hq hlit hy0 k1
      go_wp2_with (go_at_call 63; refine C.mono ?_)
      rintro e w7 ⟨hb, rfl⟩
      clear C hy
      have BKA2 := Aside0.mk (blk_below BKA.out hb)
      have BKB2 := Aside0.mk (blk_below BKB.out hb)
      have HO2 := Aside0.mk (Kd.R_below HO.out hb)
      have HB2 := Aside0.mk (below_step HB.out hb)
      clear HB HO BKA BKB hb ca0 ca1 fa0 fa1 cb0 cb1 fb0 fb1
      have HB := HB2
      have HO := HO2
      have BKA := BKA2
      have BKB := BKB2
      clear HB2 HO2 BKA2 BKB2
      have ca0 : w7.cell? ⟨ga, 0, none⟩ = some (.bool false) := (blk_cell BKA.out 0).trans rfl
      have ca1 : w7.cell? ⟨ga, 1, none⟩ = some (.slice none 0 0) := (blk_cell BKA.out 1).trans rfl
      have fa0 := blk_frozen BKA.out 0
      have fa1 := blk_frozen BKA.out 1
      have cb0 : w7.cell? ⟨gb, 0, none⟩ = some (.bool false) := (blk_cell BKB.out 0).trans rfl
      have cb1 : w7.cell? ⟨gb, 1, none⟩ = some ((.slice AV ls.length cV)) := (blk_cell BKB.out 1).trans rfl
      have fb0 := blk_frozen BKB.out 0
      have fb1 := blk_frozen BKB.out 1
      go_wp2
      exact bodyPost_ret (v := .tuple #[.agg #[.bool false, .slice AV ls.length cV], .slice none 0 0, .int .i64 9]) (by simp [results, Tryz.results46, go_sem, *]) rfl ⟨(by repeat (first | (with_reducible first | exact HB.out | apply below_alloc | apply pw_below_drewN | apply below_drew1 | refine below_set ?_ GEB.out | refine below_set ?_ GEA.out) | exact HB.out)), _, _, _, _, rfl⟩
    | short =>
      have hG2 : G = .short := by rw [← HJ.out, hq]; rw [hq] at hlit; exact joinG_short ls f y q2 hy0 hlit
      subst hG2
      rw [hlit] at C
      clear HGG HJ hq hlit hy0 k1
      go_wp2_with (go_at_call 63; refine C.mono ?_)
      rintro e w7 ⟨hb, rfl⟩
      clear C hy
      have BKA2 := Aside0.mk (blk_below BKA.out hb)
      have BKB2 := Aside0.mk (blk_below BKB.out hb)
      have HO2 := Aside0.mk (Kd.R_below HO.out hb)
      have HB2 := Aside0.mk (below_step HB.out hb)
      clear HB HO BKA BKB hb ca0 ca1 fa0 fa1 cb0 cb1 fb0 fb1
      have HB := HB2
      have HO := HO2
      have BKA := BKA2
      have BKB := BKB2
      clear HB2 HO2 BKA2 BKB2
      have ca0 : w7.cell? ⟨ga, 0, none⟩ = some (.bool false) := (blk_cell BKA.out 0).trans rfl
      have ca1 : w7.cell? ⟨ga, 1, none⟩ = some (.slice none 0 0) := (blk_cell BKA.out 1).trans rfl
      have fa0 := blk_frozen BKA.out 0
      have fa1 := blk_frozen BKA.out 1
      have cb0 : w7.cell? ⟨gb, 0, none⟩ = some (.bool false) := (blk_cell BKB.out 0).trans rfl
      have cb1 : w7.cell? ⟨gb, 1, none⟩ = some ((.slice AV ls.length cV)) := (blk_cell BKB.out 1).trans rfl
      have fb0 := blk_frozen BKB.out 0
      have fb1 := blk_frozen BKB.out 1
      go_wp2
      exact bodyPost_ret (v := .tuple #[.agg #[.bool false, .slice AV ls.length cV], .slice none 0 0, .int .i64 10]) (by simp [results, Tryz.results46, go_sem, *]) rfl ⟨(by repeat (first | (with_reducible first | exact HB.out | apply below_alloc | apply pw_below_drewN | apply below_drew1 | refine below_set ?_ GEB.out | refine below_set ?_ GEA.out) | exact HB.out)), _, _, _, _, rfl⟩
    | ok l q3 =>
      have hG2 : joinG (ls ++ [l]) (litsP f q3) = G := by rw [← HJ.out, hq]; rw [hq] at hlit; exact (joinG_cons ls f y q2 q3 l hy0 hlit).symm
      have hsh : q3.length < q.length := by rw [hq] at hlit ⊢; exact litP_shorter hlit
      rw [hlit] at C
      have HJ2 := Aside0.mk hG2
      have HSH := Aside0.mk hsh
      clear HJ hq hlit hy0 hG2 hsh k1
      go_wp2_with (go_at_call 63; refine C.mono ?_)
      rintro e w7 ⟨hb, A3, c3, rfl, h1, h2⟩
      have H1 := Aside0.mk h1
      have H2 := Aside0.mk h2
      clear C hy h1 h2
      have BKA2 := Aside0.mk (blk_below BKA.out hb)
      have BKB2 := Aside0.mk (blk_below BKB.out hb)
      have HO2 := Aside0.mk (Kd.R_below HO.out hb)
      have HB2 := Aside0.mk (below_step HB.out hb)
      clear HB HO BKA BKB hb ca0 ca1 fa0 fa1 cb0 cb1 fb0 fb1
      have HB := HB2
      have HO := HO2
      have BKA := BKA2
      have BKB := BKB2
      clear HB2 HO2 BKA2 BKB2
      have ca0 : w7.cell? ⟨ga, 0, none⟩ = some (.bool false) := (blk_cell BKA.out 0).trans rfl
      have ca1 : w7.cell? ⟨ga, 1, none⟩ = some (.slice none 0 0) := (blk_cell BKA.out 1).trans rfl
      have fa0 := blk_frozen BKA.out 0
      have fa1 := blk_frozen BKA.out 1
      have cb0 : w7.cell? ⟨gb, 0, none⟩ = some (.bool false) := (blk_cell BKB.out 0).trans rfl
      have cb1 : w7.cell? ⟨gb, 1, none⟩ = some ((.slice AV ls.length cV)) := (blk_cell BKB.out 1).trans rfl
      have fb0 := blk_frozen BKB.out 0
      have fb1 := blk_frozen BKB.out 1
      have hml3 : q3.length ≤ 1099511627776 := by have := HSH.out; omega
      go_wp2_with ((with_reducible refine gate_builtin (b := .append) (xs := #[.tmp 47, .tmp 49]) rfl ?_); at_builtin; refine Kd.R_append (Kd.int .i64) (w0 := w) w.heap.size rfl (.tmp 47) (.tmp 49) 34 3 (.int .i64 0) 8 rfl Tryz.underlying34 info3 rfl (by decide) (by decide) _ ls l [.int .i64 l] (fun _ => True) (fun _ => False) rfl ?aX rfl (fun _ hk => hk.elim) (fun _ _ => trivial) ?aO ?aB ?aS ?aL ?_; (case aX => first | rfl | (simp [Act.eval]; done)); (case aO => exact HO.out); (case aB => exact HB.out); (case aS => exact below_size HB.out); (case aL => omega))
      intro v1 w8 ho hb hg hat
      obtain ⟨A8, c8, rfl⟩ := Kd.R_slice ho
      rw [show (ls ++ [l]).length = ls.length + 1 by simp] at ho
      have BKA2 := Aside0.mk (blk_grown BKA.out hg (Kd.R_ne HO.out BKA.out (by decide)))
      have BKB2 := Aside0.mk (blk_grown BKB.out hg (Kd.R_ne HO.out BKB.out (by decide)))
      have HO2 := Aside0.mk ho
      have HB2 := Aside0.mk hb
      clear HB HO BKA BKB hb hg ho hat ca0 ca1 fa0 fa1 cb0 cb1 fb0 fb1
      have HB := HB2
      have HO := HO2
      have BKA := BKA2
      have BKB := BKB2
      clear HB2 HO2 BKA2 BKB2
      have ca0 : w8.cell? ⟨ga, 0, none⟩ = some (.bool false) := (blk_cell BKA.out 0).trans rfl
      have ca1 : w8.cell? ⟨ga, 1, none⟩ = some (.slice none 0 0) := (blk_cell BKA.out 1).trans rfl
      have fa0 := blk_frozen BKA.out 0
      have fa1 := blk_frozen BKA.out 1
      have cb0 : w8.cell? ⟨gb, 0, none⟩ = some (.bool false) := (blk_cell BKB.out 0).trans rfl
      have cb1 : w8.cell? ⟨gb, 1, none⟩ = some ((.slice AV ls.length cV)) := (blk_cell BKB.out 1).trans rfl
      have fb0 := blk_frozen BKB.out 0
      have fb1 := blk_frozen BKB.out 1
      go_wp2
      go_roundg q3.length
      case measure => have := HSH.out; have := HGK.out; omega
      case rel =>
        refine ⟨q3, A3, c3, f, ls ++ [l], .slice A8 (ls.length + 1) c8, rfl, rfl, H1.out, by have := HSH.out; have := HQF.out; omega, ⟨by have := HSH.out; have := HLN.out; simp; omega⟩, H2, HJ2, ⟨?_⟩, ⟨?_⟩, ⟨?_⟩, ⟨(by repeat (first | (with_reducible first | exact HB.out | apply below_alloc | apply pw_below_drewN | apply below_drew1 | refine below_set ?_ GEB.out | refine below_set ?_ GEA.out) | exact HB.out))⟩⟩
        · exact Kd.R_mono (Kd.R_far (p := ⟨gb, 1, none⟩) (Kd.R_types HO.out BKB.out (by decide)) (fun _ hk => hk.2) _) (fun _ _ => trivial)
        · exact blk_far (p := ⟨gb, 1, none⟩) BKA.out (by simpa using ne1) _
        · exact blk_put (cs := #[.bool false, .slice AV ls.length cV]) BKB.out 1 _ rfl
  

end Go.Proofs.YtcblijcalhaffaaGreatDoor
namespace Go.Proofs.YtcblijcalhaffaaGreatDoor
open Go Go.RowKit Go.Proofs.YtcblijcalhaffaaGreatDoorW.PrintWords Go.Proofs.YtcblijcalhaffaaGreatDoorW.PrintLast Go.Proofs.YtcblijcalhaffaaGreatDoorW.PrintMore PCheckSound

theorem step_any (w0 : World) (A : Option Addr) (c : Nat) (b : List UInt8) (hb0 : b ≠ []) (w : World) (h0 : Rd w0 A b) (hb : Below w0.heap.size w0 w) (hc : b.length ≤ c) (hX : b.length ≤ 1099511627776) :
    Calls Tryz.prog 46 #[.slice A b.length c] w (StepSaid w0 w (stepP b)) := by
  cases b with
  | nil => exact absurd rfl hb0
  | cons x r =>
    by_cases hx : x = 97 ∨ x = 100
    · rw [stepP_G x r hx]
      rcases hx with rfl | rfl
      · exact step_false w0 A c _ r rfl w h0 hb hc hX
      · exact step_true w0 A c _ r rfl w h0 hb hc hX
    · have e : stepP (x :: r) = .form := by simp only [stepP]; rw [if_neg hx]
      rw [e]
      exact step_bad w0 A c _ x r rfl w h0 hb hx

def ofP (p : PStep) : S41 := ⟨p.del, p.lits⟩
theorem map_toP_ofP (ps : List PStep) : (ps.map ofP).map toP = ps := by rw [List.map_map]; exact List.map_id _
def joinP (ps : List PStep) : Got (List PStep) → Got (List PStep)
  | .ok qs r => .ok (ps ++ qs) r
  | .form => .form
  | .short => .short
theorem joinP_nil (g : Got (List PStep)) : joinP [] g = g := by cases g <;> rfl
theorem joinP_cons (ps : List PStep) (f : Nat) (c : UInt8) (r q : List UInt8) (s : PStep) (h : stepP (c :: r) = .ok s q) : joinP ps (binP (f + 1) (c :: r)) = joinP (ps ++ [s]) (binP f q) := by
  rw [binP, h]
  simp only
  cases binP f q <;> simp [joinP]
theorem joinP_form (ps : List PStep) (f : Nat) (c : UInt8) (r : List UInt8) (h : stepP (c :: r) = .form) : joinP ps (binP (f + 1) (c :: r)) = .form := by rw [binP, h]; rfl
theorem joinP_short (ps : List PStep) (f : Nat) (c : UInt8) (r : List UInt8) (h : stepP (c :: r) = .short) : joinP ps (binP (f + 1) (c :: r)) = .short := by rw [binP, h]; rfl

/-- What ParseBinary's call leaves. -/
def ParseSaid (w : World) (g : Got (List PStep)) (e : Ending) (w' : World) : Prop := Below w.heap.size w w' ∧ match g with
  | .ok ps _ => ∃ V, e = .returned (.tuple #[V, .int .i64 0]) ∧ Kd.R k41 41 w' w.heap.size (fun _ => True) V (ps.map ofP)
  | .form => e = .returned (.tuple #[.slice none 0 0, .int .i64 9])
  | .short => e = .returned (.tuple #[.slice none 0 0, .int .i64 10])

set_option maxRecDepth 100000 in
set_option maxHeartbeats 1600000 in
theorem parseBin_any (A : Option Addr) (c : Nat) (b : List UInt8) (w : World) (h0 : Rd w A b) (hc : b.length ≤ c) (hX : b.length ≤ 1099511627776) :
    Calls Tryz.prog 24 #[.slice A b.length c] w (ParseSaid w (parseB b)) := by
  have hu := Tryz.underlying41
  have hmb : b.length ≤ 1099511627776 := hX
  have HR1 := Aside0.mk h0
  have HC := Aside0.mk hc
  obtain ⟨G, hGG⟩ : ∃ G, parseB b = G := ⟨_, rfl⟩
  have HGG : Aside0 (joinP [] (binP (b.length + 1) b) = G) := ⟨by rw [joinP_nil]; exact hGG⟩
  rw [hGG]
  clear hGG h0 hc hX
  go_enter Tryz.func24, Tryz.ntmps24
  go_wp2
  go_loopg [0, 4] b.length (fun gk v0 v4 w' => ∃ (q : List UInt8) (A2 : Option Addr) (c2 f : Nat) (ps : List PStep), v0 = .slice A2 q.length c2 ∧ Aside0 (q.length = gk) ∧ Aside0 (q.length ≤ c2) ∧ Aside0 (q.length < f) ∧ Aside0 (ps.length + q.length ≤ b.length) ∧ Aside0 (Rd w A2 q) ∧ Aside0 (joinP ps (binP f q) = G) ∧ Aside0 (Kd.R k41 41 w' w.heap.size (fun _ => True) v4 (ps.map ofP)) ∧ Aside0 (Below w.heap.size w w'))
  case atStart => exact ⟨b, A, c, b.length + 1, [], rfl, ⟨rfl⟩, HC, ⟨by omega⟩, ⟨by simp⟩, HR1, HGG, ⟨Kd.R_nil _ _ _ _ _⟩, ⟨Below.refl _ _⟩⟩
  case round =>
    clear HGG HR1 HC
    obtain ⟨q, A2, c2, f, ps, rfl, HGK, HQ2, HQF, HLN, HR2, HJ, HO, HB⟩ := hrel
    have hmq : q.length ≤ 1099511627776 := by have := HLN.out; omega
    obtain ⟨f, rfl⟩ : ∃ g, f = g + 1 := ⟨f - 1, by have := HQF.out; omega⟩
    obtain hq | ⟨y, q2, hq⟩ : q = [] ∨ ∃ y q2, q = y :: q2 := by cases q with | nil => exact .inl rfl | cons y q2 => exact .inr ⟨y, q2, rfl⟩
    · have hG2 : G = .ok ps [] := by rw [← HJ.out, hq, binP]; simp [joinP]
      subst hG2
      have z1 : (0 < q.length) = False := eq_false (by rw [hq]; simp)
      clear HJ hq
      go_wp2
      go_ret2
      exact ⟨HB.out, _, rfl, HO.out⟩
    have z1 : (0 < q.length) = True := eq_true (by rw [hq]; simp)
    have C := step_any w A2 c2 q (by rw [hq]; simp) wr HR2.out HB.out HQ2.out hmq
    cases hst : stepP q with
    | form =>
      have hG2 : G = .form := by rw [← HJ.out, hq]; rw [hq] at hst; exact joinP_form ps f y q2 hst
      subst hG2
      rw [hst] at C
      clear HJ hq hst
      go_wp2_with (first
        | ((with_reducible refine gate_dst (N := 5) rfl ?_); refine box_event ?hg (N := 5) ?hd (cs := #[.bool false, .slice none 0 0]) (t := 41) ?hr ?_; (case hd => rfl); (case hg => rfl); (case hr => first | (go_simp; done) | (go_simp; rfl)); intro gb hg w5 hbox hb; have GE := Aside0.mk ((by rw [hg]; exact (below_size (by repeat (first | (with_reducible first | exact HB.out | apply below_alloc | apply pw_below_drewN | apply below_drew1) | exact HB.out)))) : w.heap.size ≤ gb); have GN := Aside0.mk hg; have HW5 := Aside0.mk hb; have n0_ := Aside0.mk (below_step (by repeat (first | (with_reducible first | exact HB.out | apply below_alloc | apply pw_below_drewN | apply below_drew1) | exact HB.out)) hb); have BK := Aside0.mk hbox; clear HB; have HB := n0_; clear n0_ hb hbox hg; have hcz0 : w5.cell? ⟨gb, 0, none⟩ = some (.bool false) := (blk_cell BK.out 0).trans rfl; have hcz1 : w5.cell? ⟨gb, 1, none⟩ = some (.slice none 0 0) := (blk_cell BK.out 1).trans rfl; have hfz0 := blk_frozen BK.out 0; have hfz1 := blk_frozen BK.out 1)
        | (go_at_call 46; refine C.mono ?_; clear C; rintro e w7 ⟨hb, d7, A7, n7, c7, rfl⟩; have HB2 := Aside0.mk (below_step (by repeat (first | (with_reducible first | exact HB.out | apply below_alloc | apply pw_below_drewN | apply below_drew1) | exact HB.out)) hb); clear HB; have HB := HB2; clear HB2 hb))
      go_ret2
      exact ⟨(by repeat (first | (with_reducible first | exact HB.out | apply below_alloc | apply pw_below_drewN | apply below_drew1 | refine below_set ?_ GE.out) | exact HB.out)), rfl⟩
    | short =>
      have hG2 : G = .short := by rw [← HJ.out, hq]; rw [hq] at hst; exact joinP_short ps f y q2 hst
      subst hG2
      rw [hst] at C
      clear HJ hq hst
      go_wp2_with (first
        | ((with_reducible refine gate_dst (N := 5) rfl ?_); refine box_event ?hg (N := 5) ?hd (cs := #[.bool false, .slice none 0 0]) (t := 41) ?hr ?_; (case hd => rfl); (case hg => rfl); (case hr => first | (go_simp; done) | (go_simp; rfl)); intro gb hg w5 hbox hb; have GE := Aside0.mk ((by rw [hg]; exact (below_size (by repeat (first | (with_reducible first | exact HB.out | apply below_alloc | apply pw_below_drewN | apply below_drew1) | exact HB.out)))) : w.heap.size ≤ gb); have GN := Aside0.mk hg; have HW5 := Aside0.mk hb; have n0_ := Aside0.mk (below_step (by repeat (first | (with_reducible first | exact HB.out | apply below_alloc | apply pw_below_drewN | apply below_drew1) | exact HB.out)) hb); have BK := Aside0.mk hbox; clear HB; have HB := n0_; clear n0_ hb hbox hg; have hcz0 : w5.cell? ⟨gb, 0, none⟩ = some (.bool false) := (blk_cell BK.out 0).trans rfl; have hcz1 : w5.cell? ⟨gb, 1, none⟩ = some (.slice none 0 0) := (blk_cell BK.out 1).trans rfl; have hfz0 := blk_frozen BK.out 0; have hfz1 := blk_frozen BK.out 1)
        | (go_at_call 46; refine C.mono ?_; clear C; rintro e w7 ⟨hb, d7, A7, n7, c7, rfl⟩; have HB2 := Aside0.mk (below_step (by repeat (first | (with_reducible first | exact HB.out | apply below_alloc | apply pw_below_drewN | apply below_drew1) | exact HB.out)) hb); clear HB; have HB := HB2; clear HB2 hb))
      go_ret2
      exact ⟨(by repeat (first | (with_reducible first | exact HB.out | apply below_alloc | apply pw_below_drewN | apply below_drew1 | refine below_set ?_ GE.out) | exact HB.out)), rfl⟩
    | ok s q3 =>
      have hG2 : joinP (ps ++ [s]) (binP f q3) = G := by rw [← HJ.out, hq]; rw [hq] at hst; exact (joinP_cons ps f y q2 q3 s hst).symm
      have hsh : q3.length < q.length := by rw [hq] at hst ⊢; exact stepP_shorter hst
      have HJ2 := Aside0.mk hG2
      have HSH := Aside0.mk hsh
      rw [hst] at C
      clear HJ hq hst hG2 hsh
      have hml : (ps.map ofP).length ≤ 1099511627776 := by rw [List.length_map]; have := HLN.out; omega
      have HML := Aside0.mk hml
      clear hml
      go_wp2_with (go_at_call 46; refine C.mono ?_)
      rintro e w7 ⟨hb, V1, A3, c3, rfl, h1, h2, h3⟩
      obtain ⟨A8, c8, rfl⟩ := Kd.R_slice h3
      have H1 := Aside0.mk h1
      have H2 := Aside0.mk h2
      have H3 : Aside0 (Kd.R (Kd.int .i64) 3 w7 w.heap.size (fun k => True ∧ some k ≠ u4.ownBlock) (.slice A8 s.lits.length c8) s.lits) := by
        obtain ⟨inner, ho⟩ := Kd.R_own HO.out
        exact ⟨Kd.R_lower (Kd.R_new h3 ho) HB.out.size⟩
      have HO2 := Aside0.mk (Kd.R_below HO.out hb)
      have HB2 := Aside0.mk (below_step HB.out hb)
      clear HO HB h1 h2 h3 hb C
      have HO := HO2
      have HB := HB2
      clear HO2 HB2
      go_wp2_with (first
        | ((with_reducible refine gate_dst (N := 5) rfl ?_); refine box_event ?hg (N := 5) ?hd (cs := #[.bool false, .slice none 0 0]) (t := 41) ?hr ?_; (case hd => rfl); (case hg => rfl); (case hr => first | (go_simp; done) | (go_simp; rfl)); intro gb hg w5 hbox hb; have GE := Aside0.mk ((by rw [hg]; exact (below_size (by repeat (first | (with_reducible first | exact HB.out | apply below_alloc | apply pw_below_drewN | apply below_drew1) | exact HB.out)))) : w.heap.size ≤ gb); have GN := Aside0.mk hg; have HW5 := Aside0.mk hb; have n0_ := Aside0.mk (below_step (by repeat (first | (with_reducible first | exact HB.out | apply below_alloc | apply pw_below_drewN | apply below_drew1) | exact HB.out)) hb); have BK := Aside0.mk hbox; clear HB; have HB := n0_; clear n0_ hb hbox hg; have hcz0 : w5.cell? ⟨gb, 0, none⟩ = some (.bool false) := (blk_cell BK.out 0).trans rfl; have hcz1 : w5.cell? ⟨gb, 1, none⟩ = some (.slice none 0 0) := (blk_cell BK.out 1).trans rfl; have hfz0 := blk_frozen BK.out 0; have hfz1 := blk_frozen BK.out 1)
        | ((with_reducible refine gate_builtin (b := .append) (xs := #[.tmp 20, .tmp 22]) rfl ?_); at_builtin; refine Kd.R_append k41 (w0 := w) w.heap.size rfl (.tmp 20) (.tmp 22) 39 41 (.agg #[(.bool false), (.slice none 0 0)]) 32 rfl Tryz.underlying39 info41 rfl (by decide) (by decide) _ (ps.map ofP) (ofP s) [.bool s.del, .slice A8 s.lits.length c8] (fun _ => True) (fun k => True ∧ some k ≠ u4.ownBlock) rfl ?aX ?aP (fun _ hk => hk) (fun _ _ => trivial) ?aO ?aB ?aS ?aL ?_; (case aX => first | rfl | (simp [Act.eval]; done)); (case aL => have := HML.out; omega); (case aO => exact Kd.R_below HO.out (by repeat (first | exact HW5.out | refine below_set ?_ (by rw [GN.out]; exact Nat.le_refl _)))); (case aP => exact k41_mkM _ _ _ (ofP s) (Kd.R_below H3.out (by repeat (first | exact HW5.out | refine below_set ?_ (by rw [GN.out]; exact Nat.le_refl _))))); (case aB => exact (by repeat (first | (with_reducible first | exact HB.out | apply below_alloc | apply pw_below_drewN | apply below_drew1 | refine below_set ?_ GE.out) | exact HB.out))); (case aS => exact (below_size (by repeat (first | (with_reducible first | exact HB.out | apply below_alloc | apply pw_below_drewN | apply below_drew1 | refine below_set ?_ GE.out) | exact HB.out))))))
      intro v1 w1 ho hb hg hat
      have e1 : ps.map ofP ++ [ofP s] = (ps ++ [s]).map ofP := by simp
      rw [e1] at ho
      have HO2 := Aside0.mk ho
      have HB2 := Aside0.mk hb
      clear HO HB BK GE GN HW5 hcz0 hcz1 hfz0 hfz1 hb hg hat ho e1
      go_wp2
      go_roundg q3.length
      case measure => have := HSH.out; have := HGK.out; omega
      case rel => exact ⟨q3, A3, c3, f, ps ++ [s], rfl, ⟨rfl⟩, H1, ⟨by have := HSH.out; have := HQF.out; omega⟩, ⟨by have := HSH.out; have := HLN.out; simp; omega⟩, H2, HJ2, HO2, HB2⟩

end Go.Proofs.YtcblijcalhaffaaGreatDoor
namespace Go.Proofs.YtcblijcalhaffaaGreatDoor
open Go Go.RowKit Go.Proofs.YtcblijcalhaffaaGreatDoorW.PrintWords Go.Proofs.YtcblijcalhaffaaGreatDoorW.PrintLast Go.Proofs.YtcblijcalhaffaaGreatDoorW.PrintMore PCheckSound

def strV (l : List UInt8) : Value := .string ⟨l.toArray⟩
theorem split_list (s : List UInt8) (c : UInt8) : (Lib.splitB ⟨#[c]⟩ 0 (Lib.countB ⟨s.toArray⟩ ⟨#[c]⟩) ⟨s.toArray⟩).map Value.string = (cutC c s).map strV ∧ Lib.countB ⟨s.toArray⟩ ⟨#[c]⟩ + 1 = (cutC c s).length := by
  have h1 := Lib.splitB_data ⟨#[c]⟩ 0 (Lib.countB ⟨s.toArray⟩ ⟨#[c]⟩) ⟨s.toArray⟩
  have h2 : Lib.splitK [c] 0 (Lib.countB ⟨s.toArray⟩ ⟨#[c]⟩) s = cutC c s := by rw [← split_one c s]; rfl
  have h3 : (Lib.splitB ⟨#[c]⟩ 0 (Lib.countB ⟨s.toArray⟩ ⟨#[c]⟩) ⟨s.toArray⟩).map (·.data.toList) = cutC c s := h1.trans h2
  constructor
  · rw [← h3, List.map_map]
    apply List.map_congr_left
    intro x _
    show Value.string x = strV x.data.toList
    unfold strV
    cases x
    simp
  · rw [← h3, List.length_map]
    exact (Lib.splitB_all ⟨#[c]⟩ (show 1 ≤ 1 from Nat.le_refl _) 0 _ _ rfl).symm

theorem split_any (s : List UInt8) (c : UInt8) (hs : s.length < 4294967281) (w : World) (E : Env w) :
    Calls Tryz.prog 44 #[strV s, .string ⟨#[c]⟩] w fun e w' => e = .returned (.slice (some ⟨w.heap.size, 0, none⟩) (cutC c s).length (cutC c s).length) ∧ w' = w.alloc (.cells ((cutC c s).map strV).toArray 9) := by
  obtain ⟨m, hm⟩ := E.max
  have h := Tryz.strings_Split ⟨s.toArray⟩ ⟨#[c]⟩ m w hs hm (show 1 ≤ 1 from Nat.le_refl _)
  rw [(split_list s c).1, (split_list s c).2] at h
  exact h

theorem bytes_world_below (w : World) (t : ByteArray) : Below w.heap.size w (Lib.bytesWorld w 5 t) := bytes_below (Below.refl _ _) (Nat.le_refl _) _ _

theorem atoi_any (v : List UInt8) (hv : v.length ≤ 1099511627776) (w : World) (E : Env w) :
    Calls Tryz.prog 62 #[strV v] w fun e w' => Below w.heap.size w w' ∧ ((∃ l, Lib.atoiAll v = .ok l ∧ e = .returned (.tuple #[.int .i64 l, .nilIface])) ∨ ((∀ l, Lib.atoiAll v ≠ .ok l) ∧ ∃ k t a, e = .returned (.tuple #[.int .i64 k, .iface t a]))) := by
  have hsz : (⟨v.toArray⟩ : ByteArray).size = v.length := rfl
  have hd : (⟨v.toArray⟩ : ByteArray).data.toList = v := rfl
  cases h : Lib.atoiAll v with
  | ok l =>
    refine (Tryz.strconv_Atoi_ok ⟨v.toArray⟩ (by rw [hsz]; omega) l (by rw [hd]; exact h) w).mono ?_
    rintro e w' ⟨rfl, hw⟩
    refine ⟨?_, .inl ⟨l, rfl, rfl⟩⟩
    rcases hw with rfl | ⟨t, rfl⟩
    · exact Below.refl _ _
    · exact bytes_world_below w t
  | «syntax» =>
    obtain ⟨tp, p, hp⟩ := E.syn
    refine (Tryz.strconv_Atoi_syntax_var ⟨v.toArray⟩ (by rw [hsz]; omega) (by rw [hd]; exact h) tp p w hp).mono ?_
    rintro e w' ⟨N, rfl, _, _, hb⟩
    exact ⟨hb, .inr ⟨fun l hl => (by cases hl), _, _, _, rfl⟩⟩
  | range =>
    obtain ⟨tp, p, hp⟩ := E.ran
    refine (Tryz.strconv_Atoi_range_var ⟨v.toArray⟩ (by rw [hsz]; omega) (by rw [hd]; exact h) tp p w hp).mono ?_
    rintro e w' ⟨N, rfl, _, _, hb⟩
    exact ⟨hb, .inr ⟨fun l hl => (by cases hl), _, _, _, rfl⟩⟩

theorem cutPrefix_any (x p : List UInt8) (w : World) :
    Calls Tryz.prog 61 #[strV x, strV p] w fun e w' => e = .returned (.tuple #[strV (if Lib.hasPrefix x p then x.drop p.length else x), .bool (Lib.hasPrefix x p)]) ∧ w' = w :=
  Tryz.strings_CutPrefix ⟨x.toArray⟩ ⟨p.toArray⟩ w

end Go.Proofs.YtcblijcalhaffaaGreatDoor
namespace Go.Proofs.YtcblijcalhaffaaGreatDoor
open Go Go.RowKit Go.Proofs.YtcblijcalhaffaaGreatDoorW.PrintWords Go.Proofs.YtcblijcalhaffaaGreatDoorW.PrintLast Go.Proofs.YtcblijcalhaffaaGreatDoorW.PrintMore PCheckSound

theorem split_box (s : List UInt8) (c : UInt8) (hs : s.length < 4294967281) (w : World) (E : Env w) :
    Calls Tryz.prog 44 #[strV s, .string ⟨#[c]⟩] w fun e w' => ∃ g, e = .returned (.slice (some ⟨g, 0, none⟩) (cutC c s).length (cutC c s).length) ∧ w'.heap[g]? = some (.cells ((cutC c s).map strV).toArray 9 (0, 0)) ∧ Below w.heap.size w w' ∧ w.heap.size ≤ g :=
  (split_any s c hs w E).mono fun e w' ⟨he, hw⟩ => ⟨_, he, by rw [hw]; exact blk_new _ _, by rw [hw]; exact (Below.refl _ w).alloc (Nat.le_refl _) _, Nat.le_refl _⟩
theorem cut_len (c : UInt8) (s : List UInt8) : (cutC c s).length ≤ s.length + 1 ∧ ∀ x ∈ cutC c s, x.length ≤ s.length := by
  induction s with
  | nil => simp [cutC]
  | cons b r ih =>
    obtain ⟨h1, h2⟩ := ih
    rw [cutC]
    split
    · refine ⟨by simp; omega, fun x hx => ?_⟩
      simp only [List.mem_cons] at hx
      rcases hx with rfl | hx
      · simp
      · have := h2 x hx; simp; omega
    · cases hcc : cutC c r with
      | nil => exact absurd hcc (cutC_ne c r)
      | cons y ys =>
        rw [hcc] at h1 h2
        refine ⟨by simp at h1 ⊢; omega, fun x hx => ?_⟩
        simp only [List.mem_cons] at hx
        rcases hx with rfl | hx
        · have := h2 y (by simp); simp; omega
        · have := h2 x (by simp [hx]); simp; omega
theorem snoc_of {α : Type} (l : List α) (h : l ≠ []) : ∃ vs z, l = vs ++ [z] := ⟨l.dropLast, l.getLast h, (List.dropLast_concat_getLast h).symm⟩

def lineR (d : Bool) (vs : List (List UInt8)) (z : List UInt8) : Option PStep := match wordsP vs with
  | none => none
  | some ls => if z = [48] then some ⟨d, ls⟩ else none
theorem lineQ_R (d : Bool) (vs : List (List UInt8)) (z : List UInt8) : lineQ d (vs ++ [z]) = lineR d vs z := by
  unfold lineQ lineR
  rw [List.dropLast_concat]
  cases wordsP vs <;> simp
def joinW (ls : List Int) (o : Option (List Int)) : Option (List Int) := o.map (ls ++ ·)
theorem joinW_cons (ls : List Int) (v : List UInt8) (vs : List (List UInt8)) (l : Int) (h : wordP v = some l) : joinW ls (wordsP (v :: vs)) = joinW (ls ++ [l]) (wordsP vs) := by
  rw [wordsP, h]
  simp only
  cases wordsP vs <;> simp [joinW]
theorem joinW_none (ls : List Int) (v : List UInt8) (vs : List (List UInt8)) (h : wordP v = none) : joinW ls (wordsP (v :: vs)) = none := by rw [wordsP, h]; rfl

theorem words_at (vs : List (List UInt8)) (z : List UInt8) (i : Nat) (h : i < vs.length) : ((List.map (fun l => Value.string ⟨l.toArray⟩) (vs ++ [z])).toArray)[i]? = some (.string ⟨(nth vs [] i).toArray⟩) := by
  unfold nth
  rw [List.getElem?_toArray, List.getElem?_map, List.getElem?_append_left h, List.getD_eq_getElem?_getD, List.getElem?_eq_getElem h]
  rfl

/-- What line's call leaves. -/
def LineSaid (w : World) (g : Option PStep) (e : Ending) (w' : World) : Prop := Below w.heap.size w w' ∧ match g with
  | some s => ∃ V, e = .returned (.tuple #[.agg #[.bool s.del, V], .bool true]) ∧ Kd.R (Kd.int .i64) 3 w' w.heap.size (fun _ => True) V s.lits
  | none => ∃ d A n c, e = .returned (.tuple #[.agg #[.bool d, .slice A n c], .bool false])

theorem str_inf : (Tryz.prog.info? 9).map (fun i => i.size) = some 1 := by kernel_rfl
set_option maxRecDepth 100000 in
set_option maxHeartbeats 1600000 in
theorem line_true (x : List UInt8) (w : World) (hp : Lib.hasPrefix x [100, 32] = true) (hX : x.length ≤ 1048576) (E : Env w) :
    Calls Tryz.prog 45 #[strV x] w (LineSaid w (lineQ true (cutC 32 (x.drop 2)))) := by
  have hu := Tryz.underlying41
  have hu2 := Tryz.underlying9
  have HE := Aside0.mk E
  have hRL : (x.drop 2).length ≤ 1048576 := by simp; omega
  have C0 := fun w => cutPrefix_any x [100, 32] w
  rw [hp] at C0
  have C1 := fun w E => split_box (x.drop 2) 32 (by omega) w E
  have hcl := cut_len 32 (x.drop 2)
  obtain ⟨vs, z, hvz⟩ := snoc_of _ (cutC_ne 32 (x.drop 2))
  rw [hvz] at C1 hcl ⊢
  rw [lineQ_R]
  have hvl : vs.length ≤ 1048576 := by have := hcl.1; simp at this; omega
  have HVW : Aside0 (∀ i, i < vs.length → (nth vs [] i).length ≤ 1099511627776) := ⟨fun i hi => by have := hcl.2 (nth vs [] i) (by simp [nth_mem hi]); omega⟩
  rw [show (vs ++ [z]).length = vs.length + 1 by simp] at C1
  have kct := fun g => cut_to (P := Tryz.prog) 87 9 .i64 Tryz.underlying87 (Option.map_eq_some_iff.1 str_inf).choose_spec.1 (some ⟨g, 0, none⟩) (vs.length + 1) (vs.length + 1) (vs.length : Int) (by omega) (by omega) (Nat.le_refl _)
  rw [Int.toNat_natCast] at kct
  have HB := Aside0.mk (Below.refl w.heap.size w)
  clear hcl hvz hp E hX hRL
  have HW : Aside0 (joinW [] (wordsP (vs.drop 0)) = wordsP vs) := ⟨by rw [List.drop_zero]; unfold joinW; cases wordsP vs <;> simp⟩
  unfold lineR
  generalize hWD : wordsP vs = WW at HW ⊢
  clear hWD
  have D0 := C0
  clear C0
  unfold strV at D0 C1
  simp only [if_true, List.length_cons, List.length_nil, Nat.zero_add, Nat.reduceAdd] at D0
  show Calls Tryz.prog 45 #[.string ⟨x.toArray⟩] w _
  go_enter Tryz.func45, Tryz.ntmps45
  go_wp2_with (first
    | ((with_reducible refine gate_dst (N := 2) rfl ?_); refine box_event ?hg (N := 2) ?hd (cs := #[.bool false, .slice none 0 0]) (t := 41) ?hr ?_; (case hd => rfl); (case hg => rfl); (case hr => first | (go_simp; done) | (go_simp; rfl)); intro ga hg w5 hbox hb; have GEA := Aside0.mk ((by rw [hg]; exact (below_size (by repeat (first | (with_reducible first | exact HB.out | apply below_alloc | apply pw_below_drewN | apply below_drew1) | exact HB.out)))) : w.heap.size ≤ ga); have n0_ := Aside0.mk (below_step (by repeat (first | (with_reducible first | exact HB.out | apply below_alloc | apply pw_below_drewN | apply below_drew1) | exact HB.out)) hb); have BKA := Aside0.mk hbox; clear HB; have HB := n0_; clear n0_ hb hbox hg)
    | (go_at_call 61; refine (D0 _).mono ?_; rintro e w1 ⟨rfl, rfl⟩)
    | ((with_reducible refine gate_dst (N := 6) rfl ?_); refine box_event ?hg (N := 6) ?hd (cs := #[.bool false, .slice none 0 0]) (t := 41) ?hr ?_; (case hd => rfl); (case hg => rfl); (case hr => first | (go_simp; done) | (go_simp; rfl)); intro gb hg w6 hbox hb; have GEB := Aside0.mk ((by rw [hg]; exact (below_size (by repeat (first | (with_reducible first | exact HB.out | apply below_alloc | apply pw_below_drewN | apply below_drew1) | exact HB.out)))) : w.heap.size ≤ gb); have n0_ := Aside0.mk (below_step (by repeat (first | (with_reducible first | exact HB.out | apply below_alloc | apply pw_below_drewN | apply below_drew1) | exact HB.out)) hb); have BKB := Aside0.mk hbox; have n1_ := Aside0.mk (blk_below BKA.out hb); have hne : ga ≠ gb := (by have := blk_lt BKA.out; rw [hg]; simp; omega); clear HB BKA; have HB := n0_; have BKA := n1_; clear n0_ n1_ hb hbox hg; have ne1 : (ga = gb) = False := eq_false hne; have ne2 : (gb = ga) = False := eq_false (Ne.symm hne); clear hne; have ca0 : w6.cell? ⟨ga, 0, none⟩ = some (.bool false) := (blk_cell BKA.out 0).trans rfl; have ca1 : w6.cell? ⟨ga, 1, none⟩ = some (.slice none 0 0) := (blk_cell BKA.out 1).trans rfl; have fa0 := blk_frozen BKA.out 0; have fa1 := blk_frozen BKA.out 1; have cb0 : w6.cell? ⟨gb, 0, none⟩ = some (.bool false) := (blk_cell BKB.out 0).trans rfl; have cb1 : w6.cell? ⟨gb, 1, none⟩ = some (.slice none 0 0) := (blk_cell BKB.out 1).trans rfl; have fb0 := blk_frozen BKB.out 0; have fb1 := blk_frozen BKB.out 1)
    | (go_at_call 44; refine (C1 _ (HE.out.below (by repeat (first | (with_reducible first | exact HB.out | apply below_alloc | apply pw_below_drewN | apply below_drew1 | refine below_set ?_ GEB.out | refine below_set ?_ GEA.out) | exact HB.out)))).mono ?_))
  rintro e w9 ⟨gw, rfl, hgw, hb, hge⟩
  have BKA2 := Aside0.mk (blk_below (blk_far (p := ⟨gb, 1, none⟩) (blk_far (p := ⟨gb, 0, none⟩) BKA.out (by simpa using ne1) (.bool true)) (by simpa using ne1) (.slice none 0 0)) hb)
  have BKB2 := Aside0.mk (blk_below (blk_put (cs := #[.bool true, .slice none 0 0]) (blk_put (cs := #[.bool false, .slice none 0 0]) BKB.out 0 (.bool true) rfl) 1 (.slice none 0 0) rfl) hb)
  have HB2 := Aside0.mk (below_step (by repeat (first | (with_reducible first | exact HB.out | apply below_alloc | apply pw_below_drewN | apply below_drew1 | refine below_set ?_ GEB.out | refine below_set ?_ GEA.out) | exact HB.out)) hb)
  have HGW := Aside0.mk hgw
  clear hb hge hgw HB BKA BKB C1 D0 ca0 ca1 fa0 fa1 cb0 cb1 fb0 fb1
  have k2 := kct gw
  clear kct
  go_wp2
  go_loopg [27] vs.length (fun gk v27 w' => ∃ (i : Nat) (ls : List Int) (V : Value), v27 = .int .i64 (i : Int) ∧ i + gk = vs.length ∧ Aside0 (ls.length ≤ i) ∧ Aside0 (joinW ls (wordsP (vs.drop i)) = WW) ∧ Aside0 (Kd.R (Kd.int .i64) 3 w' w.heap.size (fun _ => True) V ls) ∧ Aside0 (w'.heap[ga]? = some (.cells #[.bool false, .slice none 0 0] 41 (0, 0))) ∧ Aside0 (w'.heap[gb]? = some (.cells #[.bool true, V] 41 (0, 0))) ∧ Aside0 (w'.heap[gw]? = some (.cells (List.map (fun l => Value.string ⟨l.toArray⟩) (vs ++ [z])).toArray 9 (0, 0))) ∧ Aside0 (Below w.heap.size w w'))
  case atStart => exact ⟨0, [], .slice none 0 0, rfl, by omega, ⟨by simp⟩, HW, ⟨Kd.R_nil _ _ _ _ _⟩, BKA2, BKB2, HGW, HB2⟩
  case round =>
    clear HB2 BKA2 BKB2 HGW HW
    obtain ⟨i, ls, V, rfl, hi, HLN, HJ, HO, BKA, BKB, HGW, HB⟩ := hrel
    obtain ⟨AV, cV, rfl⟩ := Kd.R_slice HO.out
    have ca0 : wr.cell? ⟨ga, 0, none⟩ = some (.bool false) := (blk_cell BKA.out 0).trans rfl
    have ca1 : wr.cell? ⟨ga, 1, none⟩ = some (.slice none 0 0) := (blk_cell BKA.out 1).trans rfl
    have fa0 := blk_frozen BKA.out 0
    have fa1 := blk_frozen BKA.out 1
    have cb0 : wr.cell? ⟨gb, 0, none⟩ = some (.bool true) := (blk_cell BKB.out 0).trans rfl
    have cb1 : wr.cell? ⟨gb, 1, none⟩ = some ((.slice AV ls.length cV)) := (blk_cell BKB.out 1).trans rfl
    have fb0 := blk_frozen BKB.out 0
    have fb1 := blk_frozen BKB.out 1
    have hml : ls.length ≤ 1048576 := by have := HLN.out; omega
    by_cases hiv : i < vs.length
    · have hx : wr.cell? ⟨gw, i, none⟩ = some (.string ⟨(nth vs [] i).toArray⟩) := by
        rw [blk_cell HGW.out i]
        exact words_at vs z i hiv
      have q1 : ((i : Int) < (vs.length : Int)) = True := eq_true (by omega)
      have q2 : (0 ≤ (i : Int)) = True := eq_true (by omega)
      have C := atoi_any (nth vs [] i) (HVW.out i hiv) wr (HE.out.below HB.out)
      unfold strV at C
      have hdc := drop_cons hiv ([] : List UInt8)
      have HDC := Aside0.mk hdc
      clear hdc
      generalize nth vs [] i = v at *
      go_wp2_with (go_at_call 62; refine C.mono ?_)
      clear C hx
      rintro e w7 ⟨hb, ⟨l, hl, rfl⟩ | ⟨hne, k, t, ai, rfl⟩⟩
      · cases hrl : rightL l
        · have hW2 : WW = none := by
            rw [← HJ.out, HDC.out]
            refine joinW_none ls v _ ?_
            unfold wordP
            rw [hl]
            simp only
            rw [if_neg (fun h : l ≠ 0 ∧ l ≤ 100000 ∧ -100000 ≤ l => by rw [rightL_iff.2 h] at hrl; cases hrl)]
          subst hW2
          have Cr := fun w => lit_right_any l w
          rw [hrl] at Cr
          clear HJ hl hrl HDC k2
          have BKA2 := Aside0.mk (blk_below BKA.out hb)
          have BKB2 := Aside0.mk (blk_below BKB.out hb)
          have HG2 := Aside0.mk (blk_below HGW.out hb)
          have HO2 := Aside0.mk (Kd.R_below HO.out hb)
          have HB2 := Aside0.mk (below_step HB.out hb)
          clear HB HO BKA BKB HGW hb ca0 ca1 fa0 fa1 cb0 cb1 fb0 fb1
          have HB := HB2
          have HO := HO2
          have BKA := BKA2
          have BKB := BKB2
          have HGW := HG2
          clear HB2 HO2 BKA2 BKB2 HG2
          have ca0 : w7.cell? ⟨ga, 0, none⟩ = some (.bool false) := (blk_cell BKA.out 0).trans rfl
          have ca1 : w7.cell? ⟨ga, 1, none⟩ = some (.slice none 0 0) := (blk_cell BKA.out 1).trans rfl
          have fa0 := blk_frozen BKA.out 0
          have fa1 := blk_frozen BKA.out 1
          have cb0 : w7.cell? ⟨gb, 0, none⟩ = some (.bool true) := (blk_cell BKB.out 0).trans rfl
          have cb1 : w7.cell? ⟨gb, 1, none⟩ = some ((.slice AV ls.length cV)) := (blk_cell BKB.out 1).trans rfl
          have fb0 := blk_frozen BKB.out 0
          have fb1 := blk_frozen BKB.out 1
          go_wp2_with (go_at_call 42; refine (Cr _).mono ?_)
          rintro e w8 ⟨rfl, hb⟩
          have BKA2 := Aside0.mk (blk_below BKA.out hb)
          have BKB2 := Aside0.mk (blk_below BKB.out hb)
          have HG2 := Aside0.mk (blk_below HGW.out hb)
          have HO2 := Aside0.mk (Kd.R_below HO.out hb)
          have HB2 := Aside0.mk (below_step HB.out hb)
          clear HB HO BKA BKB HGW hb ca0 ca1 fa0 fa1 cb0 cb1 fb0 fb1
          have HB := HB2
          have HO := HO2
          have BKA := BKA2
          have BKB := BKB2
          have HGW := HG2
          clear HB2 HO2 BKA2 BKB2 HG2
          have ca0 : w8.cell? ⟨ga, 0, none⟩ = some (.bool false) := (blk_cell BKA.out 0).trans rfl
          have ca1 : w8.cell? ⟨ga, 1, none⟩ = some (.slice none 0 0) := (blk_cell BKA.out 1).trans rfl
          have fa0 := blk_frozen BKA.out 0
          have fa1 := blk_frozen BKA.out 1
          have cb0 : w8.cell? ⟨gb, 0, none⟩ = some (.bool true) := (blk_cell BKB.out 0).trans rfl
          have cb1 : w8.cell? ⟨gb, 1, none⟩ = some ((.slice AV ls.length cV)) := (blk_cell BKB.out 1).trans rfl
          have fb0 := blk_frozen BKB.out 0
          have fb1 := blk_frozen BKB.out 1
          clear Cr
          go_wp2
          exact bodyPost_ret (v := .tuple #[.agg #[.bool true, .slice AV ls.length cV], .bool false]) (by simp [results, Tryz.results45, go_sem, *]) rfl ⟨(by repeat (first | (with_reducible first | exact HB.out | apply below_alloc | apply pw_below_drewN | apply below_drew1 | refine below_set ?_ GEB.out | refine below_set ?_ GEA.out) | exact HB.out)), _, _, _, _, rfl⟩
        · have hW2 : joinW (ls ++ [l]) (wordsP (vs.drop (i + 1))) = WW := by
            rw [← HJ.out, HDC.out]
            refine (joinW_cons ls v _ l ?_).symm
            unfold wordP
            rw [hl]
            simp only
            rw [if_pos (show l ≠ 0 ∧ l ≤ 100000 ∧ -100000 ≤ l from rightL_iff.1 hrl)]
          have HJ2 := Aside0.mk hW2
          have Cr := fun w => lit_right_any l w
          rw [hrl] at Cr
          clear HJ hl hrl HDC hW2 k2
          have BKA2 := Aside0.mk (blk_below BKA.out hb)
          have BKB2 := Aside0.mk (blk_below BKB.out hb)
          have HG2 := Aside0.mk (blk_below HGW.out hb)
          have HO2 := Aside0.mk (Kd.R_below HO.out hb)
          have HB2 := Aside0.mk (below_step HB.out hb)
          clear HB HO BKA BKB HGW hb ca0 ca1 fa0 fa1 cb0 cb1 fb0 fb1
          have HB := HB2
          have HO := HO2
          have BKA := BKA2
          have BKB := BKB2
          have HGW := HG2
          clear HB2 HO2 BKA2 BKB2 HG2
          have ca0 : w7.cell? ⟨ga, 0, none⟩ = some (.bool false) := (blk_cell BKA.out 0).trans rfl
          have ca1 : w7.cell? ⟨ga, 1, none⟩ = some (.slice none 0 0) := (blk_cell BKA.out 1).trans rfl
          have fa0 := blk_frozen BKA.out 0
          have fa1 := blk_frozen BKA.out 1
          have cb0 : w7.cell? ⟨gb, 0, none⟩ = some (.bool true) := (blk_cell BKB.out 0).trans rfl
          have cb1 : w7.cell? ⟨gb, 1, none⟩ = some ((.slice AV ls.length cV)) := (blk_cell BKB.out 1).trans rfl
          have fb0 := blk_frozen BKB.out 0
          have fb1 := blk_frozen BKB.out 1
          go_wp2_with (go_at_call 42; refine (Cr _).mono ?_)
          rintro e w8 ⟨rfl, hb⟩
          have BKA2 := Aside0.mk (blk_below BKA.out hb)
          have BKB2 := Aside0.mk (blk_below BKB.out hb)
          have HG2 := Aside0.mk (blk_below HGW.out hb)
          have HO2 := Aside0.mk (Kd.R_below HO.out hb)
          have HB2 := Aside0.mk (below_step HB.out hb)
          clear HB HO BKA BKB HGW hb ca0 ca1 fa0 fa1 cb0 cb1 fb0 fb1
          have HB := HB2
          have HO := HO2
          have BKA := BKA2
          have BKB := BKB2
          have HGW := HG2
          clear HB2 HO2 BKA2 BKB2 HG2
          have ca0 : w8.cell? ⟨ga, 0, none⟩ = some (.bool false) := (blk_cell BKA.out 0).trans rfl
          have ca1 : w8.cell? ⟨ga, 1, none⟩ = some (.slice none 0 0) := (blk_cell BKA.out 1).trans rfl
          have fa0 := blk_frozen BKA.out 0
          have fa1 := blk_frozen BKA.out 1
          have cb0 : w8.cell? ⟨gb, 0, none⟩ = some (.bool true) := (blk_cell BKB.out 0).trans rfl
          have cb1 : w8.cell? ⟨gb, 1, none⟩ = some ((.slice AV ls.length cV)) := (blk_cell BKB.out 1).trans rfl
          have fb0 := blk_frozen BKB.out 0
          have fb1 := blk_frozen BKB.out 1
          clear Cr
          go_wp2_with ((with_reducible refine gate_builtin (b := .append) (xs := #[.tmp 45, .tmp 47]) rfl ?_); at_builtin; refine Kd.R_append (Kd.int .i64) (w0 := w) w.heap.size rfl (.tmp 45) (.tmp 47) 34 3 (.int .i64 0) 8 rfl Tryz.underlying34 info3 rfl (by decide) (by decide) _ ls l [.int .i64 l] (fun _ => True) (fun _ => False) rfl ?aX rfl (fun _ hk => hk.elim) (fun _ _ => trivial) ?aO ?aB ?aS ?aL ?_; (case aX => first | rfl | (simp [Act.eval]; done)); (case aO => exact HO.out); (case aB => exact HB.out); (case aS => exact below_size HB.out); (case aL => omega))
          intro v1 w10 ho hb hg hat
          obtain ⟨A8, c8, rfl⟩ := Kd.R_slice ho
          rw [show (ls ++ [l]).length = ls.length + 1 by simp] at ho
          have BKA2 := Aside0.mk (blk_grown BKA.out hg (Kd.R_ne HO.out BKA.out (by decide)))
          have BKB2 := Aside0.mk (blk_grown BKB.out hg (Kd.R_ne HO.out BKB.out (by decide)))
          have HG2 := Aside0.mk (blk_grown HGW.out hg (Kd.R_ne HO.out HGW.out (by decide)))
          have HO2 := Aside0.mk ho
          have HB2 := Aside0.mk hb
          clear HB HO BKA BKB HGW hb hg ho hat ca0 ca1 fa0 fa1 cb0 cb1 fb0 fb1
          have HB := HB2
          have HO := HO2
          have BKA := BKA2
          have BKB := BKB2
          have HGW := HG2
          clear HB2 HO2 BKA2 BKB2 HG2
          have ca0 : w10.cell? ⟨ga, 0, none⟩ = some (.bool false) := (blk_cell BKA.out 0).trans rfl
          have ca1 : w10.cell? ⟨ga, 1, none⟩ = some (.slice none 0 0) := (blk_cell BKA.out 1).trans rfl
          have fa0 := blk_frozen BKA.out 0
          have fa1 := blk_frozen BKA.out 1
          have cb0 : w10.cell? ⟨gb, 0, none⟩ = some (.bool true) := (blk_cell BKB.out 0).trans rfl
          have cb1 : w10.cell? ⟨gb, 1, none⟩ = some ((.slice AV ls.length cV)) := (blk_cell BKB.out 1).trans rfl
          have fb0 := blk_frozen BKB.out 0
          have fb1 := blk_frozen BKB.out 1
          go_wp2
          go_roundg (vs.length - (i + 1))
          case measure => omega
          case rel =>
            refine ⟨i + 1, ls ++ [l], .slice A8 (ls.length + 1) c8, by go_num, by omega, ⟨by have := HLN.out; simp; omega⟩, HJ2, ⟨?_⟩, ⟨?_⟩, ⟨?_⟩, ⟨?_⟩, ⟨(by repeat (first | (with_reducible first | exact HB.out | apply below_alloc | apply pw_below_drewN | apply below_drew1 | refine below_set ?_ GEB.out | refine below_set ?_ GEA.out) | exact HB.out))⟩⟩
            · exact Kd.R_mono (Kd.R_far (p := ⟨gb, 1, none⟩) (Kd.R_types HO.out BKB.out (by decide)) (fun _ hk => hk.2) _) (fun _ _ => trivial)
            · exact blk_far (p := ⟨gb, 1, none⟩) BKA.out (by simpa using ne1) _
            · exact blk_put (cs := #[.bool true, .slice AV ls.length cV]) BKB.out 1 _ rfl
            · exact blk_far (p := ⟨gb, 1, none⟩) HGW.out (blk_ne HGW.out BKB.out (by decide)) _
      · have hW2 : WW = none := by
          rw [← HJ.out, HDC.out]
          refine joinW_none ls v _ ?_
          unfold wordP
          cases hl : Lib.atoiAll v with
          | ok l => exact absurd hl (hne l)
          | «syntax» => rfl
          | range => rfl
        subst hW2
        clear HJ hne HDC k2
        have BKA2 := Aside0.mk (blk_below BKA.out hb)
        have BKB2 := Aside0.mk (blk_below BKB.out hb)
        have HG2 := Aside0.mk (blk_below HGW.out hb)
        have HO2 := Aside0.mk (Kd.R_below HO.out hb)
        have HB2 := Aside0.mk (below_step HB.out hb)
        clear HB HO BKA BKB HGW hb ca0 ca1 fa0 fa1 cb0 cb1 fb0 fb1
        have HB := HB2
        have HO := HO2
        have BKA := BKA2
        have BKB := BKB2
        have HGW := HG2
        clear HB2 HO2 BKA2 BKB2 HG2
        have ca0 : w7.cell? ⟨ga, 0, none⟩ = some (.bool false) := (blk_cell BKA.out 0).trans rfl
        have ca1 : w7.cell? ⟨ga, 1, none⟩ = some (.slice none 0 0) := (blk_cell BKA.out 1).trans rfl
        have fa0 := blk_frozen BKA.out 0
        have fa1 := blk_frozen BKA.out 1
        have cb0 : w7.cell? ⟨gb, 0, none⟩ = some (.bool true) := (blk_cell BKB.out 0).trans rfl
        have cb1 : w7.cell? ⟨gb, 1, none⟩ = some ((.slice AV ls.length cV)) := (blk_cell BKB.out 1).trans rfl
        have fb0 := blk_frozen BKB.out 0
        have fb1 := blk_frozen BKB.out 1
        go_wp2
        exact bodyPost_ret (v := .tuple #[.agg #[.bool true, .slice AV ls.length cV], .bool false]) (by simp [results, Tryz.results45, go_sem, *]) rfl ⟨(by repeat (first | (with_reducible first | exact HB.out | apply below_alloc | apply pw_below_drewN | apply below_drew1 | refine below_set ?_ GEB.out | refine below_set ?_ GEA.out) | exact HB.out)), _, _, _, _, rfl⟩
    · have q1 : ((i : Int) < (vs.length : Int)) = False := eq_false (by omega)
      have hW2 : WW = some ls := by rw [← HJ.out, List.drop_of_length_le (by omega)]; simp [wordsP, joinW]
      subst hW2
      have hx : wr.cell? ⟨gw, vs.length, none⟩ = some (.string ⟨z.toArray⟩) := by
        rw [blk_cell HGW.out vs.length]
        simp
      have hg1 := blk_ne HGW.out BKA.out (by decide)
      have hg2 := blk_ne HGW.out BKB.out (by decide)
      have ne3 : (gw = ga) = False := eq_false hg1
      have ne4 : (ga = gw) = False := eq_false (Ne.symm hg1)
      have ne5 : (gw = gb) = False := eq_false hg2
      have ne6 : (gb = gw) = False := eq_false (Ne.symm hg2)
      have hwl : IntKind.i64.wrap (vs.length : Int) = (vs.length : Int) := by rw [IntKind.wrap_i64]; omega
      clear HJ hg1 hg2
      go_wp2
      go_region
      all_goals go_wp2
      all_goals
        refine bodyPost_ret (v := .tuple #[.agg #[.bool true, .slice AV ls.length cV], .bool (z == [48])]) (by simp [results, Tryz.results45, go_sem, *]) rfl ?_
        refine ⟨(by repeat (first | (with_reducible first | exact HB.out | apply below_alloc | apply pw_below_drewN | apply below_drew1 | refine below_set ?_ GEB.out | refine below_set ?_ GEA.out) | exact HB.out)), ?_⟩
        first
          | (refine ⟨.slice AV ls.length cV, ?_, Kd.R_drew (Kd.R_mono (Kd.R_far (p := ⟨ga, 1, none⟩) (Kd.R_far (p := ⟨ga, 0, none⟩) (Kd.R_types HO.out BKA.out (by decide)) (fun _ hk => hk.2) _) (fun _ hk => hk.2) _) (fun _ _ => trivial))⟩; (simp [*]; done))
          | (refine ⟨true, AV, ls.length, cV, ?_⟩; (simp [*]; done))

set_option maxRecDepth 100000 in
set_option maxHeartbeats 1600000 in
theorem line_false (x : List UInt8) (w : World) (hp : Lib.hasPrefix x [100, 32] = false) (hX : x.length ≤ 1048576) (E : Env w) :
    Calls Tryz.prog 45 #[strV x] w (LineSaid w (lineQ false (cutC 32 x))) := by
  have hu := Tryz.underlying41
  have hu2 := Tryz.underlying9
  have HE := Aside0.mk E
  have hRL : x.length ≤ 1048576 := hX
  have C0 := fun w => cutPrefix_any x [100, 32] w
  rw [hp] at C0
  have C1 := fun w E => split_box x 32 (by omega) w E
  have hcl := cut_len 32 x
  obtain ⟨vs, z, hvz⟩ := snoc_of _ (cutC_ne 32 x)
  rw [hvz] at C1 hcl ⊢
  rw [lineQ_R]
  have hvl : vs.length ≤ 1048576 := by have := hcl.1; simp at this; omega
  have HVW : Aside0 (∀ i, i < vs.length → (nth vs [] i).length ≤ 1099511627776) := ⟨fun i hi => by have := hcl.2 (nth vs [] i) (by simp [nth_mem hi]); omega⟩
  rw [show (vs ++ [z]).length = vs.length + 1 by simp] at C1
  have kct := fun g => cut_to (P := Tryz.prog) 87 9 .i64 Tryz.underlying87 (Option.map_eq_some_iff.1 str_inf).choose_spec.1 (some ⟨g, 0, none⟩) (vs.length + 1) (vs.length + 1) (vs.length : Int) (by omega) (by omega) (Nat.le_refl _)
  rw [Int.toNat_natCast] at kct
  have HB := Aside0.mk (Below.refl w.heap.size w)
  clear hcl hvz hp E hX hRL
  have HW : Aside0 (joinW [] (wordsP (vs.drop 0)) = wordsP vs) := ⟨by rw [List.drop_zero]; unfold joinW; cases wordsP vs <;> simp⟩
  unfold lineR
  generalize hWD : wordsP vs = WW at HW ⊢
  clear hWD
  have D0 := C0
  clear C0
  unfold strV at D0 C1
  simp only [if_false, Bool.false_eq_true, List.length_cons, List.length_nil, Nat.zero_add, Nat.reduceAdd] at D0
  show Calls Tryz.prog 45 #[.string ⟨x.toArray⟩] w _
  go_enter Tryz.func45, Tryz.ntmps45
  go_wp2_with (first
    | ((with_reducible refine gate_dst (N := 2) rfl ?_); refine box_event ?hg (N := 2) ?hd (cs := #[.bool false, .slice none 0 0]) (t := 41) ?hr ?_; (case hd => rfl); (case hg => rfl); (case hr => first | (go_simp; done) | (go_simp; rfl)); intro ga hg w5 hbox hb; have GEA := Aside0.mk ((by rw [hg]; exact (below_size (by repeat (first | (with_reducible first | exact HB.out | apply below_alloc | apply pw_below_drewN | apply below_drew1) | exact HB.out)))) : w.heap.size ≤ ga); have n0_ := Aside0.mk (below_step (by repeat (first | (with_reducible first | exact HB.out | apply below_alloc | apply pw_below_drewN | apply below_drew1) | exact HB.out)) hb); have BKA := Aside0.mk hbox; clear HB; have HB := n0_; clear n0_ hb hbox hg)
    | (go_at_call 61; refine (D0 _).mono ?_; rintro e w1 ⟨rfl, rfl⟩)
    | ((with_reducible refine gate_dst (N := 6) rfl ?_); refine box_event ?hg (N := 6) ?hd (cs := #[.bool false, .slice none 0 0]) (t := 41) ?hr ?_; (case hd => rfl); (case hg => rfl); (case hr => first | (go_simp; done) | (go_simp; rfl)); intro gb hg w6 hbox hb; have GEB := Aside0.mk ((by rw [hg]; exact (below_size (by repeat (first | (with_reducible first | exact HB.out | apply below_alloc | apply pw_below_drewN | apply below_drew1) | exact HB.out)))) : w.heap.size ≤ gb); have n0_ := Aside0.mk (below_step (by repeat (first | (with_reducible first | exact HB.out | apply below_alloc | apply pw_below_drewN | apply below_drew1) | exact HB.out)) hb); have BKB := Aside0.mk hbox; have n1_ := Aside0.mk (blk_below BKA.out hb); have hne : ga ≠ gb := (by have := blk_lt BKA.out; rw [hg]; simp; omega); clear HB BKA; have HB := n0_; have BKA := n1_; clear n0_ n1_ hb hbox hg; have ne1 : (ga = gb) = False := eq_false hne; have ne2 : (gb = ga) = False := eq_false (Ne.symm hne); clear hne; have ca0 : w6.cell? ⟨ga, 0, none⟩ = some (.bool false) := (blk_cell BKA.out 0).trans rfl; have ca1 : w6.cell? ⟨ga, 1, none⟩ = some (.slice none 0 0) := (blk_cell BKA.out 1).trans rfl; have fa0 := blk_frozen BKA.out 0; have fa1 := blk_frozen BKA.out 1; have cb0 : w6.cell? ⟨gb, 0, none⟩ = some (.bool false) := (blk_cell BKB.out 0).trans rfl; have cb1 : w6.cell? ⟨gb, 1, none⟩ = some (.slice none 0 0) := (blk_cell BKB.out 1).trans rfl; have fb0 := blk_frozen BKB.out 0; have fb1 := blk_frozen BKB.out 1)
    | (go_at_call 44; refine (C1 _ (HE.out.below (by repeat (first | (with_reducible first | exact HB.out | apply below_alloc | apply pw_below_drewN | apply below_drew1 | refine below_set ?_ GEB.out | refine below_set ?_ GEA.out) | exact HB.out)))).mono ?_))
  rintro e w9 ⟨gw, rfl, hgw, hb, hge⟩
  have BKA2 := Aside0.mk (blk_below (blk_far (p := ⟨gb, 1, none⟩) (blk_far (p := ⟨gb, 0, none⟩) BKA.out (by simpa using ne1) (.bool false)) (by simpa using ne1) (.slice none 0 0)) hb)
  have BKB2 := Aside0.mk (blk_below (blk_put (cs := #[.bool false, .slice none 0 0]) (blk_put (cs := #[.bool false, .slice none 0 0]) BKB.out 0 (.bool false) rfl) 1 (.slice none 0 0) rfl) hb)
  have HB2 := Aside0.mk (below_step (by repeat (first | (with_reducible first | exact HB.out | apply below_alloc | apply pw_below_drewN | apply below_drew1 | refine below_set ?_ GEB.out | refine below_set ?_ GEA.out) | exact HB.out)) hb)
  have HGW := Aside0.mk hgw
  clear hb hge hgw HB BKA BKB C1 D0 ca0 ca1 fa0 fa1 cb0 cb1 fb0 fb1
  have k2 := kct gw
  clear kct
  go_wp2
  go_loopg [27] vs.length (fun gk v27 w' => ∃ (i : Nat) (ls : List Int) (V : Value), v27 = .int .i64 (i : Int) ∧ i + gk = vs.length ∧ Aside0 (ls.length ≤ i) ∧ Aside0 (joinW ls (wordsP (vs.drop i)) = WW) ∧ Aside0 (Kd.R (Kd.int .i64) 3 w' w.heap.size (fun _ => True) V ls) ∧ Aside0 (w'.heap[ga]? = some (.cells #[.bool false, .slice none 0 0] 41 (0, 0))) ∧ Aside0 (w'.heap[gb]? = some (.cells #[.bool false, V] 41 (0, 0))) ∧ Aside0 (w'.heap[gw]? = some (.cells (List.map (fun l => Value.string ⟨l.toArray⟩) (vs ++ [z])).toArray 9 (0, 0))) ∧ Aside0 (Below w.heap.size w w'))
  case atStart => exact ⟨0, [], .slice none 0 0, rfl, by omega, ⟨by simp⟩, HW, ⟨Kd.R_nil _ _ _ _ _⟩, BKA2, BKB2, HGW, HB2⟩
  case round =>
    clear HB2 BKA2 BKB2 HGW HW
    obtain ⟨i, ls, V, rfl, hi, HLN, HJ, HO, BKA, BKB, HGW, HB⟩ := hrel
    obtain ⟨AV, cV, rfl⟩ := Kd.R_slice HO.out
    have ca0 : wr.cell? ⟨ga, 0, none⟩ = some (.bool false) := (blk_cell BKA.out 0).trans rfl
    have ca1 : wr.cell? ⟨ga, 1, none⟩ = some (.slice none 0 0) := (blk_cell BKA.out 1).trans rfl
    have fa0 := blk_frozen BKA.out 0
    have fa1 := blk_frozen BKA.out 1
    have cb0 : wr.cell? ⟨gb, 0, none⟩ = some (.bool false) := (blk_cell BKB.out 0).trans rfl
    have cb1 : wr.cell? ⟨gb, 1, none⟩ = some ((.slice AV ls.length cV)) := (blk_cell BKB.out 1).trans rfl
    have fb0 := blk_frozen BKB.out 0
    have fb1 := blk_frozen BKB.out 1
    have hml : ls.length ≤ 1048576 := by have := HLN.out; omega
    by_cases hiv : i < vs.length
    · have hx : wr.cell? ⟨gw, i, none⟩ = some (.string ⟨(nth vs [] i).toArray⟩) := by
        rw [blk_cell HGW.out i]
        exact words_at vs z i hiv
      have q1 : ((i : Int) < (vs.length : Int)) = True := eq_true (by omega)
      have q2 : (0 ≤ (i : Int)) = True := eq_true (by omega)
      have C := atoi_any (nth vs [] i) (HVW.out i hiv) wr (HE.out.below HB.out)
      unfold strV at C
      have hdc := drop_cons hiv ([] : List UInt8)
      have HDC := Aside0.mk hdc
      clear hdc
      generalize nth vs [] i = v at *
      go_wp2_with (go_at_call 62; refine C.mono ?_)
      clear C hx
      rintro e w7 ⟨hb, ⟨l, hl, rfl⟩ | ⟨hne, k, t, ai, rfl⟩⟩
      · cases hrl : rightL l
        · have hW2 : WW = none := by
            rw [← HJ.out, HDC.out]
            refine joinW_none ls v _ ?_
            unfold wordP
            rw [hl]
            simp only
            rw [if_neg (fun h : l ≠ 0 ∧ l ≤ 100000 ∧ -100000 ≤ l => by rw [rightL_iff.2 h] at hrl; cases hrl)]
          subst hW2
          have Cr := fun w => lit_right_any l w
          rw [hrl] at Cr
          clear HJ hl hrl HDC k2
          have BKA2 := Aside0.mk (blk_below BKA.out hb)
          have BKB2 := Aside0.mk (blk_below BKB.out hb)
          have HG2 := Aside0.mk (blk_below HGW.out hb)
          have HO2 := Aside0.mk (Kd.R_below HO.out hb)
          have HB2 := Aside0.mk (below_step HB.out hb)
          clear HB HO BKA BKB HGW hb ca0 ca1 fa0 fa1 cb0 cb1 fb0 fb1
          have HB := HB2
          have HO := HO2
          have BKA := BKA2
          have BKB := BKB2
          have HGW := HG2
          clear HB2 HO2 BKA2 BKB2 HG2
          have ca0 : w7.cell? ⟨ga, 0, none⟩ = some (.bool false) := (blk_cell BKA.out 0).trans rfl
          have ca1 : w7.cell? ⟨ga, 1, none⟩ = some (.slice none 0 0) := (blk_cell BKA.out 1).trans rfl
          have fa0 := blk_frozen BKA.out 0
          have fa1 := blk_frozen BKA.out 1
          have cb0 : w7.cell? ⟨gb, 0, none⟩ = some (.bool false) := (blk_cell BKB.out 0).trans rfl
          have cb1 : w7.cell? ⟨gb, 1, none⟩ = some ((.slice AV ls.length cV)) := (blk_cell BKB.out 1).trans rfl
          have fb0 := blk_frozen BKB.out 0
          have fb1 := blk_frozen BKB.out 1
          go_wp2_with (go_at_call 42; refine (Cr _).mono ?_)
          rintro e w8 ⟨rfl, hb⟩
          have BKA2 := Aside0.mk (blk_below BKA.out hb)
          have BKB2 := Aside0.mk (blk_below BKB.out hb)
          have HG2 := Aside0.mk (blk_below HGW.out hb)
          have HO2 := Aside0.mk (Kd.R_below HO.out hb)
          have HB2 := Aside0.mk (below_step HB.out hb)
          clear HB HO BKA BKB HGW hb ca0 ca1 fa0 fa1 cb0 cb1 fb0 fb1
          have HB := HB2
          have HO := HO2
          have BKA := BKA2
          have BKB := BKB2
          have HGW := HG2
          clear HB2 HO2 BKA2 BKB2 HG2
          have ca0 : w8.cell? ⟨ga, 0, none⟩ = some (.bool false) := (blk_cell BKA.out 0).trans rfl
          have ca1 : w8.cell? ⟨ga, 1, none⟩ = some (.slice none 0 0) := (blk_cell BKA.out 1).trans rfl
          have fa0 := blk_frozen BKA.out 0
          have fa1 := blk_frozen BKA.out 1
          have cb0 : w8.cell? ⟨gb, 0, none⟩ = some (.bool false) := (blk_cell BKB.out 0).trans rfl
          have cb1 : w8.cell? ⟨gb, 1, none⟩ = some ((.slice AV ls.length cV)) := (blk_cell BKB.out 1).trans rfl
          have fb0 := blk_frozen BKB.out 0
          have fb1 := blk_frozen BKB.out 1
          clear Cr
          go_wp2
          exact bodyPost_ret (v := .tuple #[.agg #[.bool false, .slice AV ls.length cV], .bool false]) (by simp [results, Tryz.results45, go_sem, *]) rfl ⟨(by repeat (first | (with_reducible first | exact HB.out | apply below_alloc | apply pw_below_drewN | apply below_drew1 | refine below_set ?_ GEB.out | refine below_set ?_ GEA.out) | exact HB.out)), _, _, _, _, rfl⟩
        · have hW2 : joinW (ls ++ [l]) (wordsP (vs.drop (i + 1))) = WW := by
            rw [← HJ.out, HDC.out]
            refine (joinW_cons ls v _ l ?_).symm
            unfold wordP
            rw [hl]
            simp only
            rw [if_pos (show l ≠ 0 ∧ l ≤ 100000 ∧ -100000 ≤ l from rightL_iff.1 hrl)]
          have HJ2 := Aside0.mk hW2
          have Cr := fun w => lit_right_any l w
          rw [hrl] at Cr
          clear HJ hl hrl HDC hW2 k2
          have BKA2 := Aside0.mk (blk_below BKA.out hb)
          have BKB2 := Aside0.mk (blk_below BKB.out hb)
          have HG2 := Aside0.mk (blk_below HGW.out hb)
          have HO2 := Aside0.mk (Kd.R_below HO.out hb)
          have HB2 := Aside0.mk (below_step HB.out hb)
          clear HB HO BKA BKB HGW hb ca0 ca1 fa0 fa1 cb0 cb1 fb0 fb1
          have HB := HB2
          have HO := HO2
          have BKA := BKA2
          have BKB := BKB2
          have HGW := HG2
          clear HB2 HO2 BKA2 BKB2 HG2
          have ca0 : w7.cell? ⟨ga, 0, none⟩ = some (.bool false) := (blk_cell BKA.out 0).trans rfl
          have ca1 : w7.cell? ⟨ga, 1, none⟩ = some (.slice none 0 0) := (blk_cell BKA.out 1).trans rfl
          have fa0 := blk_frozen BKA.out 0
          have fa1 := blk_frozen BKA.out 1
          have cb0 : w7.cell? ⟨gb, 0, none⟩ = some (.bool false) := (blk_cell BKB.out 0).trans rfl
          have cb1 : w7.cell? ⟨gb, 1, none⟩ = some ((.slice AV ls.length cV)) := (blk_cell BKB.out 1).trans rfl
          have fb0 := blk_frozen BKB.out 0
          have fb1 := blk_frozen BKB.out 1
          go_wp2_with (go_at_call 42; refine (Cr _).mono ?_)
          rintro e w8 ⟨rfl, hb⟩
          have BKA2 := Aside0.mk (blk_below BKA.out hb)
          have BKB2 := Aside0.mk (blk_below BKB.out hb)
          have HG2 := Aside0.mk (blk_below HGW.out hb)
          have HO2 := Aside0.mk (Kd.R_below HO.out hb)
          have HB2 := Aside0.mk (below_step HB.out hb)
          clear HB HO BKA BKB HGW hb ca0 ca1 fa0 fa1 cb0 cb1 fb0 fb1
          have HB := HB2
          have HO := HO2
          have BKA := BKA2
          have BKB := BKB2
          have HGW := HG2
          clear HB2 HO2 BKA2 BKB2 HG2
          have ca0 : w8.cell? ⟨ga, 0, none⟩ = some (.bool false) := (blk_cell BKA.out 0).trans rfl
          have ca1 : w8.cell? ⟨ga, 1, none⟩ = some (.slice none 0 0) := (blk_cell BKA.out 1).trans rfl
          have fa0 := blk_frozen BKA.out 0
          have fa1 := blk_frozen BKA.out 1
          have cb0 : w8.cell? ⟨gb, 0, none⟩ = some (.bool false) := (blk_cell BKB.out 0).trans rfl
          have cb1 : w8.cell? ⟨gb, 1, none⟩ = some ((.slice AV ls.length cV)) := (blk_cell BKB.out 1).trans rfl
          have fb0 := blk_frozen BKB.out 0
          have fb1 := blk_frozen BKB.out 1
          clear Cr
          go_wp2_with ((with_reducible refine gate_builtin (b := .append) (xs := #[.tmp 45, .tmp 47]) rfl ?_); at_builtin; refine Kd.R_append (Kd.int .i64) (w0 := w) w.heap.size rfl (.tmp 45) (.tmp 47) 34 3 (.int .i64 0) 8 rfl Tryz.underlying34 info3 rfl (by decide) (by decide) _ ls l [.int .i64 l] (fun _ => True) (fun _ => False) rfl ?aX rfl (fun _ hk => hk.elim) (fun _ _ => trivial) ?aO ?aB ?aS ?aL ?_; (case aX => first | rfl | (simp [Act.eval]; done)); (case aO => exact HO.out); (case aB => exact HB.out); (case aS => exact below_size HB.out); (case aL => omega))
          intro v1 w10 ho hb hg hat
          obtain ⟨A8, c8, rfl⟩ := Kd.R_slice ho
          rw [show (ls ++ [l]).length = ls.length + 1 by simp] at ho
          have BKA2 := Aside0.mk (blk_grown BKA.out hg (Kd.R_ne HO.out BKA.out (by decide)))
          have BKB2 := Aside0.mk (blk_grown BKB.out hg (Kd.R_ne HO.out BKB.out (by decide)))
          have HG2 := Aside0.mk (blk_grown HGW.out hg (Kd.R_ne HO.out HGW.out (by decide)))
          have HO2 := Aside0.mk ho
          have HB2 := Aside0.mk hb
          clear HB HO BKA BKB HGW hb hg ho hat ca0 ca1 fa0 fa1 cb0 cb1 fb0 fb1
          have HB := HB2
          have HO := HO2
          have BKA := BKA2
          have BKB := BKB2
          have HGW := HG2
          clear HB2 HO2 BKA2 BKB2 HG2
          have ca0 : w10.cell? ⟨ga, 0, none⟩ = some (.bool false) := (blk_cell BKA.out 0).trans rfl
          have ca1 : w10.cell? ⟨ga, 1, none⟩ = some (.slice none 0 0) := (blk_cell BKA.out 1).trans rfl
          have fa0 := blk_frozen BKA.out 0
          have fa1 := blk_frozen BKA.out 1
          have cb0 : w10.cell? ⟨gb, 0, none⟩ = some (.bool false) := (blk_cell BKB.out 0).trans rfl
          have cb1 : w10.cell? ⟨gb, 1, none⟩ = some ((.slice AV ls.length cV)) := (blk_cell BKB.out 1).trans rfl
          have fb0 := blk_frozen BKB.out 0
          have fb1 := blk_frozen BKB.out 1
          go_wp2
          go_roundg (vs.length - (i + 1))
          case measure => omega
          case rel =>
            refine ⟨i + 1, ls ++ [l], .slice A8 (ls.length + 1) c8, by go_num, by omega, ⟨by have := HLN.out; simp; omega⟩, HJ2, ⟨?_⟩, ⟨?_⟩, ⟨?_⟩, ⟨?_⟩, ⟨(by repeat (first | (with_reducible first | exact HB.out | apply below_alloc | apply pw_below_drewN | apply below_drew1 | refine below_set ?_ GEB.out | refine below_set ?_ GEA.out) | exact HB.out))⟩⟩
            · exact Kd.R_mono (Kd.R_far (p := ⟨gb, 1, none⟩) (Kd.R_types HO.out BKB.out (by decide)) (fun _ hk => hk.2) _) (fun _ _ => trivial)
            · exact blk_far (p := ⟨gb, 1, none⟩) BKA.out (by simpa using ne1) _
            · exact blk_put (cs := #[.bool false, .slice AV ls.length cV]) BKB.out 1 _ rfl
            · exact blk_far (p := ⟨gb, 1, none⟩) HGW.out (blk_ne HGW.out BKB.out (by decide)) _
      · have hW2 : WW = none := by
          rw [← HJ.out, HDC.out]
          refine joinW_none ls v _ ?_
          unfold wordP
          cases hl : Lib.atoiAll v with
          | ok l => exact absurd hl (hne l)
          | «syntax» => rfl
          | range => rfl
        subst hW2
        clear HJ hne HDC k2
        have BKA2 := Aside0.mk (blk_below BKA.out hb)
        have BKB2 := Aside0.mk (blk_below BKB.out hb)
        have HG2 := Aside0.mk (blk_below HGW.out hb)
        have HO2 := Aside0.mk (Kd.R_below HO.out hb)
        have HB2 := Aside0.mk (below_step HB.out hb)
        clear HB HO BKA BKB HGW hb ca0 ca1 fa0 fa1 cb0 cb1 fb0 fb1
        have HB := HB2
        have HO := HO2
        have BKA := BKA2
        have BKB := BKB2
        have HGW := HG2
        clear HB2 HO2 BKA2 BKB2 HG2
        have ca0 : w7.cell? ⟨ga, 0, none⟩ = some (.bool false) := (blk_cell BKA.out 0).trans rfl
        have ca1 : w7.cell? ⟨ga, 1, none⟩ = some (.slice none 0 0) := (blk_cell BKA.out 1).trans rfl
        have fa0 := blk_frozen BKA.out 0
        have fa1 := blk_frozen BKA.out 1
        have cb0 : w7.cell? ⟨gb, 0, none⟩ = some (.bool false) := (blk_cell BKB.out 0).trans rfl
        have cb1 : w7.cell? ⟨gb, 1, none⟩ = some ((.slice AV ls.length cV)) := (blk_cell BKB.out 1).trans rfl
        have fb0 := blk_frozen BKB.out 0
        have fb1 := blk_frozen BKB.out 1
        go_wp2
        exact bodyPost_ret (v := .tuple #[.agg #[.bool false, .slice AV ls.length cV], .bool false]) (by simp [results, Tryz.results45, go_sem, *]) rfl ⟨(by repeat (first | (with_reducible first | exact HB.out | apply below_alloc | apply pw_below_drewN | apply below_drew1 | refine below_set ?_ GEB.out | refine below_set ?_ GEA.out) | exact HB.out)), _, _, _, _, rfl⟩
    · have q1 : ((i : Int) < (vs.length : Int)) = False := eq_false (by omega)
      have hW2 : WW = some ls := by rw [← HJ.out, List.drop_of_length_le (by omega)]; simp [wordsP, joinW]
      subst hW2
      have hx : wr.cell? ⟨gw, vs.length, none⟩ = some (.string ⟨z.toArray⟩) := by
        rw [blk_cell HGW.out vs.length]
        simp
      have hg1 := blk_ne HGW.out BKA.out (by decide)
      have hg2 := blk_ne HGW.out BKB.out (by decide)
      have ne3 : (gw = ga) = False := eq_false hg1
      have ne4 : (ga = gw) = False := eq_false (Ne.symm hg1)
      have ne5 : (gw = gb) = False := eq_false hg2
      have ne6 : (gb = gw) = False := eq_false (Ne.symm hg2)
      have hwl : IntKind.i64.wrap (vs.length : Int) = (vs.length : Int) := by rw [IntKind.wrap_i64]; omega
      clear HJ hg1 hg2
      go_wp2
      go_region
      all_goals go_wp2
      all_goals
        refine bodyPost_ret (v := .tuple #[.agg #[.bool false, .slice AV ls.length cV], .bool (z == [48])]) (by simp [results, Tryz.results45, go_sem, *]) rfl ?_
        refine ⟨(by repeat (first | (with_reducible first | exact HB.out | apply below_alloc | apply pw_below_drewN | apply below_drew1 | refine below_set ?_ GEB.out | refine below_set ?_ GEA.out) | exact HB.out)), ?_⟩
        first
          | (refine ⟨.slice AV ls.length cV, ?_, Kd.R_drew (Kd.R_mono (Kd.R_far (p := ⟨ga, 1, none⟩) (Kd.R_far (p := ⟨ga, 0, none⟩) (Kd.R_types HO.out BKA.out (by decide)) (fun _ hk => hk.2) _) (fun _ hk => hk.2) _) (fun _ _ => trivial))⟩; (simp [*]; done))
          | (refine ⟨false, AV, ls.length, cV, ?_⟩; (simp [*]; done))

theorem line_any (x : List UInt8) (w : World) (hX : x.length ≤ 1048576) (E : Env w) : Calls Tryz.prog 45 #[strV x] w (LineSaid w (lineP x)) := by
  unfold lineP
  cases hp : Lib.hasPrefix x [100, 32]
  · exact line_false x w hp hX E
  · exact line_true x w hp hX E

end Go.Proofs.YtcblijcalhaffaaGreatDoor
namespace Go.Proofs.YtcblijcalhaffaaGreatDoor
open Go Go.RowKit Go.Proofs.YtcblijcalhaffaaGreatDoorW.PrintWords Go.Proofs.YtcblijcalhaffaaGreatDoorW.PrintLast Go.Proofs.YtcblijcalhaffaaGreatDoorW.PrintMore PCheckSound

theorem dec_len : ∀ (k u : Nat), u < 10 ^ (k + 1) → (Lib.decDigits u).length ≤ k + 1
  | 0, u, h => by rw [Lib.decDigits, dif_pos (by simpa using h)]; simp
  | k + 1, u, h => by
    rw [Lib.decDigits]
    split
    · simp
    · have := dec_len k (u / 10) (by rw [Nat.pow_succ] at h; omega)
      simp; omega
theorem itoa_len {l : Int} (h : RightL l) : (Lib.itoa l).length ≤ 7 := by
  unfold RightL at h
  unfold Lib.itoa
  split
  · have := dec_len 5 l.natAbs (by omega)
    simp; omega
  · have := dec_len 5 l.toNat (by omega)
    omega
theorem litsT_len : ∀ (ls : List Int), (∀ l ∈ ls, RightL l) → (litsT ls).length ≤ 8 * ls.length
  | [], _ => by simp [litsT]
  | l :: ls, h => by
    have h1 := itoa_len (h l (by simp))
    have h2 := litsT_len ls (fun x hx => h x (by simp [hx]))
    unfold litsT at h2 ⊢
    rw [List.flatMap_cons, List.length_append]
    simp only [List.length_append, List.length_cons, List.length_nil]
    omega
theorem wordsP_len : ∀ (ws : List (List UInt8)) {ls : List Int}, wordsP ws = some ls → ls.length = ws.length
  | [], ls, h => by simp only [wordsP, Option.some.injEq] at h; subst h; rfl
  | w :: ws, ls, h => by
    simp only [wordsP] at h
    cases hw : wordP w with
    | none => rw [hw] at h; simp at h
    | some x =>
      rw [hw] at h
      cases hs : wordsP ws with
      | none => rw [hs] at h; simp at h
      | some xs =>
        rw [hs] at h
        simp only [Option.some.injEq] at h
        subst h
        simp [wordsP_len ws hs]
theorem lineP_len {x : List UInt8} {s : PStep} (h : lineP x = some s) : (lineT s ++ [10]).length ≤ 8 * x.length + 12 := by
  have hr := lineP_right h
  have hl := litsT_len s.lits hr
  have hn : s.lits.length ≤ x.length := by
    unfold lineP lineQ at h
    have hc := (cut_len 32 (if Lib.hasPrefix x [100, 32] then x.drop 2 else x)).1
    have hx : (if Lib.hasPrefix x [100, 32] then x.drop 2 else x).length ≤ x.length := by split <;> simp
    generalize cutC 32 (if Lib.hasPrefix x [100, 32] then x.drop 2 else x) = ws at h hc
    split at h
    · simp at h
    · rename_i ls hw
      have hwl := wordsP_len _ hw
      split at h
      · simp only [Option.some.injEq] at h
        subst h
        rw [List.length_dropLast] at hwl
        simp only
        omega
      · simp at h
  unfold lineT
  simp only [List.length_append, List.length_cons, List.length_nil]
  split <;> simp <;> omega
theorem linesP_text_len (n : Nat) : ∀ (xs : List (List UInt8)) {p : List PStep}, (∀ x ∈ xs, x.length ≤ n) → linesP xs = some p → (textT p).length ≤ xs.length * (8 * n + 12)
  | [], p, _, h => by simp only [linesP, Option.some.injEq] at h; subst h; simp [textT]
  | x :: xs, p, hn, h => by
    simp only [linesP] at h
    cases hx : lineP x with
    | none => rw [hx] at h; simp at h
    | some s =>
      rw [hx] at h
      cases hs : linesP xs with
      | none => rw [hs] at h; simp at h
      | some q =>
        rw [hs] at h
        simp only [Option.some.injEq] at h
        subst h
        have h1 := lineP_len hx
        have h2 := linesP_text_len n xs (fun y hy => hn y (by simp [hy])) hs
        have h3 := hn x (by simp)
        unfold textT at h2 ⊢
        rw [List.flatMap_cons, List.length_append, List.length_cons, Nat.succ_mul]
        omega
def joinL (ps : List PStep) (o : Option (List PStep)) : Option (List PStep) := o.map (ps ++ ·)
theorem joinL_cons (ps : List PStep) (v : List UInt8) (vs : List (List UInt8)) (s : PStep) (h : lineP v = some s) : joinL ps (linesP (v :: vs)) = joinL (ps ++ [s]) (linesP vs) := by
  rw [linesP, h]
  simp only
  cases linesP vs <;> simp [joinL]
theorem joinL_none (ps : List PStep) (v : List UInt8) (vs : List (List UInt8)) (h : lineP v = none) : joinL ps (linesP (v :: vs)) = none := by rw [linesP, h]; rfl

/-- What ParseText's call leaves. -/
def TextSaid (w : World) (g : Option (List PStep)) (e : Ending) (w' : World) : Prop := Below w.heap.size w w' ∧ match g with
  | some ps => ∃ V, e = .returned (.tuple #[V, .int .i64 0]) ∧ Kd.R k41 41 w' w.heap.size (fun _ => True) V (ps.map ofP)
  | none => e = .returned (.tuple #[.slice none 0 0, .int .i64 9])

set_option maxRecDepth 100000 in
set_option maxHeartbeats 1600000 in
theorem parseText_any (x : List UInt8) (w : World) (hX : x.length ≤ 1048576) (E : Env w) :
    Calls Tryz.prog 22 #[strV x] w (TextSaid w (parseT x)) := by
  have hu := Tryz.underlying41
  have hu2 := Tryz.underlying9
  have HE := Aside0.mk E
  have C1 := split_box x 10 (by omega) w E
  have hcl := cut_len 10 x
  obtain ⟨vs, z, hvz⟩ := snoc_of _ (cutC_ne 10 x)
  unfold parseT
  rw [hvz] at C1 hcl ⊢
  rw [List.dropLast_concat]
  have hvl : vs.length ≤ 1048576 := by have := hcl.1; simp at this; omega
  have HVW : Aside0 (∀ i, i < vs.length → (nth vs [] i).length ≤ 1048576) := ⟨fun i hi => by have := hcl.2 (nth vs [] i) (by simp [nth_mem hi]); omega⟩
  have HTL : Aside0 (∀ p, linesP vs = some p → (textT p).length ≤ 140737488355328) := ⟨fun p hp => by
    have h1 := linesP_text_len 1048576 vs (fun y hy => by have := hcl.2 y (by simp [hy]); omega) hp
    have h2 : vs.length * (8 * 1048576 + 12) ≤ 1048576 * (8 * 1048576 + 12) := Nat.mul_le_mul_right _ hvl
    omega⟩
  rw [show (vs ++ [z]).length = vs.length + 1 by simp] at C1
  have kct := fun g => cut_to (P := Tryz.prog) 87 9 .i64 Tryz.underlying87 (Option.map_eq_some_iff.1 str_inf).choose_spec.1 (some ⟨g, 0, none⟩) (vs.length + 1) (vs.length + 1) (vs.length : Int) (by omega) (by omega) (Nat.le_refl _)
  rw [Int.toNat_natCast] at kct
  have HB := Aside0.mk (Below.refl w.heap.size w)
  clear hcl hvz E hX
  have HW : Aside0 (joinL [] (linesP (vs.drop 0)) = linesP vs) := ⟨by rw [List.drop_zero]; unfold joinL; cases linesP vs <;> simp⟩
  have HRT : Aside0 (∀ p, linesP vs = some p → RightP p) := ⟨fun p hp => linesP_right vs hp⟩
  generalize linesP vs = WW at HW HTL HRT ⊢
  unfold strV at C1
  show Calls Tryz.prog 22 #[.string ⟨x.toArray⟩] w _
  go_enter Tryz.func22, Tryz.ntmps22
  go_wp2_with (go_at_call 44; refine C1.mono ?_)
  rintro e w9 ⟨gw, rfl, hgw, hb, hge⟩
  have HGW := Aside0.mk hgw
  have HB2 := Aside0.mk hb
  have k2 := kct gw
  clear kct C1 hgw hb hge HB
  go_wp2
  go_loopg [5, 18] vs.length (fun gk v5 v18 w' => ∃ (i : Nat) (ps : List PStep), v18 = .int .i64 (i : Int) ∧ i + gk = vs.length ∧ Aside0 (ps.length ≤ i) ∧ Aside0 (joinL ps (linesP (vs.drop i)) = WW) ∧ Aside0 (Kd.R k41 41 w' w.heap.size (fun _ => True) v5 (ps.map ofP)) ∧ Aside0 (w'.heap[gw]? = some (.cells (List.map (fun l => Value.string ⟨l.toArray⟩) (vs ++ [z])).toArray 9 (0, 0))) ∧ Aside0 (Below w.heap.size w w'))
  case atStart => exact ⟨0, [], rfl, by omega, ⟨by simp⟩, HW, ⟨Kd.R_nil _ _ _ _ _⟩, HGW, HB2⟩
  case round =>
    clear HB2 HGW HW
    obtain ⟨i, ps, rfl, hi, HLN, HJ, HO, HGW, HB⟩ := hrel
    have hml : (ps.map ofP).length ≤ 1048576 := by rw [List.length_map]; have := HLN.out; omega
    have HML := Aside0.mk hml
    clear hml
    by_cases hiv : i < vs.length
    · have hx : wr.cell? ⟨gw, i, none⟩ = some (.string ⟨(nth vs [] i).toArray⟩) := by
        rw [blk_cell HGW.out i]
        exact words_at vs z i hiv
      have q1 : ((i : Int) < (vs.length : Int)) = True := eq_true (by omega)
      have q2 : (0 ≤ (i : Int)) = True := eq_true (by omega)
      have C := line_any (nth vs [] i) wr (HVW.out i hiv) (HE.out.below HB.out)
      unfold strV at C
      have HDC := Aside0.mk (drop_cons hiv ([] : List UInt8))
      generalize nth vs [] i = v at *
      cases hlp : lineP v with
      | none =>
        have hW2 : WW = none := by
          rw [← HJ.out, HDC.out]
          exact joinL_none ps v _ hlp
        rw [hlp] at C
        subst hW2
        clear HJ HDC hlp k2
        go_wp2_with (go_at_call 45; refine C.mono ?_)
        rintro e w7 ⟨hb, d7, A7, n7, c7, rfl⟩
        have HB2 := Aside0.mk (below_step (by repeat (first | (with_reducible first | exact HB.out | apply below_alloc | apply pw_below_drewN | apply below_drew1) | exact HB.out)) hb); clear HB; have HB := HB2; clear HB2 hb
        clear C hx
        go_wp2_with (first | ((with_reducible refine gate_dst (N := 8) rfl ?_); refine box_event ?hg (N := 8) ?hd (cs := #[.bool false, .slice none 0 0]) (t := 41) ?hr ?_; (case hd => rfl); (case hg => rfl); (case hr => first | (go_simp; done) | (go_simp; rfl)); intro gb hg w5 hbox hb; have GE := Aside0.mk ((by rw [hg]; exact (below_size (by repeat (first | (with_reducible first | exact HB.out | apply below_alloc | apply pw_below_drewN | apply below_drew1) | exact HB.out)))) : w.heap.size ≤ gb); have GN := Aside0.mk hg; have HW5 := Aside0.mk hb; have n0_ := Aside0.mk (below_step (by repeat (first | (with_reducible first | exact HB.out | apply below_alloc | apply pw_below_drewN | apply below_drew1) | exact HB.out)) hb); have BK := Aside0.mk hbox; clear HB; have HB := n0_; clear n0_ hb hbox hg; have hcz0 : w5.cell? ⟨gb, 0, none⟩ = some (.bool false) := (blk_cell BK.out 0).trans rfl; have hcz1 : w5.cell? ⟨gb, 1, none⟩ = some (.slice none 0 0) := (blk_cell BK.out 1).trans rfl; have hfz0 := blk_frozen BK.out 0; have hfz1 := blk_frozen BK.out 1))
        go_ret2
        exact ⟨(by repeat (first | (with_reducible first | exact HB.out | apply below_alloc | apply pw_below_drewN | apply below_drew1 | refine below_set ?_ GE.out) | exact HB.out)), rfl⟩
      | some s =>
        have hW2 : joinL (ps ++ [s]) (linesP (vs.drop (i + 1))) = WW := by
          rw [← HJ.out, HDC.out]
          exact (joinL_cons ps v _ s hlp).symm
        have HJ2 := Aside0.mk hW2
        rw [hlp] at C
        clear HJ HDC hlp hW2 k2
        go_wp2_with (go_at_call 45; refine C.mono ?_)
        rintro e w7 ⟨hb, V1, rfl, h3⟩
        obtain ⟨A8, c8, rfl⟩ := Kd.R_slice h3
        have H3 : Aside0 (Kd.R (Kd.int .i64) 3 w7 w.heap.size (fun k => True ∧ some k ≠ u5.ownBlock) (.slice A8 s.lits.length c8) s.lits) := by
          obtain ⟨inner, ho⟩ := Kd.R_own HO.out
          exact ⟨Kd.R_lower (Kd.R_new h3 ho) HB.out.size⟩
        have HO2 := Aside0.mk (Kd.R_below HO.out hb)
        have HG2 := Aside0.mk (blk_below HGW.out hb)
        have HB2 := Aside0.mk (below_step HB.out hb)
        clear HO HB HGW h3 hb C hx
        have HO := HO2
        have HB := HB2
        have HGW := HG2
        clear HO2 HB2 HG2
        go_wp2_with (first
          | ((with_reducible refine gate_dst (N := 8) rfl ?_); refine box_event ?hg (N := 8) ?hd (cs := #[.bool false, .slice none 0 0]) (t := 41) ?hr ?_; (case hd => rfl); (case hg => rfl); (case hr => first | (go_simp; done) | (go_simp; rfl)); intro gb hg w5 hbox hb; have GE := Aside0.mk ((by rw [hg]; exact (below_size (by repeat (first | (with_reducible first | exact HB.out | apply below_alloc | apply pw_below_drewN | apply below_drew1) | exact HB.out)))) : w.heap.size ≤ gb); have GN := Aside0.mk hg; have HW5 := Aside0.mk hb; have n0_ := Aside0.mk (below_step (by repeat (first | (with_reducible first | exact HB.out | apply below_alloc | apply pw_below_drewN | apply below_drew1) | exact HB.out)) hb); have BK := Aside0.mk hbox; clear HB; have HB := n0_; clear n0_ hb hbox hg; have hcz0 : w5.cell? ⟨gb, 0, none⟩ = some (.bool false) := (blk_cell BK.out 0).trans rfl; have hcz1 : w5.cell? ⟨gb, 1, none⟩ = some (.slice none 0 0) := (blk_cell BK.out 1).trans rfl; have hfz0 := blk_frozen BK.out 0; have hfz1 := blk_frozen BK.out 1)
          | ((with_reducible refine gate_builtin (b := .append) (xs := #[.tmp 29, .tmp 31]) rfl ?_); at_builtin; refine Kd.R_append k41 (w0 := w) w.heap.size rfl (.tmp 29) (.tmp 31) 39 41 (.agg #[(.bool false), (.slice none 0 0)]) 32 rfl Tryz.underlying39 info41 rfl (by decide) (by decide) _ (ps.map ofP) (ofP s) [.bool s.del, .slice A8 s.lits.length c8] (fun _ => True) (fun k => True ∧ some k ≠ u5.ownBlock) rfl ?aX ?aP (fun _ hk => hk) (fun _ _ => trivial) ?aO ?aB ?aS ?aL ?_; (case aX => first | rfl | (simp [Act.eval]; done)); (case aL => have := HML.out; omega); (case aO => exact Kd.R_below HO.out (by repeat (first | exact HW5.out | refine below_set ?_ (by rw [GN.out]; exact Nat.le_refl _)))); (case aP => exact k41_mkM _ _ _ (ofP s) (Kd.R_below H3.out (by repeat (first | exact HW5.out | refine below_set ?_ (by rw [GN.out]; exact Nat.le_refl _))))); (case aB => exact (by repeat (first | (with_reducible first | exact HB.out | apply below_alloc | apply pw_below_drewN | apply below_drew1 | refine below_set ?_ GE.out) | exact HB.out))); (case aS => exact (below_size (by repeat (first | (with_reducible first | exact HB.out | apply below_alloc | apply pw_below_drewN | apply below_drew1 | refine below_set ?_ GE.out) | exact HB.out))))))
        intro v1 w1 ho hb hg hat
        have hG3 := blk_grown (blk_below HGW.out (by repeat (first | exact HW5.out | refine below_set ?_ (by rw [GN.out]; exact Nat.le_refl _)))) hg (Kd.R_ne (Kd.R_below HO.out (by repeat (first | exact HW5.out | refine below_set ?_ (by rw [GN.out]; exact Nat.le_refl _)))) (blk_below HGW.out (by repeat (first | exact HW5.out | refine below_set ?_ (by rw [GN.out]; exact Nat.le_refl _)))) (by decide))
        have HG2 := Aside0.mk hG3
        have e1 : ps.map ofP ++ [ofP s] = (ps ++ [s]).map ofP := by simp
        rw [e1] at ho
        have HO2 := Aside0.mk ho
        have HB2 := Aside0.mk hb
        clear HO HB HGW BK GE GN HW5 hcz0 hcz1 hfz0 hfz1 hb hg hat ho e1 hG3
        go_wp2
        go_roundg (vs.length - (i + 1))
        case measure => omega
        case rel => exact ⟨i + 1, ps ++ [s], by go_num, by omega, ⟨by have := HLN.out; simp; omega⟩, HJ2, HO2, HG2, HB2⟩
    · have q1 : ((i : Int) < (vs.length : Int)) = False := eq_false (by omega)
      have hW2 : WW = some ps := by rw [← HJ.out, List.drop_of_length_le (by omega)]; simp [linesP, joinL]
      subst hW2
      have HRP := HRT.out ps rfl
      have HTX := HTL.out ps rfl
      obtain ⟨A9, c9, rfl, hl9, hr9⟩ := Kd.R_reads HO.out
      have hS : RightS (ps.map ofP) := by
        intro s hs l hl
        obtain ⟨p, hp, rfl⟩ := List.mem_map.1 hs
        exact HRP p hp l hl
      have ht : txt (ps.map ofP) = textT ps := by unfold txt; rw [map_toP_ofP]
      have C := dr_text A9 c9 (ps.map ofP) wr hr9 hl9 hS (by rw [ht]; exact HTX) (HE.out.below HB.out)
      rw [ht, List.length_map] at C
      clear HJ hr9 hS HRP HTX ht hl9 HRT HTL
      have HO1 := HO.out
      rw [List.length_map] at HO1
      have HO3 := Aside0.mk HO1
      clear HO HO1
      by_cases hteq : textT ps = x
      · rw [hteq] at C
        go_wp2_with (go_at_call 28; with_reducible refine C.mono ?_)
        rintro e w7 ⟨rfl, hb⟩
        have HO2 := Aside0.mk (Kd.R_below HO3.out hb)
        have HB2 := Aside0.mk (below_step (by repeat (first | (with_reducible first | exact HB.out | apply below_alloc | apply pw_below_drewN | apply below_drew1) | exact HB.out)) hb); clear HB; have HB := HB2; clear HB2 hb
        clear C
        go_wp2
        go_ret2
        exact ⟨HB.out, _, rfl, HO2.out⟩
      · have q5 : (textT ps == x) = false := by simpa using hteq
        obtain ⟨T, hT⟩ : ∃ T, textT ps = T := ⟨_, rfl⟩
        rw [hT] at C q5
        clear hT
        go_wp2_with (go_at_call 28; with_reducible refine C.mono ?_)
        rintro e w7 ⟨rfl, hb⟩
        have HB2 := Aside0.mk (below_step (by repeat (first | (with_reducible first | exact HB.out | apply below_alloc | apply pw_below_drewN | apply below_drew1) | exact HB.out)) hb); clear HB; have HB := HB2; clear HB2 hb
        clear C
        go_wp2
        go_ret2
        exact ⟨HB.out, rfl⟩

end Go.Proofs.YtcblijcalhaffaaGreatDoor
namespace Go.Proofs.YtcblijcalhaffaaGreatDoor
open Go Go.RowKit Go.Proofs.YtcblijcalhaffaaGreatDoorW.PrintWords Go.Proofs.YtcblijcalhaffaaGreatDoorW.PrintLast Go.Proofs.YtcblijcalhaffaaGreatDoorW.PrintMore PCheckSound

/-! The contracts over proofs as plain data. -/
/-- A proof that is read. -/
def PC (w : World) (A : Option Addr) (ps : List PStep) : Prop := Kd.C k41 w A ps.length (ps.map ofP)
theorem PC.below {w w' : World} {A : Option Addr} {ps : List PStep} (h : PC w A ps) (B : Below w.heap.size w w') : PC w' A ps := Kd.C_below h B
theorem PC.c {w : World} {A : Option Addr} {ps : List PStep} (h : PC w A ps) : Kd.C k41 w A (ps.map ofP).length (ps.map ofP) := by rw [List.length_map]; exact h
theorem PC.of {w : World} {A : Option Addr} {l : List S41} (h : Kd.C k41 w A l.length l) : PC w A (l.map toP) := by
  unfold PC
  rw [List.length_map, List.map_map]
  have : (ofP ∘ toP) = id := rfl
  rw [this, List.map_id]; exact h
theorem rightS_of {ps : List PStep} (h : RightP ps) : RightS (ps.map ofP) := by
  intro s hs l hl
  obtain ⟨p, hp, rfl⟩ := List.mem_map.1 hs
  exact h p hp l hl
theorem bin_of (ps : List PStep) : bin (ps.map ofP) = binT ps := by unfold bin; rw [map_toP_ofP]
/-- Numbers of steps and literals within bounds. -/
def Few (ps : List PStep) : Prop := ps.length ≤ 4611686018427387904 ∧ ∀ s ∈ ps, s.lits.length ≤ 4611686018427387904
/-- What a parser's call leaves: a proof that is read, or an error. -/
def Parsed (w : World) (g : Got (List PStep)) (e : Ending) (w' : World) : Prop := Below w.heap.size w w' ∧ match g with
  | .ok ps _ => ∃ A c, e = .returned (.tuple #[.slice A ps.length c, .int .i64 0]) ∧ ps.length ≤ c ∧ PC w' A ps
  | .form => e = .returned (.tuple #[.slice none 0 0, .int .i64 9])
  | .short => e = .returned (.tuple #[.slice none 0 0, .int .i64 10])
theorem p_parseBin (A : Option Addr) (c : Nat) (b : List UInt8) (w : World) (h0 : Rd w A b) (hc : b.length ≤ c) (hX : b.length ≤ 1099511627776) :
    Calls Tryz.prog 24 #[.slice A b.length c] w (Parsed w (parseB b)) := by
  refine (parseBin_any A c b w h0 hc hX).mono ?_
  cases parseB b with
  | form => exact fun e w' h => h
  | short => exact fun e w' h => h
  | ok ps r =>
    rintro e w' ⟨hb, V, rfl, hv⟩
    obtain ⟨A3, c3, rfl, hc3, hr3⟩ := Kd.R_reads hv
    rw [List.length_map] at hc3 hr3
    exact ⟨hb, A3, c3, by rw [List.length_map], hc3, hr3⟩
def optG : Option (List PStep) → Got (List PStep)
  | some ps => .ok ps []
  | none => .form
theorem p_parseText (x : List UInt8) (w : World) (hX : x.length ≤ 1048576) (E : Env w) :
    Calls Tryz.prog 22 #[strV x] w (Parsed w (optG (parseT x))) := by
  refine (parseText_any x w hX E).mono ?_
  cases parseT x with
  | none => exact fun e w' h => h
  | some ps =>
    rintro e w' ⟨hb, V, rfl, hv⟩
    obtain ⟨A3, c3, rfl, hc3, hr3⟩ := Kd.R_reads hv
    rw [List.length_map] at hc3 hr3
    exact ⟨hb, A3, c3, by rw [List.length_map], hc3, hr3⟩
/-- string(b). -/
theorem conv_rd {w : World} {A : Option Addr} {b : List UInt8} (h : Rd w A b) (c : Nat) : (convert 53 9 (.slice A b.length c)).run Tryz.prog w = .ok (strV b) w := by
  have := Kd.C_string (P := Tryz.prog) (src := 53) (dst := 9) (e := 5) Tryz.underlying53 Tryz.underlying5 Tryz.underlying9 (c := c) h
  rw [this]
  have e : strOfNums (bts b) = ⟨b.toArray⟩ := by
    unfold strOfNums bts
    rw [List.map_map]
    have : ((fun n : Int => UInt8.ofNat n.toNat) ∘ fun c : UInt8 => (c.toNat : Int)) = id := by funext c; simp
    rw [this, List.map_id]
  rw [e]
  rfl

end Go.Proofs.YtcblijcalhaffaaGreatDoor
