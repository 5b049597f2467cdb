import Derived.Test.YtefppfgcgcfleaaDoorDrBinW
import Derived.Deep.QuietTactic
namespace Go.Proofs.YtefppfgcgcfleaaDoor
open Go Go.RowKit Go.Proofs.YtefppfgcgcfleaaDoorW.PrintWords Go.Proofs.YtefppfgcgcfleaaDoorW.PrintLast Go.Proofs.YtefppfgcgcfleaaDoorW.PrintMore PDratJoins

/-- Bytes that are read. -/
def Rd (w : World) (A : Option Addr) (b : List UInt8) : Prop := Kd.C (Kd.int .u8) w A b.length (bts b)
theorem Rd.below {w w' : World} {A : Option Addr} {b : List UInt8} (h : Rd w A b) (B : Below w.heap.size w w') : Rd w' A b := Kd.C_below h B
theorem cut_bytes (A : Option Addr) (c : Nat) (b : List UInt8) (j : Int) (h0 : 0 ≤ j) (hm : j ≤ b.length) (hc : b.length ≤ c) :
    ∃ A' : Option Addr, (∀ W : World, (Instr.slice 30 (.slice A b.length c) (some (.int .i64 j)) none none).run Tryd.prog W = .ok (.slice A' (b.drop j.toNat).length (c - j.toNat)) W) ∧ (∀ w, Rd w A b → Rd w A' (b.drop j.toNat)) ∧ (b.drop j.toNat).length ≤ c - j.toNat := by
  obtain ⟨i0, hi, _, hz1, _⟩ := info_parts byte_inf
  refine ⟨if c = j.toNat then A else A.map (·.add (j.toNat * 1)), fun W => ?_, fun w h => ?_, ?_⟩
  · rw [List.length_drop]
    exact cut_from (P := Tryd.prog) 30 5 .i64 Tryd.underlying30 hi 1 hz1 A b.length c j h0 hm W
  · unfold Rd at h ⊢
    have h2 : (Kd.int .u8).C w A (bts b).length (bts b) := by rw [bts_length]; exact h
    have h3 := Kd.C_drop (m := j.toNat) (c := c) h2 (by rw [bts_length]; omega) (by rw [bts_length]; exact hc)
    have e : (bts b).drop j.toNat = bts (b.drop j.toNat) := by simp [bts, List.map_drop]
    rw [e, bts_length] at h3
    exact h3
  · rw [List.length_drop]; omega

theorem and64 (a b : Nat) (ha : a < 2 ^ 62) (hb : b < 2 ^ 62) : Go.bits .and .i64 (a : Int) (b : Int) = ((a &&& b : Nat) : Int) := by
  unfold Go.bits
  simp only [BitVec.ofInt_natCast, IntKind.bits]
  show IntKind.i64.wrap (((BitVec.ofNat 64 a &&& BitVec.ofNat 64 b).toNat : Nat) : Int) = _
  rw [BitVec.toNat_and, BitVec.toNat_ofNat, BitVec.toNat_ofNat, Nat.mod_eq_of_lt (by omega), Nat.mod_eq_of_lt (by omega)]
  have : a &&& b ≤ a := Nat.and_le_left
  rw [IntKind.wrap_i64]; omega
theorem or64 (a b : Nat) (ha : a < 2 ^ 62) (hb : b < 2 ^ 62) : Go.bits .or .i64 (a : Int) (b : Int) = ((a ||| b : Nat) : Int) := by
  unfold Go.bits
  simp only [BitVec.ofInt_natCast, IntKind.bits]
  show IntKind.i64.wrap (((BitVec.ofNat 64 a ||| BitVec.ofNat 64 b).toNat : Nat) : Int) = _
  rw [BitVec.toNat_or, BitVec.toNat_ofNat, BitVec.toNat_ofNat, Nat.mod_eq_of_lt (by omega), Nat.mod_eq_of_lt (by omega)]
  have : a ||| b < 2 ^ 62 := Nat.or_lt_two_pow ha hb
  rw [IntKind.wrap_i64]; omega
theorem or_add (k a x : Nat) (ha : a < 2 ^ k) : a ||| x * 2 ^ k = a + x * 2 ^ k := by
  have h := Nat.shiftLeft_add_eq_or_of_lt ha x
  rw [Nat.shiftLeft_eq] at h
  rw [Nat.or_comm, ← h]
  omega
theorem and127 (c : UInt8) : Go.bits .and .u8 (c.toNat : Int) 127 = ((c.toNat % 128 : Nat) : Int) := by
  have key : ∀ m : Fin 256, Go.bits .and .u8 (m.val : Int) 127 = ((m.val % 128 : Nat) : Int) := by decide +kernel
  exact key ⟨c.toNat, c.toNat_lt⟩

set_option maxRecDepth 100000 in
set_option maxHeartbeats 1600000 in
theorem at_any (n : Nat) (h0 : 2 ≤ n) (h1 : n ≤ 200001) (w : World) : Calls Tryd.prog 52 #[.int .i64 ((n : Int) - 2)] w (fun e w' => e = .returned (.int .i64 (atN n)) ∧ w' = w) := by
  obtain ⟨m, rfl⟩ : ∃ m, n = m + 2 := ⟨n - 2, by omega⟩
  have e : ((m + 2 : Nat) : Int) - 2 = (m : Int) := by omega
  rw [e]
  clear e
  have ha := and64 m 1 (by omega) (by decide)
  rw [Nat.and_one_is_mod] at ha
  have hq : ((m : Int).tdiv 2) = ((m / 2 : Nat) : Int) := by rw [Int.tdiv_eq_ediv_of_nonneg (by omega)]; omega
  by_cases hp : m % 2 = 1
  · have er : atN (m + 2) = -(((m / 2 : Nat) : Int) + 1) := by unfold atN; rw [if_pos (by omega)]; omega
    rw [er]
    rw [hp] at ha
    clear er hp
    have ha2 : Go.bits .and .i64 (m : Int) 1 = 1 := ha
    clear ha
    have hq2 : ((m / 2 : Nat) : Int) = (m : Int) / 2 := by omega
    rw [hq2] at hq ⊢
    go_enter Tryd.func52, Tryd.ntmps52
    go_wp2
    go_ret
    exact ⟨rfl, rfl⟩
  · have er : atN (m + 2) = ((m / 2 : Nat) : Int) + 1 := by unfold atN; rw [if_neg (by omega)]; omega
    rw [er]
    rw [show m % 2 = 0 by omega] at ha
    clear er hp
    have ha2 : Go.bits .and .i64 (m : Int) 1 = 0 := ha
    clear ha
    have hq2 : ((m / 2 : Nat) : Int) = (m : Int) / 2 := by omega
    rw [hq2] at hq ⊢
    go_enter Tryd.func52, Tryd.ntmps52
    go_wp2
    go_ret
    exact ⟨rfl, rfl⟩

/-- What the next literal's call leaves. -/
def LitSaid (w0 w : World) (g : Got Int) (e : Ending) (w' : World) : Prop := Below w.heap.size w w' ∧ match g with
  | .ok l r => ∃ A c, e = .returned (.tuple #[.int .i64 l, .slice A r.length c, .int .i64 0]) ∧ r.length ≤ c ∧ Rd w0 A r
  | .form => e = .returned (.tuple #[.int .i64 0, .slice none 0 0, .int .i64 9])
  | .short => e = .returned (.tuple #[.int .i64 0, .slice none 0 0, .int .i64 10])

/-- The literal from its i-th byte on, n so far. -/
def litI (i : Nat) (n : Nat) : List UInt8 → Got Int
  | [] => .short
  | c :: r => if n + c.toNat % 128 * 128 ^ i > 200001 then .form else if c.toNat < 128 then (if c = 0 ∨ n + c.toNat % 128 * 128 ^ i < 2 then .form else .ok (atN (n + c.toNat % 128 * 128 ^ i)) r) else if i = 2 then .form else litI (i + 1) (n + c.toNat % 128 * 128 ^ i) r
theorem endP_I (n : Nat) (c : UInt8) (r : List UInt8) : endP n c r = if n > 200001 then .form else if c = 0 ∨ n < 2 then .form else .ok (atN n) r := rfl
theorem litI_zero (b : List UInt8) : litI 0 0 b = litP b := by
  match b with
  | [] => rfl
  | c0 :: r0 =>
    have h0 := c0.toNat_lt
    rw [litI]
    simp only [litP, endP_I, Nat.pow_zero, Nat.mul_one, Nat.zero_add]
    rw [if_neg (show ¬ c0.toNat % 128 > 200001 by omega)]
    by_cases a : c0.toNat < 128
    · rw [if_pos a, if_pos a, Nat.mod_eq_of_lt a, if_neg (show ¬ c0.toNat > 200001 by omega)]
    · rw [if_neg a, if_neg a, if_neg (by decide)]
      match r0 with
      | [] => rfl
      | c1 :: r1 =>
        have h1 := c1.toNat_lt
        rw [litI]
        simp only [Nat.pow_one]
        rw [if_neg (show ¬ c0.toNat % 128 + c1.toNat % 128 * 128 > 200001 by omega)]
        by_cases a1 : c1.toNat < 128
        · rw [if_pos a1, if_pos a1, Nat.mod_eq_of_lt a1, Nat.mul_comm 128, if_neg (show ¬ c0.toNat % 128 + c1.toNat * 128 > 200001 by omega)]
        · rw [if_neg a1, if_neg a1, if_neg (by decide)]
          match r1 with
          | [] => rfl
          | c2 :: r2 =>
            rw [litI]
            have e : c0.toNat % 128 + c1.toNat % 128 * 128 + c2.toNat % 128 * 128 ^ 2 = c0.toNat % 128 + 128 * (c1.toNat % 128) + 16384 * (c2.toNat % 128) := by omega
            simp only [Nat.reduceAdd, e]
            by_cases a2 : c2.toNat < 128
            · rw [if_pos a2, if_pos a2, Nat.mod_eq_of_lt a2]
            · rw [if_neg a2, if_neg a2]
              split <;> simp

theorem at_byte {w : World} {A : Option Addr} {b : List UInt8} (h : Rd w A b) (j : Nat) (hj : j < b.length) : ∃ ad, A = some ad ∧ w.cell? (ad.add j) = some (.int .u8 ((nth b 0 j).toNat : Int)) := by
  obtain ⟨ad, h1, h2⟩ := at_num h j hj
  refine ⟨ad, h1, ?_⟩
  rw [h2]
  have e : nth (bts b) 0 j = ((nth b 0 j).toNat : Int) := by
    unfold nth bts
    rw [List.getD_eq_getElem?_getD, List.getD_eq_getElem?_getD, List.getElem?_map, List.getElem?_eq_getElem hj]
    rfl
  rw [e]
theorem drop_cons {α : Type} {b : List α} {j : Nat} (h : j < b.length) (z : α) : b.drop j = nth b z j :: b.drop (j + 1) := by
  unfold nth
  rw [List.getD_eq_getElem?_getD, List.getElem?_eq_getElem h, List.drop_eq_getElem_cons h]; rfl

set_option maxRecDepth 100000 in
set_option maxHeartbeats 1600000 in
theorem literal_any (w0 : World) (A : Option Addr) (c : Nat) (b : List UInt8) (w : World) (h0 : Rd w0 A b) (hb : Below w0.heap.size w0 w) (hc : b.length ≤ c) :
    Calls Tryd.prog 41 #[.slice A b.length c] w (LitSaid w0 w (litP b)) := by
  have hr := h0.below hb
  have hm := hr.2.1
  have HR0 := Aside0.mk h0
  clear h0 hb
  have HR := Aside0.mk hr
  have HC := Aside0.mk hc
  clear hr hc
  have hE : litI 0 0 (b.drop 0) = litP b := litI_zero b
  have HE := Aside0.mk hE
  clear hE
  generalize litP b = g at *
  go_enter Tryd.func41, Tryd.ntmps41
  go_wp2
  go_loopg [5, 10] 3 (fun gk v5 v10 w' => ∃ (i n : Nat), v5 = .int .i64 (n : Int) ∧ v10 = .int .i64 (i : Int) ∧ i + gk = 3 ∧ i ≤ 2 ∧ i ≤ b.length ∧ Aside0 (n < 128 ^ i) ∧ Aside0 (litI i n (b.drop i) = g) ∧ Aside0 (Below w.heap.size w w'))
  case atStart => exact ⟨0, 0, rfl, rfl, rfl, by omega, by omega, ⟨by decide⟩, HE, ⟨Below.refl _ _⟩⟩
  case round =>
    clear HE
    obtain ⟨i, n, rfl, rfl, hi, hi2, hib, hn, HE, HB⟩ := hrel
    by_cases hil : i < b.length
    · obtain ⟨ad, e0, hx⟩ := at_byte HR.out i hil
      cases e0
      replace hx := (HB.out.cell (World.block_lt_of_cell? w _ hx)).trans hx
      have q1 : ((i : Int) < (b.length : Int)) = True := eq_true (by omega)
      have q2 : (0 ≤ (i : Int)) = True := eq_true (by omega)
      have hE := HE.out
      rw [drop_cons hil 0, litI] at hE
      have ha := and127 (nth b 0 i)
      have hcl := (nth b 0 i).toNat_lt
      have hz : (nth b 0 i = 0) ↔ (nth b 0 i).toNat = 0 := ⟨fun h => by rw [h]; rfl, fun h => UInt8.toNat_inj.1 (by rw [h]; rfl)⟩
      have Hz := Aside0.mk hz
      clear hz
      generalize nth b 0 i = x at *
      have C := number_any (-100000) (by unfold RightL; omega)
      rw [show numL (-100000) = 200001 from rfl] at C
      obtain ⟨A1, k1, hk1, hk2⟩ := cut_bytes (some ad) c b ((i : Int) + 1) (by omega) (by omega) HC.out
      have ej : ((i : Int) + 1).toNat = i + 1 := by omega
      rw [ej] at k1 hk1 hk2
      have HK1 := Aside0.mk hk1
      have HK2 := Aside0.mk hk2
      obtain ⟨N, hN⟩ : ∃ N, n + x.toNat % 128 * 128 ^ i = N := ⟨_, rfl⟩
      rw [hN] at hE
      clear hk1 hk2 ej HE
      go_upto_region 5 with (fail)
      obtain ⟨a, ha1⟩ : ∃ a, x.toNat = a := ⟨_, rfl⟩
      rw [ha1] at ha hcl hN hE Hz
      have hcl2 : a < 256 := hcl
      clear hcl
      have HN := Aside0.mk hN
      clear hN
      rcases (by omega : i = 0 ∨ i = 1 ∨ i = 2) with h7 | h7 | h7
      · have hN := HN.out
        have hn2 := hn.out
        rw [h7] at hN hn2
        have hi7 : (i : Int) = 0 := by omega
        have hn3 : n < 1 := hn2
        have hN2 : N = n + a % 128 * 1 := hN.symm
        have hor : Go.bits .or .i64 (n : Int) ((a : Int) % 128) = (N : Int) := by
          have h1 := or64 n (a % 128 * 2 ^ 0) (by omega) (by omega)
          rw [or_add 0 n (a % 128) hn3] at h1
          have e1 : ((a % 128 * 2 ^ 0 : Nat) : Int) = ((a : Int) % 128) := by omega
          rw [e1] at h1
          rw [h1, hN2]
          first | done | rfl
        have HI7 := Aside0.mk h7
        have HGK := Aside0.mk hi
        have HIL := Aside0.mk hil
        have HN2 := Aside0.mk hN2
        rw [show ((i : Int) + 1) = (1 : Int) by omega] at k1
        simp only [hi7, ha1] at hx ⊢
        clear hN hn2 hN2 HN h7 hn hi7 hi hi2 hib hil
        by_cases hbig : 200001 < N
        · rw [if_pos hbig] at hE
          subst hE
          have q5 : ((200001 : Int) < (N : Int)) = True := eq_true (by omega)
          clear hbig
          go_wp2_with (first | (go_at_call 31; refine (C _).mono ?_; rintro e w1 ⟨rfl, hb⟩; have HB2 := Aside0.mk (below_step (by repeat (first | (with_reducible first | exact HB.out | apply below_alloc | apply pw_below_drewN | apply below_drew1) | exact HB.out)) hb); clear HB; have HB := HB2; clear HB2 hb))
          go_ret3
          exact ⟨HB.out, rfl⟩
        rw [if_neg hbig] at hE
        have q5 : ((200001 : Int) < (N : Int)) = False := eq_false (by omega)
        by_cases hsm : a < 128
        · rw [if_pos hsm] at hE
          have q6 : ((a : Int) < 128) = True := eq_true (by omega)
          by_cases hzz : a = 0 ∨ N < 2
          · have hzz2 : x = 0 ∨ N < 2 := by rcases hzz with h | h; exact .inl (Hz.out.2 h); exact .inr h
            rw [if_pos hzz2] at hE
            subst hE
            clear hzz2 hbig hsm
            rcases (by omega : a = 0 ∨ (a ≠ 0 ∧ N < 2)) with h0 | ⟨h0, h2⟩
            · have q8 : ((a : Int) == 0) = true := by simp; omega
              clear hzz h0
              go_wp2_with (first | (go_at_call 31; refine (C _).mono ?_; rintro e w1 ⟨rfl, hb⟩; have HB2 := Aside0.mk (below_step (by repeat (first | (with_reducible first | exact HB.out | apply below_alloc | apply pw_below_drewN | apply below_drew1) | exact HB.out)) hb); clear HB; have HB := HB2; clear HB2 hb))
              go_ret3
              exact ⟨HB.out, rfl⟩
            · have q8 : ((a : Int) == 0) = false := by simp; omega
              have q9 : ((N : Int) < 2) = True := eq_true (by omega)
              clear hzz h0 h2
              go_wp2_with (first | (go_at_call 31; refine (C _).mono ?_; rintro e w1 ⟨rfl, hb⟩; have HB2 := Aside0.mk (below_step (by repeat (first | (with_reducible first | exact HB.out | apply below_alloc | apply pw_below_drewN | apply below_drew1) | exact HB.out)) hb); clear HB; have HB := HB2; clear HB2 hb))
              go_ret3
              exact ⟨HB.out, rfl⟩
          · have hzz2 : ¬ (x = 0 ∨ N < 2) := by rintro (h | h); exact hzz (.inl (Hz.out.1 h)); exact hzz (.inr h)
            rw [if_neg hzz2] at hE
            subst hE
            have q8 : ((a : Int) == 0) = false := by simp; omega
            have q9 : ((N : Int) < 2) = False := eq_false (by omega)
            have Ca := fun w => at_any N (by omega) (by omega) w
            have hw : IntKind.i64.wrap ((N : Int) - 2) = (N : Int) - 2 := by rw [IntKind.wrap_i64]; omega
            have hw2 : IntKind.i64.wrap 1 = 1 := rfl
            have hb1 : (2 : Int) ≤ (N : Int) := by omega
            have hb2 : (N : Int) ≤ 200001 := by omega
            clear hzz hzz2 hbig hsm
            go_wp2_with (first | (go_at_call 31; refine (C _).mono ?_; rintro e w1 ⟨rfl, hb⟩; have HB2 := Aside0.mk (below_step (by repeat (first | (with_reducible first | exact HB.out | apply below_alloc | apply pw_below_drewN | apply below_drew1) | exact HB.out)) hb); clear HB; have HB := HB2; clear HB2 hb))
            go_quiet ((go_at_call 52; with_reducible exact Calls.quiet_of_same (Ca _)))
            go_wp2
            go_ret3
            exact ⟨(by repeat (first | (with_reducible first | exact HB.out | apply below_alloc | apply pw_below_drewN | apply below_drew1) | exact HB.out)), A1, _, by rw [List.length_drop]; rfl, HK2.out, HK1.out _ HR0.out⟩
        · rw [if_neg hsm] at hE
          have q6 : ((a : Int) < 128) = False := eq_false (by omega)
          rw [if_neg (by have := HI7.out; omega)] at hE
          have HE := Aside0.mk hE
          clear hE hbig hsm
          go_wp2_with (first | (go_at_call 31; refine (C _).mono ?_; rintro e w1 ⟨rfl, hb⟩; have HB2 := Aside0.mk (below_step (by repeat (first | (with_reducible first | exact HB.out | apply below_alloc | apply pw_below_drewN | apply below_drew1) | exact HB.out)) hb); clear HB; have HB := HB2; clear HB2 hb))
          go_roundg 2
          case measure => have := HI7.out; have := HGK.out; omega
          case rel =>
            refine ⟨1, N, rfl, rfl, rfl, by omega, by have := HI7.out; have := HIL.out; omega, ⟨?_⟩, ⟨?_⟩, HB⟩
            · have := HN2.out; have := hn3; omega
            · have h1 := HE.out; rw [HI7.out] at h1; exact h1
      · have hN := HN.out
        have hn2 := hn.out
        rw [h7] at hN hn2
        have hi7 : (i : Int) = 1 := by omega
        have hn3 : n < 128 := hn2
        have hN2 : N = n + a % 128 * 128 := hN.symm
        have hor : Go.bits .or .i64 (n : Int) ((a : Int) % 128 * 128) = (N : Int) := by
          have h1 := or64 n (a % 128 * 2 ^ 7) (by omega) (by omega)
          rw [or_add 7 n (a % 128) hn3] at h1
          have e1 : ((a % 128 * 2 ^ 7 : Nat) : Int) = ((a : Int) % 128 * 128) := by omega
          rw [e1] at h1
          rw [h1, hN2]
          first | done | rfl
        have HI7 := Aside0.mk h7
        have HGK := Aside0.mk hi
        have HIL := Aside0.mk hil
        have HN2 := Aside0.mk hN2
        rw [show ((i : Int) + 1) = (2 : Int) by omega] at k1
        simp only [hi7, ha1] at hx ⊢
        clear hN hn2 hN2 HN h7 hn hi7 hi hi2 hib hil
        by_cases hbig : 200001 < N
        · rw [if_pos hbig] at hE
          subst hE
          have q5 : ((200001 : Int) < (N : Int)) = True := eq_true (by omega)
          clear hbig
          go_wp2_with (first | (go_at_call 31; refine (C _).mono ?_; rintro e w1 ⟨rfl, hb⟩; have HB2 := Aside0.mk (below_step (by repeat (first | (with_reducible first | exact HB.out | apply below_alloc | apply pw_below_drewN | apply below_drew1) | exact HB.out)) hb); clear HB; have HB := HB2; clear HB2 hb))
          go_ret3
          exact ⟨HB.out, rfl⟩
        rw [if_neg hbig] at hE
        have q5 : ((200001 : Int) < (N : Int)) = False := eq_false (by omega)
        by_cases hsm : a < 128
        · rw [if_pos hsm] at hE
          have q6 : ((a : Int) < 128) = True := eq_true (by omega)
          by_cases hzz : a = 0 ∨ N < 2
          · have hzz2 : x = 0 ∨ N < 2 := by rcases hzz with h | h; exact .inl (Hz.out.2 h); exact .inr h
            rw [if_pos hzz2] at hE
            subst hE
            clear hzz2 hbig hsm
            rcases (by omega : a = 0 ∨ (a ≠ 0 ∧ N < 2)) with h0 | ⟨h0, h2⟩
            · have q8 : ((a : Int) == 0) = true := by simp; omega
              clear hzz h0
              go_wp2_with (first | (go_at_call 31; refine (C _).mono ?_; rintro e w1 ⟨rfl, hb⟩; have HB2 := Aside0.mk (below_step (by repeat (first | (with_reducible first | exact HB.out | apply below_alloc | apply pw_below_drewN | apply below_drew1) | exact HB.out)) hb); clear HB; have HB := HB2; clear HB2 hb))
              go_ret3
              exact ⟨HB.out, rfl⟩
            · have q8 : ((a : Int) == 0) = false := by simp; omega
              have q9 : ((N : Int) < 2) = True := eq_true (by omega)
              clear hzz h0 h2
              go_wp2_with (first | (go_at_call 31; refine (C _).mono ?_; rintro e w1 ⟨rfl, hb⟩; have HB2 := Aside0.mk (below_step (by repeat (first | (with_reducible first | exact HB.out | apply below_alloc | apply pw_below_drewN | apply below_drew1) | exact HB.out)) hb); clear HB; have HB := HB2; clear HB2 hb))
              go_ret3
              exact ⟨HB.out, rfl⟩
          · have hzz2 : ¬ (x = 0 ∨ N < 2) := by rintro (h | h); exact hzz (.inl (Hz.out.1 h)); exact hzz (.inr h)
            rw [if_neg hzz2] at hE
            subst hE
            have q8 : ((a : Int) == 0) = false := by simp; omega
            have q9 : ((N : Int) < 2) = False := eq_false (by omega)
            have Ca := fun w => at_any N (by omega) (by omega) w
            have hw : IntKind.i64.wrap ((N : Int) - 2) = (N : Int) - 2 := by rw [IntKind.wrap_i64]; omega
            have hw2 : IntKind.i64.wrap 2 = 2 := rfl
            have hb1 : (2 : Int) ≤ (N : Int) := by omega
            have hb2 : (N : Int) ≤ 200001 := by omega
            clear hzz hzz2 hbig hsm
            go_wp2_with (first | (go_at_call 31; refine (C _).mono ?_; rintro e w1 ⟨rfl, hb⟩; have HB2 := Aside0.mk (below_step (by repeat (first | (with_reducible first | exact HB.out | apply below_alloc | apply pw_below_drewN | apply below_drew1) | exact HB.out)) hb); clear HB; have HB := HB2; clear HB2 hb))
            go_quiet ((go_at_call 52; with_reducible exact Calls.quiet_of_same (Ca _)))
            go_wp2
            go_ret3
            exact ⟨(by repeat (first | (with_reducible first | exact HB.out | apply below_alloc | apply pw_below_drewN | apply below_drew1) | exact HB.out)), A1, _, by rw [List.length_drop]; rfl, HK2.out, HK1.out _ HR0.out⟩
        · rw [if_neg hsm] at hE
          have q6 : ((a : Int) < 128) = False := eq_false (by omega)
          rw [if_neg (by have := HI7.out; omega)] at hE
          have HE := Aside0.mk hE
          clear hE hbig hsm
          go_wp2_with (first | (go_at_call 31; refine (C _).mono ?_; rintro e w1 ⟨rfl, hb⟩; have HB2 := Aside0.mk (below_step (by repeat (first | (with_reducible first | exact HB.out | apply below_alloc | apply pw_below_drewN | apply below_drew1) | exact HB.out)) hb); clear HB; have HB := HB2; clear HB2 hb))
          go_roundg 1
          case measure => have := HI7.out; have := HGK.out; omega
          case rel =>
            refine ⟨2, N, rfl, rfl, rfl, by omega, by have := HI7.out; have := HIL.out; omega, ⟨?_⟩, ⟨?_⟩, HB⟩
            · have := HN2.out; have := hn3; omega
            · have h1 := HE.out; rw [HI7.out] at h1; exact h1
      · have hN := HN.out
        have hn2 := hn.out
        rw [h7] at hN hn2
        have hi7 : (i : Int) = 2 := by omega
        have hn3 : n < 16384 := hn2
        have hN2 : N = n + a % 128 * 16384 := hN.symm
        have hor : Go.bits .or .i64 (n : Int) ((a : Int) % 128 * 16384) = (N : Int) := by
          have h1 := or64 n (a % 128 * 2 ^ 14) (by omega) (by omega)
          rw [or_add 14 n (a % 128) hn3] at h1
          have e1 : ((a % 128 * 2 ^ 14 : Nat) : Int) = ((a : Int) % 128 * 16384) := by omega
          rw [e1] at h1
          rw [h1, hN2]
          first | done | rfl
        have HI7 := Aside0.mk h7
        have HGK := Aside0.mk hi
        have HIL := Aside0.mk hil
        have HN2 := Aside0.mk hN2
        rw [show ((i : Int) + 1) = (3 : Int) by omega] at k1
        simp only [hi7, ha1] at hx ⊢
        clear hN hn2 hN2 HN h7 hn hi7 hi hi2 hib hil
        by_cases hbig : 200001 < N
        · rw [if_pos hbig] at hE
          subst hE
          have q5 : ((200001 : Int) < (N : Int)) = True := eq_true (by omega)
          clear hbig
          go_wp2_with (first | (go_at_call 31; refine (C _).mono ?_; rintro e w1 ⟨rfl, hb⟩; have HB2 := Aside0.mk (below_step (by repeat (first | (with_reducible first | exact HB.out | apply below_alloc | apply pw_below_drewN | apply below_drew1) | exact HB.out)) hb); clear HB; have HB := HB2; clear HB2 hb))
          go_ret3
          exact ⟨HB.out, rfl⟩
        rw [if_neg hbig] at hE
        have q5 : ((200001 : Int) < (N : Int)) = False := eq_false (by omega)
        by_cases hsm : a < 128
        · rw [if_pos hsm] at hE
          have q6 : ((a : Int) < 128) = True := eq_true (by omega)
          by_cases hzz : a = 0 ∨ N < 2
          · have hzz2 : x = 0 ∨ N < 2 := by rcases hzz with h | h; exact .inl (Hz.out.2 h); exact .inr h
            rw [if_pos hzz2] at hE
            subst hE
            clear hzz2 hbig hsm
            rcases (by omega : a = 0 ∨ (a ≠ 0 ∧ N < 2)) with h0 | ⟨h0, h2⟩
            · have q8 : ((a : Int) == 0) = true := by simp; omega
              clear hzz h0
              go_wp2_with (first | (go_at_call 31; refine (C _).mono ?_; rintro e w1 ⟨rfl, hb⟩; have HB2 := Aside0.mk (below_step (by repeat (first | (with_reducible first | exact HB.out | apply below_alloc | apply pw_below_drewN | apply below_drew1) | exact HB.out)) hb); clear HB; have HB := HB2; clear HB2 hb))
              go_ret3
              exact ⟨HB.out, rfl⟩
            · have q8 : ((a : Int) == 0) = false := by simp; omega
              have q9 : ((N : Int) < 2) = True := eq_true (by omega)
              clear hzz h0 h2
              go_wp2_with (first | (go_at_call 31; refine (C _).mono ?_; rintro e w1 ⟨rfl, hb⟩; have HB2 := Aside0.mk (below_step (by repeat (first | (with_reducible first | exact HB.out | apply below_alloc | apply pw_below_drewN | apply below_drew1) | exact HB.out)) hb); clear HB; have HB := HB2; clear HB2 hb))
              go_ret3
              exact ⟨HB.out, rfl⟩
          · have hzz2 : ¬ (x = 0 ∨ N < 2) := by rintro (h | h); exact hzz (.inl (Hz.out.1 h)); exact hzz (.inr h)
            rw [if_neg hzz2] at hE
            subst hE
            have q8 : ((a : Int) == 0) = false := by simp; omega
            have q9 : ((N : Int) < 2) = False := eq_false (by omega)
            have Ca := fun w => at_any N (by omega) (by omega) w
            have hw : IntKind.i64.wrap ((N : Int) - 2) = (N : Int) - 2 := by rw [IntKind.wrap_i64]; omega
            have hw2 : IntKind.i64.wrap 3 = 3 := rfl
            have hb1 : (2 : Int) ≤ (N : Int) := by omega
            have hb2 : (N : Int) ≤ 200001 := by omega
            clear hzz hzz2 hbig hsm
            go_wp2_with (first | (go_at_call 31; refine (C _).mono ?_; rintro e w1 ⟨rfl, hb⟩; have HB2 := Aside0.mk (below_step (by repeat (first | (with_reducible first | exact HB.out | apply below_alloc | apply pw_below_drewN | apply below_drew1) | exact HB.out)) hb); clear HB; have HB := HB2; clear HB2 hb))
            go_quiet ((go_at_call 52; with_reducible exact Calls.quiet_of_same (Ca _)))
            go_wp2
            go_ret3
            exact ⟨(by repeat (first | (with_reducible first | exact HB.out | apply below_alloc | apply pw_below_drewN | apply below_drew1) | exact HB.out)), A1, _, by rw [List.length_drop]; rfl, HK2.out, HK1.out _ HR0.out⟩
        · rw [if_neg hsm] at hE
          have q6 : ((a : Int) < 128) = False := eq_false (by omega)
          rw [if_pos (by have := HI7.out; omega)] at hE
          subst hE
          clear hbig hsm
          go_wp2_with (first | (go_at_call 31; refine (C _).mono ?_; rintro e w1 ⟨rfl, hb⟩; have HB2 := Aside0.mk (below_step (by repeat (first | (with_reducible first | exact HB.out | apply below_alloc | apply pw_below_drewN | apply below_drew1) | exact HB.out)) hb); clear HB; have HB := HB2; clear HB2 hb))
          go_ret3
          exact ⟨HB.out, rfl⟩
    · have q1 : ((i : Int) < (b.length : Int)) = False := eq_false (by omega)
      have hE := HE.out
      rw [List.drop_of_length_le (by omega), litI] at hE
      subst hE
      clear HE
      go_wp2
      go_ret3
      exact ⟨HB.out, rfl⟩

end Go.Proofs.YtefppfgcgcfleaaDoor
