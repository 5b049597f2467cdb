import Derived.Test.YtefppfgcgcfleaaDoorDrSame
namespace Go.Proofs.YtefppfgcgcfleaaDoor
open Go Go.RowKit Go.Proofs.YtefppfgcgcfleaaDoorW.PrintWords Go.Proofs.YtefppfgcgcfleaaDoorW.PrintLast Go.Proofs.YtefppfgcgcfleaaDoorW.PrintMore PDratJoins

theorem wrap_one {i n : Nat} (h : i < n) (hn : n ≤ 4611686018427387904) : wrap64 ((i : Int) + 1) = ((i + 1 : Nat) : Int) := by
  unfold wrap64; omega

theorem same_inner (p q : List S36) (i : Nat) (hi : i < p.length) (hq : i < q.length) (hp : p.length ≤ 4611686018427387904) (n : Int) (hl : (nth p z36 i).f1.length = (nth q z36 i).f1.length) (hb : (nth p z36 i).f1.length ≤ 4611686018427387904) :
    ∀ (d j : Nat), j + d = (nth p z36 i).f1.length → (nth p z36 i).f1.take j = (nth q z36 i).f1.take j → ∀ k, bradawllaw06_same.l1 (k + d + 1) p q (i : Int) n (i : Int) ((nth p z36 i).f1.length : Int) (j : Int) = if (nth p z36 i).f1 = (nth q z36 i).f1 then bradawllaw06_same.l0 k p q n ((i + 1 : Nat) : Int) else some false
  | 0, j, hj, ht, k => by
    rw [Nat.add_zero, bradawllaw06_same.l1, if_neg (by omega), wrap_one hi hp]
    rw [List.take_of_length_le (by omega), List.take_of_length_le (by omega)] at ht
    rw [if_pos ht]
  | d + 1, j, hj, ht, k => by
    have hjp : j < (nth p z36 i).f1.length := by omega
    rw [show k + (d + 1) + 1 = (k + d + 1) + 1 by omega, bradawllaw06_same.l1, if_pos (by omega), if_pos (by omega), if_pos (by omega), if_pos (by omega)]
    rw [if_pos (show (j : Int) < ((rd_T36 p (i : Int)).f1.length : Int) by show (j : Int) < ((nth p z36 i).f1.length : Int); omega), if_pos (by omega)]
    rw [if_pos (show (j : Int) < ((rd_T36 q (i : Int)).f1.length : Int) by show (j : Int) < ((nth q z36 i).f1.length : Int); omega)]
    have e1 : rd (rd_T36 p (i : Int)).f1 (j : Int) = nth (nth p z36 i).f1 0 j := rfl
    have e2 : rd (rd_T36 q (i : Int)).f1 (j : Int) = nth (nth q z36 i).f1 0 j := rfl
    rw [e1, e2]
    by_cases he : nth (nth p z36 i).f1 0 j = nth (nth q z36 i).f1 0 j
    · rw [if_pos he, wrap_one hjp hb]
      exact same_inner p q i hi hq hp n hl hb d (j + 1) (by omega) (take_eq_snoc hjp (by omega) 0 ht he) k
    · rw [if_neg he, if_neg (fun h => he (by rw [h]))]

theorem same_outer (p q : List S36) (hpq : p.length = q.length) (hp : p.length ≤ 4611686018427387904) (hb : ∀ s ∈ p, s.f1.length ≤ 4611686018427387904) :
    ∀ (d i : Nat), i + d = p.length → p.take i = q.take i → ∃ K, ∀ k, bradawllaw06_same.l0 (k + K) p q (p.length : Int) (i : Int) = some (sameQ p q)
  | 0, i, hi, ht => ⟨1, fun k => by
    rw [bradawllaw06_same.l0, if_neg (by omega)]
    rw [List.take_of_length_le (by omega), List.take_of_length_le (by omega)] at ht
    rw [sameQ_iff.2 ht]⟩
  | d + 1, i, hi, ht => by
    have hip : i < p.length := by omega
    have hiq : i < q.length := by omega
    have e1 : rd_T36 p (i : Int) = nth p z36 i := rfl
    have e2 : rd_T36 q (i : Int) = nth q z36 i := rfl
    by_cases h0 : (nth p z36 i).f0 = (nth q z36 i).f0
    · by_cases hl : (nth p z36 i).f1.length = (nth q z36 i).f1.length
      · by_cases hf : (nth p z36 i).f1 = (nth q z36 i).f1
        · have hst : nth p z36 i = nth q z36 i := by
            cases hA : nth p z36 i
            cases hB : nth q z36 i
            rw [hA, hB] at h0 hf
            simp only at h0 hf
            rw [h0, hf]
          obtain ⟨K, hK⟩ := same_outer p q hpq hp hb d (i + 1) (by omega) (take_eq_snoc hip hiq z36 ht hst)
          refine ⟨K + (nth p z36 i).f1.length + 3, fun k => ?_⟩
          rw [show k + (K + (nth p z36 i).f1.length + 3) = ((k + K) + (nth p z36 i).f1.length + 1) + 1 + 1 by omega, bradawllaw06_same.l0, if_pos (by omega), if_pos (by omega), if_pos (by omega), if_pos (by omega), e1, e2, if_neg (by simp [h0])]
          rw [bradawllaw06_same.j1, if_neg (by simp [hl]), if_pos (by omega), if_pos (by omega), e1]
          have := same_inner p q i hip hiq hp (p.length : Int) hl (hb _ (nth_mem hip z36)) (nth p z36 i).f1.length 0 (by omega) rfl (k + K)
          rw [if_pos hf, hK k] at this
          exact this
        · have hne : p ≠ q := fun h => hf (by rw [h])
          refine ⟨(nth p z36 i).f1.length + 3, fun k => ?_⟩
          rw [show k + ((nth p z36 i).f1.length + 3) = (k + (nth p z36 i).f1.length + 1) + 1 + 1 by omega, bradawllaw06_same.l0, if_pos (by omega), if_pos (by omega), if_pos (by omega), if_pos (by omega), e1, e2, if_neg (by simp [h0])]
          rw [bradawllaw06_same.j1, if_neg (by simp [hl]), if_pos (by omega), if_pos (by omega), e1]
          have := same_inner p q i hip hiq hp (p.length : Int) hl (hb _ (nth_mem hip z36)) (nth p z36 i).f1.length 0 (by omega) rfl k
          rw [if_neg hf] at this
          rw [sameQ_false hne]
          exact this
      · have hne : p ≠ q := fun h => hl (by rw [h])
        refine ⟨2, fun k => ?_⟩
        rw [show k + 2 = k + 1 + 1 by omega, bradawllaw06_same.l0, if_pos (by omega), if_pos (by omega), if_pos (by omega), if_pos (by omega), e1, e2, if_neg (by simp [h0])]
        rw [bradawllaw06_same.j1, if_pos (by simp; omega), sameQ_false hne]
    · have hne : p ≠ q := fun h => h0 (by rw [h])
      refine ⟨2, fun k => ?_⟩
      rw [show k + 2 = k + 1 + 1 by omega, bradawllaw06_same.l0, if_pos (by omega), if_pos (by omega), if_pos (by omega), if_pos (by omega), e1, e2, if_pos (by simp [h0])]
      rw [bradawllaw06_same.j1, if_pos rfl, sameQ_false hne]

theorem law_same (A0 A1 : Option Addr) (c0 c1 : Nat) (p q : List S36) (w : World) (hr : Kd.C k36 w A0 p.length p) (hc0 : p.length ≤ c0) (hs : Kd.C k36 w A1 q.length q) (hc1 : q.length ≤ c1) (hp : p.length ≤ 4611686018427387904) (hb : ∀ s ∈ p, s.f1.length ≤ 4611686018427387904) :
    Calls Tryd.prog 21 #[.slice A0 p.length c0, .slice A1 q.length c1] w fun e w' => e = .returned (.bool (sameQ p q)) ∧ ∃ n, w' = w.drewN n := by
  have key : ∃ k, bradawllaw06_same.f k p q = some (sameQ p q) := by
    unfold bradawllaw06_same.f
    by_cases hl : p.length = q.length
    · obtain ⟨K, hK⟩ := same_outer p q hl hp hb p.length 0 (by omega) rfl
      refine ⟨K, ?_⟩
      rw [if_pos (by omega)]
      have := hK 0
      rw [Nat.zero_add] at this
      exact this
    · exact ⟨0, by rw [if_neg (by omega), sameQ_false (fun h => hl (by rw [h]))]⟩
  obtain ⟨k, hk⟩ := key
  exact (bradawllaw06_same.calls k A0 c0 p A1 c1 q _ w hr hc0 hs hc1 hk).mono fun e w' ⟨he, hd⟩ => ⟨he, hd.out⟩

set_option maxRecDepth 100000 in
set_option maxHeartbeats 4000000 in
theorem law_right (A0 : Option Addr) (c0 : Nat) (l0 : List S36) (w : World) (hr : Kd.C k36 w A0 l0.length l0) :
    Calls Tryd.prog 12 #[.slice A0 l0.length c0] w (Said w (.bool (rightB l0))) := by
  have hm := hr.2.1
  have hu := Tryd.underlying36
  have HR := Aside0.mk hr
  clear hr
  go_enter Tryd.func12, Tryd.ntmps12
  go_wp2
  go_loopg [9] l0.length (fun gk v9 w' => ∃ j : Nat, v9 = .int .i64 j ∧ j + gk = l0.length ∧ Aside0 (rightB (l0.take j) = true) ∧ Aside0 (Below w.heap.size w w'))
  case atStart => exact ⟨0, rfl, by omega, ⟨rfl⟩, ⟨Below.refl _ _⟩⟩
  case round =>
    obtain ⟨j, rfl, hj, HA, HB⟩ := hrel
    by_cases hjl : j < l0.length
    · obtain ⟨ad, A1, c1, e0, hx0, hx1, hl1, hi1⟩ := at_step HR.out j hjl
      cases e0
      replace hx0 := (HB.out.cell (World.block_lt_of_cell? w _ hx0)).trans hx0
      replace hx1 := (HB.out.cell (World.block_lt_of_cell? w _ hx1)).trans hx1
      have HI := Aside0.mk hi1
      have hm2 := hi1.2.1
      have q1 : ((j : Int) < (l0.length : Int)) = True := eq_true (by omega)
      have q2 : (0 ≤ (j : Int)) = True := eq_true (by omega)
      have hT := Aside0.mk (take_snoc hjl z36)
      have hF : Aside0 ((nth l0 z36 j).f1.all rightL = false → rightB l0 = false) := ⟨fun h => by
        unfold rightB
        rw [List.all_eq_false]
        exact ⟨_, nth_mem hjl z36, by rw [Bool.not_eq_true]; exact h⟩⟩
      clear hi1 hl1
      generalize nth l0 z36 j = s at *
      go_wp2_with (first | ((with_reducible refine gate_dst (N := 4) rfl ?_); refine box_event ?hg (N := 4) ?hd (cs := #[.bool false, .slice none 0 0]) (t := 36) ?hr ?_; (case hd => rfl); (case hg => rfl); (case hr => first | (go_simp; done) | (go_simp; rfl)); intro gb hg w5 hbox hb; have GE := Aside0.mk ((by rw [hg]; exact (below_size (by repeat (first | (with_reducible first | exact HB.out | apply below_alloc | apply pw_below_drewN | apply below_drew1) | exact HB.out)))) : w.heap.size ≤ gb); have GN := Aside0.mk hg; have HW5 := Aside0.mk hb; have n0_ := Aside0.mk (below_step (by repeat (first | (with_reducible first | exact HB.out | apply below_alloc | apply pw_below_drewN | apply below_drew1) | exact HB.out)) hb); have BK := Aside0.mk hbox; clear HB; have HB := n0_; clear n0_ hb hbox hg; have hcz0 : w5.cell? ⟨gb, 0, none⟩ = some (.bool false) := (blk_cell BK.out 0).trans rfl; have hcz1 : w5.cell? ⟨gb, 1, none⟩ = some (.slice none 0 0) := (blk_cell BK.out 1).trans rfl; have hfz0 := blk_frozen BK.out 0; have hfz1 := blk_frozen BK.out 1))
      go_loopg [16] s.f1.length (fun gk2 v16 w' => ∃ k : Nat, v16 = .int .i64 k ∧ k + gk2 = s.f1.length ∧ Aside0 ((s.f1.take k).all rightL = true) ∧ Aside0 (Below w.heap.size w w'))
      case atStart => exact ⟨0, rfl, by omega, ⟨rfl⟩, ⟨(by repeat (first | (with_reducible first | exact HB.out | apply below_alloc | apply pw_below_drewN | apply below_drew1 | refine below_set ?_ GE.out) | exact HB.out))⟩⟩
      case round =>
        clear HB BK GE GN HW5
        (try clear hcz0 hcz1 hfz0 hfz1)
        obtain ⟨k, rfl, hk, HA2, HB⟩ := hrel
        by_cases hkl : k < s.f1.length
        · obtain ⟨ad2, e1, hy⟩ := at_num HI.out k hkl
          cases e1
          replace hy := (HB.out.cell (World.block_lt_of_cell? w _ hy)).trans hy
          have q3 : ((k : Int) < (s.f1.length : Int)) = True := eq_true (by omega)
          have q4 : (0 ≤ (k : Int)) = True := eq_true (by omega)
          have hT2 := Aside0.mk (take_snoc hkl (0 : Int))
          have hF2 : Aside0 (rightL (nth s.f1 0 k) = false → s.f1.all rightL = false) := ⟨fun h => by
            rw [List.all_eq_false]
            exact ⟨_, nth_mem hkl 0, by rw [Bool.not_eq_true]; exact h⟩⟩
          generalize nth s.f1 0 k = y at *
          by_cases hz : y = 0
          · have q5 : (y == 0) = true := by simp [hz]
            have hr0 := Aside0.mk (hF.out (hF2.out (by unfold rightL; simp [hz])))
            clear hz
            go_wp2
            go_ret
            exact ⟨by rw [hr0.out]; rfl, HB.out⟩
          have q5 : (y == 0) = false := by simp [hz]
          by_cases hz1 : 100000 < y
          · have q6 : (100000 < y) = True := eq_true hz1
            have hr0 := Aside0.mk (hF.out (hF2.out (by unfold rightL; simp; omega)))
            clear hz hz1
            go_wp2
            go_ret
            exact ⟨by rw [hr0.out]; rfl, HB.out⟩
          have q6 : (100000 < y) = False := eq_false hz1
          by_cases hz2 : y < -100000
          · have q7 : (y < -100000) = True := eq_true hz2
            have hr0 := Aside0.mk (hF.out (hF2.out (by unfold rightL; simp; omega)))
            clear hz hz1 hz2
            go_wp2
            go_ret
            exact ⟨by rw [hr0.out]; rfl, HB.out⟩
          have q7 : (y < -100000) = False := eq_false hz2
          have hry := Aside0.mk (show rightL y = true by unfold rightL; simp; omega)
          clear hz hz1 hz2
          go_wp2
          go_roundg (s.f1.length - (k + 1))
          case measure => omega
          case rel => exact ⟨k + 1, by go_num, by omega, ⟨by rw [hT2.out, List.all_append, HA2.out, List.all_cons, List.all_nil, hry.out]; rfl⟩, HB⟩
        · have q3 : ((k : Int) < (s.f1.length : Int)) = False := eq_false (by omega)
          have hT2 : s.f1.take k = s.f1 := List.take_of_length_le (by omega)
          have hAll := HA2.out
          rw [hT2] at hAll
          have HAll := Aside0.mk hAll
          clear hAll hT2 HA2
          go_wp2
          go_roundg (l0.length - (j + 1))
          case measure => omega
          case rel =>
            refine ⟨j + 1, by go_num, by omega, ⟨?_⟩, HB⟩
            have h1 := HA.out
            rw [hT.out]
            unfold rightB at h1 ⊢
            rw [List.all_append, h1, List.all_cons, List.all_nil, HAll.out]
            rfl
    · have q1 : ((j : Int) < (l0.length : Int)) = False := eq_false (by omega)
      have hT : l0.take j = l0 := List.take_of_length_le (by omega)
      have HA2 := HA.out
      rw [hT] at HA2
      have HA3 := Aside0.mk HA2
      clear HA2 HA hT
      go_wp2
      go_ret
      exact ⟨by rw [HA3.out]; rfl, HB.out⟩

end Go.Proofs.YtefppfgcgcfleaaDoor
