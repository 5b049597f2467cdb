import Derived.Test.YtefppfgcgcfleaaDoorDrText
namespace Go.Proofs.YtefppfgcgcfleaaDoor
open Go Go.RowKit Go.Proofs.YtefppfgcgcfleaaDoorW.PrintWords Go.Proofs.YtefppfgcgcfleaaDoorW.PrintLast Go.Proofs.YtefppfgcgcfleaaDoorW.PrintMore PDratJoins

set_option maxRecDepth 100000 in
set_option maxHeartbeats 1600000 in
theorem law_text (A0 : Option Addr) (c0 : Nat) (l0 : List S36) (w : World) (hr : Kd.C k36 w A0 l0.length l0) (hS : RightS l0) (hX : (txt l0).length ≤ 140737488355328) (E : Env w) :
    Calls Tryd.prog 13 #[.slice A0 l0.length c0] w (Said w (.string ⟨(txt l0).toArray⟩)) := by
  have hm := hr.2.1
  have hu := Tryd.underlying36
  have HR := Aside0.mk hr
  have HE := Aside0.mk E
  have HSS := Aside0.mk hS
  have HXX := Aside0.mk hX
  clear hr hS hX
  go_enter Tryd.func13, Tryd.ntmps13
  go_wp2
  go_loopg [3, 10] l0.length (fun gk v3 v10 w' => ∃ j : Nat, v3 = .string ⟨(txt (l0.take j)).toArray⟩ ∧ v10 = .int .i64 j ∧ j + gk = l0.length ∧ Aside0 (Below w.heap.size w w'))
  case atStart => exact ⟨0, rfl, rfl, by omega, ⟨Below.refl _ _⟩⟩
  case round =>
    obtain ⟨j, rfl, rfl, hj, HB⟩ := hrel
    by_cases hjl : j < l0.length
    · obtain ⟨ad, A1, c1, e0, hx0, hx1, hl1, hi1⟩ := at_step HR.out j hjl
      cases e0
      replace hx0 := (HB.out.cell (World.block_lt_of_cell? w _ hx0)).trans hx0
      replace hx1 := (HB.out.cell (World.block_lt_of_cell? w _ hx1)).trans hx1
      have HI := Aside0.mk hi1
      have hm2 := hi1.2.1
      have HS := Aside0.mk (HSS.out _ (nth_mem hjl z36))
      have q1 : ((j : Int) < (l0.length : Int)) = True := eq_true (by omega)
      have q2 : (0 ≤ (j : Int)) = True := eq_true (by omega)
      have HTx := Aside0.mk (txt_snoc hjl)
      have HX := Aside0.mk (Nat.le_trans (txt_le l0 (j + 1)) HXX.out)
      clear hi1 hl1
      generalize nth l0 z36 j = s at *
      generalize txt (l0.take j) = T at *
      cases hd : s.f0
      · rw [hd] at hx0
        have HTx2 := HTx.out
        rw [hd] at HTx2
        have HTx := Aside0.mk HTx2
        have hlen : T.length + 2 ≤ 140737488355328 := by
          have h2 := HX.out
          rw [HTx2] at h2
          simp only [List.length_append, List.length_cons, List.length_nil] at h2
          omega
        have q5 : (9223372036854775807 < T.length + 2) = False := eq_false (by omega)
        clear HTx2 hd hlen
        go_wp2_with (first | ((with_reducible refine gate_dst (N := 5) rfl ?_); refine box_event ?hg (N := 5) ?hd (cs := #[.bool false, .slice none 0 0]) (t := 36) ?hr ?_; (case hd => rfl); (case hg => rfl); (case hr => first | (go_simp; done) | (go_simp; rfl)); intro gb hg w5 hbox hb; have GE := Aside0.mk ((by rw [hg]; exact (below_size (by repeat (first | (with_reducible first | exact HB.out | apply below_alloc | apply pw_below_drewN | apply below_drew1) | exact HB.out)))) : w.heap.size ≤ gb); have GN := Aside0.mk hg; have HW5 := Aside0.mk hb; have n0_ := Aside0.mk (below_step (by repeat (first | (with_reducible first | exact HB.out | apply below_alloc | apply pw_below_drewN | apply below_drew1) | exact HB.out)) hb); have BK := Aside0.mk hbox; clear HB; have HB := n0_; clear n0_ hb hbox hg; have hcz0 : w5.cell? ⟨gb, 0, none⟩ = some (.bool false) := (blk_cell BK.out 0).trans rfl; have hcz1 : w5.cell? ⟨gb, 1, none⟩ = some (.slice none 0 0) := (blk_cell BK.out 1).trans rfl; have hfz0 := blk_frozen BK.out 0; have hfz1 := blk_frozen BK.out 1))
        go_loopg [3, 21] s.f1.length (fun gk2 v3 v21 w' => ∃ k : Nat, v3 = .string ⟨(T ++ dT false ++ litsT (s.f1.take k)).toArray⟩ ∧ v21 = .int .i64 k ∧ k + gk2 = s.f1.length ∧ Aside0 (Below w.heap.size w w'))
        case atStart => exact ⟨0, by rw [show dT false = [] from rfl, show litsT (s.f1.take 0) = [] from rfl, List.append_nil, List.append_nil], rfl, by omega, ⟨(by repeat (first | (with_reducible first | exact HB.out | apply below_alloc | apply pw_below_drewN | apply below_drew1 | refine below_set ?_ GE.out) | exact HB.out))⟩⟩
        case round =>
          clear HB BK GE GN HW5
          (try clear hcz0 hcz1 hfz0 hfz1)
          obtain ⟨k, rfl, rfl, hk, HB⟩ := hrel
          by_cases hkl : k < s.f1.length
          · obtain ⟨ad2, e1, hy⟩ := at_num HI.out k hkl
            cases e1
            replace hy := (HB.out.cell (World.block_lt_of_cell? w _ hy)).trans hy
            have q1 : ((k : Int) < (s.f1.length : Int)) = True := eq_true (by omega)
            have q2 : (0 ≤ (k : Int)) = True := eq_true (by omega)
            have hR : RightL (nth s.f1 0 k) := HS.out _ (nth_mem hkl 0)
            have hL := Aside0.mk (lits_snoc hkl)
            have hlen : (T ++ dT false ++ litsT (s.f1.take k)).length + (Lib.itoa (nth s.f1 0 k) ++ [32]).length ≤ 140737488355328 := by
              have h1 := lits_le s.f1 (k + 1)
              rw [hL.out] at h1
              have h2 := HX.out
              have h3 := HTx.out
              rw [h3] at h2
              simp only [List.length_append, List.length_cons, List.length_nil] at h1 h2 ⊢
              omega
            obtain ⟨U, hU⟩ : ∃ U, T ++ dT false ++ litsT (s.f1.take k) = U := ⟨_, rfl⟩
            have HU := Aside0.mk hU
            rw [hU] at hlen ⊢
            clear hU
            have q3 : (9223372036854775807 < (Lib.itoa (nth s.f1 0 k)).length + 1) = False := eq_false (by simp only [List.length_append, List.length_cons, List.length_nil] at hlen; omega)
            have q4 : (9223372036854775807 < U.length + ((Lib.itoa (nth s.f1 0 k)).length + 1)) = False := eq_false (by simp only [List.length_append, List.length_cons, List.length_nil] at hlen; omega)
            unfold RightL at hR
            have HR2 := Aside0.mk hR
            clear hR hlen
            generalize nth s.f1 0 k = y at *
            go_wp2_with (first
              | (go_at_call 26; refine (itoa_any _ (by have := HR2.out; omega) (by have := HR2.out; omega) _ (HE.out.below (by repeat (first | (with_reducible first | exact HB.out | apply below_alloc | apply pw_below_drewN | apply below_drew1) | exact HB.out)))).mono ?_; rintro e wa ⟨rfl, hb⟩; have HB2 := Aside0.mk (below_step (by repeat (first | (with_reducible first | exact HB.out | apply below_alloc | apply pw_below_drewN | apply below_drew1) | exact HB.out)) hb); clear HB; have HB := HB2; clear HB2 hb))
            go_roundg (s.f1.length - (k + 1))
            case measure => omega
            case rel => exact ⟨k + 1, by rw [bytes_add _ [32], bytes_add, hL.out, ← HU.out, List.append_assoc], by go_num, by omega, HB⟩
          · have q1 : ((k : Int) < (s.f1.length : Int)) = False := eq_false (by omega)
            have hT2 : s.f1.take k = s.f1 := List.take_of_length_le (by omega)
            have hlen : (T ++ dT false ++ litsT s.f1).length + 2 ≤ 140737488355328 := by
              have h2 := HX.out
              have h3 := HTx.out
              rw [h3] at h2
              simp only [List.length_append, List.length_cons, List.length_nil] at h2 ⊢
              omega
            obtain ⟨U, hU⟩ : ∃ U, T ++ dT false ++ litsT s.f1 = U := ⟨_, rfl⟩
            have HU := Aside0.mk hU
            rw [hU] at hlen
            rw [hT2, hU]
            clear hU hT2
            have q3 : (9223372036854775807 < U.length + 2) = False := eq_false (by omega)
            clear hlen
            go_wp2
            go_roundg (l0.length - (j + 1))
            case measure => omega
            case rel => exact ⟨j + 1, by rw [bytes_add _ [48, 10], HTx.out, ← HU.out], by go_num, by omega, HB⟩
      · rw [hd] at hx0
        have HTx2 := HTx.out
        rw [hd] at HTx2
        have HTx := Aside0.mk HTx2
        have hlen : T.length + 2 ≤ 140737488355328 := by
          have h2 := HX.out
          rw [HTx2] at h2
          simp only [List.length_append, List.length_cons, List.length_nil] at h2
          omega
        have q5 : (9223372036854775807 < T.length + 2) = False := eq_false (by omega)
        clear HTx2 hd hlen
        go_wp2_with (first | ((with_reducible refine gate_dst (N := 5) rfl ?_); refine box_event ?hg (N := 5) ?hd (cs := #[.bool false, .slice none 0 0]) (t := 36) ?hr ?_; (case hd => rfl); (case hg => rfl); (case hr => first | (go_simp; done) | (go_simp; rfl)); intro gb hg w5 hbox hb; have GE := Aside0.mk ((by rw [hg]; exact (below_size (by repeat (first | (with_reducible first | exact HB.out | apply below_alloc | apply pw_below_drewN | apply below_drew1) | exact HB.out)))) : w.heap.size ≤ gb); have GN := Aside0.mk hg; have HW5 := Aside0.mk hb; have n0_ := Aside0.mk (below_step (by repeat (first | (with_reducible first | exact HB.out | apply below_alloc | apply pw_below_drewN | apply below_drew1) | exact HB.out)) hb); have BK := Aside0.mk hbox; clear HB; have HB := n0_; clear n0_ hb hbox hg; have hcz0 : w5.cell? ⟨gb, 0, none⟩ = some (.bool false) := (blk_cell BK.out 0).trans rfl; have hcz1 : w5.cell? ⟨gb, 1, none⟩ = some (.slice none 0 0) := (blk_cell BK.out 1).trans rfl; have hfz0 := blk_frozen BK.out 0; have hfz1 := blk_frozen BK.out 1))
        go_loopg [3, 21] s.f1.length (fun gk2 v3 v21 w' => ∃ k : Nat, v3 = .string ⟨(T ++ dT true ++ litsT (s.f1.take k)).toArray⟩ ∧ v21 = .int .i64 k ∧ k + gk2 = s.f1.length ∧ Aside0 (Below w.heap.size w w'))
        case atStart => exact ⟨0, by rw [bytes_add _ [100, 32], show dT true = [100, 32] from rfl, show litsT (s.f1.take 0) = [] from rfl, List.append_nil], rfl, by omega, ⟨(by repeat (first | (with_reducible first | exact HB.out | apply below_alloc | apply pw_below_drewN | apply below_drew1 | refine below_set ?_ GE.out) | exact HB.out))⟩⟩
        case round =>
          clear HB BK GE GN HW5
          (try clear hcz0 hcz1 hfz0 hfz1)
          obtain ⟨k, rfl, rfl, hk, HB⟩ := hrel
          by_cases hkl : k < s.f1.length
          · obtain ⟨ad2, e1, hy⟩ := at_num HI.out k hkl
            cases e1
            replace hy := (HB.out.cell (World.block_lt_of_cell? w _ hy)).trans hy
            have q1 : ((k : Int) < (s.f1.length : Int)) = True := eq_true (by omega)
            have q2 : (0 ≤ (k : Int)) = True := eq_true (by omega)
            have hR : RightL (nth s.f1 0 k) := HS.out _ (nth_mem hkl 0)
            have hL := Aside0.mk (lits_snoc hkl)
            have hlen : (T ++ dT true ++ litsT (s.f1.take k)).length + (Lib.itoa (nth s.f1 0 k) ++ [32]).length ≤ 140737488355328 := by
              have h1 := lits_le s.f1 (k + 1)
              rw [hL.out] at h1
              have h2 := HX.out
              have h3 := HTx.out
              rw [h3] at h2
              simp only [List.length_append, List.length_cons, List.length_nil] at h1 h2 ⊢
              omega
            obtain ⟨U, hU⟩ : ∃ U, T ++ dT true ++ litsT (s.f1.take k) = U := ⟨_, rfl⟩
            have HU := Aside0.mk hU
            rw [hU] at hlen ⊢
            clear hU
            have q3 : (9223372036854775807 < (Lib.itoa (nth s.f1 0 k)).length + 1) = False := eq_false (by simp only [List.length_append, List.length_cons, List.length_nil] at hlen; omega)
            have q4 : (9223372036854775807 < U.length + ((Lib.itoa (nth s.f1 0 k)).length + 1)) = False := eq_false (by simp only [List.length_append, List.length_cons, List.length_nil] at hlen; omega)
            unfold RightL at hR
            have HR2 := Aside0.mk hR
            clear hR hlen
            generalize nth s.f1 0 k = y at *
            go_wp2_with (first
              | (go_at_call 26; refine (itoa_any _ (by have := HR2.out; omega) (by have := HR2.out; omega) _ (HE.out.below (by repeat (first | (with_reducible first | exact HB.out | apply below_alloc | apply pw_below_drewN | apply below_drew1) | exact HB.out)))).mono ?_; rintro e wa ⟨rfl, hb⟩; have HB2 := Aside0.mk (below_step (by repeat (first | (with_reducible first | exact HB.out | apply below_alloc | apply pw_below_drewN | apply below_drew1) | exact HB.out)) hb); clear HB; have HB := HB2; clear HB2 hb))
            go_roundg (s.f1.length - (k + 1))
            case measure => omega
            case rel => exact ⟨k + 1, by rw [bytes_add _ [32], bytes_add, hL.out, ← HU.out, List.append_assoc], by go_num, by omega, HB⟩
          · have q1 : ((k : Int) < (s.f1.length : Int)) = False := eq_false (by omega)
            have hT2 : s.f1.take k = s.f1 := List.take_of_length_le (by omega)
            have hlen : (T ++ dT true ++ litsT s.f1).length + 2 ≤ 140737488355328 := by
              have h2 := HX.out
              have h3 := HTx.out
              rw [h3] at h2
              simp only [List.length_append, List.length_cons, List.length_nil] at h2 ⊢
              omega
            obtain ⟨U, hU⟩ : ∃ U, T ++ dT true ++ litsT s.f1 = U := ⟨_, rfl⟩
            have HU := Aside0.mk hU
            rw [hU] at hlen
            rw [hT2, hU]
            clear hU hT2
            have q3 : (9223372036854775807 < U.length + 2) = False := eq_false (by omega)
            clear hlen
            go_wp2
            go_roundg (l0.length - (j + 1))
            case measure => omega
            case rel => exact ⟨j + 1, by rw [bytes_add _ [48, 10], HTx.out, ← HU.out], by go_num, by omega, HB⟩
    · have q1 : ((j : Int) < (l0.length : Int)) = False := eq_false (by omega)
      have hT : l0.take j = l0 := List.take_of_length_le (by omega)
      rw [hT]
      go_wp2
      go_ret
      exact ⟨rfl, HB.out⟩

end Go.Proofs.YtefppfgcgcfleaaDoor
