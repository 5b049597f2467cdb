import Derived.Test.YtefppfgcgcfleaaDoorDrBinW
import Derived.Test.YtefppfgcgcfleaaDoorDrText
import Derived.Laws.BytesArg
namespace Go.Proofs.YtefppfgcgcfleaaDoor
open Go Go.RowKit Go.Proofs.YtefppfgcgcfleaaDoorW.PrintWords Go.Proofs.YtefppfgcgcfleaaDoorW.PrintLast Go.Proofs.YtefppfgcgcfleaaDoorW.PrintMore PDratJoins

theorem conv_one (w : World) (y : Int) : (convert 30 9 (.slice (some ⟨w.heap.size, 0, none⟩) 1 1)).run Tryd.prog (w.alloc (.cells #[.int .u8 y] 5)) = .ok (.string ⟨#[UInt8.ofNat y.toNat]⟩) (w.alloc (.cells #[.int .u8 y] 5)) := by
  refine run_convert_bytes_arg (w.alloc (.cells #[.int .u8 y] 5)) 30 5 Tryd.underlying30 Tryd.underlying5 w.heap.size 0 1 1 [y] rfl (fun i hi => ?_) 9 Tryd.underlying9
  obtain rfl : i = 0 := by omega
  simp
theorem one_of (n : Nat) : UInt8.ofNat (n : Int).toNat = UInt8.ofNat n := rfl

set_option maxRecDepth 100000 in
set_option maxHeartbeats 3200000 in
theorem law_binary (A0 : Option Addr) (c0 : Nat) (l0 : List S36) (w : World) (hr : Kd.C k36 w A0 l0.length l0) (hS : RightS l0) (hX : (bin l0).length ≤ 140737488355000) :
    Calls Tryd.prog 15 #[.slice A0 l0.length c0] w (Said w (.string ⟨(bin l0).toArray⟩)) := by
  have hm := hr.2.1
  have hu := Tryd.underlying36
  have kc := conv_one
  have HR := Aside0.mk hr
  have HSS := Aside0.mk hS
  have HXX := Aside0.mk hX
  clear hr hS hX
  go_enter Tryd.func15, Tryd.ntmps15
  go_wp2
  go_loopg [3, 11] l0.length (fun gk v3 v11 w' => ∃ j : Nat, v3 = .string ⟨(bin (l0.take j)).toArray⟩ ∧ v11 = .int .i64 j ∧ j + gk = l0.length ∧ Aside0 (Below w.heap.size w w'))
  case atStart => exact ⟨0, rfl, rfl, by omega, ⟨Below.refl _ _⟩⟩
  case round =>
    obtain ⟨j, rfl, rfl, hj, HB⟩ := hrel
    by_cases hjl : j < l0.length
    · obtain ⟨ad, A1, c1, e0, hx0, hx1, hl1, hi1⟩ := at_step HR.out j hjl
      cases e0
      replace hx0 := (HB.out.cell (World.block_lt_of_cell? w _ hx0)).trans hx0
      replace hx1 := (HB.out.cell (World.block_lt_of_cell? w _ hx1)).trans hx1
      have HI := Aside0.mk hi1
      have hm2 := hi1.2.1
      have HS := Aside0.mk (HSS.out _ (nth_mem hjl z36))
      have q1 : ((j : Int) < (l0.length : Int)) = True := eq_true (by omega)
      have q2 : (0 ≤ (j : Int)) = True := eq_true (by omega)
      have HTx := Aside0.mk (bin_snoc hjl)
      have HX := Aside0.mk (Nat.le_trans (bin_le l0 (j + 1)) HXX.out)
      clear hi1 hl1
      generalize nth l0 z36 j = s at *
      generalize bin (l0.take j) = T at *
      cases hd : s.f0
      · rw [hd] at hx0
        have HTx2 := HTx.out
        rw [hd] at HTx2
        have HTx := Aside0.mk HTx2
        have hlen : T.length + 1 ≤ 140737488355000 := by
          have h2 := HX.out
          rw [HTx2] at h2
          simp only [List.length_append, List.length_cons, List.length_nil] at h2
          omega
        have q5 : (9223372036854775807 < T.length + 1) = False := eq_false (by omega)
        clear HTx2 hd hlen
        go_wp2_with (first | ((with_reducible refine gate_dst (N := 5) rfl ?_); refine box_event ?hg (N := 5) ?hd (cs := #[.bool false, .slice none 0 0]) (t := 36) ?hr ?_; (case hd => rfl); (case hg => rfl); (case hr => first | (go_simp; done) | (go_simp; rfl)); intro gb hg w5 hbox hb; have GE := Aside0.mk ((by rw [hg]; exact (below_size (by repeat (first | (with_reducible first | exact HB.out | apply below_alloc | apply pw_below_drewN | apply below_drew1) | exact HB.out)))) : w.heap.size ≤ gb); have GN := Aside0.mk hg; have HW5 := Aside0.mk hb; have n0_ := Aside0.mk (below_step (by repeat (first | (with_reducible first | exact HB.out | apply below_alloc | apply pw_below_drewN | apply below_drew1) | exact HB.out)) hb); have BK := Aside0.mk hbox; clear HB; have HB := n0_; clear n0_ hb hbox hg; have hcz0 : w5.cell? ⟨gb, 0, none⟩ = some (.bool false) := (blk_cell BK.out 0).trans rfl; have hcz1 : w5.cell? ⟨gb, 1, none⟩ = some (.slice none 0 0) := (blk_cell BK.out 1).trans rfl; have hfz0 := blk_frozen BK.out 0; have hfz1 := blk_frozen BK.out 1))
        go_loopg [3, 24] s.f1.length (fun gk2 v3 v24 w' => ∃ k : Nat, v3 = .string ⟨(T ++ [dB false] ++ litB (s.f1.take k)).toArray⟩ ∧ v24 = .int .i64 k ∧ k + gk2 = s.f1.length ∧ Aside0 (Below w.heap.size w w'))
        case atStart => exact ⟨0, by rw [bytes_add _ [97], show dB false = 97 from rfl, show litB (s.f1.take 0) = [] from rfl, List.append_nil], rfl, by omega, ⟨(by repeat (first | (with_reducible first | exact HB.out | apply below_alloc | apply pw_below_drewN | apply below_drew1 | refine below_set ?_ GE.out) | exact HB.out))⟩⟩
        case round =>
          clear HB BK GE GN HW5
          (try clear hcz0 hcz1 hfz0 hfz1)
          obtain ⟨k, rfl, rfl, hk, HB⟩ := hrel
          by_cases hkl : k < s.f1.length
          · obtain ⟨ad2, e1, hy⟩ := at_num HI.out k hkl
            cases e1
            replace hy := (HB.out.cell (World.block_lt_of_cell? w _ hy)).trans hy
            have q1 : ((k : Int) < (s.f1.length : Int)) = True := eq_true (by omega)
            have q2 : (0 ≤ (k : Int)) = True := eq_true (by omega)
            have hR : RightL (nth s.f1 0 k) := HS.out _ (nth_mem hkl 0)
            have hL := Aside0.mk (litB_snoc hkl)
            have hlen : (T ++ [dB false] ++ litB (s.f1.take k)).length + (encN (numL (nth s.f1 0 k))).length ≤ 140737488355000 := by
              have h1 := litB_le s.f1 (k + 1)
              rw [hL.out] at h1
              have h2 := HX.out
              have h3 := HTx.out
              rw [h3] at h2
              simp only [List.length_append, List.length_cons, List.length_nil] at h1 h2 ⊢
              omega
            have hnb := numL_bd hR
            generalize nth s.f1 0 k = y at *
            have HN : Aside0 (T ++ [dB false] ++ litB (s.f1.take k) ++ encN (numL y) = T ++ [dB false] ++ litB (s.f1.take (k + 1))) := ⟨by rw [hL.out, List.append_assoc]⟩
            have hl := Aside0.mk hlen
            unfold RightL at hR
            clear hlen hL
            obtain ⟨Z, hZ⟩ : ∃ Z, T ++ [dB false] ++ litB (s.f1.take k) = Z := ⟨_, rfl⟩
            rw [hZ] at HN hl ⊢
            clear hZ
            by_cases hneg : y < 0
            · have hnum : ((numL y : Nat) : Int) = -2 * y + 1 := by unfold numL; rw [if_pos hneg]; omega
              have q7 : (y < 0) = True := eq_true hneg
              have Hnum := Aside0.mk hnum
              clear hnum hneg
              generalize numL y = n0 at *
              go_wp2
              go_loopg [3, 8] n0 (fun n v3 v8 w' => v8 = .int .i64 (n : Int) ∧ n ≤ 200001 ∧ ∃ U : List UInt8, v3 = .string ⟨U.toArray⟩ ∧ Aside0 (U ++ encN n = T ++ [dB false] ++ litB (s.f1.take (k + 1))) ∧ Aside0 (U.length + (encN n).length ≤ 140737488355000) ∧ Aside0 (Below w.heap.size w w'))
              case atStart => exact ⟨by rw [Hnum.out], hnb.2, _, rfl, HN, hl, ⟨(by repeat (first | (with_reducible first | exact HB.out | apply below_alloc | apply pw_below_drewN | apply below_drew1) | exact HB.out))⟩⟩
              case round =>
                clear HB hl
                obtain ⟨rfl, hn2, U, rfl, HU, HUL, HB⟩ := hrel
                by_cases hb : gk < 128
                · have q5 : ((127 : Int) < (gk : Int)) = False := eq_false (by omega)
                  have hU := HU.out
                  have hUL := HUL.out
                  rw [encN_small hb] at hU hUL
                  simp only [List.length_cons, List.length_nil] at hUL
                  have q6 : (9223372036854775807 < U.length + 1) = False := eq_false (by omega)
                  have HU2 := Aside0.mk hU
                  clear hU HU
                  go_wp2
                  go_roundg (s.f1.length - (k + 1))
                  case measure => omega
                  case rel => exact ⟨k + 1, by rw [bytes_add _ [_], ← HU2.out], by go_num, by omega, ⟨(by repeat (first | (with_reducible first | exact HB.out | apply below_alloc | apply pw_below_drewN | apply below_drew1) | exact HB.out))⟩⟩
                · have q5 : ((127 : Int) < (gk : Int)) = True := eq_true (by omega)
                  have hU := HU.out
                  have hUL := HUL.out
                  rw [encN_big hb] at hU hUL
                  simp only [List.length_cons] at hUL
                  have hmod : ((gk : Int).tmod 128) = ((gk % 128 : Nat) : Int) := by rw [Int.tmod_eq_emod_of_nonneg (by omega)]; omega
                  have hdiv : ((gk : Int).tdiv 128) = ((gk / 128 : Nat) : Int) := by rw [Int.tdiv_eq_ediv_of_nonneg (by omega)]; omega
                  have q6 : (9223372036854775807 < U.length + 1) = False := eq_false (by omega)
                  have HU2 := Aside0.mk hU
                  clear hU HU
                  go_wp2
                  go_roundg (gk / 128)
                  case measure => omega
                  case rel => exact ⟨by first | rfl | (rw [← hdiv]), by omega, U ++ [UInt8.ofNat (gk % 128 + 128)], by rw [bytes_add _ [_]]; first | rfl | (rw [UInt8.ofNat_add]; rfl), ⟨by rw [List.append_assoc]; exact HU2.out⟩, ⟨by simp only [List.length_append, List.length_cons, List.length_nil]; omega⟩, ⟨(by repeat (first | (with_reducible first | exact HB.out | apply below_alloc | apply pw_below_drewN | apply below_drew1) | exact HB.out))⟩⟩
            · have hnum : ((numL y : Nat) : Int) = 2 * y := by unfold numL; rw [if_neg hneg]; omega
              have q7 : (y < 0) = False := eq_false hneg
              have Hnum := Aside0.mk hnum
              clear hnum hneg
              generalize numL y = n0 at *
              go_wp2
              go_loopg [3, 8] n0 (fun n v3 v8 w' => v8 = .int .i64 (n : Int) ∧ n ≤ 200001 ∧ ∃ U : List UInt8, v3 = .string ⟨U.toArray⟩ ∧ Aside0 (U ++ encN n = T ++ [dB false] ++ litB (s.f1.take (k + 1))) ∧ Aside0 (U.length + (encN n).length ≤ 140737488355000) ∧ Aside0 (Below w.heap.size w w'))
              case atStart => exact ⟨by rw [Hnum.out], hnb.2, _, rfl, HN, hl, ⟨(by repeat (first | (with_reducible first | exact HB.out | apply below_alloc | apply pw_below_drewN | apply below_drew1) | exact HB.out))⟩⟩
              case round =>
                clear HB hl
                obtain ⟨rfl, hn2, U, rfl, HU, HUL, HB⟩ := hrel
                by_cases hb : gk < 128
                · have q5 : ((127 : Int) < (gk : Int)) = False := eq_false (by omega)
                  have hU := HU.out
                  have hUL := HUL.out
                  rw [encN_small hb] at hU hUL
                  simp only [List.length_cons, List.length_nil] at hUL
                  have q6 : (9223372036854775807 < U.length + 1) = False := eq_false (by omega)
                  have HU2 := Aside0.mk hU
                  clear hU HU
                  go_wp2
                  go_roundg (s.f1.length - (k + 1))
                  case measure => omega
                  case rel => exact ⟨k + 1, by rw [bytes_add _ [_], ← HU2.out], by go_num, by omega, ⟨(by repeat (first | (with_reducible first | exact HB.out | apply below_alloc | apply pw_below_drewN | apply below_drew1) | exact HB.out))⟩⟩
                · have q5 : ((127 : Int) < (gk : Int)) = True := eq_true (by omega)
                  have hU := HU.out
                  have hUL := HUL.out
                  rw [encN_big hb] at hU hUL
                  simp only [List.length_cons] at hUL
                  have hmod : ((gk : Int).tmod 128) = ((gk % 128 : Nat) : Int) := by rw [Int.tmod_eq_emod_of_nonneg (by omega)]; omega
                  have hdiv : ((gk : Int).tdiv 128) = ((gk / 128 : Nat) : Int) := by rw [Int.tdiv_eq_ediv_of_nonneg (by omega)]; omega
                  have q6 : (9223372036854775807 < U.length + 1) = False := eq_false (by omega)
                  have HU2 := Aside0.mk hU
                  clear hU HU
                  go_wp2
                  go_roundg (gk / 128)
                  case measure => omega
                  case rel => exact ⟨by first | rfl | (rw [← hdiv]), by omega, U ++ [UInt8.ofNat (gk % 128 + 128)], by rw [bytes_add _ [_]]; first | rfl | (rw [UInt8.ofNat_add]; rfl), ⟨by rw [List.append_assoc]; exact HU2.out⟩, ⟨by simp only [List.length_append, List.length_cons, List.length_nil]; omega⟩, ⟨(by repeat (first | (with_reducible first | exact HB.out | apply below_alloc | apply pw_below_drewN | apply below_drew1) | exact HB.out))⟩⟩
          · have q1 : ((k : Int) < (s.f1.length : Int)) = False := eq_false (by omega)
            have hT2 : s.f1.take k = s.f1 := List.take_of_length_le (by omega)
            rw [hT2]
            clear hT2
            have hlen : (T ++ [dB false] ++ litB s.f1).length + 1 ≤ 140737488355000 := by
              have h2 := HX.out
              have h3 := HTx.out
              rw [h3] at h2
              simp only [List.length_append, List.length_cons, List.length_nil] at h2 ⊢
              omega
            obtain ⟨U, hU⟩ : ∃ U, T ++ [dB false] ++ litB s.f1 = U := ⟨_, rfl⟩
            have HU := Aside0.mk hU
            rw [hU] at hlen ⊢
            have q6 : (9223372036854775807 < U.length + 1) = False := eq_false (by omega)
            clear hlen hU
            go_wp2
            go_roundg (l0.length - (j + 1))
            case measure => omega
            case rel => exact ⟨j + 1, by rw [bytes_add _ [0], HTx.out, ← HU.out], by go_num, by omega, HB⟩
      · rw [hd] at hx0
        have HTx2 := HTx.out
        rw [hd] at HTx2
        have HTx := Aside0.mk HTx2
        have hlen : T.length + 1 ≤ 140737488355000 := by
          have h2 := HX.out
          rw [HTx2] at h2
          simp only [List.length_append, List.length_cons, List.length_nil] at h2
          omega
        have q5 : (9223372036854775807 < T.length + 1) = False := eq_false (by omega)
        clear HTx2 hd hlen
        go_wp2_with (first | ((with_reducible refine gate_dst (N := 5) rfl ?_); refine box_event ?hg (N := 5) ?hd (cs := #[.bool false, .slice none 0 0]) (t := 36) ?hr ?_; (case hd => rfl); (case hg => rfl); (case hr => first | (go_simp; done) | (go_simp; rfl)); intro gb hg w5 hbox hb; have GE := Aside0.mk ((by rw [hg]; exact (below_size (by repeat (first | (with_reducible first | exact HB.out | apply below_alloc | apply pw_below_drewN | apply below_drew1) | exact HB.out)))) : w.heap.size ≤ gb); have GN := Aside0.mk hg; have HW5 := Aside0.mk hb; have n0_ := Aside0.mk (below_step (by repeat (first | (with_reducible first | exact HB.out | apply below_alloc | apply pw_below_drewN | apply below_drew1) | exact HB.out)) hb); have BK := Aside0.mk hbox; clear HB; have HB := n0_; clear n0_ hb hbox hg; have hcz0 : w5.cell? ⟨gb, 0, none⟩ = some (.bool false) := (blk_cell BK.out 0).trans rfl; have hcz1 : w5.cell? ⟨gb, 1, none⟩ = some (.slice none 0 0) := (blk_cell BK.out 1).trans rfl; have hfz0 := blk_frozen BK.out 0; have hfz1 := blk_frozen BK.out 1))
        go_loopg [3, 24] s.f1.length (fun gk2 v3 v24 w' => ∃ k : Nat, v3 = .string ⟨(T ++ [dB true] ++ litB (s.f1.take k)).toArray⟩ ∧ v24 = .int .i64 k ∧ k + gk2 = s.f1.length ∧ Aside0 (Below w.heap.size w w'))
        case atStart => exact ⟨0, by rw [bytes_add _ [100], show dB true = 100 from rfl, show litB (s.f1.take 0) = [] from rfl, List.append_nil], rfl, by omega, ⟨(by repeat (first | (with_reducible first | exact HB.out | apply below_alloc | apply pw_below_drewN | apply below_drew1 | refine below_set ?_ GE.out) | exact HB.out))⟩⟩
        case round =>
          clear HB BK GE GN HW5
          (try clear hcz0 hcz1 hfz0 hfz1)
          obtain ⟨k, rfl, rfl, hk, HB⟩ := hrel
          by_cases hkl : k < s.f1.length
          · obtain ⟨ad2, e1, hy⟩ := at_num HI.out k hkl
            cases e1
            replace hy := (HB.out.cell (World.block_lt_of_cell? w _ hy)).trans hy
            have q1 : ((k : Int) < (s.f1.length : Int)) = True := eq_true (by omega)
            have q2 : (0 ≤ (k : Int)) = True := eq_true (by omega)
            have hR : RightL (nth s.f1 0 k) := HS.out _ (nth_mem hkl 0)
            have hL := Aside0.mk (litB_snoc hkl)
            have hlen : (T ++ [dB true] ++ litB (s.f1.take k)).length + (encN (numL (nth s.f1 0 k))).length ≤ 140737488355000 := by
              have h1 := litB_le s.f1 (k + 1)
              rw [hL.out] at h1
              have h2 := HX.out
              have h3 := HTx.out
              rw [h3] at h2
              simp only [List.length_append, List.length_cons, List.length_nil] at h1 h2 ⊢
              omega
            have hnb := numL_bd hR
            generalize nth s.f1 0 k = y at *
            have HN : Aside0 (T ++ [dB true] ++ litB (s.f1.take k) ++ encN (numL y) = T ++ [dB true] ++ litB (s.f1.take (k + 1))) := ⟨by rw [hL.out, List.append_assoc]⟩
            have hl := Aside0.mk hlen
            unfold RightL at hR
            clear hlen hL
            obtain ⟨Z, hZ⟩ : ∃ Z, T ++ [dB true] ++ litB (s.f1.take k) = Z := ⟨_, rfl⟩
            rw [hZ] at HN hl ⊢
            clear hZ
            by_cases hneg : y < 0
            · have hnum : ((numL y : Nat) : Int) = -2 * y + 1 := by unfold numL; rw [if_pos hneg]; omega
              have q7 : (y < 0) = True := eq_true hneg
              have Hnum := Aside0.mk hnum
              clear hnum hneg
              generalize numL y = n0 at *
              go_wp2
              go_loopg [3, 8] n0 (fun n v3 v8 w' => v8 = .int .i64 (n : Int) ∧ n ≤ 200001 ∧ ∃ U : List UInt8, v3 = .string ⟨U.toArray⟩ ∧ Aside0 (U ++ encN n = T ++ [dB true] ++ litB (s.f1.take (k + 1))) ∧ Aside0 (U.length + (encN n).length ≤ 140737488355000) ∧ Aside0 (Below w.heap.size w w'))
              case atStart => exact ⟨by rw [Hnum.out], hnb.2, _, rfl, HN, hl, ⟨(by repeat (first | (with_reducible first | exact HB.out | apply below_alloc | apply pw_below_drewN | apply below_drew1) | exact HB.out))⟩⟩
              case round =>
                clear HB hl
                obtain ⟨rfl, hn2, U, rfl, HU, HUL, HB⟩ := hrel
                by_cases hb : gk < 128
                · have q5 : ((127 : Int) < (gk : Int)) = False := eq_false (by omega)
                  have hU := HU.out
                  have hUL := HUL.out
                  rw [encN_small hb] at hU hUL
                  simp only [List.length_cons, List.length_nil] at hUL
                  have q6 : (9223372036854775807 < U.length + 1) = False := eq_false (by omega)
                  have HU2 := Aside0.mk hU
                  clear hU HU
                  go_wp2
                  go_roundg (s.f1.length - (k + 1))
                  case measure => omega
                  case rel => exact ⟨k + 1, by rw [bytes_add _ [_], ← HU2.out], by go_num, by omega, ⟨(by repeat (first | (with_reducible first | exact HB.out | apply below_alloc | apply pw_below_drewN | apply below_drew1) | exact HB.out))⟩⟩
                · have q5 : ((127 : Int) < (gk : Int)) = True := eq_true (by omega)
                  have hU := HU.out
                  have hUL := HUL.out
                  rw [encN_big hb] at hU hUL
                  simp only [List.length_cons] at hUL
                  have hmod : ((gk : Int).tmod 128) = ((gk % 128 : Nat) : Int) := by rw [Int.tmod_eq_emod_of_nonneg (by omega)]; omega
                  have hdiv : ((gk : Int).tdiv 128) = ((gk / 128 : Nat) : Int) := by rw [Int.tdiv_eq_ediv_of_nonneg (by omega)]; omega
                  have q6 : (9223372036854775807 < U.length + 1) = False := eq_false (by omega)
                  have HU2 := Aside0.mk hU
                  clear hU HU
                  go_wp2
                  go_roundg (gk / 128)
                  case measure => omega
                  case rel => exact ⟨by first | rfl | (rw [← hdiv]), by omega, U ++ [UInt8.ofNat (gk % 128 + 128)], by rw [bytes_add _ [_]]; first | rfl | (rw [UInt8.ofNat_add]; rfl), ⟨by rw [List.append_assoc]; exact HU2.out⟩, ⟨by simp only [List.length_append, List.length_cons, List.length_nil]; omega⟩, ⟨(by repeat (first | (with_reducible first | exact HB.out | apply below_alloc | apply pw_below_drewN | apply below_drew1) | exact HB.out))⟩⟩
            · have hnum : ((numL y : Nat) : Int) = 2 * y := by unfold numL; rw [if_neg hneg]; omega
              have q7 : (y < 0) = False := eq_false hneg
              have Hnum := Aside0.mk hnum
              clear hnum hneg
              generalize numL y = n0 at *
              go_wp2
              go_loopg [3, 8] n0 (fun n v3 v8 w' => v8 = .int .i64 (n : Int) ∧ n ≤ 200001 ∧ ∃ U : List UInt8, v3 = .string ⟨U.toArray⟩ ∧ Aside0 (U ++ encN n = T ++ [dB true] ++ litB (s.f1.take (k + 1))) ∧ Aside0 (U.length + (encN n).length ≤ 140737488355000) ∧ Aside0 (Below w.heap.size w w'))
              case atStart => exact ⟨by rw [Hnum.out], hnb.2, _, rfl, HN, hl, ⟨(by repeat (first | (with_reducible first | exact HB.out | apply below_alloc | apply pw_below_drewN | apply below_drew1) | exact HB.out))⟩⟩
              case round =>
                clear HB hl
                obtain ⟨rfl, hn2, U, rfl, HU, HUL, HB⟩ := hrel
                by_cases hb : gk < 128
                · have q5 : ((127 : Int) < (gk : Int)) = False := eq_false (by omega)
                  have hU := HU.out
                  have hUL := HUL.out
                  rw [encN_small hb] at hU hUL
                  simp only [List.length_cons, List.length_nil] at hUL
                  have q6 : (9223372036854775807 < U.length + 1) = False := eq_false (by omega)
                  have HU2 := Aside0.mk hU
                  clear hU HU
                  go_wp2
                  go_roundg (s.f1.length - (k + 1))
                  case measure => omega
                  case rel => exact ⟨k + 1, by rw [bytes_add _ [_], ← HU2.out], by go_num, by omega, ⟨(by repeat (first | (with_reducible first | exact HB.out | apply below_alloc | apply pw_below_drewN | apply below_drew1) | exact HB.out))⟩⟩
                · have q5 : ((127 : Int) < (gk : Int)) = True := eq_true (by omega)
                  have hU := HU.out
                  have hUL := HUL.out
                  rw [encN_big hb] at hU hUL
                  simp only [List.length_cons] at hUL
                  have hmod : ((gk : Int).tmod 128) = ((gk % 128 : Nat) : Int) := by rw [Int.tmod_eq_emod_of_nonneg (by omega)]; omega
                  have hdiv : ((gk : Int).tdiv 128) = ((gk / 128 : Nat) : Int) := by rw [Int.tdiv_eq_ediv_of_nonneg (by omega)]; omega
                  have q6 : (9223372036854775807 < U.length + 1) = False := eq_false (by omega)
                  have HU2 := Aside0.mk hU
                  clear hU HU
                  go_wp2
                  go_roundg (gk / 128)
                  case measure => omega
                  case rel => exact ⟨by first | rfl | (rw [← hdiv]), by omega, U ++ [UInt8.ofNat (gk % 128 + 128)], by rw [bytes_add _ [_]]; first | rfl | (rw [UInt8.ofNat_add]; rfl), ⟨by rw [List.append_assoc]; exact HU2.out⟩, ⟨by simp only [List.length_append, List.length_cons, List.length_nil]; omega⟩, ⟨(by repeat (first | (with_reducible first | exact HB.out | apply below_alloc | apply pw_below_drewN | apply below_drew1) | exact HB.out))⟩⟩
          · have q1 : ((k : Int) < (s.f1.length : Int)) = False := eq_false (by omega)
            have hT2 : s.f1.take k = s.f1 := List.take_of_length_le (by omega)
            rw [hT2]
            clear hT2
            have hlen : (T ++ [dB true] ++ litB s.f1).length + 1 ≤ 140737488355000 := by
              have h2 := HX.out
              have h3 := HTx.out
              rw [h3] at h2
              simp only [List.length_append, List.length_cons, List.length_nil] at h2 ⊢
              omega
            obtain ⟨U, hU⟩ : ∃ U, T ++ [dB true] ++ litB s.f1 = U := ⟨_, rfl⟩
            have HU := Aside0.mk hU
            rw [hU] at hlen ⊢
            have q6 : (9223372036854775807 < U.length + 1) = False := eq_false (by omega)
            clear hlen hU
            go_wp2
            go_roundg (l0.length - (j + 1))
            case measure => omega
            case rel => exact ⟨j + 1, by rw [bytes_add _ [0], HTx.out, ← HU.out], by go_num, by omega, HB⟩
    · have q1 : ((j : Int) < (l0.length : Int)) = False := eq_false (by omega)
      have hT : l0.take j = l0 := List.take_of_length_le (by omega)
      rw [hT]
      go_wp2
      go_ret
      exact ⟨rfl, HB.out⟩

end Go.Proofs.YtefppfgcgcfleaaDoor
