import Derived.Test.YtefppfgcgcfleaaDoorDrFit
namespace Go.Proofs.YtefppfgcgcfleaaDoor
open Go Go.RowKit Go.Proofs.YtefppfgcgcfleaaDoorW.PrintWords Go.Proofs.YtefppfgcgcfleaaDoorW.PrintLast Go.Proofs.YtefppfgcgcfleaaDoorW.PrintMore PDratJoins

set_option maxRecDepth 100000 in
set_option maxHeartbeats 3200000 in
theorem texts_any (x : List UInt8) (w : World) (E : Env w) : Calls Tryd.prog 3 #[strV x] w (Said w (.bool true)) := by
  have hu := Tryd.underlying36
  have HE := Aside0.mk E
  have C0 := fit_any w E
  show Calls Tryd.prog 3 #[.string ⟨x.toArray⟩] w _
  by_cases hx : 2000 < x.length
  · have q1 : (2000 < x.length) = True := eq_true hx
    have q2 : ((2000 : Int) < (x.length : Int)) = True := eq_true (by omega)
    clear hx
    go_enter Tryd.func3, Tryd.ntmps3
    go_wp2_with (first | (go_at_call 10; refine C0.mono ?_; rintro e w1 ⟨rfl, hb⟩))
    go_ret
    exact ⟨rfl, hb⟩
  have q1 : (2000 < x.length) = False := eq_false hx
  have q2 : ((2000 : Int) < (x.length : Int)) = False := eq_false (by omega)
  have C1 := fun w E => p_parseText x w (by omega) E
  unfold strV at C1
  clear hx
  cases hp : parseT x with
  | none =>
    rw [hp] at C1
    clear hp
    go_enter Tryd.func3, Tryd.ntmps3
    go_wp2_with (first
      | (go_at_call 10; refine C0.mono ?_; rintro e w1 ⟨rfl, hb⟩; have HB := Aside0.mk hb; clear hb)
      | (go_at_call 11; refine (C1 _ (HE.out.below HB.out)).mono ?_; rintro e w2 ⟨hb, rfl⟩; have HB2 := Aside0.mk (below_step (by repeat (first | (with_reducible first | exact HB.out | apply below_alloc | apply pw_below_drewN | apply below_drew1) | exact HB.out)) hb); clear HB; have HB := HB2; clear HB2 hb))
    go_ret
    exact ⟨rfl, HB.out⟩
  | some ps =>
    rw [hp] at C1
    obtain ⟨hr, ht⟩ := parseT_sound hp
    have hl : x.length ≤ 2000 := by have := of_eq_false q1; omega
    have C2 := fun A c w h E => p_ltext A c ps w h hr (by rw [ht]; omega) E
    have C3 := fun A c w h => p_lright A c ps w h
    rw [ht] at C2
    rw [rightQ_iff.2 hr] at C3
    unfold strV at C2
    clear hp hr ht hl
    go_enter Tryd.func3, Tryd.ntmps3
    go_wp2_with (first
      | (go_at_call 10; refine C0.mono ?_; rintro e w1 ⟨rfl, hb⟩; have HB := Aside0.mk hb; clear hb)
      | (go_at_call 11; refine (C1 _ (HE.out.below HB.out)).mono ?_; rintro e w2 ⟨hb, A3, c3, rfl, hc3, hp3⟩; have HP := Aside0.mk hp3; clear hp3 hc3; have HB2 := Aside0.mk (below_step (by repeat (first | (with_reducible first | exact HB.out | apply below_alloc | apply pw_below_drewN | apply below_drew1) | exact HB.out)) hb); clear HB; have HB := HB2; clear HB2 hb)
      | (go_at_call 12; refine (C3 _ _ _ HP.out).mono ?_; rintro e w3 ⟨rfl, hb⟩; have HP2 := Aside0.mk (HP.out.below hb); have HB2 := Aside0.mk (below_step (by repeat (first | (with_reducible first | exact HB.out | apply below_alloc | apply pw_below_drewN | apply below_drew1) | exact HB.out)) hb); clear HB; have HB := HB2; clear HB2 hb)
      | (go_at_call 13; refine (C2 _ _ _ HP2.out (HE.out.below HB.out)).mono ?_; rintro e w4 ⟨rfl, hb⟩; have HB2 := Aside0.mk (below_step (by repeat (first | (with_reducible first | exact HB.out | apply below_alloc | apply pw_below_drewN | apply below_drew1) | exact HB.out)) hb); clear HB; have HB := HB2; clear HB2 hb))
    go_ret
    exact ⟨rfl, HB.out⟩

end Go.Proofs.YtefppfgcgcfleaaDoor
