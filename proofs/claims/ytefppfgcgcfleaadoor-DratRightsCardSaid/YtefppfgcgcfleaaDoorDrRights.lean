import Derived.Test.YtefppfgcgcfleaaDoorDrFit
namespace Go.Proofs.YtefppfgcgcfleaaDoor
open Go Go.RowKit Go.Proofs.YtefppfgcgcfleaaDoorW.PrintWords Go.Proofs.YtefppfgcgcfleaaDoorW.PrintLast Go.Proofs.YtefppfgcgcfleaaDoorW.PrintMore PDratJoins

set_option maxRecDepth 100000 in
set_option maxHeartbeats 1600000 in
theorem rights_any (A : Option Addr) (c : Nat) (zs : List Int) (hc : zs.length ≤ c) (del : Bool) (w : World) (hr : Kd.C (Kd.int .i64) w A zs.length zs) (E : Env w) :
    Calls Tryd.prog 5 #[.slice A zs.length c, .bool del] w (Said w (.bool true)) := by
  have hm := hr.2.1
  have hu := Tryd.underlying36
  have C0 := fit_any w E
  by_cases hx : 100 < zs.length
  · have q1 : (100 < zs.length) = True := eq_true hx
    have q2 : ((100 : Int) < (zs.length : Int)) = True := eq_true (by omega)
    clear hx hc hr E
    go_enter Tryd.func5, Tryd.ntmps5
    go_wp2_with (first | (go_at_call 10; refine C0.mono ?_; rintro e w1 ⟨rfl, hb⟩))
    go_ret
    exact ⟨rfl, hb⟩
  have q1 : (100 < zs.length) = False := eq_false hx
  have q2 : ((100 : Int) < (zs.length : Int)) = False := eq_false (by omega)
  have KB : ∀ w1, Below w.heap.size w w1 → PC (w1.alloc (.cells #[.bool del, .slice A zs.length c, .bool false, .slice none 0 0] 36)) (some ⟨w1.heap.size, 0, none⟩) [⟨del, zs⟩, ⟨false, []⟩] := by
    intro w1 B
    refine C_steps [⟨del, zs⟩, ⟨false, []⟩] (by simp) [.bool del, .slice A zs.length c, .bool false, .slice none 0 0] (blk_new w1 _) (fun j s hj => ?_)
    match j, hj with
    | 0, hj =>
      simp only [List.getElem?_cons_zero, Option.some.injEq] at hj
      subst hj
      exact ⟨A, c, rfl, rfl, hc, Kd.C_below hr (below_alloc B _)⟩
    | 1, hj =>
      simp only [List.getElem?_cons_succ, List.getElem?_cons_zero, Option.some.injEq] at hj
      subst hj
      exact ⟨none, 0, rfl, rfl, Nat.le_refl _, ⟨rfl, by simp, fun h => absurd h (by simp)⟩⟩
    | j + 2, hj => simp at hj
  have C1 := fun A c w h hc => p_right A c [⟨del, zs⟩, ⟨false, []⟩] w h hc
  have C2 := fun A c w h => p_lright A c [⟨del, zs⟩, ⟨false, []⟩] w h
  generalize rightQ [⟨del, zs⟩, ⟨false, []⟩] = r at C1 C2
  have HK := Aside0.mk KB
  clear hx hc hr E KB
  go_enter Tryd.func5, Tryd.ntmps5
  go_wp2_with (first
    | (go_at_call 10; refine C0.mono ?_; rintro e w1 ⟨rfl, hb⟩; have HP := Aside0.mk (HK.out _ hb); have HB := Aside0.mk (below_alloc hb (.cells #[.bool del, .slice A zs.length c, .bool false, .slice none 0 0] 36)); clear hb)
    | (go_at_call 16; refine (C1 _ _ _ HP.out (Nat.le_refl _)).mono ?_; rintro e w2 ⟨rfl, hb⟩; have HP2 := Aside0.mk (HP.out.below hb); have HB2 := Aside0.mk (below_step (by repeat (first | (with_reducible first | exact HB.out | apply below_alloc | apply pw_below_drewN | apply below_drew1) | exact HB.out)) hb); clear HB; have HB := HB2; clear HB2 hb)
    | (go_at_call 12; refine (C2 _ _ _ HP2.out).mono ?_; rintro e w3 ⟨rfl, hb⟩; have HB2 := Aside0.mk (below_step (by repeat (first | (with_reducible first | exact HB.out | apply below_alloc | apply pw_below_drewN | apply below_drew1) | exact HB.out)) hb); clear HB; have HB := HB2; clear HB2 hb))
  go_ret
  exact ⟨by simp, HB.out⟩

end Go.Proofs.YtefppfgcgcfleaaDoor
