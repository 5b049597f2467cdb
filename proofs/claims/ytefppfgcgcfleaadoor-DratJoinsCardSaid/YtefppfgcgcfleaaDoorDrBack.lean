import Derived.Test.YtefppfgcgcfleaaDoorDrSmall
import Derived.Deep.RegionHeld3
namespace Go.Proofs.YtefppfgcgcfleaaDoor
open Go Go.RowKit Go.Proofs.YtefppfgcgcfleaaDoorW.PrintWords Go.Proofs.YtefppfgcgcfleaaDoorW.PrintLast Go.Proofs.YtefppfgcgcfleaaDoorW.PrintMore PDratJoins

/-! Proofs and their texts, there and back. -/
theorem said_same (A B : Option Addr) (c d : Nat) (ps qs : List PStep) (w : World) (h : PC w A ps) (hc : ps.length ≤ c) (k : PC w B qs) (hd : qs.length ≤ d) (hF : Few ps) :
    Calls Tryd.prog 21 #[.slice A ps.length c, .slice B qs.length d] w (Said w (.bool (sameP ps qs))) :=
  (p_lsame A B c d ps qs w h hc k hd hF).mono fun _ _ ⟨h1, n, h2⟩ => ⟨h1, h2 ▸ pw_below_drewN (Below.refl _ _) n⟩

set_option maxRecDepth 100000 in
set_option maxHeartbeats 1600000 in
theorem back_any (A : Option Addr) (c : Nat) (l : List S57) (hc : l.length ≤ c) (w : World) (hr : Kd.C k57 w A l.length l) (hm : l.length ≤ 140737488351232) (hs : ∀ s ∈ l, s.f1.length ≤ 140737488351232) (E : Env w) :
    Calls Tryd.prog 8 #[.slice A l.length c] w (Said w (.bool true)) := by
  have hu := Tryd.underlying36
  have C0 := fit_any w E
  obtain ⟨b, hbw, CS⟩ := small_any l (by omega) hs
  have HR := Aside0.mk hr
  have HC := Aside0.mk hc
  have HE := Aside0.mk E
  have HM := Aside0.mk hm
  cases b with
  | false =>
    clear hr hc E hm hs hbw
    go_enter Tryd.func8, Tryd.ntmps8
    go_wp2_with (first
      | (go_at_call 10; refine C0.mono ?_; rintro e w1 ⟨rfl, hb⟩; have HB := Aside0.mk hb; clear hb)
      | (go_at_call 17; refine (CS _ _ _ (Kd.C_below HR.out HB.out) HC.out).mono ?_; rintro e w2 ⟨rfl, hb⟩; have HB2 := Aside0.mk (below_step (by repeat (first | (with_reducible first | exact HB.out | apply below_alloc | apply pw_below_drewN | apply below_drew1) | exact HB.out)) hb); clear HB; have HB := HB2; clear HB2 hb))
    go_ret
    exact ⟨rfl, HB.out⟩
  | true =>
    have hw := hbw rfl
    have CP := fun A c w h hc => proof_any l hw A c w h hc
    have HPR := Aside0.mk (proofP_right l)
    have HWT : Aside0 (wt (proofP l) ≤ 400) := ⟨by rw [proofP_wt]; exact hw⟩
    generalize proofP l = ps at *
    have htl : (textT ps).length ≤ 3200 := by have := text_len HPR.out; have := HWT.out; omega
    have hbl : (binT ps).length ≤ 1200 := by have := bin_len HPR.out; have := HWT.out; omega
    have HTL := Aside0.mk htl
    have HBL := Aside0.mk hbl
    have HPT := Aside0.mk (parseT_textT HPR.out)
    have HPB := Aside0.mk (parseB_binT HPR.out)
    have HF := Aside0.mk (few_of (by have := HWT.out; omega : wt ps ≤ 1000))
    have HCP := Aside0.mk CP
    clear hr hc E hm hs hbw hw htl hbl CP
    go_enter Tryd.func8, Tryd.ntmps8
    go_wp2_with (first
      | (go_at_call 10; refine C0.mono ?_; rintro e w1 ⟨rfl, hb⟩; have HB := Aside0.mk hb; clear hb)
      | (go_at_call 17; refine (CS _ _ _ (Kd.C_below HR.out HB.out) HC.out).mono ?_; rintro e w2 ⟨rfl, hb⟩; have HB2 := Aside0.mk (below_step (by repeat (first | (with_reducible first | exact HB.out | apply below_alloc | apply pw_below_drewN | apply below_drew1) | exact HB.out)) hb); clear HB; have HB := HB2; clear HB2 hb)
      | (go_at_call 18; with_reducible refine (HCP.out _ _ _ (Kd.C_below HR.out HB.out) HC.out).mono ?_))
    rintro e w3 ⟨hb, A2, c2, rfl, hc2, hp2⟩
    have HB2 := Aside0.mk (below_step (by repeat (first | (with_reducible first | exact HB.out | apply below_alloc | apply pw_below_drewN | apply below_drew1) | exact HB.out)) hb); clear HB; have HB := HB2; clear HB2 hb
    have HP := Aside0.mk hp2
    have HC2 := Aside0.mk hc2
    clear C0 CS HCP hp2 hc2
    have CT : Aside0 (Calls Tryd.prog 20 #[.slice A2 ps.length c2] w3 (Said w3 (.string ⟨(textT ps).toArray⟩))) := ⟨p_text A2 c2 ps w3 HP.out HC2.out HPR.out (by have := HTL.out; omega) (HE.out.below HB.out)⟩
    go_wp2_with (first
      | (go_at_call 20; refine CT.out.mono ?_; rintro e w4 ⟨rfl, hb⟩; have HP4 := Aside0.mk (HP.out.below hb); have HB2 := Aside0.mk (below_step (by repeat (first | (with_reducible first | exact HB.out | apply below_alloc | apply pw_below_drewN | apply below_drew1) | exact HB.out)) hb); clear HB; have HB := HB2; clear HB2 hb)
      | (go_at_call 19; with_reducible refine (p_binary A2 c2 ps _ HP4.out HPR.out (by have := HBL.out; omega)).mono ?_))
    rintro e w5 ⟨hb, A3, c3, rfl, hc3, hr3⟩
    have HP5 := Aside0.mk (HP4.out.below hb)
    have HB2 := Aside0.mk (below_step (by repeat (first | (with_reducible first | exact HB.out | apply below_alloc | apply pw_below_drewN | apply below_drew1) | exact HB.out)) hb); clear HB; have HB := HB2; clear HB2 hb
    have HR3 := Aside0.mk hr3
    have HC3 := Aside0.mk hc3
    clear HP HP4 CT hr3 hc3
    have CPT := p_parseText (textT ps) w5 (by have := HTL.out; omega) (HE.out.below HB.out)
    rw [HPT.out] at CPT
    unfold strV at CPT
    go_wp2_with (first
      | (go_at_call 11; with_reducible refine CPT.mono ?_))
    rintro e w6 ⟨hb, A5, c5, rfl, hc5, hp5⟩
    have HP6 := Aside0.mk (HP5.out.below hb)
    have HR6 := Aside0.mk (HR3.out.below hb)
    have HQ6 := Aside0.mk hp5
    have HC5 := Aside0.mk hc5
    have HB2 := Aside0.mk (below_step (by repeat (first | (with_reducible first | exact HB.out | apply below_alloc | apply pw_below_drewN | apply below_drew1) | exact HB.out)) hb); clear HB; have HB := HB2; clear HB2 hb
    clear HP5 HR3 CPT hp5 hc5
    have CPB := p_parseBin A3 c3 (binT ps) w6 HR6.out HC3.out (by have := HBL.out; omega)
    rw [HPB.out] at CPB
    go_wp2_with (first
      | (go_at_call 14; with_reducible refine CPB.mono ?_))
    rintro e w7 ⟨hb, A6, c6, rfl, hc6, hp6⟩
    have HP7 := Aside0.mk (HP6.out.below hb)
    have HQ7 := Aside0.mk (HQ6.out.below hb)
    have HR7 := Aside0.mk (HR6.out.below hb)
    have HQR := Aside0.mk hp6
    have HC6 := Aside0.mk hc6
    have HB2 := Aside0.mk (below_step (by repeat (first | (with_reducible first | exact HB.out | apply below_alloc | apply pw_below_drewN | apply below_drew1) | exact HB.out)) hb); clear HB; have HB := HB2; clear HB2 hb
    have HBW := HB
    clear HP6 HR6 HQ6 CPB hp6 hc6 HB
    have HB := Aside0.mk (Below.refl w7.heap.size w7)
    have KC : Aside0 (∀ W, Below w7.heap.size w7 W → (convert 30 9 (.slice A3 (binT ps).length c3)).run Tryd.prog W = .ok (.string ⟨(binT ps).toArray⟩) W) := ⟨fun W B => conv_rd (HR7.out.below B) c3⟩
    have T1 : ∀ W, (convert 30 9 (.slice A3 (binT ps).length c3)).run Tryd.prog W = .ok (.string ⟨(binT ps).toArray⟩) W ∧ Aside0 (Below w7.heap.size w7 W) → Calls Tryd.prog 13 #[.slice A2 ps.length c2] W (Said W (.string ⟨(textT ps).toArray⟩)) := fun W h => p_ltext A2 c2 ps W (HP7.out.below h.2.out) HPR.out (by have := HTL.out; omega) (HE.out.below (below_step HBW.out h.2.out))
    have T2 : ∀ W, (convert 30 9 (.slice A3 (binT ps).length c3)).run Tryd.prog W = .ok (.string ⟨(binT ps).toArray⟩) W ∧ Aside0 (Below w7.heap.size w7 W) → Calls Tryd.prog 15 #[.slice A2 ps.length c2] W (Said W (.string ⟨(binT ps).toArray⟩)) := fun W h => p_lbinary A2 c2 ps W (HP7.out.below h.2.out) HPR.out (by have := HBL.out; omega)
    have T3 : ∀ W, (convert 30 9 (.slice A3 (binT ps).length c3)).run Tryd.prog W = .ok (.string ⟨(binT ps).toArray⟩) W ∧ Aside0 (Below w7.heap.size w7 W) → Calls Tryd.prog 21 #[.slice A2 ps.length c2, .slice A5 ps.length c5] W (Said W (.bool true)) := fun W h => by rw [← sameP_refl ps]; exact said_same A2 A5 c2 c5 ps ps W (HP7.out.below h.2.out) HC2.out (HQ7.out.below h.2.out) HC5.out HF.out
    have T4 : ∀ W, (convert 30 9 (.slice A3 (binT ps).length c3)).run Tryd.prog W = .ok (.string ⟨(binT ps).toArray⟩) W ∧ Aside0 (Below w7.heap.size w7 W) → Calls Tryd.prog 21 #[.slice A2 ps.length c2, .slice A6 ps.length c6] W (Said W (.bool true)) := fun W h => by rw [← sameP_refl ps]; exact said_same A2 A6 c2 c6 ps ps W (HP7.out.below h.2.out) HC2.out (HQR.out.below h.2.out) HC6.out HF.out
    have T5 : ∀ W, (convert 30 9 (.slice A3 (binT ps).length c3)).run Tryd.prog W = .ok (.string ⟨(binT ps).toArray⟩) W ∧ Aside0 (Below w7.heap.size w7 W) → Calls Tryd.prog 23 #[.slice A2 ps.length c2, .slice A5 ps.length c5] W (Said W (.bool true)) := fun W h => by rw [← sameP_refl ps]; exact p_same A2 A5 c2 c5 ps ps W (HP7.out.below h.2.out) (HQ7.out.below h.2.out)
    generalize (⟨(binT ps).toArray⟩ : ByteArray) = Y at *
    generalize (⟨(textT ps).toArray⟩ : ByteArray) = X at *
    clear HPT HPB
    generalize (binT ps).length = nb at *
    go_wp2
    go_region_held3 (fun w' => (convert 30 9 (.slice A3 nb c3)).run Tryd.prog w' = .ok (.string Y) w' ∧ Aside0 (Below w7.heap.size w7 w'))
      (first | assumption | exact keepB KC HB (pw_below_drewN (Below.refl _ _) 1) | exact keepB KC (And.right (by assumption)) hb)
      (first
        | (go_at_call 13; refine (T1 _ (by assumption)).mono ?_; rintro e w8 ⟨rfl, hb⟩)
        | (go_at_call 15; refine (T2 _ (by assumption)).mono ?_; rintro e w8 ⟨rfl, hb⟩)
        | (go_at_call 21; (first | with_reducible refine (T3 _ (by assumption)).mono ?_ | with_reducible refine (T4 _ (by assumption)).mono ?_); rintro e w8 ⟨rfl, hb⟩)
        | (go_at_call 23; refine (T5 _ (by assumption)).mono ?_; rintro e w8 ⟨rfl, hb⟩))
    rename_i hH
    go_wp2
    go_ret
    exact ⟨rfl, below_step HBW.out hH.2.out⟩

end Go.Proofs.YtefppfgcgcfleaaDoor
