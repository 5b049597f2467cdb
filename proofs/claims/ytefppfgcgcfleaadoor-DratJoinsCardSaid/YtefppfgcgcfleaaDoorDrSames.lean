import Derived.Test.YtefppfgcgcfleaaDoorDrBack
namespace Go.Proofs.YtefppfgcgcfleaaDoor
open Go Go.RowKit Go.Proofs.YtefppfgcgcfleaaDoorW.PrintWords Go.Proofs.YtefppfgcgcfleaaDoorW.PrintLast Go.Proofs.YtefppfgcgcfleaaDoorW.PrintMore PDratJoins

/-! Two proofs are the same, or their texts and bytes are unlike. -/
theorem keepA {w7 w' w8 : World} (h : Aside0 (Below w7.heap.size w7 w')) (hb : Below w'.heap.size w' w8) : Aside0 (Below w7.heap.size w7 w8) := ⟨below_step h.out hb⟩
theorem conv_step {A : Option Addr} {n c : Nat} {B : ByteArray} {W W2 : World} (F : Aside0 (∀ X, Below W.heap.size W X → (convert 30 9 (.slice A n c)).run Tryd.prog X = .ok (.string B) X)) (hb : Below W.heap.size W W2) :
    Aside0 (∀ X, Below W2.heap.size W2 X → (convert 30 9 (.slice A n c)).run Tryd.prog X = .ok (.string B) X) := ⟨fun X h => F.out X (below_step hb h)⟩
theorem sameP_symm (ps qs : List PStep) : sameP qs ps = sameP ps qs := by
  rw [Bool.eq_iff_iff, sameP_iff, sameP_iff]
  exact eq_comm
theorem c_binary (A : Option Addr) (c : Nat) (ps : List PStep) (w : World) (h : PC w A ps) (hR : RightP ps) (hX : (binT ps).length ≤ 140737488355000) :
    Calls Tryd.prog 19 #[.slice A ps.length c] w fun e w' => Below w.heap.size w w' ∧ ∃ A' n' c', e = .returned (.slice A' n' c') ∧ Aside0 (∀ X, Below w'.heap.size w' X → (convert 30 9 (.slice A' n' c')).run Tryd.prog X = .ok (.string ⟨(binT ps).toArray⟩) X) :=
  (p_binary A c ps w h hR hX).mono fun _ _ ⟨h1, A', c', h2, _, h4⟩ => ⟨h1, A', _, c', h2, ⟨fun _ B => conv_rd (h4.below B) c'⟩⟩

theorem str_eq {a b : List UInt8} {ps qs : List PStep} (h1 : a = b → ps = qs) (h2 : ps = qs → a = b) : ((⟨a.toArray⟩ : ByteArray).toList == (⟨b.toArray⟩ : ByteArray).toList) = sameP ps qs := by
  rw [Bool.eq_iff_iff, sameP_iff, beq_iff_eq, ByteArray.toList_mk, ByteArray.toList_mk]
  exact ⟨h1, h2⟩

set_option maxRecDepth 100000 in
set_option maxHeartbeats 1600000 in
theorem sames_any (A : Option Addr) (c : Nat) (l : List S57) (hc : l.length ≤ c) (B : Option Addr) (d : Nat) (m : List S57) (hd : m.length ≤ d) (w : World) (hr : Kd.C k57 w A l.length l) (hm : l.length ≤ 140737488351232) (hs : ∀ s ∈ l, s.f1.length ≤ 140737488351232)
    (hr2 : Kd.C k57 w B m.length m) (hm2 : m.length ≤ 140737488351232) (hs2 : ∀ s ∈ m, s.f1.length ≤ 140737488351232) (E : Env w) :
    Calls Tryd.prog 9 #[.slice A l.length c, .slice B m.length d] w (Said w (.bool true)) := by
  have hu := Tryd.underlying36
  have C0 := fit_any w E
  obtain ⟨b1, hbw, CS⟩ := small_any l (by omega) hs
  obtain ⟨b2, hbw2, CS2⟩ := small_any m (by omega) hs2
  have HR := Aside0.mk hr
  have HC := Aside0.mk hc
  have HE := Aside0.mk E
  have HR2 := Aside0.mk hr2
  have HC2 := Aside0.mk hd
  have S1 : ∀ W, Below w.heap.size w W → Calls Tryd.prog 17 #[.slice A l.length c] W (Said W (.bool b1)) := fun W h => CS A c W (Kd.C_below HR.out h) HC.out
  have S2 : ∀ W, Below w.heap.size w W → Calls Tryd.prog 17 #[.slice B m.length d] W (Said W (.bool b2)) := fun W h => CS2 B d W (Kd.C_below HR2.out h) HC2.out
  clear CS CS2
  cases b1 with
  | false =>
    clear hr hc E hm hs hbw hr2 hd hm2 hs2 hbw2 S2
    go_enter Tryd.func9, Tryd.ntmps9
    go_wp2_with (first
      | (go_at_call 10; refine C0.mono ?_; rintro e w1 ⟨rfl, hb⟩; have HB := Aside0.mk hb; clear hb)
      | (go_at_call 17; refine (S1 _ HB.out).mono ?_; rintro e w2 ⟨rfl, hb⟩; have HB2 := Aside0.mk (below_step (by repeat (first | (with_reducible first | exact HB.out | apply below_alloc | apply pw_below_drewN | apply below_drew1) | exact HB.out)) hb); clear HB; have HB := HB2; clear HB2 hb))
    go_ret
    exact ⟨rfl, HB.out⟩
  | true =>
    cases b2 with
    | false =>
      clear hr hc E hm hs hbw hr2 hd hm2 hs2 hbw2
      go_enter Tryd.func9, Tryd.ntmps9
      go_wp2_with (first
        | (go_at_call 10; refine C0.mono ?_; rintro e w1 ⟨rfl, hb⟩; have HB := Aside0.mk hb; clear hb)
        | (go_at_call 17; (first | with_reducible refine (S1 _ HB.out).mono ?_ | with_reducible refine (S2 _ HB.out).mono ?_); rintro e w2 ⟨rfl, hb⟩; have HB2 := Aside0.mk (below_step (by repeat (first | (with_reducible first | exact HB.out | apply below_alloc | apply pw_below_drewN | apply below_drew1) | exact HB.out)) hb); clear HB; have HB := HB2; clear HB2 hb))
      go_ret
      exact ⟨rfl, HB.out⟩
    | true =>
      have CP1 := fun W (h : Below w.heap.size w W) => proof_any l (hbw rfl) A c W (Kd.C_below HR.out h) HC.out
      have CP2 := fun W (h : Below w.heap.size w W) => proof_any m (hbw2 rfl) B d W (Kd.C_below HR2.out h) HC2.out
      have HPR := Aside0.mk (proofP_right l)
      have HWT : Aside0 (wt (proofP l) ≤ 400) := ⟨by rw [proofP_wt]; exact hbw rfl⟩
      have HPR2 := Aside0.mk (proofP_right m)
      have HWT2 : Aside0 (wt (proofP m) ≤ 400) := ⟨by rw [proofP_wt]; exact hbw2 rfl⟩
      generalize proofP l = ps at *
      generalize proofP m = qs at *
      have HCP1 := Aside0.mk CP1
      have HCP2 := Aside0.mk CP2
      have HTL : Aside0 ((textT ps).length ≤ 3200 ∧ (textT qs).length ≤ 3200 ∧ (binT ps).length ≤ 1200 ∧ (binT qs).length ≤ 1200) := ⟨by
        have := text_len HPR.out; have := text_len HPR2.out; have := bin_len HPR.out; have := bin_len HPR2.out; have := HWT.out; have := HWT2.out; omega⟩
      have HF := Aside0.mk (few_of (by have := HWT.out; omega : wt ps ≤ 1000))
      clear hr hc E hm hs hbw hr2 hd hm2 hs2 hbw2 CP1 CP2
      go_enter Tryd.func9, Tryd.ntmps9
      go_wp2_with (first
        | (go_at_call 10; refine C0.mono ?_; rintro e w1 ⟨rfl, hb⟩; have HB := Aside0.mk hb; clear hb)
        | (go_at_call 17; (first | with_reducible refine (S1 _ HB.out).mono ?_ | with_reducible refine (S2 _ HB.out).mono ?_); rintro e w2 ⟨rfl, hb⟩; have HB2 := Aside0.mk (below_step (by repeat (first | (with_reducible first | exact HB.out | apply below_alloc | apply pw_below_drewN | apply below_drew1) | exact HB.out)) hb); clear HB; have HB := HB2; clear HB2 hb)
        | (go_at_call 18; with_reducible refine (HCP1.out _ HB.out).mono ?_))
      rintro e w3 ⟨hb, A2, c2, rfl, hc2, hp2⟩
      have HB2 := Aside0.mk (below_step (by repeat (first | (with_reducible first | exact HB.out | apply below_alloc | apply pw_below_drewN | apply below_drew1) | exact HB.out)) hb); clear HB; have HB := HB2; clear HB2 hb
      have HP := Aside0.mk hp2
      have HK2 := Aside0.mk hc2
      clear C0 S1 S2 HCP1 hp2 hc2
      go_wp2_with (first
        | (go_at_call 18; with_reducible refine (HCP2.out _ HB.out).mono ?_))
      rintro e w4 ⟨hb, A3, c3, rfl, hc3, hp3⟩
      have HP4 := Aside0.mk (HP.out.below hb)
      have HB2 := Aside0.mk (below_step (by repeat (first | (with_reducible first | exact HB.out | apply below_alloc | apply pw_below_drewN | apply below_drew1) | exact HB.out)) hb); clear HB; have HB := HB2; clear HB2 hb
      have HQ4 := Aside0.mk hp3
      have HK3 := Aside0.mk hc3
      clear HCP2 hp3 hc3 HP
      have CSA := said_same A2 A3 c2 c3 ps qs w4 HP4.out HK2.out HQ4.out HK3.out HF.out
      go_wp2_with (first
        | (go_at_call 21; with_reducible refine CSA.mono ?_))
      rintro e w7 ⟨rfl, hb⟩
      have HP7 := Aside0.mk (HP4.out.below hb)
      have HQ7 := Aside0.mk (HQ4.out.below hb)
      have HB2 := Aside0.mk (below_step (by repeat (first | (with_reducible first | exact HB.out | apply below_alloc | apply pw_below_drewN | apply below_drew1) | exact HB.out)) hb); clear HB; have HB := HB2; clear HB2 hb
      have HBW := HB
      clear HP4 HQ4 CSA HB
      have T1 : ∀ W, Aside0 (Below w7.heap.size w7 W) → Calls Tryd.prog 23 #[.slice A2 ps.length c2, .slice A3 qs.length c3] W (Said W (.bool (sameP ps qs))) := fun W h => p_same A2 A3 c2 c3 ps qs W (HP7.out.below h.out) (HQ7.out.below h.out)
      have T2 : ∀ W, Aside0 (Below w7.heap.size w7 W) → Calls Tryd.prog 23 #[.slice A3 qs.length c3, .slice A2 ps.length c2] W (Said W (.bool (sameP ps qs))) := fun W h => by rw [← sameP_symm]; exact p_same A3 A2 c3 c2 qs ps W (HQ7.out.below h.out) (HP7.out.below h.out)
      have T3 : ∀ W, Aside0 (Below w7.heap.size w7 W) → Calls Tryd.prog 20 #[.slice A2 ps.length c2] W (Said W (.string ⟨(textT ps).toArray⟩)) := fun W h => p_text A2 c2 ps W (HP7.out.below h.out) HK2.out HPR.out (by have := HTL.out; omega) (HE.out.below (below_step HBW.out h.out))
      have T4 : ∀ W, Aside0 (Below w7.heap.size w7 W) → Calls Tryd.prog 20 #[.slice A3 qs.length c3] W (Said W (.string ⟨(textT qs).toArray⟩)) := fun W h => p_text A3 c3 qs W (HQ7.out.below h.out) HK3.out HPR2.out (by have := HTL.out; omega) (HE.out.below (below_step HBW.out h.out))
      have T5 := fun W (h : Aside0 (Below w7.heap.size w7 W)) => c_binary A2 c2 ps W (HP7.out.below h.out) HPR.out (by have := HTL.out; omega)
      have T6 := fun W (h : Aside0 (Below w7.heap.size w7 W)) => c_binary A3 c3 qs W (HQ7.out.below h.out) HPR2.out (by have := HTL.out; omega)
      have hX : ((⟨(textT ps).toArray⟩ : ByteArray).toList == (⟨(textT qs).toArray⟩ : ByteArray).toList) = sameP ps qs := str_eq (fun h => textT_inj HPR.out HPR2.out h) (fun h => by rw [h])
      have hY : ((⟨(binT ps).toArray⟩ : ByteArray).toList == (⟨(binT qs).toArray⟩ : ByteArray).toList) = sameP ps qs := str_eq (fun h => binT_inj HPR.out HPR2.out h) (fun h => by rw [h])
      generalize (⟨(textT ps).toArray⟩ : ByteArray) = X1 at *
      generalize (⟨(textT qs).toArray⟩ : ByteArray) = X2 at *
      generalize (⟨(binT ps).toArray⟩ : ByteArray) = Y1 at *
      generalize (⟨(binT qs).toArray⟩ : ByteArray) = Y2 at *
      generalize sameP ps qs = is at *
      go_wp2
      go_region_held (fun w' => Aside0 (Below w7.heap.size w7 w'))
        (first | assumption | exact ⟨pw_below_drewN (Below.refl _ _) 1⟩ | exact keepA (by assumption) hb)
        (first
          | (go_at_call 23; (first | with_reducible refine (T1 _ (by assumption)).mono ?_ | with_reducible refine (T2 _ (by assumption)).mono ?_); rintro e w8 ⟨rfl, hb⟩; (try (have G1 := conv_step F1 hb; clear F1 kc1; have F1 := G1; have kc1 := F1.out _ (Below.refl _ _))); (try (have G2 := conv_step F2 hb; clear F2 kc2; have F2 := G2; have kc2 := F2.out _ (Below.refl _ _))))
          | (go_at_call 20; (first | with_reducible refine (T3 _ (by assumption)).mono ?_ | with_reducible refine (T4 _ (by assumption)).mono ?_); rintro e w8 ⟨rfl, hb⟩; (try (have G1 := conv_step F1 hb; clear F1 kc1; have F1 := G1; have kc1 := F1.out _ (Below.refl _ _))); (try (have G2 := conv_step F2 hb; clear F2 kc2; have F2 := G2; have kc2 := F2.out _ (Below.refl _ _))))
          | (go_at_call 19; with_reducible refine (T5 _ (by assumption)).mono ?_; rintro e w8 ⟨hb, A8, n8, c8, rfl, F1⟩; (try (have G2 := conv_step F2 hb; clear F2 kc2; have F2 := G2; have kc2 := F2.out _ (Below.refl _ _))); have kc1 := F1.out _ (Below.refl _ _))
          | (go_at_call 19; with_reducible refine (T6 _ (by assumption)).mono ?_; rintro e w8 ⟨hb, A9, n9, c9, rfl, F2⟩; (try (have G1 := conv_step F1 hb; clear F1 kc1; have F1 := G1; have kc1 := F1.out _ (Below.refl _ _))); have kc2 := F2.out _ (Below.refl _ _)))
      all_goals (
        rename_i hH
        go_wp2
        go_ret
        exact ⟨by first | rfl | (simp; done), below_step HBW.out hH.out⟩)

end Go.Proofs.YtefppfgcgcfleaaDoor
