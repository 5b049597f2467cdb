import Derived.Test.YtefppfgcgcfleaaDoorDrSames
namespace Go.Proofs.YtefppfgcgcfleaaDoor
open Go Go.RowKit Go.Proofs.YtefppfgcgcfleaaDoorW.PrintWords Go.Proofs.YtefppfgcgcfleaaDoorW.PrintLast Go.Proofs.YtefppfgcgcfleaaDoorW.PrintMore PDratJoins

/-! Two proofs, one behind the other. -/
/-- Steps as they were read in a world: a kind without memory. -/
def kP (w0 : World) : Kd S36 := ⟨2, [], fun _ x cs => k36.K w0 x cs, fun _ _ _ x cs => k36.K w0 x cs, fun h => k36.K_len h, fun h => k36.K_one h, fun _ h => h, fun h => h, fun _ h => h, fun h => h, fun _ h => h, fun _ h => h⟩
abbrev OwnS (w W : World) (v : Value) (ps : List PStep) : Prop := Kd.R (kP w) 36 W w.heap.size (fun _ => True) v (ps.map ofP)
theorem ownS_reads {w W : World} {v : Value} {ps : List PStep} (h : OwnS w W v ps) (B : Below w.heap.size w W) : ∃ A c, v = .slice A ps.length c ∧ ps.length ≤ c ∧ PC W A ps := by
  obtain ⟨A, c, e, h1, h2⟩ := Kd.R_reads h
  rw [List.length_map] at e h1 h2
  exact ⟨A, c, e, h1, ReadsRow.imp_ (w1 := W) h2 (Below.refl _ _) (fun _ _ hp => k36.K_below B hp)⟩
section
variable {ops : Array Oper} {rest : List Oper} {o : Oper} {a : Act} {Q : Exit → Act → World → Prop}
theorem app_steps (w : World) {W : World} (hgd : o.guard = none) (s x : Operand) (ho : o.op = .call { callee := .builtin .append, args := #[s, x], argTypes := #[23, 23] }) (v : Value) (ps qs : List PStep) (A : Option Addr) (c : Nat)
    (hs : a.eval s = v) (hx : a.eval x = .slice A qs.length c) (HO : OwnS w W v ps) (HR : PC w A qs) (HB : Below w.heap.size w W) (hl : ps.length + qs.length ≤ 1000)
    (h : ∀ v1 w1, OwnS w w1 v1 (ps ++ qs) → Below w.heap.size w w1 → wpList Tryd.prog ops Q rest (a.put o.dst v1) w1) : wpList Tryd.prog ops Q (o :: rest) a W :=
  Kd.R_append_rows (kP w) (Rr := k36.K w) (w0 := w) w.heap.size hgd s x 23 36 (.agg #[(.bool false), (.slice none 0 0)]) 32 ho Tryd.underlying23 info36 rfl (show 0 < 2 by decide) (by decide) v (ps.map ofP) (qs.map ofP) A qs.length c (fun _ => True) (fun _ => False) hs hx
    HO (ReadsRow.imp_ HR HB (fun _ _ hp => hp)) (fun _ _ h => h) (fun _ h => h.elim) (fun _ _ => trivial) HB (below_size HB) (by rw [List.length_map]; omega) (fun v1 w1 h1 h2 _ _ => h v1 w1 (by unfold OwnS; rw [List.map_append]; exact h1) h2)
end
theorem own_lower {w w2 W : World} {v : Value} {b : List UInt8} (h : Own w2 W v b) (B : w.heap.size ≤ w2.heap.size) : Own w W v b := Kd.R_lower h B
theorem o_binary (A : Option Addr) (c : Nat) (ps : List PStep) (w : World) (h : PC w A ps) (hR : RightP ps) (hX : (binT ps).length ≤ 140737488355000) :
    Calls Tryd.prog 19 #[.slice A ps.length c] w fun e w' => Below w.heap.size w w' ∧ ∃ v, e = .returned v ∧ Own w w' v (binT ps) := by
  have C := dr_binary A c (ps.map ofP) w h.c (rightS_of hR) (by rw [bin_of]; exact hX)
  rw [bin_of, List.length_map] at C
  exact C.mono fun e w' ⟨v, h1, h2, h3⟩ => ⟨h3, v, h1, h2⟩
theorem rightP_append {p q : List PStep} (h : RightP p) (k : RightP q) : RightP (p ++ q) := fun s hs => (List.mem_append.1 hs).elim (h s) (k s)

set_option maxRecDepth 100000 in
set_option maxHeartbeats 1600000 in
theorem joins_any (A : Option Addr) (c : Nat) (l : List S57) (hc : l.length ≤ c) (B : Option Addr) (d : Nat) (m : List S57) (hd : m.length ≤ d) (w : World) (hr : Kd.C k57 w A l.length l) (hm : l.length ≤ 140737488351232) (hs : ∀ s ∈ l, s.f1.length ≤ 140737488351232)
    (hr2 : Kd.C k57 w B m.length m) (hm2 : m.length ≤ 140737488351232) (hs2 : ∀ s ∈ m, s.f1.length ≤ 140737488351232) (E : Env w) :
    Calls Tryd.prog 6 #[.slice A l.length c, .slice B m.length d] w (Said w (.bool true)) := by
  have hu := Tryd.underlying36
  have C0 := fit_any w E
  obtain ⟨b1, hbw, CS⟩ := small_any l (by omega) hs
  obtain ⟨b2, hbw2, CS2⟩ := small_any m (by omega) hs2
  have HR := Aside0.mk hr
  have HC := Aside0.mk hc
  have HE := Aside0.mk E
  have HR2 := Aside0.mk hr2
  have HC2 := Aside0.mk hd
  have S1 : ∀ W, Below w.heap.size w W → Calls Tryd.prog 17 #[.slice A l.length c] W (Said W (.bool b1)) := fun W h => CS A c W (Kd.C_below HR.out h) HC.out
  have S2 : ∀ W, Below w.heap.size w W → Calls Tryd.prog 17 #[.slice B m.length d] W (Said W (.bool b2)) := fun W h => CS2 B d W (Kd.C_below HR2.out h) HC2.out
  clear CS CS2
  cases b1 with
  | false =>
    clear hr hc E hm hs hbw hr2 hd hm2 hs2 hbw2 S2
    go_enter Tryd.func6, Tryd.ntmps6
    go_wp2_with (first
      | (go_at_call 10; refine C0.mono ?_; rintro e w1 ⟨rfl, hb⟩; have HB := Aside0.mk hb; clear hb)
      | (go_at_call 17; refine (S1 _ HB.out).mono ?_; rintro e w2 ⟨rfl, hb⟩; have HB2 := Aside0.mk (below_step (by repeat (first | (with_reducible first | exact HB.out | apply below_alloc | apply pw_below_drewN | apply below_drew1) | exact HB.out)) hb); clear HB; have HB := HB2; clear HB2 hb))
    go_ret
    exact ⟨rfl, HB.out⟩
  | true =>
    cases b2 with
    | false =>
      clear hr hc E hm hs hbw hr2 hd hm2 hs2 hbw2
      go_enter Tryd.func6, Tryd.ntmps6
      go_wp2_with (first
        | (go_at_call 10; refine C0.mono ?_; rintro e w1 ⟨rfl, hb⟩; have HB := Aside0.mk hb; clear hb)
        | (go_at_call 17; (first | with_reducible refine (S1 _ HB.out).mono ?_ | with_reducible refine (S2 _ HB.out).mono ?_); rintro e w2 ⟨rfl, hb⟩; have HB2 := Aside0.mk (below_step (by repeat (first | (with_reducible first | exact HB.out | apply below_alloc | apply pw_below_drewN | apply below_drew1) | exact HB.out)) hb); clear HB; have HB := HB2; clear HB2 hb))
      go_ret
      exact ⟨rfl, HB.out⟩
    | true =>
      have CP1 := fun W (h : Below w.heap.size w W) => proof_any l (hbw rfl) A c W (Kd.C_below HR.out h) HC.out
      have CP2 := fun W (h : Below w.heap.size w W) => proof_any m (hbw2 rfl) B d W (Kd.C_below HR2.out h) HC2.out
      have HPR := Aside0.mk (proofP_right l)
      have HWT : Aside0 (wt (proofP l) ≤ 400) := ⟨by rw [proofP_wt]; exact hbw rfl⟩
      have HPR2 := Aside0.mk (proofP_right m)
      have HWT2 : Aside0 (wt (proofP m) ≤ 400) := ⟨by rw [proofP_wt]; exact hbw2 rfl⟩
      generalize proofP l = ps at *
      generalize proofP m = qs at *
      have HCP1 := Aside0.mk CP1
      have HCP2 := Aside0.mk CP2
      have HTL : Aside0 ((textT ps).length ≤ 3200 ∧ (textT qs).length ≤ 3200 ∧ (binT ps).length ≤ 1200 ∧ (binT qs).length ≤ 1200) := ⟨by
        have := text_len HPR.out; have := text_len HPR2.out; have := bin_len HPR.out; have := bin_len HPR2.out; have := HWT.out; have := HWT2.out; omega⟩
      have HF := Aside0.mk (few_of (by have := HWT.out; omega : wt ps ≤ 1000))
      clear hr hc E hm hs hbw hr2 hd hm2 hs2 hbw2 CP1 CP2
      go_enter Tryd.func6, Tryd.ntmps6
      go_wp2_with (first
        | (go_at_call 10; refine C0.mono ?_; rintro e w1 ⟨rfl, hb⟩; have HB := Aside0.mk hb; clear hb)
        | (go_at_call 17; (first | with_reducible refine (S1 _ HB.out).mono ?_ | with_reducible refine (S2 _ HB.out).mono ?_); rintro e w2 ⟨rfl, hb⟩; have HB2 := Aside0.mk (below_step (by repeat (first | (with_reducible first | exact HB.out | apply below_alloc | apply pw_below_drewN | apply below_drew1) | exact HB.out)) hb); clear HB; have HB := HB2; clear HB2 hb)
        | (go_at_call 18; with_reducible refine (HCP1.out _ HB.out).mono ?_))
      rintro e w3 ⟨hb, A2, c2, rfl, hc2, hp2⟩
      have HB2 := Aside0.mk (below_step (by repeat (first | (with_reducible first | exact HB.out | apply below_alloc | apply pw_below_drewN | apply below_drew1) | exact HB.out)) hb); clear HB; have HB := HB2; clear HB2 hb
      have HP := Aside0.mk hp2
      have HK2 := Aside0.mk hc2
      clear C0 S1 S2 HCP1 hp2 hc2
      go_wp2_with (first
        | (go_at_call 18; with_reducible refine (HCP2.out _ HB.out).mono ?_))
      rintro e w4 ⟨hb, A3, c3, rfl, hc3, hp3⟩
      have HP4 := Aside0.mk (HP.out.below hb)
      have HB2 := Aside0.mk (below_step (by repeat (first | (with_reducible first | exact HB.out | apply below_alloc | apply pw_below_drewN | apply below_drew1) | exact HB.out)) hb); clear HB; have HB := HB2; clear HB2 hb
      have HQ4 := Aside0.mk hp3
      have HK3 := Aside0.mk hc3
      clear HCP2 hp3 hc3 HP
      have HBW := HB
      have HA := Aside0.mk (rightP_append HPR.out HPR2.out)
      clear HB
      have HB := Aside0.mk (Below.refl w4.heap.size w4)
      have HWA : Aside0 (wt (ps ++ qs) ≤ 800) := ⟨by rw [wt_append]; have := HWT.out; have := HWT2.out; omega⟩
      have hll : ps.length + qs.length ≤ 800 := by have := wt_len ps; have := wt_len qs; have := HWT.out; have := HWT2.out; omega
      have HLL := Aside0.mk hll
      clear hll
      go_wp2_with (first
        | ((with_reducible refine gate_builtin (b := .append) (xs := #[.const (.slice none 0 0), .tmp 27]) rfl ?_); at_builtin; refine app_steps w4 rfl (.const (.slice none 0 0)) (.tmp 27) rfl (.slice none 0 0) [] ps A2 c2 rfl rfl (Kd.R_nil _ _ _ _ _) HP4.out HB.out ?aL ?_; (case aL => have := HLL.out; simp only [List.length_nil]; omega)))
      intro v5 w5 ho hb
      have HO := Aside0.mk ho
      have HB2 := Aside0.mk hb
      clear HB ho hb
      have HB := HB2
      clear HB2
      go_wp2_with (first
        | ((with_reducible refine gate_builtin (b := .append) (xs := #[.tmp 28, .tmp 29]) rfl ?_); at_builtin; refine app_steps w4 rfl (.tmp 28) (.tmp 29) rfl v5 ([] ++ ps) qs A3 c3 rfl rfl HO.out HQ4.out HB.out ?aL ?_; (case aL => have := HLL.out; simp only [List.nil_append]; omega)))
      intro v6 w6 ho hb
      try rw [List.nil_append] at ho
      obtain ⟨A6, c6, rfl, hc6, hp6⟩ := ownS_reads ho hb
      have HAL := Aside0.mk hp6
      have HK6 := Aside0.mk hc6
      have HP6 := Aside0.mk (HP4.out.below hb)
      have HQ6 := Aside0.mk (HQ4.out.below hb)
      have HB2 := Aside0.mk (below_step HBW.out hb)
      clear HB ho hb HO hp6 hc6 HP4 HQ4 HBW
      have HB := HB2
      clear HB2
      generalize hall : ps ++ qs = al at *
      have HALL := Aside0.mk hall
      clear hall
      go_wp2_with (first
        | (go_at_call 19; with_reducible refine (o_binary A2 c2 ps w6 HP6.out HPR.out (by have := HTL.out; omega)).mono ?_))
      rintro e w7 ⟨hb, v7, rfl, ho⟩
      have HO := Aside0.mk ho
      have HB6 := Aside0.mk hb
      clear ho hb
      go_wp2_with (first
        | (go_at_call 19; with_reducible refine (o_binary A3 c3 qs w7 (HQ6.out.below HB6.out) HPR2.out (by have := HTL.out; omega)).mono ?_))
      rintro e w8 ⟨hb, v8, rfl, ho⟩
      obtain ⟨A8, c8, rfl, hc8, hr8⟩ := own_rd ho
      have HO2 := Aside0.mk (own_below HO.out hb)
      have HR8 := Aside0.mk hr8
      have HB8 := Aside0.mk (below_step HB6.out hb)
      clear HO HB6 ho hb hr8 hc8
      go_wp2_with (first
        | ((with_reducible refine gate_builtin (b := .append) (xs := #[.tmp 32, .tmp 34]) rfl ?_); at_builtin; refine app_row w6 rfl (.tmp 32) (.tmp 34) rfl v7 (binT ps) (binT qs) A8 c8 rfl rfl HO2.out HR8.out HB8.out ?aL ?_; (case aL => have := HTL.out; omega)))
      intro v9 w9 ho hb
      rw [← binT_append, HALL.out] at ho
      obtain ⟨A9, c9, rfl, hc9, hr9⟩ := own_rd ho
      have HR9 := Aside0.mk hr9
      have HK9 := Aside0.mk hc9
      have HP9 := Aside0.mk (HP6.out.below hb)
      have HQ9 := Aside0.mk (HQ6.out.below hb)
      have HA9 := Aside0.mk (HAL.out.below hb)
      have HB2 := Aside0.mk (below_step (by repeat (first | (with_reducible first | exact HB.out | apply below_alloc | apply pw_below_drewN | apply below_drew1) | exact HB.out)) hb); clear HB; have HB := HB2; clear HB2 hb
      clear HO2 HR8 HB8 ho hr9 hc9 HP6 HQ6 HAL
      have HTA : Aside0 ((textT al).length ≤ 6400 ∧ (binT al).length ≤ 2400) := ⟨by
        rw [← HALL.out, textT_append, binT_append]
        have := HTL.out
        simp only [List.length_append]; omega⟩
      have hcat : (⟨(textT ps).toArray⟩ : ByteArray) ++ (⟨(textT qs).toArray⟩ : ByteArray) = ⟨(textT al).toArray⟩ := by rw [bytes_add, ← textT_append, HALL.out]
      have z3 : (9223372036854775807 < (⟨(textT ps).toArray⟩ : ByteArray).size + (⟨(textT qs).toArray⟩ : ByteArray).size) = False := eq_false (by rw [size_list, size_list]; have := HTL.out; omega)
      have HFA : Aside0 (Few al) := ⟨few_of (by have := HWA.out; omega)⟩
      have HPTA := Aside0.mk (parseT_textT HA.out)
      have HPBA := Aside0.mk (parseB_binT HA.out)
      have U1 : ∀ W, Below w9.heap.size w9 W → Calls Tryd.prog 20 #[.slice A2 ps.length c2] W (Said W (.string ⟨(textT ps).toArray⟩)) := fun W h => p_text A2 c2 ps W (HP9.out.below h) HK2.out HPR.out (by have := HTL.out; omega) (HE.out.below (below_step HB.out h))
      have U2 : ∀ W, Below w9.heap.size w9 W → Calls Tryd.prog 20 #[.slice A3 qs.length c3] W (Said W (.string ⟨(textT qs).toArray⟩)) := fun W h => p_text A3 c3 qs W (HQ9.out.below h) HK3.out HPR2.out (by have := HTL.out; omega) (HE.out.below (below_step HB.out h))
      have U3 : ∀ W, Below w9.heap.size w9 W → Calls Tryd.prog 11 #[.string ⟨(textT al).toArray⟩] W (Parsed W (.ok al [])) := fun W h => by
        have := p_parseText (textT al) W (by have := HTA.out; omega) (HE.out.below (below_step HB.out h))
        rw [HPTA.out] at this
        exact this
      have HBW := HB
      clear HB
      have HB := Aside0.mk (Below.refl w9.heap.size w9)
      generalize hX1 : (⟨(textT ps).toArray⟩ : ByteArray) = X1 at *
      generalize hX2 : (⟨(textT qs).toArray⟩ : ByteArray) = X2 at *
      generalize hX3 : (⟨(textT al).toArray⟩ : ByteArray) = X3 at *
      have HX := Aside0.mk (And.intro hX1 (And.intro hX2 hX3))
      clear hX1 hX2 hX3
      go_wp2_with (first
        | (go_at_call 20; (first | with_reducible refine (U1 _ HB.out).mono ?_ | with_reducible refine (U2 _ HB.out).mono ?_); rintro e w10 ⟨rfl, hb⟩; have HB2 := Aside0.mk (below_step HB.out hb); clear HB hb; have HB := HB2; clear HB2)
        | (go_at_call 11; with_reducible refine (U3 _ HB.out).mono ?_))
      rintro e w10 ⟨hb, A10, c10, rfl, hc10, hp10⟩
      have HBX := Aside0.mk (below_step HB.out hb)
      have HY10 := Aside0.mk hp10
      have HK10 := Aside0.mk hc10
      have CPB := p_parseBin A9 c9 (binT al) w10 (HR9.out.below HBX.out) HK9.out (by have := HTA.out; omega)
      rw [HPBA.out] at CPB
      clear hb hp10 hc10 HB U1 U2 U3
      go_wp2_with (first
        | (go_at_call 14; with_reducible refine CPB.mono ?_))
      rintro e w11 ⟨hb, A11, c11, rfl, hc11, hp11⟩
      have HY11 := Aside0.mk hp11
      have HX11 := Aside0.mk (HY10.out.below hb)
      have HK11 := Aside0.mk hc11
      have HBY := Aside0.mk (below_step HBX.out hb)
      have HP11 := Aside0.mk (HP9.out.below HBY.out)
      have HQ11 := Aside0.mk (HQ9.out.below HBY.out)
      have HA11 := Aside0.mk (HA9.out.below HBY.out)
      have HBZ := Aside0.mk (below_step HBW.out HBY.out)
      have HB := Aside0.mk (Below.refl w11.heap.size w11)
      have KC : Aside0 (∀ W, Below w11.heap.size w11 W → (convert 30 9 (.slice A9 (binT al).length c9)).run Tryd.prog W = .ok (.string ⟨(binT al).toArray⟩) W) := ⟨fun W B => conv_rd (HR9.out.below (below_step HBY.out B)) c9⟩
      clear hb hp11 hc11 CPB
      have T1 : ∀ W, (convert 30 9 (.slice A9 (binT al).length c9)).run Tryd.prog W = .ok (.string ⟨(binT al).toArray⟩) W ∧ Aside0 (Below w11.heap.size w11 W) → Calls Tryd.prog 20 #[.slice A2 ps.length c2] W (Said W (.string X1)) := fun W h => by rw [← HX.out.1]; exact p_text A2 c2 ps W (HP11.out.below h.2.out) HK2.out HPR.out (by have := HTL.out; omega) (HE.out.below (below_step HBZ.out h.2.out))
      have T2 : ∀ W, (convert 30 9 (.slice A9 (binT al).length c9)).run Tryd.prog W = .ok (.string ⟨(binT al).toArray⟩) W ∧ Aside0 (Below w11.heap.size w11 W) → Calls Tryd.prog 20 #[.slice A3 qs.length c3] W (Said W (.string X2)) := fun W h => by rw [← HX.out.2.1]; exact p_text A3 c3 qs W (HQ11.out.below h.2.out) HK3.out HPR2.out (by have := HTL.out; omega) (HE.out.below (below_step HBZ.out h.2.out))
      have T3 : ∀ W, (convert 30 9 (.slice A9 (binT al).length c9)).run Tryd.prog W = .ok (.string ⟨(binT al).toArray⟩) W ∧ Aside0 (Below w11.heap.size w11 W) → Calls Tryd.prog 20 #[.slice A6 al.length c6] W (Said W (.string X3)) := fun W h => by rw [← HX.out.2.2]; exact p_text A6 c6 al W (HA11.out.below h.2.out) HK6.out HA.out (by have := HTA.out; omega) (HE.out.below (below_step HBZ.out h.2.out))
      have T4 : ∀ W, (convert 30 9 (.slice A9 (binT al).length c9)).run Tryd.prog W = .ok (.string ⟨(binT al).toArray⟩) W ∧ Aside0 (Below w11.heap.size w11 W) → Calls Tryd.prog 19 #[.slice A6 al.length c6] W (fun e w' => Below W.heap.size W w' ∧ ∃ A' n' c', e = .returned (.slice A' n' c') ∧ Aside0 (∀ X, Below w'.heap.size w' X → (convert 30 9 (.slice A' n' c')).run Tryd.prog X = .ok (.string ⟨(binT al).toArray⟩) X)) := fun W h => c_binary A6 c6 al W (HA11.out.below h.2.out) HA.out (by have := HTA.out; omega)
      have T5 : ∀ W, (convert 30 9 (.slice A9 (binT al).length c9)).run Tryd.prog W = .ok (.string ⟨(binT al).toArray⟩) W ∧ Aside0 (Below w11.heap.size w11 W) → Calls Tryd.prog 21 #[.slice A10 al.length c10, .slice A6 al.length c6] W (Said W (.bool true)) := fun W h => by rw [← sameP_refl al]; exact said_same A10 A6 c10 c6 al al W (HX11.out.below h.2.out) HK10.out (HA11.out.below h.2.out) HK6.out HFA.out
      have T6 : ∀ W, (convert 30 9 (.slice A9 (binT al).length c9)).run Tryd.prog W = .ok (.string ⟨(binT al).toArray⟩) W ∧ Aside0 (Below w11.heap.size w11 W) → Calls Tryd.prog 21 #[.slice A11 al.length c11, .slice A6 al.length c6] W (Said W (.bool true)) := fun W h => by rw [← sameP_refl al]; exact said_same A11 A6 c11 c6 al al W (HY11.out.below h.2.out) HK11.out (HA11.out.below h.2.out) HK6.out HFA.out
      generalize (⟨(binT al).toArray⟩ : ByteArray) = Y at *
      clear HX HPTA HPBA HP9 HQ9 HA9 HBX
      generalize (binT al).length = nb at *
      go_wp2
      go_region_held (fun w' => (convert 30 9 (.slice A9 nb c9)).run Tryd.prog w' = .ok (.string Y) w' ∧ Aside0 (Below w11.heap.size w11 w'))
        (first | assumption | exact keepB KC HB (pw_below_drewN (Below.refl _ _) 1) | exact keepB KC (And.right (by assumption)) hb)
        (first
          | (go_at_call 20; (first | with_reducible refine (T1 _ (by assumption)).mono ?_ | with_reducible refine (T2 _ (by assumption)).mono ?_ | with_reducible refine (T3 _ (by assumption)).mono ?_); rintro e w8 ⟨rfl, hb⟩; (try (have G1 := conv_step F1 hb; clear F1 kc1; have F1 := G1; have kc1 := F1.out _ (Below.refl _ _))))
          | (go_at_call 19; with_reducible refine (T4 _ (by assumption)).mono ?_; rintro e w8 ⟨hb, A12, n12, c12, rfl, F1⟩; have kc1 := F1.out _ (Below.refl _ _))
          | (go_at_call 21; (first | with_reducible refine (T5 _ (by assumption)).mono ?_ | with_reducible refine (T6 _ (by assumption)).mono ?_); rintro e w8 ⟨rfl, hb⟩; (try (have G1 := conv_step F1 hb; clear F1 kc1; have F1 := G1; have kc1 := F1.out _ (Below.refl _ _)))))
      all_goals (
        rename_i hH
        go_wp2
        go_ret
        exact ⟨by first | rfl | (simp; done), below_step HBZ.out hH.2.out⟩)

end Go.Proofs.YtefppfgcgcfleaaDoor
