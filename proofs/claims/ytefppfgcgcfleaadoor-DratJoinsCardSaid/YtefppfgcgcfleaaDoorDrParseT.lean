import Derived.Test.YtefppfgcgcfleaaDoorDrLine
import Derived.Test.YtefppfgcgcfleaaDoorDrText
namespace Go.Proofs.YtefppfgcgcfleaaDoor
open Go Go.RowKit Go.Proofs.YtefppfgcgcfleaaDoorW.PrintWords Go.Proofs.YtefppfgcgcfleaaDoorW.PrintLast Go.Proofs.YtefppfgcgcfleaaDoorW.PrintMore PDratJoins

theorem dec_len : ∀ (k u : Nat), u < 10 ^ (k + 1) → (Lib.decDigits u).length ≤ k + 1
  | 0, u, h => by rw [Lib.decDigits, dif_pos (by simpa using h)]; simp
  | k + 1, u, h => by
    rw [Lib.decDigits]
    split
    · simp
    · have := dec_len k (u / 10) (by rw [Nat.pow_succ] at h; omega)
      simp; omega
theorem itoa_len {l : Int} (h : RightL l) : (Lib.itoa l).length ≤ 7 := by
  unfold RightL at h
  unfold Lib.itoa
  split
  · have := dec_len 5 l.natAbs (by omega)
    simp; omega
  · have := dec_len 5 l.toNat (by omega)
    omega
theorem litsT_len : ∀ (ls : List Int), (∀ l ∈ ls, RightL l) → (litsT ls).length ≤ 8 * ls.length
  | [], _ => by simp [litsT]
  | l :: ls, h => by
    have h1 := itoa_len (h l (by simp))
    have h2 := litsT_len ls (fun x hx => h x (by simp [hx]))
    unfold litsT at h2 ⊢
    rw [List.flatMap_cons, List.length_append]
    simp only [List.length_append, List.length_cons, List.length_nil]
    omega
theorem wordsP_len : ∀ (ws : List (List UInt8)) {ls : List Int}, wordsP ws = some ls → ls.length = ws.length
  | [], ls, h => by simp only [wordsP, Option.some.injEq] at h; subst h; rfl
  | w :: ws, ls, h => by
    simp only [wordsP] at h
    cases hw : wordP w with
    | none => rw [hw] at h; simp at h
    | some x =>
      rw [hw] at h
      cases hs : wordsP ws with
      | none => rw [hs] at h; simp at h
      | some xs =>
        rw [hs] at h
        simp only [Option.some.injEq] at h
        subst h
        simp [wordsP_len ws hs]
theorem lineP_len {x : List UInt8} {s : PStep} (h : lineP x = some s) : (lineT s ++ [10]).length ≤ 8 * x.length + 12 := by
  have hr := lineP_right h
  have hl := litsT_len s.lits hr
  have hn : s.lits.length ≤ x.length := by
    unfold lineP lineQ at h
    have hc := (cut_len 32 (if Lib.hasPrefix x [100, 32] then x.drop 2 else x)).1
    have hx : (if Lib.hasPrefix x [100, 32] then x.drop 2 else x).length ≤ x.length := by split <;> simp
    generalize cutC 32 (if Lib.hasPrefix x [100, 32] then x.drop 2 else x) = ws at h hc
    split at h
    · simp at h
    · rename_i ls hw
      have hwl := wordsP_len _ hw
      split at h
      · simp only [Option.some.injEq] at h
        subst h
        rw [List.length_dropLast] at hwl
        simp only
        omega
      · simp at h
  unfold lineT
  simp only [List.length_append, List.length_cons, List.length_nil]
  split <;> simp <;> omega
theorem linesP_text_len (n : Nat) : ∀ (xs : List (List UInt8)) {p : List PStep}, (∀ x ∈ xs, x.length ≤ n) → linesP xs = some p → (textT p).length ≤ xs.length * (8 * n + 12)
  | [], p, _, h => by simp only [linesP, Option.some.injEq] at h; subst h; simp [textT]
  | x :: xs, p, hn, h => by
    simp only [linesP] at h
    cases hx : lineP x with
    | none => rw [hx] at h; simp at h
    | some s =>
      rw [hx] at h
      cases hs : linesP xs with
      | none => rw [hs] at h; simp at h
      | some q =>
        rw [hs] at h
        simp only [Option.some.injEq] at h
        subst h
        have h1 := lineP_len hx
        have h2 := linesP_text_len n xs (fun y hy => hn y (by simp [hy])) hs
        have h3 := hn x (by simp)
        unfold textT at h2 ⊢
        rw [List.flatMap_cons, List.length_append, List.length_cons, Nat.succ_mul]
        omega
def joinL (ps : List PStep) (o : Option (List PStep)) : Option (List PStep) := o.map (ps ++ ·)
theorem joinL_cons (ps : List PStep) (v : List UInt8) (vs : List (List UInt8)) (s : PStep) (h : lineP v = some s) : joinL ps (linesP (v :: vs)) = joinL (ps ++ [s]) (linesP vs) := by
  rw [linesP, h]
  simp only
  cases linesP vs <;> simp [joinL]
theorem joinL_none (ps : List PStep) (v : List UInt8) (vs : List (List UInt8)) (h : lineP v = none) : joinL ps (linesP (v :: vs)) = none := by rw [linesP, h]; rfl

/-- What ParseText's call leaves. -/
def TextSaid (w : World) (g : Option (List PStep)) (e : Ending) (w' : World) : Prop := Below w.heap.size w w' ∧ match g with
  | some ps => ∃ V, e = .returned (.tuple #[V, .int .i64 0]) ∧ Kd.R k36 36 w' w.heap.size (fun _ => True) V (ps.map ofP)
  | none => e = .returned (.tuple #[.slice none 0 0, .int .i64 9])

set_option maxRecDepth 100000 in
set_option maxHeartbeats 1600000 in
theorem parseText_any (x : List UInt8) (w : World) (hX : x.length ≤ 1048576) (E : Env w) :
    Calls Tryd.prog 11 #[strV x] w (TextSaid w (parseT x)) := by
  have hu := Tryd.underlying36
  have hu2 := Tryd.underlying9
  have HE := Aside0.mk E
  have C1 := split_box x 10 (by omega) w E
  have hcl := cut_len 10 x
  obtain ⟨vs, z, hvz⟩ := snoc_of _ (cutC_ne 10 x)
  unfold parseT
  rw [hvz] at C1 hcl ⊢
  rw [List.dropLast_concat]
  have hvl : vs.length ≤ 1048576 := by have := hcl.1; simp at this; omega
  have HVW : Aside0 (∀ i, i < vs.length → (nth vs [] i).length ≤ 1048576) := ⟨fun i hi => by have := hcl.2 (nth vs [] i) (by simp [nth_mem hi]); omega⟩
  have HTL : Aside0 (∀ p, linesP vs = some p → (textT p).length ≤ 140737488355328) := ⟨fun p hp => by
    have h1 := linesP_text_len 1048576 vs (fun y hy => by have := hcl.2 y (by simp [hy]); omega) hp
    have h2 : vs.length * (8 * 1048576 + 12) ≤ 1048576 * (8 * 1048576 + 12) := Nat.mul_le_mul_right _ hvl
    omega⟩
  rw [show (vs ++ [z]).length = vs.length + 1 by simp] at C1
  have kct := fun g => cut_to (P := Tryd.prog) 32 9 .i64 Tryd.underlying32 (Option.map_eq_some_iff.1 str_inf).choose_spec.1 (some ⟨g, 0, none⟩) (vs.length + 1) (vs.length + 1) (vs.length : Int) (by omega) (by omega) (Nat.le_refl _)
  rw [Int.toNat_natCast] at kct
  have HB := Aside0.mk (Below.refl w.heap.size w)
  clear hcl hvz E hX
  have HW : Aside0 (joinL [] (linesP (vs.drop 0)) = linesP vs) := ⟨by rw [List.drop_zero]; unfold joinL; cases linesP vs <;> simp⟩
  have HRT : Aside0 (∀ p, linesP vs = some p → RightP p) := ⟨fun p hp => linesP_right vs hp⟩
  generalize linesP vs = WW at HW HTL HRT ⊢
  unfold strV at C1
  show Calls Tryd.prog 11 #[.string ⟨x.toArray⟩] w _
  go_enter Tryd.func11, Tryd.ntmps11
  go_wp2_with (go_at_call 24; refine C1.mono ?_)
  rintro e w9 ⟨gw, rfl, hgw, hb, hge⟩
  have HGW := Aside0.mk hgw
  have HB2 := Aside0.mk hb
  have k2 := kct gw
  clear kct C1 hgw hb hge HB
  go_wp2
  go_loopg [5, 18] vs.length (fun gk v5 v18 w' => ∃ (i : Nat) (ps : List PStep), v18 = .int .i64 (i : Int) ∧ i + gk = vs.length ∧ Aside0 (ps.length ≤ i) ∧ Aside0 (joinL ps (linesP (vs.drop i)) = WW) ∧ Aside0 (Kd.R k36 36 w' w.heap.size (fun _ => True) v5 (ps.map ofP)) ∧ Aside0 (w'.heap[gw]? = some (.cells (List.map (fun l => Value.string ⟨l.toArray⟩) (vs ++ [z])).toArray 9 (0, 0))) ∧ Aside0 (Below w.heap.size w w'))
  case atStart => exact ⟨0, [], rfl, by omega, ⟨by simp⟩, HW, ⟨Kd.R_nil _ _ _ _ _⟩, HGW, HB2⟩
  case round =>
    clear HB2 HGW HW
    obtain ⟨i, ps, rfl, hi, HLN, HJ, HO, HGW, HB⟩ := hrel
    have hml : (ps.map ofP).length ≤ 1048576 := by rw [List.length_map]; have := HLN.out; omega
    have HML := Aside0.mk hml
    clear hml
    by_cases hiv : i < vs.length
    · have hx : wr.cell? ⟨gw, i, none⟩ = some (.string ⟨(nth vs [] i).toArray⟩) := by
        rw [blk_cell HGW.out i]
        exact words_at vs z i hiv
      have q1 : ((i : Int) < (vs.length : Int)) = True := eq_true (by omega)
      have q2 : (0 ≤ (i : Int)) = True := eq_true (by omega)
      have C := line_any (nth vs [] i) wr (HVW.out i hiv) (HE.out.below HB.out)
      unfold strV at C
      have HDC := Aside0.mk (drop_cons hiv ([] : List UInt8))
      generalize nth vs [] i = v at *
      cases hlp : lineP v with
      | none =>
        have hW2 : WW = none := by
          rw [← HJ.out, HDC.out]
          exact joinL_none ps v _ hlp
        rw [hlp] at C
        subst hW2
        clear HJ HDC hlp k2
        go_wp2_with (go_at_call 25; refine C.mono ?_)
        rintro e w7 ⟨hb, d7, A7, n7, c7, rfl⟩
        have HB2 := Aside0.mk (below_step (by repeat (first | (with_reducible first | exact HB.out | apply below_alloc | apply pw_below_drewN | apply below_drew1) | exact HB.out)) hb); clear HB; have HB := HB2; clear HB2 hb
        clear C hx
        go_wp2_with (first | ((with_reducible refine gate_dst (N := 8) rfl ?_); refine box_event ?hg (N := 8) ?hd (cs := #[.bool false, .slice none 0 0]) (t := 36) ?hr ?_; (case hd => rfl); (case hg => rfl); (case hr => first | (go_simp; done) | (go_simp; rfl)); intro gb hg w5 hbox hb; have GE := Aside0.mk ((by rw [hg]; exact (below_size (by repeat (first | (with_reducible first | exact HB.out | apply below_alloc | apply pw_below_drewN | apply below_drew1) | exact HB.out)))) : w.heap.size ≤ gb); have GN := Aside0.mk hg; have HW5 := Aside0.mk hb; have n0_ := Aside0.mk (below_step (by repeat (first | (with_reducible first | exact HB.out | apply below_alloc | apply pw_below_drewN | apply below_drew1) | exact HB.out)) hb); have BK := Aside0.mk hbox; clear HB; have HB := n0_; clear n0_ hb hbox hg; have hcz0 : w5.cell? ⟨gb, 0, none⟩ = some (.bool false) := (blk_cell BK.out 0).trans rfl; have hcz1 : w5.cell? ⟨gb, 1, none⟩ = some (.slice none 0 0) := (blk_cell BK.out 1).trans rfl; have hfz0 := blk_frozen BK.out 0; have hfz1 := blk_frozen BK.out 1))
        go_ret2
        exact ⟨(by repeat (first | (with_reducible first | exact HB.out | apply below_alloc | apply pw_below_drewN | apply below_drew1 | refine below_set ?_ GE.out) | exact HB.out)), rfl⟩
      | some s =>
        have hW2 : joinL (ps ++ [s]) (linesP (vs.drop (i + 1))) = WW := by
          rw [← HJ.out, HDC.out]
          exact (joinL_cons ps v _ s hlp).symm
        have HJ2 := Aside0.mk hW2
        rw [hlp] at C
        clear HJ HDC hlp hW2 k2
        go_wp2_with (go_at_call 25; refine C.mono ?_)
        rintro e w7 ⟨hb, V1, rfl, h3⟩
        obtain ⟨A8, c8, rfl⟩ := Kd.R_slice h3
        have H3 : Aside0 (Kd.R (Kd.int .i64) 3 w7 w.heap.size (fun k => True ∧ some k ≠ u5.ownBlock) (.slice A8 s.lits.length c8) s.lits) := by
          obtain ⟨inner, ho⟩ := Kd.R_own HO.out
          exact ⟨Kd.R_lower (Kd.R_new h3 ho) HB.out.size⟩
        have HO2 := Aside0.mk (Kd.R_below HO.out hb)
        have HG2 := Aside0.mk (blk_below HGW.out hb)
        have HB2 := Aside0.mk (below_step HB.out hb)
        clear HO HB HGW h3 hb C hx
        have HO := HO2
        have HB := HB2
        have HGW := HG2
        clear HO2 HB2 HG2
        go_wp2_with (first
          | ((with_reducible refine gate_dst (N := 8) rfl ?_); refine box_event ?hg (N := 8) ?hd (cs := #[.bool false, .slice none 0 0]) (t := 36) ?hr ?_; (case hd => rfl); (case hg => rfl); (case hr => first | (go_simp; done) | (go_simp; rfl)); intro gb hg w5 hbox hb; have GE := Aside0.mk ((by rw [hg]; exact (below_size (by repeat (first | (with_reducible first | exact HB.out | apply below_alloc | apply pw_below_drewN | apply below_drew1) | exact HB.out)))) : w.heap.size ≤ gb); have GN := Aside0.mk hg; have HW5 := Aside0.mk hb; have n0_ := Aside0.mk (below_step (by repeat (first | (with_reducible first | exact HB.out | apply below_alloc | apply pw_below_drewN | apply below_drew1) | exact HB.out)) hb); have BK := Aside0.mk hbox; clear HB; have HB := n0_; clear n0_ hb hbox hg; have hcz0 : w5.cell? ⟨gb, 0, none⟩ = some (.bool false) := (blk_cell BK.out 0).trans rfl; have hcz1 : w5.cell? ⟨gb, 1, none⟩ = some (.slice none 0 0) := (blk_cell BK.out 1).trans rfl; have hfz0 := blk_frozen BK.out 0; have hfz1 := blk_frozen BK.out 1)
          | ((with_reducible refine gate_builtin (b := .append) (xs := #[.tmp 29, .tmp 31]) rfl ?_); at_builtin; refine Kd.R_append k36 (w0 := w) w.heap.size rfl (.tmp 29) (.tmp 31) 23 36 (.agg #[(.bool false), (.slice none 0 0)]) 32 rfl Tryd.underlying23 info36 rfl (by decide) (by decide) _ (ps.map ofP) (ofP s) [.bool s.del, .slice A8 s.lits.length c8] (fun _ => True) (fun k => True ∧ some k ≠ u5.ownBlock) rfl ?aX ?aP (fun _ hk => hk) (fun _ _ => trivial) ?aO ?aB ?aS ?aL ?_; (case aX => first | rfl | (simp [Act.eval]; done)); (case aL => have := HML.out; omega); (case aO => exact Kd.R_below HO.out (by repeat (first | exact HW5.out | refine below_set ?_ (by rw [GN.out]; exact Nat.le_refl _)))); (case aP => exact k36_mkM _ _ _ (ofP s) (Kd.R_below H3.out (by repeat (first | exact HW5.out | refine below_set ?_ (by rw [GN.out]; exact Nat.le_refl _))))); (case aB => exact (by repeat (first | (with_reducible first | exact HB.out | apply below_alloc | apply pw_below_drewN | apply below_drew1 | refine below_set ?_ GE.out) | exact HB.out))); (case aS => exact (below_size (by repeat (first | (with_reducible first | exact HB.out | apply below_alloc | apply pw_below_drewN | apply below_drew1 | refine below_set ?_ GE.out) | exact HB.out))))))
        intro v1 w1 ho hb hg hat
        have hG3 := blk_grown (blk_below HGW.out (by repeat (first | exact HW5.out | refine below_set ?_ (by rw [GN.out]; exact Nat.le_refl _)))) hg (Kd.R_ne (Kd.R_below HO.out (by repeat (first | exact HW5.out | refine below_set ?_ (by rw [GN.out]; exact Nat.le_refl _)))) (blk_below HGW.out (by repeat (first | exact HW5.out | refine below_set ?_ (by rw [GN.out]; exact Nat.le_refl _)))) (by decide))
        have HG2 := Aside0.mk hG3
        have e1 : ps.map ofP ++ [ofP s] = (ps ++ [s]).map ofP := by simp
        rw [e1] at ho
        have HO2 := Aside0.mk ho
        have HB2 := Aside0.mk hb
        clear HO HB HGW BK GE GN HW5 hcz0 hcz1 hfz0 hfz1 hb hg hat ho e1 hG3
        go_wp2
        go_roundg (vs.length - (i + 1))
        case measure => omega
        case rel => exact ⟨i + 1, ps ++ [s], by go_num, by omega, ⟨by have := HLN.out; simp; omega⟩, HJ2, HO2, HG2, HB2⟩
    · have q1 : ((i : Int) < (vs.length : Int)) = False := eq_false (by omega)
      have hW2 : WW = some ps := by rw [← HJ.out, List.drop_of_length_le (by omega)]; simp [linesP, joinL]
      subst hW2
      have HRP := HRT.out ps rfl
      have HTX := HTL.out ps rfl
      obtain ⟨A9, c9, rfl, hl9, hr9⟩ := Kd.R_reads HO.out
      have hS : RightS (ps.map ofP) := by
        intro s hs l hl
        obtain ⟨p, hp, rfl⟩ := List.mem_map.1 hs
        exact HRP p hp l hl
      have ht : txt (ps.map ofP) = textT ps := by unfold txt; rw [map_toP_ofP]
      have C := dr_text A9 c9 (ps.map ofP) wr hr9 hl9 hS (by rw [ht]; exact HTX) (HE.out.below HB.out)
      rw [ht, List.length_map] at C
      clear HJ hr9 hS HRP HTX ht hl9 HRT HTL
      have HO1 := HO.out
      rw [List.length_map] at HO1
      have HO3 := Aside0.mk HO1
      clear HO HO1
      by_cases hteq : textT ps = x
      · rw [hteq] at C
        go_wp2_with (go_at_call 20; with_reducible refine C.mono ?_)
        rintro e w7 ⟨rfl, hb⟩
        have HO2 := Aside0.mk (Kd.R_below HO3.out hb)
        have HB2 := Aside0.mk (below_step (by repeat (first | (with_reducible first | exact HB.out | apply below_alloc | apply pw_below_drewN | apply below_drew1) | exact HB.out)) hb); clear HB; have HB := HB2; clear HB2 hb
        clear C
        go_wp2
        go_ret2
        exact ⟨HB.out, _, rfl, HO2.out⟩
      · have q5 : (textT ps == x) = false := by simpa using hteq
        obtain ⟨T, hT⟩ : ∃ T, textT ps = T := ⟨_, rfl⟩
        rw [hT] at C q5
        clear hT
        go_wp2_with (go_at_call 20; with_reducible refine C.mono ?_)
        rintro e w7 ⟨rfl, hb⟩
        have HB2 := Aside0.mk (below_step (by repeat (first | (with_reducible first | exact HB.out | apply below_alloc | apply pw_below_drewN | apply below_drew1) | exact HB.out)) hb); clear HB; have HB := HB2; clear HB2 hb
        clear C
        go_wp2
        go_ret2
        exact ⟨HB.out, rfl⟩

end Go.Proofs.YtefppfgcgcfleaaDoor
