import Derived.Test.YtefppfgcgcfleaaDoorDrStep
namespace Go.Proofs.YtefppfgcgcfleaaDoor
open Go Go.RowKit Go.Proofs.YtefppfgcgcfleaaDoorW.PrintWords Go.Proofs.YtefppfgcgcfleaaDoorW.PrintLast Go.Proofs.YtefppfgcgcfleaaDoorW.PrintMore PDratJoins

theorem step_any (w0 : World) (A : Option Addr) (c : Nat) (b : List UInt8) (hb0 : b ≠ []) (w : World) (h0 : Rd w0 A b) (hb : Below w0.heap.size w0 w) (hc : b.length ≤ c) (hX : b.length ≤ 1099511627776) :
    Calls Tryd.prog 27 #[.slice A b.length c] w (StepSaid w0 w (stepP b)) := by
  cases b with
  | nil => exact absurd rfl hb0
  | cons x r =>
    by_cases hx : x = 97 ∨ x = 100
    · rw [stepP_G x r hx]
      rcases hx with rfl | rfl
      · exact step_false w0 A c _ r rfl w h0 hb hc hX
      · exact step_true w0 A c _ r rfl w h0 hb hc hX
    · have e : stepP (x :: r) = .form := by simp only [stepP]; rw [if_neg hx]
      rw [e]
      exact step_bad w0 A c _ x r rfl w h0 hb hx

def ofP (p : PStep) : S36 := ⟨p.del, p.lits⟩
theorem toP_ofP (p : PStep) : toP (ofP p) = p := rfl
theorem map_toP_ofP (ps : List PStep) : (ps.map ofP).map toP = ps := by rw [List.map_map]; exact List.map_id _
def joinP (ps : List PStep) : Got (List PStep) → Got (List PStep)
  | .ok qs r => .ok (ps ++ qs) r
  | .form => .form
  | .short => .short
theorem joinP_nil (g : Got (List PStep)) : joinP [] g = g := by cases g <;> rfl
theorem joinP_cons (ps : List PStep) (f : Nat) (c : UInt8) (r q : List UInt8) (s : PStep) (h : stepP (c :: r) = .ok s q) : joinP ps (binP (f + 1) (c :: r)) = joinP (ps ++ [s]) (binP f q) := by
  rw [binP, h]
  simp only
  cases binP f q <;> simp [joinP]
theorem joinP_form (ps : List PStep) (f : Nat) (c : UInt8) (r : List UInt8) (h : stepP (c :: r) = .form) : joinP ps (binP (f + 1) (c :: r)) = .form := by rw [binP, h]; rfl
theorem joinP_short (ps : List PStep) (f : Nat) (c : UInt8) (r : List UInt8) (h : stepP (c :: r) = .short) : joinP ps (binP (f + 1) (c :: r)) = .short := by rw [binP, h]; rfl

/-- What ParseBinary's call leaves. -/
def ParseSaid (w : World) (g : Got (List PStep)) (e : Ending) (w' : World) : Prop := Below w.heap.size w w' ∧ match g with
  | .ok ps _ => ∃ V, e = .returned (.tuple #[V, .int .i64 0]) ∧ Kd.R k36 36 w' w.heap.size (fun _ => True) V (ps.map ofP)
  | .form => e = .returned (.tuple #[.slice none 0 0, .int .i64 9])
  | .short => e = .returned (.tuple #[.slice none 0 0, .int .i64 10])

set_option maxRecDepth 100000 in
set_option maxHeartbeats 1600000 in
theorem parseBin_any (A : Option Addr) (c : Nat) (b : List UInt8) (w : World) (h0 : Rd w A b) (hc : b.length ≤ c) (hX : b.length ≤ 1099511627776) :
    Calls Tryd.prog 14 #[.slice A b.length c] w (ParseSaid w (parseB b)) := by
  have hu := Tryd.underlying36
  have hmb : b.length ≤ 1099511627776 := hX
  have HR1 := Aside0.mk h0
  have HC := Aside0.mk hc
  obtain ⟨G, hGG⟩ : ∃ G, parseB b = G := ⟨_, rfl⟩
  have HGG : Aside0 (joinP [] (binP (b.length + 1) b) = G) := ⟨by rw [joinP_nil]; exact hGG⟩
  rw [hGG]
  clear hGG h0 hc hX
  go_enter Tryd.func14, Tryd.ntmps14
  go_wp2
  go_loopg [0, 4] b.length (fun gk v0 v4 w' => ∃ (q : List UInt8) (A2 : Option Addr) (c2 f : Nat) (ps : List PStep), v0 = .slice A2 q.length c2 ∧ Aside0 (q.length = gk) ∧ Aside0 (q.length ≤ c2) ∧ Aside0 (q.length < f) ∧ Aside0 (ps.length + q.length ≤ b.length) ∧ Aside0 (Rd w A2 q) ∧ Aside0 (joinP ps (binP f q) = G) ∧ Aside0 (Kd.R k36 36 w' w.heap.size (fun _ => True) v4 (ps.map ofP)) ∧ Aside0 (Below w.heap.size w w'))
  case atStart => exact ⟨b, A, c, b.length + 1, [], rfl, ⟨rfl⟩, HC, ⟨by omega⟩, ⟨by simp⟩, HR1, HGG, ⟨Kd.R_nil _ _ _ _ _⟩, ⟨Below.refl _ _⟩⟩
  case round =>
    clear HGG HR1 HC
    obtain ⟨q, A2, c2, f, ps, rfl, HGK, HQ2, HQF, HLN, HR2, HJ, HO, HB⟩ := hrel
    have hmq : q.length ≤ 1099511627776 := by have := HLN.out; omega
    obtain ⟨f, rfl⟩ : ∃ g, f = g + 1 := ⟨f - 1, by have := HQF.out; omega⟩
    obtain hq | ⟨y, q2, hq⟩ : q = [] ∨ ∃ y q2, q = y :: q2 := by cases q with | nil => exact .inl rfl | cons y q2 => exact .inr ⟨y, q2, rfl⟩
    · have hG2 : G = .ok ps [] := by rw [← HJ.out, hq, binP]; simp [joinP]
      subst hG2
      have z1 : (0 < q.length) = False := eq_false (by rw [hq]; simp)
      clear HJ hq
      go_wp2
      go_ret2
      exact ⟨HB.out, _, rfl, HO.out⟩
    have z1 : (0 < q.length) = True := eq_true (by rw [hq]; simp)
    have C := step_any w A2 c2 q (by rw [hq]; simp) wr HR2.out HB.out HQ2.out hmq
    cases hst : stepP q with
    | form =>
      have hG2 : G = .form := by rw [← HJ.out, hq]; rw [hq] at hst; exact joinP_form ps f y q2 hst
      subst hG2
      rw [hst] at C
      clear HJ hq hst
      go_wp2_with (first
        | ((with_reducible refine gate_dst (N := 5) rfl ?_); refine box_event ?hg (N := 5) ?hd (cs := #[.bool false, .slice none 0 0]) (t := 36) ?hr ?_; (case hd => rfl); (case hg => rfl); (case hr => first | (go_simp; done) | (go_simp; rfl)); intro gb hg w5 hbox hb; have GE := Aside0.mk ((by rw [hg]; exact (below_size (by repeat (first | (with_reducible first | exact HB.out | apply below_alloc | apply pw_below_drewN | apply below_drew1) | exact HB.out)))) : w.heap.size ≤ gb); have GN := Aside0.mk hg; have HW5 := Aside0.mk hb; have n0_ := Aside0.mk (below_step (by repeat (first | (with_reducible first | exact HB.out | apply below_alloc | apply pw_below_drewN | apply below_drew1) | exact HB.out)) hb); have BK := Aside0.mk hbox; clear HB; have HB := n0_; clear n0_ hb hbox hg; have hcz0 : w5.cell? ⟨gb, 0, none⟩ = some (.bool false) := (blk_cell BK.out 0).trans rfl; have hcz1 : w5.cell? ⟨gb, 1, none⟩ = some (.slice none 0 0) := (blk_cell BK.out 1).trans rfl; have hfz0 := blk_frozen BK.out 0; have hfz1 := blk_frozen BK.out 1)
        | (go_at_call 27; refine C.mono ?_; clear C; rintro e w7 ⟨hb, d7, A7, n7, c7, rfl⟩; have HB2 := Aside0.mk (below_step (by repeat (first | (with_reducible first | exact HB.out | apply below_alloc | apply pw_below_drewN | apply below_drew1) | exact HB.out)) hb); clear HB; have HB := HB2; clear HB2 hb))
      go_ret2
      exact ⟨(by repeat (first | (with_reducible first | exact HB.out | apply below_alloc | apply pw_below_drewN | apply below_drew1 | refine below_set ?_ GE.out) | exact HB.out)), rfl⟩
    | short =>
      have hG2 : G = .short := by rw [← HJ.out, hq]; rw [hq] at hst; exact joinP_short ps f y q2 hst
      subst hG2
      rw [hst] at C
      clear HJ hq hst
      go_wp2_with (first
        | ((with_reducible refine gate_dst (N := 5) rfl ?_); refine box_event ?hg (N := 5) ?hd (cs := #[.bool false, .slice none 0 0]) (t := 36) ?hr ?_; (case hd => rfl); (case hg => rfl); (case hr => first | (go_simp; done) | (go_simp; rfl)); intro gb hg w5 hbox hb; have GE := Aside0.mk ((by rw [hg]; exact (below_size (by repeat (first | (with_reducible first | exact HB.out | apply below_alloc | apply pw_below_drewN | apply below_drew1) | exact HB.out)))) : w.heap.size ≤ gb); have GN := Aside0.mk hg; have HW5 := Aside0.mk hb; have n0_ := Aside0.mk (below_step (by repeat (first | (with_reducible first | exact HB.out | apply below_alloc | apply pw_below_drewN | apply below_drew1) | exact HB.out)) hb); have BK := Aside0.mk hbox; clear HB; have HB := n0_; clear n0_ hb hbox hg; have hcz0 : w5.cell? ⟨gb, 0, none⟩ = some (.bool false) := (blk_cell BK.out 0).trans rfl; have hcz1 : w5.cell? ⟨gb, 1, none⟩ = some (.slice none 0 0) := (blk_cell BK.out 1).trans rfl; have hfz0 := blk_frozen BK.out 0; have hfz1 := blk_frozen BK.out 1)
        | (go_at_call 27; refine C.mono ?_; clear C; rintro e w7 ⟨hb, d7, A7, n7, c7, rfl⟩; have HB2 := Aside0.mk (below_step (by repeat (first | (with_reducible first | exact HB.out | apply below_alloc | apply pw_below_drewN | apply below_drew1) | exact HB.out)) hb); clear HB; have HB := HB2; clear HB2 hb))
      go_ret2
      exact ⟨(by repeat (first | (with_reducible first | exact HB.out | apply below_alloc | apply pw_below_drewN | apply below_drew1 | refine below_set ?_ GE.out) | exact HB.out)), rfl⟩
    | ok s q3 =>
      have hG2 : joinP (ps ++ [s]) (binP f q3) = G := by rw [← HJ.out, hq]; rw [hq] at hst; exact (joinP_cons ps f y q2 q3 s hst).symm
      have hsh : q3.length < q.length := by rw [hq] at hst ⊢; exact stepP_shorter hst
      have HJ2 := Aside0.mk hG2
      have HSH := Aside0.mk hsh
      rw [hst] at C
      clear HJ hq hst hG2 hsh
      have hml : (ps.map ofP).length ≤ 1099511627776 := by rw [List.length_map]; have := HLN.out; omega
      have HML := Aside0.mk hml
      clear hml
      go_wp2_with (go_at_call 27; refine C.mono ?_)
      rintro e w7 ⟨hb, V1, A3, c3, rfl, h1, h2, h3⟩
      obtain ⟨A8, c8, rfl⟩ := Kd.R_slice h3
      have H1 := Aside0.mk h1
      have H2 := Aside0.mk h2
      have H3 : Aside0 (Kd.R (Kd.int .i64) 3 w7 w.heap.size (fun k => True ∧ some k ≠ u4.ownBlock) (.slice A8 s.lits.length c8) s.lits) := by
        obtain ⟨inner, ho⟩ := Kd.R_own HO.out
        exact ⟨Kd.R_lower (Kd.R_new h3 ho) HB.out.size⟩
      have HO2 := Aside0.mk (Kd.R_below HO.out hb)
      have HB2 := Aside0.mk (below_step HB.out hb)
      clear HO HB h1 h2 h3 hb C
      have HO := HO2
      have HB := HB2
      clear HO2 HB2
      go_wp2_with (first
        | ((with_reducible refine gate_dst (N := 5) rfl ?_); refine box_event ?hg (N := 5) ?hd (cs := #[.bool false, .slice none 0 0]) (t := 36) ?hr ?_; (case hd => rfl); (case hg => rfl); (case hr => first | (go_simp; done) | (go_simp; rfl)); intro gb hg w5 hbox hb; have GE := Aside0.mk ((by rw [hg]; exact (below_size (by repeat (first | (with_reducible first | exact HB.out | apply below_alloc | apply pw_below_drewN | apply below_drew1) | exact HB.out)))) : w.heap.size ≤ gb); have GN := Aside0.mk hg; have HW5 := Aside0.mk hb; have n0_ := Aside0.mk (below_step (by repeat (first | (with_reducible first | exact HB.out | apply below_alloc | apply pw_below_drewN | apply below_drew1) | exact HB.out)) hb); have BK := Aside0.mk hbox; clear HB; have HB := n0_; clear n0_ hb hbox hg; have hcz0 : w5.cell? ⟨gb, 0, none⟩ = some (.bool false) := (blk_cell BK.out 0).trans rfl; have hcz1 : w5.cell? ⟨gb, 1, none⟩ = some (.slice none 0 0) := (blk_cell BK.out 1).trans rfl; have hfz0 := blk_frozen BK.out 0; have hfz1 := blk_frozen BK.out 1)
        | ((with_reducible refine gate_builtin (b := .append) (xs := #[.tmp 20, .tmp 22]) rfl ?_); at_builtin; refine Kd.R_append k36 (w0 := w) w.heap.size rfl (.tmp 20) (.tmp 22) 23 36 (.agg #[(.bool false), (.slice none 0 0)]) 32 rfl Tryd.underlying23 info36 rfl (by decide) (by decide) _ (ps.map ofP) (ofP s) [.bool s.del, .slice A8 s.lits.length c8] (fun _ => True) (fun k => True ∧ some k ≠ u4.ownBlock) rfl ?aX ?aP (fun _ hk => hk) (fun _ _ => trivial) ?aO ?aB ?aS ?aL ?_; (case aX => first | rfl | (simp [Act.eval]; done)); (case aL => have := HML.out; omega); (case aO => exact Kd.R_below HO.out (by repeat (first | exact HW5.out | refine below_set ?_ (by rw [GN.out]; exact Nat.le_refl _)))); (case aP => exact k36_mkM _ _ _ (ofP s) (Kd.R_below H3.out (by repeat (first | exact HW5.out | refine below_set ?_ (by rw [GN.out]; exact Nat.le_refl _))))); (case aB => exact (by repeat (first | (with_reducible first | exact HB.out | apply below_alloc | apply pw_below_drewN | apply below_drew1 | refine below_set ?_ GE.out) | exact HB.out))); (case aS => exact (below_size (by repeat (first | (with_reducible first | exact HB.out | apply below_alloc | apply pw_below_drewN | apply below_drew1 | refine below_set ?_ GE.out) | exact HB.out))))))
      intro v1 w1 ho hb hg hat
      have e1 : ps.map ofP ++ [ofP s] = (ps ++ [s]).map ofP := by simp
      rw [e1] at ho
      have HO2 := Aside0.mk ho
      have HB2 := Aside0.mk hb
      clear HO HB BK GE GN HW5 hcz0 hcz1 hfz0 hfz1 hb hg hat ho e1
      go_wp2
      go_roundg q3.length
      case measure => have := HSH.out; have := HGK.out; omega
      case rel => exact ⟨q3, A3, c3, f, ps ++ [s], rfl, ⟨rfl⟩, H1, ⟨by have := HSH.out; have := HQF.out; omega⟩, ⟨by have := HSH.out; have := HLN.out; simp; omega⟩, H2, HJ2, HO2, HB2⟩

end Go.Proofs.YtefppfgcgcfleaaDoor
