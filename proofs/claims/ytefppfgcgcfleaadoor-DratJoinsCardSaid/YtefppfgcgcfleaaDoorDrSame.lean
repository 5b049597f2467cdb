import Derived.Test.YtefppfgcgcfleaaDoorDrKd
import Derived.Deep.QuietTactic
namespace Go.Proofs.YtefppfgcgcfleaaDoor
open Go Go.RowKit Go.Proofs.YtefppfgcgcfleaaDoorW.PrintWords Go.Proofs.YtefppfgcgcfleaaDoorW.PrintLast Go.Proofs.YtefppfgcgcfleaaDoorW.PrintMore PDratJoins

theorem take_eq_snoc {α : Type} {xs ys : List α} {j : Nat} (h1 : j < xs.length) (h2 : j < ys.length) (z : α) (h : xs.take j = ys.take j) (e : nth xs z j = nth ys z j) : xs.take (j + 1) = ys.take (j + 1) := by
  rw [take_snoc h1 z, take_snoc h2 z, h, e]

set_option maxRecDepth 100000 in
set_option maxHeartbeats 1600000 in
theorem eq_any (A0 A1 : Option Addr) (c0 c1 : Nat) (xs ys : List Int) (w : World) (hr : Kd.C (Kd.int .i64) w A0 xs.length xs) (hs : Kd.C (Kd.int .i64) w A1 ys.length ys) :
    Calls Tryd.prog 36 #[.slice A0 xs.length c0, .slice A1 ys.length c1] w (Said w (.bool (decide (xs = ys)))) := by
  have hm := hr.2.1
  have hm2 := hs.2.1
  have HR := Aside0.mk hr
  have HS := Aside0.mk hs
  clear hr hs
  by_cases hl : xs.length = ys.length
  · have q0 : ((xs.length : Int) != (ys.length : Int)) = false := by simp [hl]
    go_enter Tryd.func36, Tryd.ntmps36
    go_wp2
    go_loopg [13] xs.length (fun gk v13 w' => ∃ j : Nat, v13 = .int .i64 j ∧ j + gk = xs.length ∧ Aside0 (xs.take j = ys.take j) ∧ Aside0 (Below w.heap.size w w'))
    case atStart => exact ⟨0, rfl, by omega, ⟨rfl⟩, ⟨Below.refl _ _⟩⟩
    case round =>
      obtain ⟨j, rfl, hj, HA, HB⟩ := hrel
      by_cases hjl : j < xs.length
      · obtain ⟨ad, e0, hx⟩ := at_num HR.out j hjl
        obtain ⟨ad2, e2, hy⟩ := at_num HS.out j (by omega)
        cases e0
        cases e2
        replace hx := (HB.out.cell (World.block_lt_of_cell? w _ hx)).trans hx
        replace hy := (HB.out.cell (World.block_lt_of_cell? w _ hy)).trans hy
        have q1 : ((j : Int) < (xs.length : Int)) = True := eq_true (by omega)
        have q2 : (0 ≤ (j : Int)) = True := eq_true (by omega)
        have q3 : ((j : Int) < (ys.length : Int)) = True := eq_true (by omega)
        have hT := Aside0.mk (take_eq_snoc (z := 0) hjl (by omega : j < ys.length) HA.out)
        by_cases he : nth xs 0 j = nth ys 0 j
        · have hT2 := Aside0.mk (hT.out he)
          have q4 : (nth xs 0 j != nth ys 0 j) = false := by simp [he]
          clear he hT
          generalize nth xs 0 j = x at *
          generalize nth ys 0 j = y at *
          go_wp2
          go_quiet (fail)
          go_wp2
          go_roundg (xs.length - (j + 1))
          case measure => omega
          case rel => exact ⟨j + 1, by go_num, by omega, hT2, ⟨(by repeat (first | (with_reducible first | exact HB.out | apply below_alloc | apply pw_below_drewN | apply below_drew1) | exact HB.out))⟩⟩
        · have hne : decide (xs = ys) = false := by
            rw [decide_eq_false_iff_not]
            rintro rfl
            exact he rfl
          rw [hne]
          have q4 : (nth xs 0 j != nth ys 0 j) = true := by simp [he]
          clear he hT hne
          generalize nth xs 0 j = x at *
          generalize nth ys 0 j = y at *
          go_wp2
          go_quiet (fail)
          go_wp2
          go_ret
          exact ⟨rfl, (by repeat (first | (with_reducible first | exact HB.out | apply below_alloc | apply pw_below_drewN | apply below_drew1) | exact HB.out))⟩
      · have q1 : ((j : Int) < (xs.length : Int)) = False := eq_false (by omega)
        have hT : xs.take j = xs := List.take_of_length_le (by omega)
        have hT2 : ys.take j = ys := List.take_of_length_le (by omega)
        have HA2 := HA.out
        rw [hT, hT2] at HA2
        have hd : decide (xs = ys) = true := by rw [decide_eq_true_eq]; exact HA2
        clear HA2 HA hT hT2
        have Hd := Aside0.mk hd
        clear hd
        go_wp2
        go_ret
        exact ⟨by rw [Hd.out]; rfl, HB.out⟩
  · have q0 : ((xs.length : Int) != (ys.length : Int)) = true := by simp; omega
    have hne : decide (xs = ys) = false := by
      rw [decide_eq_false_iff_not]
      rintro rfl
      exact hl rfl
    rw [hne]
    clear hne
    go_enter Tryd.func36, Tryd.ntmps36
    go_wp2
    go_ret
    exact ⟨rfl, Below.refl _ _⟩

def sameS (s t : S36) : Bool := (s.f0 == t.f0) && decide (s.f1 = t.f1)
theorem sameS_iff {s t : S36} : sameS s t = true ↔ s = t := by
  obtain ⟨a, b⟩ := s
  obtain ⟨c, d⟩ := t
  simp [sameS]

set_option maxRecDepth 100000 in
set_option maxHeartbeats 1600000 in
theorem clo_any (s t : S36) (A1 A2 : Option Addr) (c1 c2 : Nat) (w : World) (hr : Kd.C (Kd.int .i64) w A1 s.f1.length s.f1) (hs : Kd.C (Kd.int .i64) w A2 t.f1.length t.f1) :
    Calls Tryd.prog 35 #[.agg #[.bool s.f0, .slice A1 s.f1.length c1], .agg #[.bool t.f0, .slice A2 t.f1.length c2]] w (Said w (.bool (sameS s t))) := by
  obtain ⟨a, xs⟩ := s
  obtain ⟨b, ys⟩ := t
  simp only at hr hs ⊢
  have HR := Aside0.mk hr
  have HS := Aside0.mk hs
  have HB := Aside0.mk (Below.refl w.heap.size w)
  clear hr hs
  unfold sameS
  simp only
  generalize hd : decide (xs = ys) = d
  have Hd := Aside0.mk hd
  clear hd
  cases a <;> cases b
  all_goals
    go_enter Tryd.func35, Tryd.ntmps35
    go_wp2_with (first | (go_at_call 36; refine (eq_any _ _ _ _ _ _ _ (Kd.C_below HR.out (by repeat (first | (with_reducible first | exact HB.out | apply below_alloc | apply pw_below_drewN | apply below_drew1) | exact HB.out))) (Kd.C_below HS.out (by repeat (first | (with_reducible first | exact HB.out | apply below_alloc | apply pw_below_drewN | apply below_drew1) | exact HB.out)))).mono ?_; rw [Hd.out]; rintro e w1 ⟨rfl, hb⟩; have HB2 := Aside0.mk (below_step (by repeat (first | (with_reducible first | exact HB.out | apply below_alloc | apply pw_below_drewN | apply below_drew1) | exact HB.out)) hb); clear HB; have HB := HB2; clear HB2 hb))
    go_ret
    first
      | exact ⟨rfl, (by repeat (first | (with_reducible first | exact HB.out | apply below_alloc | apply pw_below_drewN | apply below_drew1) | exact HB.out))⟩
      | exact ⟨by simp, (by repeat (first | (with_reducible first | exact HB.out | apply below_alloc | apply pw_below_drewN | apply below_drew1) | exact HB.out))⟩

noncomputable def sameQ (p q : List S36) : Bool := @decide (p = q) (Classical.propDecidable _)
theorem sameQ_iff {p q : List S36} : sameQ p q = true ↔ p = q := by unfold sameQ; exact @decide_eq_true_iff _ (Classical.propDecidable _)
theorem sameQ_false {p q : List S36} (h : p ≠ q) : sameQ p q = false := by
  cases hb : sameQ p q
  · rfl
  · exact absurd (sameQ_iff.1 hb) h

set_option maxRecDepth 100000 in
set_option maxHeartbeats 1600000 in
theorem eqFunc_any (A0 B0 : Option Addr) (c0 d0 : Nat) (p q : List S36) (w : World) (hr : Kd.C k36 w A0 p.length p) (hs : Kd.C k36 w B0 q.length q) :
    Calls Tryd.prog 34 #[.slice A0 p.length c0, .slice B0 q.length d0, .func (.func 35) #[] #[]] w (Said w (.bool (sameQ p q))) := by
  have hm := hr.2.1
  have hm2 := hs.2.1
  have hu := Tryd.underlying36
  have HR := Aside0.mk hr
  have HS := Aside0.mk hs
  clear hr hs
  by_cases hl : p.length = q.length
  · have q0 : ((p.length : Int) != (q.length : Int)) = false := by simp [hl]
    have HLn := Aside0.mk hl
    clear hl
    go_enter Tryd.func34, Tryd.ntmps34
    go_wp2
    go_loopg [17] p.length (fun gk v17 w' => ∃ j : Nat, v17 = .int .i64 j ∧ j + gk = p.length ∧ Aside0 (p.take j = q.take j) ∧ Aside0 (Below w.heap.size w w'))
    case atStart => exact ⟨0, rfl, by omega, ⟨rfl⟩, ⟨Below.refl _ _⟩⟩
    case round =>
      obtain ⟨j, rfl, hj, HA, HB⟩ := hrel
      by_cases hjl : j < p.length
      · obtain ⟨ad, A1, c1, e0, hx0, hx1, hl1, hi1⟩ := at_step HR.out j hjl
        obtain ⟨ad2, A2, c2, e2, hy0, hy1, hl2, hi2⟩ := at_step HS.out j (by have := HLn.out; omega)
        cases e0
        cases e2
        have hjq : j < q.length := by have := HLn.out; omega
        replace hx0 := (HB.out.cell (World.block_lt_of_cell? w _ hx0)).trans hx0
        replace hx1 := (HB.out.cell (World.block_lt_of_cell? w _ hx1)).trans hx1
        have hyl0 := Aside0.mk (World.block_lt_of_cell? w _ hy0)
        have hyl1 := Aside0.mk (World.block_lt_of_cell? w _ hy1)
        have Hy0 := Aside0.mk hy0
        have Hy1 := Aside0.mk hy1
        have HI := Aside0.mk hi1
        have HI2 := Aside0.mk hi2
        have q1 : ((j : Int) < (p.length : Int)) = True := eq_true (by omega)
        have q2 : (0 ≤ (j : Int)) = True := eq_true (by omega)
        have q3 : ((j : Int) < (q.length : Int)) = True := eq_true (by omega)
        have hT := Aside0.mk (take_eq_snoc (z := z36) hjl hjq HA.out)
        have hF : Aside0 (nth p z36 j ≠ nth q z36 j → p ≠ q) := ⟨fun h e => h (by rw [e])⟩
        clear hi1 hi2 hl1 hl2 hy0 hy1
        generalize nth p z36 j = s at *
        generalize nth q z36 j = t at *
        go_wp2_with (first
          | (((with_reducible refine gate_dst (N := 8) rfl ?_); refine box_event ?hg (N := 8) ?hd (cs := #[.bool false, .slice none 0 0]) (t := 36) ?hr ?_; (case hd => rfl); (case hg => rfl); (case hr => first | (go_simp; done) | (go_simp; rfl)); intro gb hg w5 hbox hb; have GE := Aside0.mk ((by rw [hg]; exact (below_size (by repeat (first | (with_reducible first | exact HB.out | apply below_alloc | apply pw_below_drewN | apply below_drew1) | exact HB.out)))) : w.heap.size ≤ gb); have GN := Aside0.mk hg; have HW5 := Aside0.mk hb; have n0_ := Aside0.mk (below_step (by repeat (first | (with_reducible first | exact HB.out | apply below_alloc | apply pw_below_drewN | apply below_drew1) | exact HB.out)) hb); have BK := Aside0.mk hbox; clear HB; have HB := n0_; clear n0_ hb hbox hg; have hcz0 : w5.cell? ⟨gb, 0, none⟩ = some (.bool false) := (blk_cell BK.out 0).trans rfl; have hcz1 : w5.cell? ⟨gb, 1, none⟩ = some (.slice none 0 0) := (blk_cell BK.out 1).trans rfl; have hfz0 := blk_frozen BK.out 0; have hfz1 := blk_frozen BK.out 1); have hbs : Below w.heap.size w ((w5.setCell ⟨gb, 0, none⟩ (.bool s.f0)).setCell ⟨gb, 1, none⟩ (.slice A1 s.f1.length c1)) := (by repeat (first | (with_reducible first | exact HB.out | apply below_alloc | apply pw_below_drewN | apply below_drew1 | refine below_set ?_ GE.out) | exact HB.out)); have hy0 := (hbs.cell hyl0.out).trans Hy0.out; have hy1 := (hbs.cell hyl1.out).trans Hy1.out; clear hbs)
          | ((with_reducible refine gate_dst (N := 9) rfl ?_); refine box_event ?hg (N := 9) ?hd (cs := #[.bool false, .slice none 0 0]) (t := 36) ?hr ?_; (case hd => rfl); (case hg => rfl); (case hr => first | (go_simp; done) | (go_simp; rfl)); intro gb2 hg w6 hbox hb; have BK6 := blk_below (blk_put (cs := #[.bool s.f0, .slice none 0 0]) (blk_put (cs := #[.bool false, .slice none 0 0]) BK.out 0 (.bool s.f0) rfl) 1 (.slice A1 s.f1.length c1) rfl) hb; have hlt := blk_lt BK6; have GE2 := Aside0.mk ((by rw [hg]; exact (below_size (by repeat (first | (with_reducible first | exact HB.out | apply below_alloc | apply pw_below_drewN | apply below_drew1 | refine below_set ?_ GE.out) | exact HB.out)))) : w.heap.size ≤ gb2); have hne : gb ≠ gb2 := (by have := blk_lt BK.out; rw [hg]; simp; omega); have n0_ := Aside0.mk (below_step (by repeat (first | (with_reducible first | exact HB.out | apply below_alloc | apply pw_below_drewN | apply below_drew1 | refine below_set ?_ GE.out) | exact HB.out)) hb); have BK2 := Aside0.mk hbox; have BK1 := Aside0.mk BK6; clear HB BK hcz0 hcz1 hfz0 hfz1 hlt; have HB := n0_; clear n0_ hb hbox hg; have hcz0 : w6.cell? ⟨gb2, 0, none⟩ = some (.bool false) := (blk_cell BK2.out 0).trans rfl; have hcz1 : w6.cell? ⟨gb2, 1, none⟩ = some (.slice none 0 0) := (blk_cell BK2.out 1).trans rfl; have hfz0 := blk_frozen BK2.out 0; have hfz1 := blk_frozen BK2.out 1; have hd0 : w6.cell? ⟨gb, 0, none⟩ = some (.bool s.f0) := (blk_cell BK6 0).trans rfl; have hd1 : w6.cell? ⟨gb, 1, none⟩ = some (.slice A1 s.f1.length c1) := (blk_cell BK6 1).trans rfl; clear BK6; have hne1 : (gb = gb2) = False := eq_false hne; have hne2 : (gb2 = gb) = False := eq_false (Ne.symm hne); clear hne)
          | (go_at_call 35; refine (clo_any s t A1 A2 c1 c2 _ (Kd.C_below HI.out (by repeat (first | (with_reducible first | exact HB.out | apply below_alloc | apply pw_below_drewN | apply below_drew1 | refine below_set ?_ GE2.out) | exact HB.out))) (Kd.C_below HI2.out (by repeat (first | (with_reducible first | exact HB.out | apply below_alloc | apply pw_below_drewN | apply below_drew1 | refine below_set ?_ GE2.out) | exact HB.out)))).mono ?_; rintro e w7 ⟨rfl, hb⟩; have HB2 := Aside0.mk (below_step (by repeat (first | (with_reducible first | exact HB.out | apply below_alloc | apply pw_below_drewN | apply below_drew1 | refine below_set ?_ GE2.out) | exact HB.out)) hb); clear HB; have HB := HB2; clear HB2 hb))
        · have hx : (!sameS s t) = true := by assumption
          have hne : sameQ p q = false := sameQ_false (hF.out fun e => by rw [sameS_iff.2 e] at hx; simp at hx)
          go_ret
          exact ⟨by rw [hne]; rfl, HB.out⟩
        · have hx : (!sameS s t) = false := by assumption
          have hst : s = t := sameS_iff.1 (by simpa using hx)
          go_roundg (p.length - (j + 1))
          case measure => omega
          case rel => exact ⟨j + 1, by go_num, by omega, ⟨hT.out hst⟩, HB⟩
      · have q1 : ((j : Int) < (p.length : Int)) = False := eq_false (by omega)
        have hT : p.take j = p := List.take_of_length_le (by omega)
        have hT2 : q.take j = q := List.take_of_length_le (by have := HLn.out; omega)
        have HA2 := HA.out
        rw [hT, hT2] at HA2
        have Hd := Aside0.mk (sameQ_iff.2 HA2)
        clear HA2 HA hT hT2
        go_wp2
        go_ret
        exact ⟨by rw [Hd.out]; rfl, HB.out⟩
  · have q0 : ((p.length : Int) != (q.length : Int)) = true := by simp; omega
    have hne : sameQ p q = false := sameQ_false (by rintro rfl; exact hl rfl)
    rw [hne]
    clear hne
    go_enter Tryd.func34, Tryd.ntmps34
    go_wp2
    go_ret
    exact ⟨rfl, Below.refl _ _⟩

set_option maxRecDepth 100000 in
set_option maxHeartbeats 1600000 in
theorem dr_same (A0 B0 : Option Addr) (c0 d0 : Nat) (p q : List S36) (w : World) (hr : Kd.C k36 w A0 p.length p) (hs : Kd.C k36 w B0 q.length q) :
    Calls Tryd.prog 23 #[.slice A0 p.length c0, .slice B0 q.length d0] w (Said w (.bool (sameQ p q))) := by
  have C := eqFunc_any A0 B0 c0 d0 p q w hr hs
  clear hr hs
  generalize sameQ p q = r at *
  go_enter Tryd.func23, Tryd.ntmps23
  go_wp2_with (first | (go_at_call 34; refine C.mono ?_; rintro e w1 ⟨rfl, HB⟩))
  go_ret
  exact ⟨rfl, HB⟩

end Go.Proofs.YtefppfgcgcfleaaDoor
