import Derived.Test.YtdbdilajjmijaaaGreatDoorDnPrint
import Derived.Test.YtdbdilajjmijaaaGreatDoorDnErrIs
namespace Go.Proofs.YtdbdilajjmijaaaGreatDoor
open Go Go.RowKit Go.Proofs.YtdbdilajjmijaaaGreatDoorW.PrintWords Go.Proofs.YtdbdilajjmijaaaGreatDoorW.PrintLast Go.Proofs.YtdbdilajjmijaaaGreatDoorW.PrintMore PDimacsCuts

/-! fit: the example. -/
def fitA : List UInt8 := [99, 32, 120, 10, 112, 32, 99, 110, 102, 32, 49, 32, 50, 10, 49, 32, 48, 32, 45, 49, 10, 48]
def fitB : List UInt8 := [112, 32, 99, 110, 102, 32, 49, 32, 49, 10, 50, 32, 48]
theorem parse_fitA : parseR fitA = .inr ⟨1, [[1], [-1]], 2, 2, [], true⟩ := by rfl
theorem parse_fitB : parseR fitB = .inl (2, 4) := by rfl
theorem form_fit : formT 1 [[1], [-1]] = [112, 32, 99, 110, 102, 32, 49, 32, 50, 10, 49, 32, 48, 10, 45, 49, 32, 48, 10] := by
  have h1 : Lib.itoa ((1 : Nat) : Int) = [49] := by unfold Lib.itoa; rw [if_neg (by decide), Lib.decDigits, dif_pos (by decide)]; rfl
  have h2 : Lib.itoa ((2 : Nat) : Int) = [50] := by unfold Lib.itoa; rw [if_neg (by decide), Lib.decDigits, dif_pos (by decide)]; rfl
  have h3 : Lib.itoa (1 : Int) = [49] := h1
  have h4 : Lib.itoa (-1 : Int) = [45, 49] := by unfold Lib.itoa; rw [if_pos (by decide), Lib.decDigits, dif_pos (by decide)]; rfl
  unfold formT headT clauseT
  simp only [List.length_cons, List.length_nil, Nat.zero_add, Nat.reduceAdd, List.flatMap_cons, List.flatMap_nil, h3, h4]
  rw [h1, h2]
  rfl

set_option maxRecDepth 100000 in
set_option maxHeartbeats 4000000 in
theorem fit_any (w : World) (E : Env w) : Calls Tryz.prog 4 #[] w (Said w (.bool true)) := by
  have hu := Tryz.underlying29
  have HE := Aside0.mk E
  have C1 := parse_any fitA w (by decide) E
  rw [parse_fitA] at C1
  have hA : strV fitA = .string ⟨#[99, 32, 120, 10, 112, 32, 99, 110, 102, 32, 49, 32, 50, 10, 49, 32, 48, 32, 45, 49, 10, 48]⟩ := rfl
  rw [hA] at C1
  have HB := Aside0.mk (Below.refl w.heap.size w)
  clear hA E
  go_enter Tryz.func4, Tryz.ntmps4
  go_wp2_with (go_at_call 8; refine C1.mono ?_)
  rintro e w2 ⟨hb, V, rfl, hr⟩
  clear C1
  have HR := Aside0.mk hr
  obtain ⟨A, c, rfl⟩ := Kd.R_slice hr
  have HB2 := Aside0.mk (below_step (by repeat (first | (with_reducible first | exact HB.out | apply below_alloc | apply pw_below_drewN | apply below_drew1) | exact HB.out)) hb); clear HB; have HB := HB2; clear HB2 hb
  clear hr
  have C2 := fun W (e : Env W) => parse_any fitB W (by decide) e
  rw [parse_fitB] at C2
  have hA : strV fitB = .string ⟨#[112, 32, 99, 110, 102, 32, 49, 32, 49, 10, 50, 32, 48]⟩ := rfl
  rw [hA] at C2
  have C2' := C2 (w2.alloc (.cells #[.int .i64 1, .slice A 2 c] 29)) (HE.out.below (below_alloc HB.out _))
  clear C2 hA
  go_wp2_with (go_at_call 8; refine C2'.mono ?_)
  rintro e w3 ⟨hb, b, rfl, hfault, hge⟩
  obtain ⟨W4, hW4⟩ : ∃ W4, W4 = w3.alloc (.cells #[.int .i64 0, .slice none 0 0] 29) := ⟨_, rfl⟩
  have hb4 : Below (w2.alloc (.cells #[.int .i64 1, .slice A 2 c] 29)).heap.size (w2.alloc (.cells #[.int .i64 1, .slice A 2 c] 29)) W4 := by
    rw [hW4]
    exact hb.alloc hb.size _
  have hbx : W4.heap[w2.heap.size]? = some (.cells #[.int .i64 1, .slice A 2 c] 29 (0, 0)) := blk_below (heap_alloc_new w2 _) hb4
  have p0 : W4.cell? ⟨w2.heap.size, 0, none⟩ = some (.int .i64 1) := (blk_cell hbx 0).trans rfl
  have p1 : W4.cell? ⟨w2.heap.size, 1, none⟩ = some (.slice A 2 c) := (blk_cell hbx 1).trans rfl
  have hfw : W4.heap[b]? = some (.cells #[.int .i64 2, .int .i64 4] 43 (0, 0)) := by
    rw [hW4]
    exact (Below.heap_alloc _ _ b (blk_lt hfault)).trans hfault
  have CI := is_fault b 0 4 W4 ((blk_cell hfw 1).trans rfl)
  have hb2 : Below w2.heap.size w2 W4 := ((Below.refl _ w2).alloc (Nat.le_refl _) _).trans (hb4.mono (by simp))
  have HB4 := Aside0.mk (below_step HB.out hb2)
  obtain ⟨g, c', e1, -, -, -⟩ := Kd.R_form HR.out (by decide)
  simp only [List.length_cons, List.length_nil, Value.slice.injEq] at e1
  obtain ⟨rfl, -, rfl⟩ := e1
  obtain ⟨-, hc2, hC⟩ := Kd.R_reads' HR.out
  have hC4 := Kd.C_below hC hb2
  obtain ⟨ad, A1, c1, e1, m1, hl1, hi1⟩ := at_clause hC4 1 (by decide)
  cases e1
  rw [add_off] at m1
  have m1 : W4.cell? ⟨g, 1, none⟩ = some (.slice A1 1 c1) := m1
  obtain ⟨ad1, rfl, m2⟩ := at_num hi1 0 (by decide)
  have m2 : W4.cell? ad1 = some (.int .i64 (-1)) := m2
  have CP := print_any (some ⟨g, 0, none⟩) c 1 [[1], [-1]] W4 hC4 (by decide) (by decide) (by decide) (by rw [form_fit]; decide) (HE.out.below HB4.out)
  have hf : (bs (formT 1 [[1], [-1]])).toList = [112, 32, 99, 110, 102, 32, 49, 32, 50, 10, 49, 32, 48, 10, 45, 49, 32, 48, 10] := by rw [toList_bs]; exact form_fit
  generalize bs (formT 1 [[1], [-1]]) = F at *
  have CP : Calls Tryz.prog 13 #[.agg #[.int .i64 1, .slice (some ⟨g, 0, none⟩) 2 c]] W4 (Said W4 (.string F)) := CP
  have HW4 := Aside0.mk hW4
  clear hb hb4 hbx hfw hfault hge hb2 hC hC4 hi1 hl1 hW4 C2' HR HB
  go_upto_region 3 with (fail)
  rw [← HW4.out]
  go_wp2_with (first
    | (go_at_call 12; refine CI.mono ?_; rintro e w' ⟨rfl, rfl⟩)
    | (go_at_call 13; refine CP.mono ?_; rintro e w5 ⟨rfl, hb⟩))
  go_ret
  exact ⟨rfl, below_step HB4.out hb⟩
end Go.Proofs.YtdbdilajjmijaaaGreatDoor
