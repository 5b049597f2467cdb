import Derived.Test.YtdbdilajjmijaaaDoorDnLight
namespace Go.Proofs.YtdbdilajjmijaaaDoor
open Go Go.RowKit Go.Proofs.YtdbdilajjmijaaaDoorW.PrintWords Go.Proofs.YtdbdilajjmijaaaDoorW.PrintLast Go.Proofs.YtdbdilajjmijaaaDoorW.PrintMore PDimacsBack

/-! DimacsBack -/
theorem lits_len (V : Nat) (hV : V ≤ 100000) : ∀ (d : List Int), (∀ l ∈ d, l ≠ 0 ∧ max l (-l) ≤ (V : Int)) → (litsT d).length ≤ 13 * d.length
  | [], _ => by simp [litsT]
  | l :: d, h => by
    have h0 := h l (by simp)
    have h1 := itoa_len_small l (by omega) (by omega)
    have h2 := lits_len V hV d (fun x hx => h x (by simp [hx]))
    unfold litsT at h2 ⊢
    rw [List.flatMap_cons, List.length_append]
    simp only [List.length_append, List.length_cons, List.length_nil]
    omega
theorem form_len {V b : Nat} (hV : V ≤ 100000) (hb : b ≤ 1000) : ∀ (cs : List (List Int)), (∀ d ∈ cs, GoodC V b d) → (clsT cs).length ≤ cs.length * 13002
  | [], _ => by simp [clsT]
  | d :: cs, h => by
    have h0 := h d (by simp)
    have h1 := lits_len V hV d h0.1
    have h2 := form_len hV hb cs (fun x hx => h x (by simp [hx]))
    have h3 := h0.2
    unfold clsT at h2 ⊢
    rw [List.flatMap_cons, List.length_append, List.length_append, List.length_cons (a := d), Nat.succ_mul]
    simp only [List.length_cons, List.length_nil]
    omega
theorem text_small {V b : Nat} {cs : List (List Int)} (hV : V ≤ 100000) (hb : b ≤ 1000) (hn : cs.length ≤ 60) (h : ∀ d ∈ cs, GoodC V b d) : (formT V cs).length ≤ 1000000 := by
  rw [formT_eq, List.length_append]
  have h1 := form_len hV hb cs h
  have ex1 := itoa_len_small (V : Int) (by omega) (by omega)
  have ex2 := itoa_len_small (cs.length : Int) (by omega) (by omega)
  unfold hdT headT
  simp only [List.length_append, List.length_cons, List.length_nil]
  omega
theorem good_bounds {V b : Nat} {cs : List (List Int)} (hV : V ≤ 100000) (h : ∀ d ∈ cs, GoodC V b d) : ∀ d ∈ cs, ∀ l ∈ d, -1000000000 ≤ l ∧ l ≤ 1000000000 := fun d hd l hl => by have := (h d hd).1 l hl; omega

set_option maxRecDepth 100000 in
set_option maxHeartbeats 4000000 in
theorem back_any (u : Int) (hu : 0 ≤ u ∧ u ≤ 255) (A : Option Addr) (c : Nat) (l : List (List Int)) (hc : l.length ≤ c) (w : World) (hr : Kd.C kRaw w A l.length l) (hl : l.length ≤ 140737488355328) (hs : ∀ r ∈ l, r.length ≤ 140737488355328) (E : Env w) :
    Calls Tryd.prog 3 #[.agg #[.int .u8 u, .slice A l.length c]] w (Said w (.bool true)) := by
  have hu1 := Tryd.underlying24
  have hu2 := Tryd.underlying29
  have HR := Aside0.mk hr
  have HE := Aside0.mk E
  have HS := Aside0.mk hs
  have hsp := fun h => lightB_spec (K := 60) (l := l) h
  have C0 := fun W (e : Env W) => fit_any W e
  have CL := fun W (h : Kd.C kRaw W A l.length l) => light_any u A c l 60 W h (by omega) hl hs
  have HB := Aside0.mk ((Below.refl w.heap.size w).alloc (Nat.le_refl _) (.cells #[.int .u8 u, .slice A l.length c] 24))
  have HX := Aside0.mk (heap_alloc_new w (.cells #[.int .u8 u, .slice A l.length c] 24))
  have HCL := Aside0.mk CL
  have HC0 := Aside0.mk C0
  generalize lightB 60 l = bb at *
  clear hr E hs CL C0
  go_enter Tryd.func3, Tryd.ntmps3
  go_wp2_with (go_at_call 8; refine (HC0.out _ (HE.out.below HB.out)).mono ?_)
  rintro e w2 ⟨rfl, hb⟩
  have HX2 := Aside0.mk (blk_below HX.out hb)
  have HB2 := Aside0.mk (below_step (by repeat (first | (with_reducible first | exact HB.out | apply below_alloc | apply pw_below_drewN | apply below_drew1) | exact HB.out)) hb); clear HB; have HB := HB2; clear HB2 hb
  have p0 : w2.cell? ⟨w.heap.size, 0, none⟩ = some (.int .u8 u) := (blk_cell HX2.out 0).trans rfl
  have p1 : w2.cell? ⟨w.heap.size, 1, none⟩ = some (.slice A l.length c) := (blk_cell HX2.out 1).trans rfl
  cases bb with
  | false =>
    clear hsp
    go_wp2_with (go_at_call 9; refine (HCL.out _ (Kd.C_below HR.out HB.out)).mono ?_)
    rintro e w3 ⟨rfl, hb⟩
    have HB2 := Aside0.mk (below_step (by repeat (first | (with_reducible first | exact HB.out | apply below_alloc | apply pw_below_drewN | apply below_drew1) | exact HB.out)) hb); clear HB; have HB := HB2; clear HB2 hb
    go_wp2
    go_ret
    exact ⟨rfl, HB.out⟩
  | true =>
    obtain ⟨hl60, hsum⟩ := hsp rfl
    go_wp2_with (go_at_call 9; refine (HCL.out _ (Kd.C_below HR.out HB.out)).mono ?_)
    rintro e w3 ⟨rfl, hb⟩
    have HX3 := Aside0.mk (blk_below HX2.out hb)
    have HB2 := Aside0.mk (below_step (by repeat (first | (with_reducible first | exact HB.out | apply below_alloc | apply pw_below_drewN | apply below_drew1) | exact HB.out)) hb); clear HB; have HB := HB2; clear HB2 hb
    have p0 : w3.cell? ⟨w.heap.size, 0, none⟩ = some (.int .u8 u) := (blk_cell HX3.out 0).trans rfl
    have p1 : w3.cell? ⟨w.heap.size, 1, none⟩ = some (.slice A l.length c) := (blk_cell HX3.out 1).trans rfl
    obtain ⟨V, cs, hV, hcs, hg, CF⟩ := formula_any u hu A c l 200 20 (by omega) (by omega) w3 (Kd.C_below HR.out HB.out) hc (by omega) HS.out
    have hn : cs.length ≤ 60 := by omega
    have HF := Aside0.mk (good_formR hV (by omega) (by omega) (by omega) hg)
    have htx := text_small (b := 20) (by omega) (by omega) hn hg
    have HTX := Aside0.mk htx
    have HGB := Aside0.mk (good_bounds (b := 20) (by omega) hg)
    have HGL := Aside0.mk (fun d hd => Nat.le_trans (hg d hd).2 (show 20 ≤ 140737488355328 by decide))
    clear hcs hsum hg htx hsp HX2 HCL HC0
    go_wp2_with (go_at_call 10; refine CF.mono ?_)
    rintro e w4 ⟨hb, X, c', rfl, hc', hX⟩
    have HB2 := Aside0.mk (below_step (by repeat (first | (with_reducible first | exact HB.out | apply below_alloc | apply pw_below_drewN | apply below_drew1) | exact HB.out)) hb); clear HB; have HB := HB2; clear HB2 hb
    have HXR := Aside0.mk hX
    clear hX CF
    obtain ⟨W5, hW5⟩ : ∃ W5, W5 = w4.alloc (.cells #[.int .i64 (V : Int), .slice X cs.length c'] 29) := ⟨_, rfl⟩
    have hb : Below w4.heap.size w4 W5 := by rw [hW5]; exact (Below.refl _ _).alloc (Nat.le_refl _) _
    have HB5 := Aside0.mk (below_step HB.out hb)
    have HX5 := Aside0.mk (Kd.C_below HXR.out hb)
    have HK5 : Aside0 (W5.heap[w4.heap.size]? = some (.cells #[.int .i64 (V : Int), .slice X cs.length c'] 29 (0, 0))) := ⟨by rw [hW5]; exact heap_alloc_new w4 _⟩
    have k0 : W5.cell? ⟨w4.heap.size, 0, none⟩ = some (.int .i64 (V : Int)) := (blk_cell HK5.out 0).trans rfl
    have k1 : W5.cell? ⟨w4.heap.size, 1, none⟩ = some (.slice X cs.length c') := (blk_cell HK5.out 1).trans rfl
    have HW5 := Aside0.mk hW5
    clear hb hW5
    have CP := print_any X c' V cs W5 HX5.out (by omega) (by omega) HGB.out (by have := HTX.out; omega) (HE.out.below HB5.out)
    go_upto_region 6 with (fail)
    rw [← HW5.out]
    go_wp2_with (go_at_call 11; refine CP.mono ?_)
    rintro e w6 ⟨rfl, hb⟩
    have HB6 := Aside0.mk (below_step HB5.out hb)
    have HX6 := Aside0.mk (Kd.C_below HX5.out hb)
    have HK6 := Aside0.mk (blk_below HK5.out hb)
    clear hb CP
    have CQ := parse_any (formT V cs) w6 (by have := HTX.out; omega) (HE.out.below HB6.out)
    rw [parseR_formT HF.out] at CQ
    have hst : strV (formT V cs) = .string (bs (formT V cs)) := rfl
    rw [hst] at CQ
    clear hst
    have CT := fun W (h : Kd.C kForm W X cs.length cs) (e : Env W) => told_any X c' V cs W h (by omega) (by omega) HGB.out (by have := HTX.out; omega) e
    have HCT := Aside0.mk CT
    clear CT
    generalize bs (formT V cs) = T at *
    go_wp2_with (go_at_call 12; refine CQ.mono ?_)
    rintro e w7 ⟨hb, Y, rfl, hY⟩
    have HB7 := Aside0.mk (below_step HB6.out hb)
    have HX7 := Aside0.mk (Kd.C_below HX6.out hb)
    have HK7 := Aside0.mk (blk_below HK6.out hb)
    dsimp only at hY
    obtain ⟨Ya, Yc, rfl, hYc, hYC⟩ := Kd.R_reads hY
    dsimp only
    clear hY CQ
    obtain ⟨W8, hW8⟩ : ∃ W8, W8 = w7.alloc (.cells #[.int .i64 (V : Int), .slice Ya cs.length Yc] 29) := ⟨_, rfl⟩
    have hb : Below w7.heap.size w7 W8 := by rw [hW8]; exact (Below.refl _ _).alloc (Nat.le_refl _) _
    have HB8 := Aside0.mk (below_step HB7.out hb)
    have HX8 := Aside0.mk (Kd.C_below HX7.out hb)
    have HY8 := Aside0.mk (Kd.C_below hYC hb)
    have HK8 := Aside0.mk (blk_below HK7.out hb)
    have HL8 : Aside0 (W8.heap[w7.heap.size]? = some (.cells #[.int .i64 (V : Int), .slice Ya cs.length Yc] 29 (0, 0))) := ⟨by rw [hW8]; exact heap_alloc_new w7 _⟩
    have k0 : W8.cell? ⟨w4.heap.size, 0, none⟩ = some (.int .i64 (V : Int)) := (blk_cell HK8.out 0).trans rfl
    have k1 : W8.cell? ⟨w4.heap.size, 1, none⟩ = some (.slice X cs.length c') := (blk_cell HK8.out 1).trans rfl
    have HW8 := Aside0.mk hW8
    clear hb hW8 hYC
    have CT := HCT.out W8 HX8.out (HE.out.below HB8.out)
    clear HCT
    go_upto_region 8 with (fail)
    rw [← HW8.out]
    go_wp2_with (go_at_call 13; refine CT.mono ?_)
    rintro e w9 ⟨rfl, hb⟩
    have HB9 := Aside0.mk (below_step HB8.out hb)
    have HX9 := Aside0.mk (Kd.C_below HX8.out hb)
    have HY9 := Aside0.mk (Kd.C_below HY8.out hb)
    have HK9 := Aside0.mk (blk_below HK8.out hb)
    have HL9 := Aside0.mk (blk_below HL8.out hb)
    have k0 : w9.cell? ⟨w4.heap.size, 0, none⟩ = some (.int .i64 (V : Int)) := (blk_cell HK9.out 0).trans rfl
    have k1 : w9.cell? ⟨w4.heap.size, 1, none⟩ = some (.slice X cs.length c') := (blk_cell HK9.out 1).trans rfl
    have l0 : w9.cell? ⟨w7.heap.size, 0, none⟩ = some (.int .i64 (V : Int)) := (blk_cell HL9.out 0).trans rfl
    have l1 : w9.cell? ⟨w7.heap.size, 1, none⟩ = some (.slice Ya cs.length Yc) := (blk_cell HL9.out 1).trans rfl
    clear hb CT
    have CS := same_any V V X Ya c' Yc cs cs w9 HX9.out hc' HY9.out hYc (by omega) HGL.out
    rw [show decide ((V : Int) = V ∧ cs = cs) = true by simp] at CS
    go_wp2_with (go_at_call 14; refine CS.mono ?_)
    rintro e w10 ⟨rfl, hb⟩
    go_wp2
    go_ret
    exact ⟨rfl, below_step HB9.out hb⟩
end Go.Proofs.YtdbdilajjmijaaaDoor
