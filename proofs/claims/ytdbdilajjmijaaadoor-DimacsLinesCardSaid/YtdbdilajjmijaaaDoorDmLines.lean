import Derived.Test.YtdbdilajjmijaaaDoorDmBack
import Derived.Test.YtdbdilajjmijaaaDoorDmLinesP
import Derived.Test.YtdbdilajjmijaaaDoorDmErrSet
namespace Go.Proofs.YtdbdilajjmijaaaDoor
open Go Go.RowKit Go.Proofs.YtdbdilajjmijaaaDoorW.PrintWords Go.Proofs.YtdbdilajjmijaaaDoorW.PrintLast Go.Proofs.YtdbdilajjmijaaaDoorW.PrintMore PDimacsBack

/-! DimacsLines -/
theorem badC_le (q : Nat) : badC q ≤ 5 := by unfold badC; split <;> decide
theorem badW_len (q : Nat) : (badW q).length ≤ 3 := by unfold badW; split <;> decide
theorem remT_len (n : Nat) : (remT n).length = 9 * n := by
  induction n with
  | zero => rfl
  | succ n ih =>
    have h9 : (remark ++ [10]).length = 9 := rfl
    rw [remT_succ, List.length_append, ih, h9]; omega

set_option maxRecDepth 100000 in
set_option maxHeartbeats 4000000 in
theorem lines_any (u : Int) (hu : 0 ≤ u ∧ u ≤ 255) (A : Option Addr) (c : Nat) (l : List (List Int)) (hc : l.length ≤ c) (ah : Int) (ha0 : 0 ≤ ah) (ha1 : ah ≤ 255) (wh : Int) (hw0 : 0 ≤ wh) (hw1 : wh ≤ 255) (w : World) (hr : Kd.C kRaw w A l.length l) (hl : l.length ≤ 140737488355328) (hs : ∀ r ∈ l, r.length ≤ 140737488355328) (E : Env w) (TY : TypOk w) :
    Calls Tryd.prog 5 #[.agg #[.int .u8 u, .slice A l.length c], .int .u8 ah, .int .u8 wh] w (Said w (.bool true)) := by
  have HTY := Aside0.mk TY
  have hu3 := Tryd.underlying50
  clear TY
  have hu1 := Tryd.underlying24
  have hu2 := Tryd.underlying29
  have HR := Aside0.mk hr
  have HE := Aside0.mk E
  have HS := Aside0.mk hs
  have hsp := fun h => lightB_spec (K := 40) (l := l) h
  have C0 := fun W (e : Env W) => fit_any W e
  have CL := fun W (h : Kd.C kRaw W A l.length l) => light_any u A c l 40 W h (by omega) hl hs
  have HB := Aside0.mk ((Below.refl w.heap.size w).alloc (Nat.le_refl _) (.cells #[.int .u8 u, .slice A l.length c] 24))
  have HX := Aside0.mk (heap_alloc_new w (.cells #[.int .u8 u, .slice A l.length c] 24))
  have HCL := Aside0.mk CL
  have HC0 := Aside0.mk C0
  generalize lightB 40 l = bb at *
  clear hr E hs CL C0
  go_enter Tryd.func5, Tryd.ntmps5
  go_wp2_with (go_at_call 8; refine (HC0.out _ (HE.out.below HB.out)).mono ?_)
  rintro e w2 ⟨rfl, hb⟩
  have HX2 := Aside0.mk (blk_below HX.out hb)
  have HB2 := Aside0.mk (below_step (by repeat (first | (with_reducible first | exact HB.out | apply below_alloc | apply pw_below_drewN | apply below_drew1) | exact HB.out)) hb); clear HB; have HB := HB2; clear HB2 hb
  have p0 : w2.cell? ⟨w.heap.size, 0, none⟩ = some (.int .u8 u) := (blk_cell HX2.out 0).trans rfl
  have p1 : w2.cell? ⟨w.heap.size, 1, none⟩ = some (.slice A l.length c) := (blk_cell HX2.out 1).trans rfl
  cases bb with
  | false =>
    clear hsp
    go_wp2_with (go_at_call 9; refine (HCL.out _ (Kd.C_below HR.out HB.out)).mono ?_)
    rintro e w3 ⟨rfl, hb⟩
    have HB2 := Aside0.mk (below_step (by repeat (first | (with_reducible first | exact HB.out | apply below_alloc | apply pw_below_drewN | apply below_drew1) | exact HB.out)) hb); clear HB; have HB := HB2; clear HB2 hb
    go_wp2
    go_ret
    exact ⟨rfl, HB.out⟩
  | true =>
    obtain ⟨hl60, hsum⟩ := hsp rfl
    go_wp2_with (go_at_call 9; refine (HCL.out _ (Kd.C_below HR.out HB.out)).mono ?_)
    rintro e w3 ⟨rfl, hb⟩
    have HX3 := Aside0.mk (blk_below HX2.out hb)
    have HB2 := Aside0.mk (below_step (by repeat (first | (with_reducible first | exact HB.out | apply below_alloc | apply pw_below_drewN | apply below_drew1) | exact HB.out)) hb); clear HB; have HB := HB2; clear HB2 hb
    have p0 : w3.cell? ⟨w.heap.size, 0, none⟩ = some (.int .u8 u) := (blk_cell HX3.out 0).trans rfl
    have p1 : w3.cell? ⟨w.heap.size, 1, none⟩ = some (.slice A l.length c) := (blk_cell HX3.out 1).trans rfl
    obtain ⟨V, cs, hV, hcs, hg, CF⟩ := formula_any u hu A c l 30 9 (by omega) (by omega) w3 (Kd.C_below HR.out HB.out) hc (by omega) HS.out
    have hn : cs.length ≤ 60 := by omega
    have hn40 : cs.length ≤ 40 := by omega
    have HF := Aside0.mk (good_formR hV (by omega) (by omega) (by omega) hg)
    have htx := text_small (b := 9) (by omega) (by omega) hn hg
    have HTX := Aside0.mk htx
    have HGB := Aside0.mk (good_bounds (b := 9) (by omega) hg)
    have HGL := Aside0.mk (fun d hd => Nat.le_trans (hg d hd).2 (show 9 ≤ 140737488355328 by decide))
    clear hcs hsum hg htx hsp HX2 HCL HC0
    go_wp2_with (go_at_call 10; refine CF.mono ?_)
    rintro e w4 ⟨hb, X, c', rfl, hc', hX⟩
    have HB2 := Aside0.mk (below_step (by repeat (first | (with_reducible first | exact HB.out | apply below_alloc | apply pw_below_drewN | apply below_drew1) | exact HB.out)) hb); clear HB; have HB := HB2; clear HB2 hb
    have HXR := Aside0.mk hX
    clear hX CF
    obtain ⟨W5, hW5⟩ : ∃ W5, W5 = w4.alloc (.cells #[.int .i64 (V : Int), .slice X cs.length c'] 29) := ⟨_, rfl⟩
    have hb : Below w4.heap.size w4 W5 := by rw [hW5]; exact (Below.refl _ _).alloc (Nat.le_refl _) _
    have HB5 := Aside0.mk (below_step HB.out hb)
    have HX5 := Aside0.mk (Kd.C_below HXR.out hb)
    have HK5 : Aside0 (W5.heap[w4.heap.size]? = some (.cells #[.int .i64 (V : Int), .slice X cs.length c'] 29 (0, 0))) := ⟨by rw [hW5]; exact heap_alloc_new w4 _⟩
    have HW5 := Aside0.mk hW5
    have HPB := Aside0.mk (fun n q hq => parse_bad (V := V) (cs := cs) HF.out n q hq)
    have hr9 : 0 ≤ ah % 9 ∧ ah % 9 ≤ 8 := by omega
    obtain ⟨n, hn9⟩ : ∃ n : Nat, ah % 9 = n := ⟨(ah % 9).toNat, by omega⟩
    have hn8 : n ≤ 8 := by omega
    clear hb hW5 HXR
    go_upto_region 6 with (fail)
    rw [← HW5.out]
    go_wp2
    clear hn9 hr9
    go_loopg [28, 8] n (fun gk v28 v8 w' => ∃ j : Nat, v28 = .int .i64 (j : Int) ∧ j + gk = n ∧ v8 = .string (bs (remT j)) ∧ Aside0 (W5 = w'))
    case atStart => exact ⟨0, rfl, by omega, rfl, ⟨rfl⟩⟩
    case round =>
      obtain ⟨j, rfl, hj, rfl, HE5⟩ := hrel
      have hjl9 := remT_len j
      by_cases hjl : j < n
      · have q1 : ((j : Int) < (n : Int)) = True := eq_true (by omega)
        have hcat : bs (remT j) ++ ⟨#[99, 32, 114, 101, 109, 97, 114, 107, 10]⟩ = bs (remT (j + 1)) := by
          show bs _ ++ bs (remark ++ [10]) = _
          rw [bs_add, remT_succ]
        have HCAT := Aside0.mk hcat
        rw [← bs_size] at hjl9
        clear hcat
        generalize bs (remT j) = P at *
        have o1 : (9223372036854775807 < P.size + 9) = False := eq_false (by omega)
        clear hjl9
        go_wp2
        go_roundg (n - (j + 1))
        case measure => omega
        case rel => exact ⟨j + 1, by go_num, by omega, by rw [HCAT.out], HE5⟩
      · obtain rfl : j = n := by omega
        have hW := HE5.out
        subst hW
        have q1 : ((j : Int) < (j : Int)) = False := eq_false (by omega)
        have k0 : W5.cell? ⟨w4.heap.size, 0, none⟩ = some (.int .i64 (V : Int)) := (blk_cell HK5.out 0).trans rfl
        have k1 : W5.cell? ⟨w4.heap.size, 1, none⟩ = some (.slice X cs.length c') := (blk_cell HK5.out 1).trans rfl
        have CT := told_any X c' V cs W5 HX5.out (by omega) (by omega) HGB.out (by have := HTX.out; omega) (HE.out.below HB5.out)
        have htl := HTX.out
        rw [← bs_size] at hjl9
        clear HE5
        have hq4 : 0 ≤ wh % 4 ∧ wh % 4 ≤ 3 := by omega
        obtain ⟨q, hq⟩ : ∃ q : Nat, wh % 4 = q := ⟨(wh % 4).toNat, by omega⟩
        have hq3 : q < 4 := by omega
        have HPB2 := Aside0.mk (HPB.out j q hq3)
        have hlen : (remT j ++ formT V cs ++ badW q ++ [10, 10]).length ≤ 1048576 := by
          have h1 := remT_len j
          have h2 := badW_len q
          simp only [List.length_append, List.length_cons, List.length_nil]
          omega
        have CQ := fun W (e : Env W) => parse_any (remT j ++ formT V cs ++ badW q ++ [10, 10]) W hlen e
        rw [HPB2.out] at CQ
        have hcat : bs (remT j) ++ bs (formT V cs) ++ bs (badW q) ++ ⟨#[10, 10]⟩ = bs (remT j ++ formT V cs ++ badW q ++ [10, 10]) := by
          show bs _ ++ bs _ ++ bs _ ++ bs [10, 10] = _
          rw [bs_add, bs_add, bs_add]
        have hst : strV (remT j ++ formT V cs ++ badW q ++ [10, 10]) = .string (bs (remT j ++ formT V cs ++ badW q ++ [10, 10])) := rfl
        rw [hst] at CQ
        have HCAT := Aside0.mk hcat
        have HCQ := Aside0.mk CQ
        have hbl := badW_len q
        rw [← bs_size] at htl hbl
        have hW0 : q = 0 ∨ q = 1 ∨ q = 2 ∨ q = 3 := by omega
        have HBW : Aside0 (badW 0 = [120] ∧ badW 1 = [49, 32, 120] ∧ badW 2 = [48, 48] ∧ badW 3 = [48]) := ⟨rfl, rfl, rfl, rfl⟩
        clear hlen hcat hst HPB HPB2 CQ
        generalize bs (remT j ++ formT V cs ++ badW q ++ [10, 10]) = ZZ at *
        generalize bs (remT j) = P at *
        generalize bs (formT V cs) = T at *
        have o1 : (9223372036854775807 < P.size + T.size) = False := eq_false (by omega)
        go_wp2_with (go_at_call 13; refine CT.mono ?_)
        rintro e w6 ⟨rfl, hb⟩
        have HB6 := Aside0.mk (below_step HB5.out hb)
        clear hb CT HX5 HK5 k0 k1
        rcases hW0 with rfl | rfl | rfl | rfl
        · have hb0 : bs (badW 0) = ⟨#[120]⟩ := rfl
          have hc0 : badC 0 = 3 := rfl
          rw [hb0] at HCAT
          rw [hc0] at HCQ
          clear hbl hb0 hc0
          have hqq : wh % 4 = 0 := hq
          have o2 : (9223372036854775807 < P.size + T.size + 1) = False := eq_false (by omega)
          have o3 : (9223372036854775807 < P.size + T.size + 1 + 2) = False := eq_false (by omega)
          obtain ⟨W7, hW7⟩ : ∃ W7, W7 = (w6.alloc (.cells #[.string ⟨#[120]⟩, .string ⟨#[49, 32, 120]⟩, .string ⟨#[48, 48]⟩, .string ⟨#[48]⟩] 9)).alloc (.cells #[.int .i64 3, .int .i64 5, .int .i64 3, .int .i64 5] 44) := ⟨_, rfl⟩
          have hb7 : Below w6.heap.size w6 W7 := by rw [hW7]; exact ((Below.refl _ _).alloc (Nat.le_refl _) _).alloc (by simp) _
          have HB7 := Aside0.mk (below_step HB6.out hb7)
          have C7 := HCQ.out W7 (HE.out.below HB7.out)
          have HW7 := Aside0.mk hW7
          clear hb7 hW7 HCQ
          go_wp2_with fail
          rw [← HW7.out, HCAT.out]
          refine C7.mono ?_
          rintro e w8 ⟨hb, b, rfl, hf, -⟩
          have HB8 := Aside0.mk (below_step HB7.out hb)
          clear C7 hb HCAT hqq hq o1 o2 o3
          obtain ⟨W9, hW9⟩ : ∃ W9, W9 = (w8.alloc (.cells #[.int .i64 0, .slice none 0 0] 29)).alloc (.cells #[.pointer none] 46) := ⟨_, rfl⟩
          have hb9 : Below w8.heap.size w8 W9 := by rw [hW9]; exact ((Below.refl _ _).alloc (Nat.le_refl _) _).alloc (by simp) _
          have hf9 := blk_below hf hb9
          have hp9 : W9.heap[w8.heap.size + 1]? = some (.cells #[.pointer none] 46 (0, 0)) := by
            rw [hW9]
            have := heap_alloc_new (w8.alloc (.cells #[.int .i64 0, .slice none 0 0] 29)) (.cells #[.pointer none] 46)
            simpa using this
          have hbl := blk_lt hf
          have HB9 := Aside0.mk (below_step HB8.out hb9)
          have CA := as_made ⟨b, 0, none⟩ (w8.heap.size + 1) (.pointer none) W9 (HTY.out.below HB9.out) ((blk_cell hp9 0).trans rfl) (blk_frozen hp9 0)
          have r0 : W9.cell? ⟨b, 0, none⟩ = some (.int .i64 ((j : Int) + 1 + (cs.length : Int) + 1)) := (blk_cell hf9 0).trans (by push_cast; rfl)
          have r1 : W9.cell? ⟨b, 1, none⟩ = some (.int .i64 3) := (blk_cell hf9 1).trans rfl
          have HR0 := Aside0.mk (And.intro r0 r1)
          have HBL := Aside0.mk (show b ≠ w8.heap.size + 1 by omega)
          have HSZ8 := Aside0.mk HB8.out.size
          have HW9 := Aside0.mk hW9
          clear hb9 hf hf9 hp9 hbl hW9 r0 r1
          go_upto_region 17 with (fail)
          rw [← HW9.out]
          go_wp2_with (go_at_call 17; refine CA.mono ?_)
          rintro e w10 ⟨rfl, hset⟩
          have s0 := hset.far ⟨b, 0, none⟩ _ HBL.out HR0.out.1
          have s1 := hset.far ⟨b, 1, none⟩ _ HBL.out HR0.out.2
          have s2 := hset.hit
          have HB10 := Aside0.mk (HB9.out.trans (hset.below.mono (by have := HSZ8.out; omega)))
          clear hset CA HR0
          go_wp2
          go_ret
          exact ⟨rfl, HB10.out⟩
        · have hb0 : bs (badW 1) = ⟨#[49, 32, 120]⟩ := rfl
          have hc0 : badC 1 = 5 := rfl
          rw [hb0] at HCAT
          rw [hc0] at HCQ
          clear hbl hb0 hc0
          have hqq : wh % 4 = 1 := hq
          have o2 : (9223372036854775807 < P.size + T.size + 3) = False := eq_false (by omega)
          have o3 : (9223372036854775807 < P.size + T.size + 3 + 2) = False := eq_false (by omega)
          obtain ⟨W7, hW7⟩ : ∃ W7, W7 = (w6.alloc (.cells #[.string ⟨#[120]⟩, .string ⟨#[49, 32, 120]⟩, .string ⟨#[48, 48]⟩, .string ⟨#[48]⟩] 9)).alloc (.cells #[.int .i64 3, .int .i64 5, .int .i64 3, .int .i64 5] 44) := ⟨_, rfl⟩
          have hb7 : Below w6.heap.size w6 W7 := by rw [hW7]; exact ((Below.refl _ _).alloc (Nat.le_refl _) _).alloc (by simp) _
          have HB7 := Aside0.mk (below_step HB6.out hb7)
          have C7 := HCQ.out W7 (HE.out.below HB7.out)
          have HW7 := Aside0.mk hW7
          clear hb7 hW7 HCQ
          go_wp2_with fail
          rw [← HW7.out, HCAT.out]
          refine C7.mono ?_
          rintro e w8 ⟨hb, b, rfl, hf, -⟩
          have HB8 := Aside0.mk (below_step HB7.out hb)
          clear C7 hb HCAT hqq hq o1 o2 o3
          obtain ⟨W9, hW9⟩ : ∃ W9, W9 = (w8.alloc (.cells #[.int .i64 0, .slice none 0 0] 29)).alloc (.cells #[.pointer none] 46) := ⟨_, rfl⟩
          have hb9 : Below w8.heap.size w8 W9 := by rw [hW9]; exact ((Below.refl _ _).alloc (Nat.le_refl _) _).alloc (by simp) _
          have hf9 := blk_below hf hb9
          have hp9 : W9.heap[w8.heap.size + 1]? = some (.cells #[.pointer none] 46 (0, 0)) := by
            rw [hW9]
            have := heap_alloc_new (w8.alloc (.cells #[.int .i64 0, .slice none 0 0] 29)) (.cells #[.pointer none] 46)
            simpa using this
          have hbl := blk_lt hf
          have HB9 := Aside0.mk (below_step HB8.out hb9)
          have CA := as_made ⟨b, 0, none⟩ (w8.heap.size + 1) (.pointer none) W9 (HTY.out.below HB9.out) ((blk_cell hp9 0).trans rfl) (blk_frozen hp9 0)
          have r0 : W9.cell? ⟨b, 0, none⟩ = some (.int .i64 ((j : Int) + 1 + (cs.length : Int) + 1)) := (blk_cell hf9 0).trans (by push_cast; rfl)
          have r1 : W9.cell? ⟨b, 1, none⟩ = some (.int .i64 5) := (blk_cell hf9 1).trans rfl
          have HR0 := Aside0.mk (And.intro r0 r1)
          have HBL := Aside0.mk (show b ≠ w8.heap.size + 1 by omega)
          have HSZ8 := Aside0.mk HB8.out.size
          have HW9 := Aside0.mk hW9
          clear hb9 hf hf9 hp9 hbl hW9 r0 r1
          go_upto_region 17 with (fail)
          rw [← HW9.out]
          go_wp2_with (go_at_call 17; refine CA.mono ?_)
          rintro e w10 ⟨rfl, hset⟩
          have s0 := hset.far ⟨b, 0, none⟩ _ HBL.out HR0.out.1
          have s1 := hset.far ⟨b, 1, none⟩ _ HBL.out HR0.out.2
          have s2 := hset.hit
          have HB10 := Aside0.mk (HB9.out.trans (hset.below.mono (by have := HSZ8.out; omega)))
          clear hset CA HR0
          go_wp2
          go_ret
          exact ⟨rfl, HB10.out⟩
        · have hb0 : bs (badW 2) = ⟨#[48, 48]⟩ := rfl
          have hc0 : badC 2 = 3 := rfl
          rw [hb0] at HCAT
          rw [hc0] at HCQ
          clear hbl hb0 hc0
          have hqq : wh % 4 = 2 := hq
          have o2 : (9223372036854775807 < P.size + T.size + 2) = False := eq_false (by omega)
          have o3 : (9223372036854775807 < P.size + T.size + 2 + 2) = False := eq_false (by omega)
          obtain ⟨W7, hW7⟩ : ∃ W7, W7 = (w6.alloc (.cells #[.string ⟨#[120]⟩, .string ⟨#[49, 32, 120]⟩, .string ⟨#[48, 48]⟩, .string ⟨#[48]⟩] 9)).alloc (.cells #[.int .i64 3, .int .i64 5, .int .i64 3, .int .i64 5] 44) := ⟨_, rfl⟩
          have hb7 : Below w6.heap.size w6 W7 := by rw [hW7]; exact ((Below.refl _ _).alloc (Nat.le_refl _) _).alloc (by simp) _
          have HB7 := Aside0.mk (below_step HB6.out hb7)
          have C7 := HCQ.out W7 (HE.out.below HB7.out)
          have HW7 := Aside0.mk hW7
          clear hb7 hW7 HCQ
          go_wp2_with fail
          rw [← HW7.out, HCAT.out]
          refine C7.mono ?_
          rintro e w8 ⟨hb, b, rfl, hf, -⟩
          have HB8 := Aside0.mk (below_step HB7.out hb)
          clear C7 hb HCAT hqq hq o1 o2 o3
          obtain ⟨W9, hW9⟩ : ∃ W9, W9 = (w8.alloc (.cells #[.int .i64 0, .slice none 0 0] 29)).alloc (.cells #[.pointer none] 46) := ⟨_, rfl⟩
          have hb9 : Below w8.heap.size w8 W9 := by rw [hW9]; exact ((Below.refl _ _).alloc (Nat.le_refl _) _).alloc (by simp) _
          have hf9 := blk_below hf hb9
          have hp9 : W9.heap[w8.heap.size + 1]? = some (.cells #[.pointer none] 46 (0, 0)) := by
            rw [hW9]
            have := heap_alloc_new (w8.alloc (.cells #[.int .i64 0, .slice none 0 0] 29)) (.cells #[.pointer none] 46)
            simpa using this
          have hbl := blk_lt hf
          have HB9 := Aside0.mk (below_step HB8.out hb9)
          have CA := as_made ⟨b, 0, none⟩ (w8.heap.size + 1) (.pointer none) W9 (HTY.out.below HB9.out) ((blk_cell hp9 0).trans rfl) (blk_frozen hp9 0)
          have r0 : W9.cell? ⟨b, 0, none⟩ = some (.int .i64 ((j : Int) + 1 + (cs.length : Int) + 1)) := (blk_cell hf9 0).trans (by push_cast; rfl)
          have r1 : W9.cell? ⟨b, 1, none⟩ = some (.int .i64 3) := (blk_cell hf9 1).trans rfl
          have HR0 := Aside0.mk (And.intro r0 r1)
          have HBL := Aside0.mk (show b ≠ w8.heap.size + 1 by omega)
          have HSZ8 := Aside0.mk HB8.out.size
          have HW9 := Aside0.mk hW9
          clear hb9 hf hf9 hp9 hbl hW9 r0 r1
          go_upto_region 17 with (fail)
          rw [← HW9.out]
          go_wp2_with (go_at_call 17; refine CA.mono ?_)
          rintro e w10 ⟨rfl, hset⟩
          have s0 := hset.far ⟨b, 0, none⟩ _ HBL.out HR0.out.1
          have s1 := hset.far ⟨b, 1, none⟩ _ HBL.out HR0.out.2
          have s2 := hset.hit
          have HB10 := Aside0.mk (HB9.out.trans (hset.below.mono (by have := HSZ8.out; omega)))
          clear hset CA HR0
          go_wp2
          go_ret
          exact ⟨rfl, HB10.out⟩
        · have hb0 : bs (badW 3) = ⟨#[48]⟩ := rfl
          have hc0 : badC 3 = 5 := rfl
          rw [hb0] at HCAT
          rw [hc0] at HCQ
          clear hbl hb0 hc0
          have hqq : wh % 4 = 3 := hq
          have o2 : (9223372036854775807 < P.size + T.size + 1) = False := eq_false (by omega)
          have o3 : (9223372036854775807 < P.size + T.size + 1 + 2) = False := eq_false (by omega)
          obtain ⟨W7, hW7⟩ : ∃ W7, W7 = (w6.alloc (.cells #[.string ⟨#[120]⟩, .string ⟨#[49, 32, 120]⟩, .string ⟨#[48, 48]⟩, .string ⟨#[48]⟩] 9)).alloc (.cells #[.int .i64 3, .int .i64 5, .int .i64 3, .int .i64 5] 44) := ⟨_, rfl⟩
          have hb7 : Below w6.heap.size w6 W7 := by rw [hW7]; exact ((Below.refl _ _).alloc (Nat.le_refl _) _).alloc (by simp) _
          have HB7 := Aside0.mk (below_step HB6.out hb7)
          have C7 := HCQ.out W7 (HE.out.below HB7.out)
          have HW7 := Aside0.mk hW7
          clear hb7 hW7 HCQ
          go_wp2_with fail
          rw [← HW7.out, HCAT.out]
          refine C7.mono ?_
          rintro e w8 ⟨hb, b, rfl, hf, -⟩
          have HB8 := Aside0.mk (below_step HB7.out hb)
          clear C7 hb HCAT hqq hq o1 o2 o3
          obtain ⟨W9, hW9⟩ : ∃ W9, W9 = (w8.alloc (.cells #[.int .i64 0, .slice none 0 0] 29)).alloc (.cells #[.pointer none] 46) := ⟨_, rfl⟩
          have hb9 : Below w8.heap.size w8 W9 := by rw [hW9]; exact ((Below.refl _ _).alloc (Nat.le_refl _) _).alloc (by simp) _
          have hf9 := blk_below hf hb9
          have hp9 : W9.heap[w8.heap.size + 1]? = some (.cells #[.pointer none] 46 (0, 0)) := by
            rw [hW9]
            have := heap_alloc_new (w8.alloc (.cells #[.int .i64 0, .slice none 0 0] 29)) (.cells #[.pointer none] 46)
            simpa using this
          have hbl := blk_lt hf
          have HB9 := Aside0.mk (below_step HB8.out hb9)
          have CA := as_made ⟨b, 0, none⟩ (w8.heap.size + 1) (.pointer none) W9 (HTY.out.below HB9.out) ((blk_cell hp9 0).trans rfl) (blk_frozen hp9 0)
          have r0 : W9.cell? ⟨b, 0, none⟩ = some (.int .i64 ((j : Int) + 1 + (cs.length : Int) + 1)) := (blk_cell hf9 0).trans (by push_cast; rfl)
          have r1 : W9.cell? ⟨b, 1, none⟩ = some (.int .i64 5) := (blk_cell hf9 1).trans rfl
          have HR0 := Aside0.mk (And.intro r0 r1)
          have HBL := Aside0.mk (show b ≠ w8.heap.size + 1 by omega)
          have HSZ8 := Aside0.mk HB8.out.size
          have HW9 := Aside0.mk hW9
          clear hb9 hf hf9 hp9 hbl hW9 r0 r1
          go_upto_region 17 with (fail)
          rw [← HW9.out]
          go_wp2_with (go_at_call 17; refine CA.mono ?_)
          rintro e w10 ⟨rfl, hset⟩
          have s0 := hset.far ⟨b, 0, none⟩ _ HBL.out HR0.out.1
          have s1 := hset.far ⟨b, 1, none⟩ _ HBL.out HR0.out.2
          have s2 := hset.hit
          have HB10 := Aside0.mk (HB9.out.trans (hset.below.mono (by have := HSZ8.out; omega)))
          clear hset CA HR0
          go_wp2
          go_ret
          exact ⟨rfl, HB10.out⟩
end Go.Proofs.YtdbdilajjmijaaaDoor
