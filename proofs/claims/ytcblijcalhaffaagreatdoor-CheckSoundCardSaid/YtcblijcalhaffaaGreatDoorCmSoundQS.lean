import Derived.Test.YtcblijcalhaffaaGreatDoorCmAppQS
import Derived.Test.YtcblijcalhaffaaGreatDoorCmRefusesQS
namespace Go.Proofs.YtcblijcalhaffaaGreatDoor
open Go Go.BigFrame Go.RowKit Go.Proofs.YtcblijcalhaffaaGreatDoorW.PrintWords Go.Proofs.YtcblijcalhaffaaGreatDoorW.PrintLast Go.Proofs.YtcblijcalhaffaaGreatDoorW.PrintMore PCheckSound
open Go.Sort Go.Shelf
attribute [local go_sem] Oper.semAt_some

/-! law08.CheckSound. -/
set_option maxRecDepth 100000 in
set_option maxHeartbeats 8000000 in
theorem sound_any (u : Int) (hu : 0 ≤ u ∧ u ≤ 255) (A : Option Addr) (c : Nat) (l : List (List Int)) (hc : l.length ≤ c) (A1 : Option Addr) (c1 : Nat) (s1 : List S86) (hc1 : s1.length ≤ c1) (A2 : Option Addr) (c2 : Nat) (b : List UInt8) (_hc2 : b.length ≤ c2)
    (v : World) (hr : Kd.C kRaw v A l.length l) (hm : l.length ≤ 140737488355328) (hs : ∀ r ∈ l, r.length ≤ 140737488355328)
    (hr1 : Kd.C k86 v A1 s1.length s1) (hm1 : s1.length ≤ 140737488351232) (hs1 : ∀ s ∈ s1, s.f1.length ≤ 140737488351232) (hw1 : ∀ s ∈ s1, 0 ≤ s.f2 ∧ s.f2 ≤ 255) (hr2 : Rd v A2 b) (E : Env v) :
    Calls Tryz.prog 8 #[.agg #[.int .u8 u, .slice A l.length c], .slice A1 s1.length c1, .slice A2 b.length c2] v (Said v (.bool true)) := by
  have hu2 := Tryz.underlying24
  have hu3 := Tryz.underlying30
  have hu4 := Tryz.underlying41
  obtain ⟨w, hw, hx, hb0⟩ := raw_box v u A l.length c
  have HR := Aside0.mk (Kd.C_below hr hb0)
  have HR1 := Aside0.mk (Kd.C_below hr1 hb0)
  have HR2 := Aside0.mk (Kd.C_below hr2 hb0)
  have HE := Aside0.mk (E.below hb0)
  have HX := Aside0.mk hx
  have HB0 := Aside0.mk hb0
  have HW := Aside0.mk hw
  have HS := Aside0.mk hs
  have HS1 := Aside0.mk hs1
  have HW1 := Aside0.mk hw1
  clear hr hr1 hr2 E hx hb0 hw hs hs1 hw1
  have C0 := fit_any w HE.out
  have HCL := Aside0.mk (fun W (hW : Below w.heap.size w W) => light_any u A c l 30 W (Kd.C_below HR.out hW) (by omega) hm HS.out)
  have HSM1 := Aside0.mk (fun W (hW : Below w.heap.size w W) => small_any A1 c1 s1 W (Kd.C_below HR1.out hW) (by omega) (fun s hs => by have := HS1.out s hs; omega))
  by_cases hl : lightB 30 l = true
  · rw [hl] at HCL
    by_cases hz1 : smallB s1 = true
    · rw [hz1] at HSM1
      by_cases hbb : 200 < b.length
      · have q2 : (200 < b.length) = True := eq_true hbb
        have q4 : ((200 : Int) < (b.length : Int)) = True := eq_true (by omega)
        go_enter Tryz.func8, Tryz.ntmps8
        go_wp2_with fail
        rw [← HW.out]
        refine C0.mono ?_
        rintro e w1 ⟨rfl, hb1⟩
        have HB := Aside0.mk hb1
        obtain ⟨kx0, kx1⟩ := raw_cells HX.out hb1
        clear hb1 C0
        go_wp2_with (first
          | (go_at_call 10; refine (HCL.out _ HB.out).mono ?_; rintro e w2 ⟨rfl, hb⟩; obtain ⟨kx0, kx1⟩ := raw_cells HX.out (below_step HB.out hb); have HB2 := Aside0.mk (below_step (by repeat (first | (with_reducible first | exact HB.out | apply below_alloc | apply pw_below_drewN | apply below_drew1) | exact HB.out)) hb); clear HB; have HB := HB2; clear HB2 hb)
          | (go_at_call 20; (with_reducible refine (HSM1.out _ HB.out).mono ?_); rintro e w2 ⟨rfl, hb⟩; obtain ⟨kx0, kx1⟩ := raw_cells HX.out (below_step HB.out hb); have HB2 := Aside0.mk (below_step (by repeat (first | (with_reducible first | exact HB.out | apply below_alloc | apply pw_below_drewN | apply below_drew1) | exact HB.out)) hb); clear HB; have HB := HB2; clear HB2 hb))
        go_ret
        exact ⟨rfl, below_step HB0.out HB.out⟩
      · skip
        have q2 : (200 < b.length) = False := eq_false hbb
        have q4 : ((200 : Int) < (b.length : Int)) = False := eq_false (by omega)
        have hsp := lightB_spec hl
        obtain ⟨hp1, hp2⟩ := small_spec hz1
        obtain ⟨V, cs, hV, hcn, hcl, har, hFo⟩ := formula_made u hu A c l 8 5 (by omega) (by omega) hc (by omega) HS.out
        have HFo := Aside0.mk hFo
        have HCN := Aside0.mk hcn
        have HP := fun FA fc hfc => proof_made V 10 cs s1 (by omega) (by omega) har (fun d hd => by have := hcl d hd; omega) (by omega) hp1 HW1.out (by omega) A1 c1 hc1 FA fc hfc
        have HPP := Aside0.mk HP
        clear hFo hcn HP
        go_enter Tryz.func8, Tryz.ntmps8
        go_wp2_with fail
        rw [← HW.out]
        refine C0.mono ?_
        rintro e w1 ⟨rfl, hb1⟩
        have HB := Aside0.mk hb1
        obtain ⟨kx0, kx1⟩ := raw_cells HX.out hb1
        clear hb1 C0
        go_upto_region 6 with (first
          | (go_at_call 10; refine (HCL.out _ HB.out).mono ?_; rintro e w2 ⟨rfl, hb⟩; obtain ⟨kx0, kx1⟩ := raw_cells HX.out (below_step HB.out hb); have HB2 := Aside0.mk (below_step (by repeat (first | (with_reducible first | exact HB.out | apply below_alloc | apply pw_below_drewN | apply below_drew1) | exact HB.out)) hb); clear HB; have HB := HB2; clear HB2 hb)
          | (go_at_call 20; (with_reducible refine (HSM1.out _ HB.out).mono ?_); rintro e w2 ⟨rfl, hb⟩; obtain ⟨kx0, kx1⟩ := raw_cells HX.out (below_step HB.out hb); have HB2 := Aside0.mk (below_step (by repeat (first | (with_reducible first | exact HB.out | apply below_alloc | apply pw_below_drewN | apply below_drew1) | exact HB.out)) hb); clear HB; have HB := HB2; clear HB2 hb)
          | (go_at_call 11
             refine (HFo.out _ (Kd.C_below HR.out HB.out)).mono ?_
             rintro e w3 ⟨hb, X, c3, rfl, hc3, hF⟩
             have HB3 := Aside0.mk (below_step HB.out hb)
             have HC3 := Aside0.mk hc3
             have HF3 := Aside0.mk hF
             clear hb hF hc3 kx0 kx1 HB))
        obtain ⟨ps, hpn, hpr, hPc⟩ := HPP.out X c3 HC3.out
        have hRP := rightP_of (by omega) (fun s hs => (hpr s hs).1)
        have hbl := bin_len 10 hRP (fun s hs => (hpr s hs).2)
        obtain ⟨r1, x1, y1, n1, e1, hn1⟩ := parsedV_sound har (parseB (binT ps ++ b))
        obtain ⟨r2, x2, y2, n2, e2, hn2⟩ := parsedV_sound har (optG (parseT b))
        have HPc := Aside0.mk hPc
        have HRP := Aside0.mk hRP
        have HE1 := Aside0.mk e1
        have HE2 := Aside0.mk e2
        have HN1 := Aside0.mk hn1
        have HN2 := Aside0.mk hn2
        have HBL : Aside0 ((binT ps).length ≤ 1000 ∧ b.length ≤ 200) := ⟨by omega, by omega⟩
        have HAR := Aside0.mk har
        have HCL2 := Aside0.mk hcl
        clear hpn hPc hpr hRP hbl e1 e2 hn1 hn2 HPP q2 q4 har hcl
        obtain ⟨w4, hw4⟩ : ∃ w4, w4 = w3.alloc (.cells #[.int .i64 V, .slice X cs.length c3] 30) := ⟨_, rfl⟩
        have KF4 : Aside0 (w4.heap[w3.heap.size]? = some (.cells #[.int .i64 V, .slice X cs.length c3] 30 (0, 0))) := ⟨by rw [hw4]; exact blk_new w3 _⟩
        have HB4 : Aside0 (Below w.heap.size w w4) := ⟨by rw [hw4]; exact below_alloc HB3.out _⟩
        have HF4 : Aside0 (FormI w4 V X cs) := ⟨by rw [hw4]; exact HF3.out.below (below_alloc (Below.refl _ w3) _)⟩
        rw [← hw4]
        generalize w3.heap.size = pf at *
        clear hw4 HF3 HB3
        have HR4 := Aside0.mk (Kd.C_below HR1.out HB4.out)
        have HR5 := Aside0.mk (Kd.C_below HR2.out HB4.out)
        obtain ⟨kf0, kf1⟩ := f_cells KF4.out (Below.refl _ _)
        go_cut [8, 9] from 30 (fun s8 s9 wc => ∃ gx, s8 = .pointer (some ⟨gx, 0, none⟩) ∧ s9 = .int .i64 n1 ∧ Aside0 (wc.heap[gx]? = some (.cells #[.bool r1, .int .i64 x1, .int .i64 y1] 43 (0, 0))) ∧ Aside0 (Below w4.heap.size w4 wc))
        case first =>
          have HB := Aside0.mk (Below.refl w4.heap.size w4)
          have CB := fun W XB cb (hW : Below w4.heap.size w4 W) (h : Rd W XB (binT ps ++ b)) (h2 : (binT ps ++ b).length ≤ cb) => p_cbin (HF4.out.below hW) c3 XB cb (binT ps ++ b) (by rw [List.length_append]; have := HBL.out; omega) h h2
          rw [HE1.out] at CB
          have HCB := Aside0.mk CB
          have HBL2 : Aside0 ((binT ps).length + b.length ≤ 140737488355328) := ⟨by have := HBL.out; omega⟩
          have HBL3 : Aside0 ((binT ps).length ≤ 140737488355000) := ⟨by have := HBL.out; omega⟩
          clear CB kf0 kf1
          (try clear HCL)
          (try clear HSM1)
          (try clear HFo)
          (try clear HR)
          (try clear HR1)
          (try clear HR2)
          (try clear HS)
          (try clear HS1)
          (try clear HW1)
          (try clear HE)
          (try clear HX)
          (try clear HW)
          (try clear HCN)
          (try clear hsp)
          (try clear hp1)
          (try clear hp2)
          (try clear hl)
          (try clear hz1)
          (try clear hbb)
          (try clear hm)
          (try clear hm1)
          (try clear hV)
          (try clear hc)
          (try clear hc1)
          (try clear hc2)
          (try clear hu)
          (try clear HE1)
          (try clear HE2)
          (try clear HN1)
          (try clear HN2)
          go_region_held_law (fun w' => w'.cell? ⟨pf, 0, none⟩ = some (.int .i64 V) ∧ w'.cell? ⟨pf, 1, none⟩ = some (.slice X cs.length c3) ∧ Aside0 (Below w4.heap.size w4 w')) ((refine keepF KF4.out ?_; first | exact (BXY.store HB.out).2 | (repeat (first | (with_reducible first | exact HB.out | apply below_alloc | apply pw_below_drewN | apply below_drew1) | exact HB.out)))) (first
            | ((rw [if_pos (by rfl)]); go_simp; (go_at_call 25; (rw [← List.length_append]); (refine (HCB.out _ XB cb (by repeat (first | (with_reducible first | exact HB.out | apply below_alloc | apply pw_below_drewN | apply below_drew1) | exact HB.out)) (Kd.C_below HX7.out (by repeat (first | (with_reducible first | exact Below.refl _ _ | apply below_alloc | apply pw_below_drewN | apply below_drew1) | exact Below.refl _ _))) hcb7).mono ?_); rintro e w8 ⟨rfl, hz⟩; (first | (have BXYn : Box w4 _ _ (.cells #[.bool false, .int .i64 0, .int .i64 0] 43) := Box.below (by (try with_reducible apply Box.drew); with_reducible first | exact BXY | exact BXY.alloc _ | exact Box.new2 (by repeat (first | (with_reducible first | exact HB.out | apply below_alloc | apply pw_below_drewN | apply below_drew1) | exact HB.out)) _ _ | exact Box.new (by repeat (first | (with_reducible first | exact HB.out | apply below_alloc | apply pw_below_drewN | apply below_drew1) | exact HB.out)) _ | exact (Box.new (by repeat (first | (with_reducible first | exact HB.out | apply below_alloc | apply pw_below_drewN | apply below_drew1) | exact HB.out)) _).alloc _ | exact (BXY.alloc _).alloc _) hz; (try clear BXY); have BXY := BXYn; clear BXYn) | skip); (try (have z0 := blk_cell BXY.here 0; have z1 := blk_cell BXY.here 1; have z2 := blk_cell BXY.here 2; have z3 := blk_frozen BXY.here 0; have z4 := blk_frozen BXY.here 1; have z5 := blk_frozen BXY.here 2)); have HBn := Aside0.mk (below_step (by repeat (first | (with_reducible first | exact HB.out | apply below_alloc | apply pw_below_drewN | apply below_drew1) | exact HB.out)) hz); clear HB; have HB := HBn; clear HBn; clear hz; dsimp only))
            | ((rw [if_pos (by rfl)]); go_simp; (go_at_call 21; (refine (HPc.out _ (Kd.C_below HR4.out (by repeat (first | (with_reducible first | exact HB.out | apply below_alloc | apply pw_below_drewN | apply below_drew1) | exact HB.out))) (Kd.C_below HF4.out.r (by repeat (first | (with_reducible first | exact HB.out | apply below_alloc | apply pw_below_drewN | apply below_drew1) | exact HB.out)))).mono ?_); rintro e w5 ⟨hz, XP, cp, rfl, hcp, hpc⟩; have HP5 := Aside0.mk hpc; (first | (have BXYn : Box w4 _ _ (.cells #[.bool false, .int .i64 0, .int .i64 0] 43) := Box.below (by (try with_reducible apply Box.drew); with_reducible first | exact BXY | exact BXY.alloc _ | exact Box.new2 (by repeat (first | (with_reducible first | exact HB.out | apply below_alloc | apply pw_below_drewN | apply below_drew1) | exact HB.out)) _ _ | exact Box.new (by repeat (first | (with_reducible first | exact HB.out | apply below_alloc | apply pw_below_drewN | apply below_drew1) | exact HB.out)) _ | exact (Box.new (by repeat (first | (with_reducible first | exact HB.out | apply below_alloc | apply pw_below_drewN | apply below_drew1) | exact HB.out)) _).alloc _ | exact (BXY.alloc _).alloc _) hz; (try clear BXY); have BXY := BXYn; clear BXYn) | skip); have HBn := Aside0.mk (below_step (by repeat (first | (with_reducible first | exact HB.out | apply below_alloc | apply pw_below_drewN | apply below_drew1) | exact HB.out)) hz); clear HB; have HB := HBn; clear HBn; clear hz hpc hcp; dsimp only))
            | ((rw [if_pos (by rfl)]); go_simp; (go_at_call 29; (refine (o_binary XP cp ps _ (HP5.out.below (by repeat (first | (with_reducible first | exact Below.refl _ _ | apply below_alloc | apply pw_below_drewN | apply below_drew1) | exact Below.refl _ _))) HRP.out HBL3.out).mono ?_); rintro e w6 ⟨hz, vb, rfl, ho⟩; have HO6 := Aside0.mk (own_lower (w := w4) ho (Below.size (by repeat (first | (with_reducible first | exact HB.out | apply below_alloc | apply pw_below_drewN | apply below_drew1) | exact HB.out)))); (first | (have BXYn : Box w4 _ _ (.cells #[.bool false, .int .i64 0, .int .i64 0] 43) := Box.below (by (try with_reducible apply Box.drew); with_reducible first | exact BXY | exact BXY.alloc _ | exact Box.new2 (by repeat (first | (with_reducible first | exact HB.out | apply below_alloc | apply pw_below_drewN | apply below_drew1) | exact HB.out)) _ _ | exact Box.new (by repeat (first | (with_reducible first | exact HB.out | apply below_alloc | apply pw_below_drewN | apply below_drew1) | exact HB.out)) _ | exact (Box.new (by repeat (first | (with_reducible first | exact HB.out | apply below_alloc | apply pw_below_drewN | apply below_drew1) | exact HB.out)) _).alloc _ | exact (BXY.alloc _).alloc _) hz; (try clear BXY); have BXY := BXYn; clear BXYn) | skip); have HBn := Aside0.mk (below_step (by repeat (first | (with_reducible first | exact HB.out | apply below_alloc | apply pw_below_drewN | apply below_drew1) | exact HB.out)) hz); clear HB; have HB := HBn; clear HBn; clear hz ho; dsimp only))
            | (refine app_row_step w4 rfl (.tmp 35) (.tmp 36) rfl vb (binT ps) b A2 c2 rfl rfl (by repeat (with_reducible first | exact HO6.out | apply Kd.R_alloc)) (Kd.C_below HR5.out (by repeat (first | (with_reducible first | exact HB.out | apply below_alloc | apply pw_below_drewN | apply below_drew1) | exact HB.out))) (by repeat (first | (with_reducible first | exact HB.out | apply below_alloc | apply pw_below_drewN | apply below_drew1) | exact HB.out)) HBL2.out ?_; intro v1 w7 hO hb7 hg; obtain ⟨XB, cb, rfl, hcb7, hX7⟩ := own_rd hO; have HX7 := Aside0.mk hX7; (first | (have BXYn : Box w4 _ _ (.cells #[.bool false, .int .i64 0, .int .i64 0] 43) := Box.grownT (by (try with_reducible apply Box.drew); with_reducible first | exact BXY | exact BXY.alloc _ | exact Box.new2 (by repeat (first | (with_reducible first | exact HB.out | apply below_alloc | apply pw_below_drewN | apply below_drew1) | exact HB.out)) _ _ | exact Box.new (by repeat (first | (with_reducible first | exact HB.out | apply below_alloc | apply pw_below_drewN | apply below_drew1) | exact HB.out)) _ | exact (Box.new (by repeat (first | (with_reducible first | exact HB.out | apply below_alloc | apply pw_below_drewN | apply below_drew1) | exact HB.out)) _).alloc _ | exact (BXY.alloc _).alloc _) (by repeat (with_reducible first | exact HO6.out | apply Kd.R_alloc)) hg (by decide); (try clear BXY); have BXY := BXYn; clear BXYn) | skip); clear HB; have HB := Aside0.mk hb7; clear hO hb7 hg hX7))
          all_goals
            go_wp2
            go_meet
            case rel => (first
              | (with_reducible exact ⟨_, rfl, rfl, ⟨blk_new _ _⟩, ⟨below_alloc HB.out _⟩⟩)
              | exact ⟨_, rfl, rfl, ⟨(BXY.store HB.out).1⟩, ⟨(BXY.store HB.out).2⟩⟩)
        case rest =>
          obtain ⟨gx, rfl, rfl, HKX, HBC⟩ := hcut
          obtain ⟨kf0, kf1⟩ := f_cells KF4.out HBC.out
          have kc := conv_rd (Kd.C_below HR5.out HBC.out) c2
          have CT := p_ctext (HF4.out.below HBC.out) c3 b (by have := HBL.out; omega) (HE.out.below (below_step HB4.out HBC.out))
          rw [HE2.out] at CT
          have HCT := Aside0.mk CT
          clear CT
          generalize strV b = sv at *
          go_upto_region 8 with (go_at_call 23
                                 refine HCT.out.mono ?_
                                 rintro e w7 ⟨rfl, hb⟩
                                 have HB7 := Aside0.mk (below_step HBC.out hb)
                                 have HKX7 := Aside0.mk ((hb.block _ (blk_lt HKX.out)).trans HKX.out)
                                 clear hb HCT)
          obtain ⟨w8, hw8⟩ : ∃ w8, w8 = w7.alloc (.cells #[.bool r2, .int .i64 x2, .int .i64 y2] 43) := ⟨_, rfl⟩
          have KX8 : Aside0 (w8.heap[w7.heap.size]? = some (.cells #[.bool r2, .int .i64 x2, .int .i64 y2] 43 (0, 0))) := ⟨by rw [hw8]; exact blk_new w7 _⟩
          have HB8 : Aside0 (Below w4.heap.size w4 w8) := ⟨by rw [hw8]; exact below_alloc HB7.out _⟩
          have KY8 : Aside0 (w8.heap[gx]? = some (.cells #[.bool r1, .int .i64 x1, .int .i64 y1] 43 (0, 0))) := ⟨by rw [hw8]; exact blk_alloc HKX7.out _⟩
          rw [← hw8]
          generalize w7.heap.size = gy at *
          clear hw8 HB7 HKX HKX7 kf0 kf1 kc HBC
          obtain ⟨kf0, kf1⟩ := f_cells KF4.out HB8.out
          have CT := truth_any V (by omega) X c3 cs (by have := HCN.out; omega) (fun d hd => ⟨by have := HCL2.out d hd; omega, HAR.out d hd⟩) HC3.out w8 (HF4.out.below HB8.out).r
          obtain ⟨y0, y1', y2'⟩ := x_cells KY8.out (Below.refl _ _)
          have HN1 := HN1.out
          have HN2 := HN2.out
          generalize hts : truthV V cs = ts at *
          have hfin : ∀ (W : World), Below w4.heap.size w4 W → Below v.heap.size v W := fun W hW => below_step HB0.out (below_step HB4.out hW)
          go_upto_region 9 with (go_at_call 18; refine CT.mono ?_; rintro e w9 ⟨rfl, hb⟩; have HB9 := Aside0.mk (below_step HB8.out hb); have KX9 := Aside0.mk ((hb.block _ (blk_lt KX8.out)).trans KX8.out); have KY9 := Aside0.mk ((hb.block _ (blk_lt KY8.out)).trans KY8.out); clear hb CT)
          obtain ⟨y0, y1', y2'⟩ := x_cells KY9.out (Below.refl _ _)
          obtain ⟨z0, z1', z2'⟩ := x_cells KX9.out (Below.refl _ _)
          have HFin := Aside0.mk (hfin _ HB9.out)
          clear hfin kf0 kf1 KX8 KY8 HB8 KX9 KY9 HB9
          by_cases a1 : n1 = 0 <;> by_cases a2 : n2 = 0 <;> cases r1 <;> cases r2 <;> cases ts <;> (first
            | exact absurd (HN1 a1 rfl) (by decide)
            | exact absurd (HN2 a2 rfl) (by decide)
            | (clear HN1 HN2 hts HE1 HE2; (first | subst a1 | (have qa1 : (n1 = 0) = False := eq_false a1; clear a1)); (first | subst a2 | (have qa2 : (n2 = 0) = False := eq_false a2; clear a2)); go_wp2; go_ret; exact ⟨rfl, HFin.out⟩))
    · have hz1' : smallB s1 = false := by simpa using hz1
      rw [hz1'] at HSM1
      go_enter Tryz.func8, Tryz.ntmps8
      go_wp2_with fail
      rw [← HW.out]
      refine C0.mono ?_
      rintro e w1 ⟨rfl, hb1⟩
      have HB := Aside0.mk hb1
      obtain ⟨kx0, kx1⟩ := raw_cells HX.out hb1
      clear hb1 C0
      go_wp2_with (first
        | (go_at_call 10; refine (HCL.out _ HB.out).mono ?_; rintro e w2 ⟨rfl, hb⟩; obtain ⟨kx0, kx1⟩ := raw_cells HX.out (below_step HB.out hb); have HB2 := Aside0.mk (below_step (by repeat (first | (with_reducible first | exact HB.out | apply below_alloc | apply pw_below_drewN | apply below_drew1) | exact HB.out)) hb); clear HB; have HB := HB2; clear HB2 hb)
        | (go_at_call 20; (with_reducible refine (HSM1.out _ HB.out).mono ?_); rintro e w2 ⟨rfl, hb⟩; obtain ⟨kx0, kx1⟩ := raw_cells HX.out (below_step HB.out hb); have HB2 := Aside0.mk (below_step (by repeat (first | (with_reducible first | exact HB.out | apply below_alloc | apply pw_below_drewN | apply below_drew1) | exact HB.out)) hb); clear HB; have HB := HB2; clear HB2 hb))
      go_ret
      exact ⟨rfl, below_step HB0.out HB.out⟩
  · have hl' : lightB 30 l = false := by simpa using hl
    rw [hl'] at HCL
    go_enter Tryz.func8, Tryz.ntmps8
    go_wp2_with fail
    rw [← HW.out]
    refine C0.mono ?_
    rintro e w1 ⟨rfl, hb1⟩
    have HB := Aside0.mk hb1
    obtain ⟨kx0, kx1⟩ := raw_cells HX.out hb1
    clear hb1 C0
    go_wp2_with (first
      | (go_at_call 10; refine (HCL.out _ HB.out).mono ?_; rintro e w2 ⟨rfl, hb⟩; obtain ⟨kx0, kx1⟩ := raw_cells HX.out (below_step HB.out hb); have HB2 := Aside0.mk (below_step (by repeat (first | (with_reducible first | exact HB.out | apply below_alloc | apply pw_below_drewN | apply below_drew1) | exact HB.out)) hb); clear HB; have HB := HB2; clear HB2 hb))
    go_ret
    exact ⟨rfl, below_step HB0.out HB.out⟩
end Go.Proofs.YtcblijcalhaffaaGreatDoor
