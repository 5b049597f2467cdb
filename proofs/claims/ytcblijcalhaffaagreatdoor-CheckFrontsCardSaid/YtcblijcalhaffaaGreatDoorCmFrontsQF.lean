import Derived.Test.YtcblijcalhaffaaGreatDoorCmRefusesQF
import Derived.Test.YtcblijcalhaffaaGreatDoorCmPlain2QF
import Derived.Test.YtcblijcalhaffaaGreatDoorCmAppQF
namespace Go.Proofs.YtcblijcalhaffaaGreatDoor
open Go Go.BigFrame Go.RowKit Go.Proofs.YtcblijcalhaffaaGreatDoorW.PrintWords Go.Proofs.YtcblijcalhaffaaGreatDoorW.PrintLast Go.Proofs.YtcblijcalhaffaaGreatDoorW.PrintMore PCheckSound
open Go.Sort Go.Shelf
attribute [local go_sem] Oper.semAt_some

/-! law08.CheckFronts. -/
set_option maxRecDepth 100000 in
set_option maxHeartbeats 8000000 in
theorem fronts_any (u : Int) (hu : 0 ≤ u ∧ u ≤ 255) (A : Option Addr) (c : Nat) (l : List (List Int)) (hc : l.length ≤ c) (A1 : Option Addr) (c1 : Nat) (s1 : List S86) (hc1 : s1.length ≤ c1) (A2 : Option Addr) (c2 : Nat) (s2 : List S86) (hc2 : s2.length ≤ c2)
    (v : World) (hr : Kd.C kRaw v A l.length l) (hm : l.length ≤ 140737488355328) (hs : ∀ r ∈ l, r.length ≤ 140737488355328)
    (hr1 : Kd.C k86 v A1 s1.length s1) (hm1 : s1.length ≤ 140737488351232) (hs1 : ∀ s ∈ s1, s.f1.length ≤ 140737488351232) (hw1 : ∀ s ∈ s1, 0 ≤ s.f2 ∧ s.f2 ≤ 255)
    (hr2 : Kd.C k86 v A2 s2.length s2) (hm2 : s2.length ≤ 140737488351232) (hs2 : ∀ s ∈ s2, s.f1.length ≤ 140737488351232) (hw2 : ∀ s ∈ s2, 0 ≤ s.f2 ∧ s.f2 ≤ 255) (E : Env v) :
    Calls Tryz.prog 4 #[.agg #[.int .u8 u, .slice A l.length c], .slice A1 s1.length c1, .slice A2 s2.length c2] v (Said v (.bool true)) := by
  have hu2 := Tryz.underlying24
  have hu3 := Tryz.underlying30
  have hu4 := Tryz.underlying41
  obtain ⟨w, hw, hx, hb0⟩ := raw_box v u A l.length c
  have HR := Aside0.mk (Kd.C_below hr hb0)
  have HR1 := Aside0.mk (Kd.C_below hr1 hb0)
  have HR2 := Aside0.mk (Kd.C_below hr2 hb0)
  have HE := Aside0.mk (E.below hb0)
  have HX := Aside0.mk hx
  have HB0 := Aside0.mk hb0
  have HW := Aside0.mk hw
  have HS := Aside0.mk hs
  have HS1 := Aside0.mk hs1
  have HS2 := Aside0.mk hs2
  have HW1 := Aside0.mk hw1
  have HW2 := Aside0.mk hw2
  clear hr hr1 hr2 E hx hb0 hw hs hs1 hs2 hw1 hw2
  have C0 := fit_any w HE.out
  have HCL := Aside0.mk (fun W (hW : Below w.heap.size w W) => light_any u A c l 30 W (Kd.C_below HR.out hW) (by omega) hm HS.out)
  have HSM1 := Aside0.mk (fun W (hW : Below w.heap.size w W) => small_any A1 c1 s1 W (Kd.C_below HR1.out hW) (by omega) (fun s hs => by have := HS1.out s hs; omega))
  have HSM2 := Aside0.mk (fun W (hW : Below w.heap.size w W) => small_any A2 c2 s2 W (Kd.C_below HR2.out hW) (by omega) (fun s hs => by have := HS2.out s hs; omega))
  by_cases hl : lightB 30 l = true
  · rw [hl] at HCL
    by_cases hz1 : smallB s1 = true
    · rw [hz1] at HSM1
      by_cases hz2 : smallB s2 = true
      · rw [hz2] at HSM2
        have hsp := lightB_spec hl
        obtain ⟨hp1, hp2⟩ := small_spec hz1
        obtain ⟨hq1, hq2⟩ := small_spec hz2
        obtain ⟨V, cs, hV, hcn, hcl, har, hFo⟩ := formula_made u hu A c l 6 5 (by omega) (by omega) hc (by omega) HS.out
        have HFo := Aside0.mk hFo
        have HCN := Aside0.mk hcn
        have HP := fun FA fc hfc => proof_made V 10 cs s1 (by omega) (by omega) har (fun d hd => by have := hcl d hd; omega) (by omega) hp1 HW1.out (by omega) A1 c1 hc1 FA fc hfc
        have HQ := fun FA fc hfc => proof_made V 10 cs s2 (by omega) (by omega) har (fun d hd => by have := hcl d hd; omega) (by omega) hq1 HW2.out (by omega) A2 c2 hc2 FA fc hfc
        have HPP := Aside0.mk HP
        have HQQ := Aside0.mk HQ
        clear hFo hcn HP HQ
        go_enter Tryz.func4, Tryz.ntmps4
        go_wp2_with fail
        rw [← HW.out]
        refine C0.mono ?_
        rintro e w1 ⟨rfl, hb1⟩
        have HB := Aside0.mk hb1
        obtain ⟨kx0, kx1⟩ := raw_cells HX.out hb1
        clear hb1 C0
        go_upto_region 6 with (first
          | (go_at_call 10; refine (HCL.out _ HB.out).mono ?_; rintro e w2 ⟨rfl, hb⟩; obtain ⟨kx0, kx1⟩ := raw_cells HX.out (below_step HB.out hb); have HB2 := Aside0.mk (below_step (by repeat (first | (with_reducible first | exact HB.out | apply below_alloc | apply pw_below_drewN | apply below_drew1) | exact HB.out)) hb); clear HB; have HB := HB2; clear HB2 hb)
          | (go_at_call 20; (with_reducible refine (HSM1.out _ HB.out).mono ?_); rintro e w2 ⟨rfl, hb⟩; obtain ⟨kx0, kx1⟩ := raw_cells HX.out (below_step HB.out hb); have HB2 := Aside0.mk (below_step (by repeat (first | (with_reducible first | exact HB.out | apply below_alloc | apply pw_below_drewN | apply below_drew1) | exact HB.out)) hb); clear HB; have HB := HB2; clear HB2 hb)
          | (go_at_call 20; (with_reducible refine (HSM2.out _ HB.out).mono ?_); rintro e w2 ⟨rfl, hb⟩; obtain ⟨kx0, kx1⟩ := raw_cells HX.out (below_step HB.out hb); have HB2 := Aside0.mk (below_step (by repeat (first | (with_reducible first | exact HB.out | apply below_alloc | apply pw_below_drewN | apply below_drew1) | exact HB.out)) hb); clear HB; have HB := HB2; clear HB2 hb)
          | (go_at_call 11
             refine (HFo.out _ (Kd.C_below HR.out HB.out)).mono ?_
             rintro e w3 ⟨hb, X, c3, rfl, hc3, hF⟩
             have HB3 := Aside0.mk (below_step HB.out hb)
             have HC3 := Aside0.mk hc3
             have HF3 := Aside0.mk hF
             clear hb hF hc3 kx0 kx1 HB))
        obtain ⟨ps, hpn, hpr, hPc⟩ := HPP.out X c3 HC3.out
        obtain ⟨qs, hqn, hqr, hQc⟩ := HQQ.out X c3 HC3.out
        obtain ⟨a1, b1, a2, b2, a3, b3, e1, e2, e3, hcase⟩ := chk_fronts cs (pp ps) (pp qs)
        have HPc := Aside0.mk hPc
        have HQc := Aside0.mk hQc
        have HPR := Aside0.mk hpr
        have HQR := Aside0.mk hqr
        have HE1 := Aside0.mk e1
        have HE2 := Aside0.mk e2
        have HE3 := Aside0.mk e3
        have HPN : Aside0 (ps.length ≤ 30 ∧ qs.length ≤ 30) := ⟨by omega, by omega⟩
        have hpl : (pp ps).length = ps.length := by unfold pp; rw [List.length_map]
        rw [hpl] at hcase
        clear hpn hqn hPc hQc hpr hqr e1 e2 e3 HPP HQQ hpl
        obtain ⟨w4, hw4⟩ : ∃ w4, w4 = w3.alloc (.cells #[.int .i64 V, .slice X cs.length c3] 30) := ⟨_, rfl⟩
        have KF4 : Aside0 (w4.heap[w3.heap.size]? = some (.cells #[.int .i64 V, .slice X cs.length c3] 30 (0, 0))) := ⟨by rw [hw4]; exact blk_new w3 _⟩
        have HB4 : Aside0 (Below w.heap.size w w4) := ⟨by rw [hw4]; exact below_alloc HB3.out _⟩
        have HF4 : Aside0 (FormI w4 V X cs) := ⟨by rw [hw4]; exact HF3.out.below (below_alloc (Below.refl _ w3) _)⟩
        rw [← hw4]
        generalize w3.heap.size = pf at *
        clear hw4 HF3 HB3
        have HR4 := Aside0.mk (Kd.C_below HR1.out HB4.out)
        obtain ⟨kf0, kf1⟩ := f_cells KF4.out (Below.refl _ _)
        have HRQ4 := Aside0.mk (Kd.C_below HR2.out HB4.out)
        go_cut [8, 9] from 33 (fun s8 s9 wc => ∃ XP cp XQ cq, s8 = .slice XP ps.length cp ∧ s9 = .slice XQ qs.length cq ∧ Aside0 (PC wc XP ps) ∧ Aside0 (PC wc XQ qs) ∧ Aside0 (Below w.heap.size w wc) ∧ Aside0 (FormI wc V X cs) ∧ Aside0 (wc.heap[pf]? = some (.cells #[.int .i64 V, .slice X cs.length c3] 30 (0, 0))))
        case first =>
          have HB := Aside0.mk (Below.refl w4.heap.size w4)
          go_region_held_law (fun w' => w'.cell? ⟨pf, 0, none⟩ = some (.int .i64 V) ∧ w'.cell? ⟨pf, 1, none⟩ = some (.slice X cs.length c3) ∧ Aside0 (Below w4.heap.size w4 w')) ((refine keepF KF4.out ?_; first | exact (BXY.store HB.out).2 | (repeat (first | (with_reducible first | exact HB.out | apply below_alloc | apply pw_below_drewN | apply below_drew1) | exact HB.out)))) (first
            | ((rw [if_pos (by rfl)]); go_simp; (go_at_call 21; (with_reducible refine (HPc.out _ (Kd.C_below HR4.out (by repeat (first | (with_reducible first | exact HB.out | apply below_alloc | apply pw_below_drewN | apply below_drew1) | exact HB.out))) (Kd.C_below HF4.out.r (by repeat (first | (with_reducible first | exact HB.out | apply below_alloc | apply pw_below_drewN | apply below_drew1) | exact HB.out)))).mono ?_); rintro e w5 ⟨hz, XP, cp, rfl, hcp, hpc⟩; have HP5 := Aside0.mk hpc; have HBn := Aside0.mk (below_step (by repeat (first | (with_reducible first | exact HB.out | apply below_alloc | apply pw_below_drewN | apply below_drew1) | exact HB.out)) hz); clear HB; have HB := HBn; clear HBn; clear hz hpc hcp; dsimp only))
            | ((rw [if_pos (by rfl)]); go_simp; (go_at_call 21; (with_reducible refine (HQc.out _ (Kd.C_below HRQ4.out (by repeat (first | (with_reducible first | exact HB.out | apply below_alloc | apply pw_below_drewN | apply below_drew1) | exact HB.out))) (Kd.C_below HF4.out.r (by repeat (first | (with_reducible first | exact HB.out | apply below_alloc | apply pw_below_drewN | apply below_drew1) | exact HB.out)))).mono ?_); rintro e w6 ⟨hz, XQ, cq, rfl, hcq, hqc⟩; have HQ6 := Aside0.mk hqc; have HP6 := Aside0.mk ((HP5.out.below (by repeat (first | (with_reducible first | exact Below.refl _ _ | apply below_alloc | apply pw_below_drewN | apply below_drew1) | exact Below.refl _ _))).below hz); have HBn := Aside0.mk (below_step (by repeat (first | (with_reducible first | exact HB.out | apply below_alloc | apply pw_below_drewN | apply below_drew1) | exact HB.out)) hz); clear HB; have HB := HBn; clear HBn; clear hz hqc hcq; dsimp only)))
          all_goals
            go_wp2
            go_meet
            case rel => exact ⟨XP, cp, XQ, cq, rfl, rfl, HP6, HQ6, ⟨below_step HB4.out HB.out⟩, ⟨HF4.out.below HB.out⟩, ⟨(HB.out.block _ (blk_lt KF4.out)).trans KF4.out⟩⟩
        case rest =>
          obtain ⟨XP, cp, XQ, cq, rfl, rfl, HP6, HQ6, HB6, HF6, KF6⟩ := hcut
          obtain ⟨w6, hw6⟩ : ∃ w6, w6 = wc := ⟨_, rfl⟩
          subst hw6
          clear HR4 HRQ4 HF4 KF4 HB4 kf0 kf1
          (try clear HCL)
          (try clear HSM1)
          (try clear HSM2)
          (try clear HFo)
          (try clear HPc)
          (try clear HQc)
          (try clear HR)
          (try clear HR1)
          (try clear HR2)
          (try clear HS)
          (try clear HS1)
          (try clear HS2)
          (try clear HW1)
          (try clear HW2)
          (try clear HE)
          (try clear HX)
          (try clear HW)
          (try clear HCN)
          (try clear hsp)
          (try clear hp1)
          (try clear hp2)
          (try clear hq1)
          (try clear hq2)
          (try clear hl)
          (try clear hz1)
          (try clear hz2)
          (try clear hm)
          (try clear hm1)
          (try clear hm2)
          (try clear hV)
          (try clear hcl)
          (try clear har)
          (try clear hc)
          (try clear hc1)
          (try clear hc2)
          (try clear hu)
          (try clear HC3)
          obtain ⟨kf0, kf1⟩ := f_cells KF6.out (Below.refl _ _)
          have CX := p_check HF6.out c3 XP cp ps HP6.out (by have := HPN.out; omega) (fun s hs => by have := (HPR.out s hs).2; omega)
          rw [chkV_ok (fun s hs => (HPR.out s hs).1), HE1.out] at CX
          unfold repV at CX
          dsimp only at CX
          generalize hr1 : decide (0 ≤ a1) = r1 at CX
          have HR1' := Aside0.mk hr1
          clear hr1
          go_upto_region 8 with (go_at_call 19
                                 refine CX.mono ?_
                                 rintro e w7 ⟨rfl, hb⟩
                                 have HB7 := Aside0.mk hb
                                 clear hb CX)
          obtain ⟨w8, hw8⟩ : ∃ w8, w8 = w7.alloc (.cells #[.bool r1, .int .i64 a1, .int .i64 b1] 43) := ⟨_, rfl⟩
          have KX8 : Aside0 (w8.heap[w7.heap.size]? = some (.cells #[.bool r1, .int .i64 a1, .int .i64 b1] 43 (0, 0))) := ⟨by rw [hw8]; exact blk_new w7 _⟩
          have HB78 : Aside0 (Below w6.heap.size w6 w8) := ⟨by rw [hw8]; exact below_alloc HB7.out _⟩
          have HB8 := Aside0.mk (below_step HB6.out HB78.out)
          have HP8 := Aside0.mk (HP6.out.below HB78.out)
          have HQ8 := Aside0.mk (HQ6.out.below HB78.out)
          have HF8 := Aside0.mk (HF6.out.below HB78.out)
          have KF8 := Aside0.mk ((HB78.out.block _ (blk_lt KF6.out)).trans KF6.out)
          rw [← hw8]
          generalize w7.heap.size = gx at *
          clear hw8 HB7 HB78 HP6 HQ6 HF6 KF6 kf0 kf1
          obtain ⟨kf0, kf1⟩ := f_cells KF8.out (Below.refl _ _)
          go_cut [12, 13] from 45 (fun s12 s13 wc => ∃ gy, s12 = .pointer (some ⟨gy, 0, none⟩) ∧ s13 = .int .i64 0 ∧ Aside0 (wc.heap[gy]? = some (.cells #[.bool (decide (0 ≤ a2)), .int .i64 a2, .int .i64 b2] 43 (0, 0))) ∧ Aside0 (Below w8.heap.size w8 wc))
          case first =>
            have HB := Aside0.mk (Below.refl w8.heap.size w8)
            have CY := fun W X c (hW : Below w8.heap.size w8 W) (h : PC W X (ps ++ qs)) => p_check (HF8.out.below hW) c3 X c (ps ++ qs) h (by rw [List.length_append]; have := HPN.out; omega) (fun s hs => (List.mem_append.1 hs).elim (fun h => by have := (HPR.out s h).2; omega) (fun h => by have := (HQR.out s h).2; omega))
            rw [chkV_ok (fun s hs => (List.mem_append.1 hs).elim (fun h => (HPR.out s h).1) (fun h => (HQR.out s h).1)), pp_append, HE2.out] at CY
            unfold repV at CY
            dsimp only at CY
            have HCY := Aside0.mk CY
            clear CY
            go_region_held_law (fun w' => w'.cell? ⟨pf, 0, none⟩ = some (.int .i64 V) ∧ w'.cell? ⟨pf, 1, none⟩ = some (.slice X cs.length c3) ∧ Aside0 (Below w8.heap.size w8 w')) ((refine keepF KF8.out ?_; first | exact (BXY.store HB.out).2 | (repeat (first | (with_reducible first | exact HB.out | apply below_alloc | apply pw_below_drewN | apply below_drew1) | exact HB.out)))) (first
              | ((rw [if_pos (by rfl)]); go_simp; (go_at_call 19; (rw [← List.length_append]); (refine (HCY.out _ XY cy (by repeat (first | (with_reducible first | exact HB.out | apply below_alloc | apply pw_below_drewN | apply below_drew1) | exact HB.out)) (HPY.out.below (by repeat (first | (with_reducible first | exact Below.refl _ _ | apply below_alloc | apply pw_below_drewN | apply below_drew1) | exact Below.refl _ _)))).mono ?_); rintro e w11 ⟨rfl, hz⟩; (first | (have BXYn : Box w8 _ _ (.cells #[.bool false, .int .i64 0, .int .i64 0] 43) := Box.below (by (try with_reducible apply Box.drew); with_reducible first | exact BXY | exact BXY.alloc _ | exact Box.new2 (by repeat (first | (with_reducible first | exact HB.out | apply below_alloc | apply pw_below_drewN | apply below_drew1) | exact HB.out)) _ _ | exact Box.new (by repeat (first | (with_reducible first | exact HB.out | apply below_alloc | apply pw_below_drewN | apply below_drew1) | exact HB.out)) _ | exact (Box.new (by repeat (first | (with_reducible first | exact HB.out | apply below_alloc | apply pw_below_drewN | apply below_drew1) | exact HB.out)) _).alloc _ | exact (BXY.alloc _).alloc _) hz; (try clear BXY); have BXY := BXYn; clear BXYn) | skip); (try (have z0 := blk_cell BXY.here 0; have z1 := blk_cell BXY.here 1; have z2 := blk_cell BXY.here 2; have z3 := blk_frozen BXY.here 0; have z4 := blk_frozen BXY.here 1; have z5 := blk_frozen BXY.here 2)); have HBn := Aside0.mk (below_step (by repeat (first | (with_reducible first | exact HB.out | apply below_alloc | apply pw_below_drewN | apply below_drew1) | exact HB.out)) hz); clear HB; have HB := HBn; clear HBn; clear hz; dsimp only))
              | (refine app_steps_step w8 rfl (.const (.slice none 0 0)) (.tmp 47) rfl (.slice none 0 0) [] ps XP cp rfl rfl (Kd.R_nil _ _ _ _ _) HP8.out (by repeat (first | (with_reducible first | exact HB.out | apply below_alloc | apply pw_below_drewN | apply below_drew1) | exact HB.out)) (by have := HPN.out; simp only [List.length_nil]; omega) ?_; intro v1 w9 ho hb hg; rw [List.nil_append] at ho; have HO := Aside0.mk ho; (first | (have BXYn : Box w8 _ _ (.cells #[.bool false, .int .i64 0, .int .i64 0] 43) := Box.grown (by (try with_reducible apply Box.drew); with_reducible first | exact BXY | exact BXY.alloc _ | exact Box.new2 (by repeat (first | (with_reducible first | exact HB.out | apply below_alloc | apply pw_below_drewN | apply below_drew1) | exact HB.out)) _ _ | exact Box.new (by repeat (first | (with_reducible first | exact HB.out | apply below_alloc | apply pw_below_drewN | apply below_drew1) | exact HB.out)) _ | exact (Box.new (by repeat (first | (with_reducible first | exact HB.out | apply below_alloc | apply pw_below_drewN | apply below_drew1) | exact HB.out)) _).alloc _ | exact (BXY.alloc _).alloc _) hg (by simp [Value.ownBlock]); (try clear BXY); have BXY := BXYn; clear BXYn) | skip); clear HB; have HB := Aside0.mk hb; clear ho hb hg)
              | (refine app_steps_step w8 rfl (.tmp 48) (.tmp 49) rfl v1 ps qs XQ cq rfl rfl (by repeat (with_reducible first | exact HO.out | apply Kd.R_alloc)) HQ8.out (by repeat (first | (with_reducible first | exact HB.out | apply below_alloc | apply pw_below_drewN | apply below_drew1) | exact HB.out)) (by have := HPN.out; omega) ?_; intro v2 w10 ho2 hb2 hg; obtain ⟨XY, cy, rfl, hcy, hpy⟩ := ownS_reads ho2 hb2; have HPY := Aside0.mk hpy; (first | (have BXYn : Box w8 _ _ (.cells #[.bool false, .int .i64 0, .int .i64 0] 43) := Box.grownT (by (try with_reducible apply Box.drew); with_reducible first | exact BXY | exact BXY.alloc _ | exact Box.new2 (by repeat (first | (with_reducible first | exact HB.out | apply below_alloc | apply pw_below_drewN | apply below_drew1) | exact HB.out)) _ _ | exact Box.new (by repeat (first | (with_reducible first | exact HB.out | apply below_alloc | apply pw_below_drewN | apply below_drew1) | exact HB.out)) _ | exact (Box.new (by repeat (first | (with_reducible first | exact HB.out | apply below_alloc | apply pw_below_drewN | apply below_drew1) | exact HB.out)) _).alloc _ | exact (BXY.alloc _).alloc _) (by repeat (with_reducible first | exact HO.out | apply Kd.R_alloc)) hg (by decide); (try clear BXY); have BXY := BXYn; clear BXYn) | skip); clear HB; have HB := Aside0.mk hb2; clear ho2 hb2 hg hpy))
            all_goals
              go_wp2
              go_meet
              case rel => (first
                | (with_reducible exact ⟨_, rfl, rfl, ⟨blk_new _ _⟩, ⟨below_alloc HB.out _⟩⟩)
                | exact ⟨_, rfl, rfl, ⟨(BXY.store HB.out).1⟩, ⟨(BXY.store HB.out).2⟩⟩)
          case rest =>
            obtain ⟨gy, rfl, rfl, HKY, HBC⟩ := hcut
            obtain ⟨w9, hw9⟩ : ∃ w9, w9 = wc := ⟨_, rfl⟩
            subst hw9
            obtain ⟨y0, y1', y2'⟩ := x_cells HKY.out (Below.refl _ _)
            obtain ⟨kf0, kf1⟩ := f_cells KF8.out HBC.out
            have HFin := Aside0.mk (below_step HB0.out (below_step HB8.out HBC.out))
            rcases hcase with ⟨ha, rfl, rfl⟩ | ⟨ha, hb, rfl, rfl⟩ | ⟨rfl, rfl, rfl, rfl, ha2, hb2⟩
            · have hr : r1 = true := by rw [← HR1'.out]; exact decide_eq_true ha
              clear HR1'
              subst hr
              obtain ⟨x0, x1, x2⟩ := x_cells KX8.out HBC.out
              rw [decide_eq_true ha] at y0
              clear ha HE1 HE2 HE3
              go_wp2
              go_ret
              exact ⟨rfl, HFin.out⟩
            · have hr : r1 = false := by rw [← HR1'.out]; exact decide_eq_false (by omega)
              clear HR1'
              subst hr
              obtain ⟨x0, x1, x2⟩ := x_cells KX8.out HBC.out
              rw [decide_eq_false (show ¬ 0 ≤ a2 by omega)] at y0
              have qb : (0 ≤ b2) = True := eq_true hb
              clear ha hb HE1 HE2 HE3
              go_wp2
              go_ret
              exact ⟨rfl, HFin.out⟩
            · have hr : r1 = false := by rw [← HR1'.out]; rfl
              clear HR1'
              subst hr
              obtain ⟨x0, x1, x2⟩ := x_cells KX8.out HBC.out
              clear HE1 HE2
              have HA2 := Aside0.mk ha2
              have HB2 := Aside0.mk hb2
              clear ha2 hb2
              go_upto_region 13 with fail
              have HP9 := Aside0.mk (HP8.out.below HBC.out)
              have HF9 := Aside0.mk (HF8.out.below HBC.out)
              have KF9 := Aside0.mk ((HBC.out.block _ (blk_lt KF8.out)).trans KF8.out)
              have KX9 := Aside0.mk ((HBC.out.block _ (blk_lt KX8.out)).trans KX8.out)
              have e3 : pp (ps ++ [⟨true, []⟩]) = pp ps ++ [(true, [])] := by rw [pp_append]; rfl
              have hok3 : ∀ s ∈ ps ++ [(⟨true, []⟩ : PStep)], rightC V s.lits = true ∧ s.lits.length ≤ 10 := fun s hs => (List.mem_append.1 hs).elim (fun h => HPR.out s h) (fun h => by rw [List.mem_singleton.1 h]; exact ⟨rfl, by decide⟩)
              have CZ := fun W X c (hW : Below w9.heap.size w9 W) (h : PC W X (ps ++ [⟨true, []⟩])) => p_check (HF9.out.below hW) c3 X c (ps ++ [⟨true, []⟩]) h (by rw [List.length_append, List.length_singleton]; have := HPN.out; omega) (fun s hs => by have := (hok3 s hs).2; omega)
              rw [chkV_ok (fun s hs => (hok3 s hs).1), e3, HE3.out, List.length_append, List.length_singleton] at CZ
              unfold repV at CZ
              dsimp only at CZ
              have HCZ := Aside0.mk CZ
              clear CZ e3 hok3 HE3 x0 x1 x2 y0 y1' y2' HP8 HF8 KF8 KX8 HQ8
              go_cut [14, 15] from 70 (fun s14 s15 wc => ∃ gz, s14 = .pointer (some ⟨gz, 0, none⟩) ∧ s15 = .int .i64 0 ∧ Aside0 (wc.heap[gz]? = some (.cells #[.bool false, .int .i64 (-1), .int .i64 (-1)] 43 (0, 0))) ∧ Aside0 (Below w9.heap.size w9 wc))
              case first =>
                have HB := Aside0.mk (Below.refl w9.heap.size w9)
                go_region_held_law (fun w' => w'.cell? ⟨pf, 0, none⟩ = some (.int .i64 V) ∧ w'.cell? ⟨pf, 1, none⟩ = some (.slice X cs.length c3) ∧ Aside0 (Below w9.heap.size w9 w')) ((refine keepF KF9.out ?_; first | exact (BXY.store HB.out).2 | (repeat (first | (with_reducible first | exact HB.out | apply below_alloc | apply pw_below_drewN | apply below_drew1) | exact HB.out)))) (first
                  | ((rw [if_pos (by rfl)]); go_simp; (go_at_call 19; (refine (HCZ.out _ XY cy (by repeat (first | (with_reducible first | exact HB.out | apply below_alloc | apply pw_below_drewN | apply below_drew1) | exact HB.out)) (HPY.out.below (by repeat (first | (with_reducible first | exact Below.refl _ _ | apply below_alloc | apply pw_below_drewN | apply below_drew1) | exact Below.refl _ _)))).mono ?_); rintro e w12 ⟨rfl, hz⟩; (first | (have BXYn : Box w9 _ _ (.cells #[.bool false, .int .i64 0, .int .i64 0] 43) := Box.below (by (try with_reducible apply Box.drew); with_reducible first | exact BXY | exact BXY.alloc _ | exact Box.new2 (by repeat (first | (with_reducible first | exact HB.out | apply below_alloc | apply pw_below_drewN | apply below_drew1) | exact HB.out)) _ _ | exact Box.new (by repeat (first | (with_reducible first | exact HB.out | apply below_alloc | apply pw_below_drewN | apply below_drew1) | exact HB.out)) _ | exact (Box.new (by repeat (first | (with_reducible first | exact HB.out | apply below_alloc | apply pw_below_drewN | apply below_drew1) | exact HB.out)) _).alloc _ | exact (BXY.alloc _).alloc _) hz; (try clear BXY); have BXY := BXYn; clear BXYn) | skip); (try (have z0 := blk_cell BXY.here 0; have z1 := blk_cell BXY.here 1; have z2 := blk_cell BXY.here 2; have z3 := blk_frozen BXY.here 0; have z4 := blk_frozen BXY.here 1; have z5 := blk_frozen BXY.here 2)); have HBn := Aside0.mk (below_step (by repeat (first | (with_reducible first | exact HB.out | apply below_alloc | apply pw_below_drewN | apply below_drew1) | exact HB.out)) hz); clear HB; have HB := HBn; clear HBn; clear hz; dsimp only))
                  | (refine app_steps_step w9 rfl (.const (.slice none 0 0)) (.tmp 72) rfl (.slice none 0 0) [] ps XP cp rfl rfl (Kd.R_nil _ _ _ _ _) HP9.out (by repeat (first | (with_reducible first | exact HB.out | apply below_alloc | apply pw_below_drewN | apply below_drew1) | exact HB.out)) (by have := HPN.out; simp only [List.length_nil]; omega) ?_; intro v1 w10 ho hb hg; rw [List.nil_append] at ho; have HO := Aside0.mk ho; (first | (have BXYn : Box w9 _ _ (.cells #[.bool false, .int .i64 0, .int .i64 0] 43) := Box.grown (by (try with_reducible apply Box.drew); with_reducible first | exact BXY | exact BXY.alloc _ | exact Box.new2 (by repeat (first | (with_reducible first | exact HB.out | apply below_alloc | apply pw_below_drewN | apply below_drew1) | exact HB.out)) _ _ | exact Box.new (by repeat (first | (with_reducible first | exact HB.out | apply below_alloc | apply pw_below_drewN | apply below_drew1) | exact HB.out)) _ | exact (Box.new (by repeat (first | (with_reducible first | exact HB.out | apply below_alloc | apply pw_below_drewN | apply below_drew1) | exact HB.out)) _).alloc _ | exact (BXY.alloc _).alloc _) hg (by simp [Value.ownBlock]); (try clear BXY); have BXY := BXYn; clear BXYn) | skip); (first | (have BZn : Box w9 _ _ (.cells #[.bool true, .slice none 0 0] 41) := Box.grown (by (try with_reducible apply Box.drew); with_reducible first | exact BZ | exact BZ.alloc _ | exact Box.new2 (by repeat (first | (with_reducible first | exact HB.out | apply below_alloc | apply pw_below_drewN | apply below_drew1) | exact HB.out)) _ _ | exact Box.new (by repeat (first | (with_reducible first | exact HB.out | apply below_alloc | apply pw_below_drewN | apply below_drew1) | exact HB.out)) _ | exact (Box.new (by repeat (first | (with_reducible first | exact HB.out | apply below_alloc | apply pw_below_drewN | apply below_drew1) | exact HB.out)) _).alloc _ | exact (BZ.alloc _).alloc _) hg (by simp [Value.ownBlock]); (try clear BZ); have BZ := BZn; clear BZn) | skip); clear HB; have HB := Aside0.mk hb; clear ho hb hg)
                  | (refine app_now_step w9 rfl (.tmp 73) (.tmp 75) rfl v1 ps [⟨true, []⟩] (some ⟨_, 0, none⟩) 1 1 rfl rfl (by repeat (with_reducible first | exact HO.out | apply Kd.R_alloc)) (del_reads (show Box w9 _ _ (.cells #[.bool true, .slice none 0 0] 41) from (by (try with_reducible apply Box.drew); with_reducible first | exact BZ | exact BZ.alloc _ | exact Box.new2 (by repeat (first | (with_reducible first | exact HB.out | apply below_alloc | apply pw_below_drewN | apply below_drew1) | exact HB.out)) _ _ | exact Box.new (by repeat (first | (with_reducible first | exact HB.out | apply below_alloc | apply pw_below_drewN | apply below_drew1) | exact HB.out)) _ | exact (Box.new (by repeat (first | (with_reducible first | exact HB.out | apply below_alloc | apply pw_below_drewN | apply below_drew1) | exact HB.out)) _).alloc _ | exact (BZ.alloc _).alloc _)).here (nil_reads _)) (by repeat (first | (with_reducible first | exact HB.out | apply below_alloc | apply pw_below_drewN | apply below_drew1) | exact HB.out)) (by have := HPN.out; omega) ?_; intro v2 w11 ho2 hb2 hg; obtain ⟨XY, cy, rfl, hcy, hpy⟩ := ownS_reads ho2 hb2; have HPY := Aside0.mk hpy; (first | (have BXYn : Box w9 _ _ (.cells #[.bool false, .int .i64 0, .int .i64 0] 43) := Box.grownT (by (try with_reducible apply Box.drew); with_reducible first | exact BXY | exact BXY.alloc _ | exact Box.new2 (by repeat (first | (with_reducible first | exact HB.out | apply below_alloc | apply pw_below_drewN | apply below_drew1) | exact HB.out)) _ _ | exact Box.new (by repeat (first | (with_reducible first | exact HB.out | apply below_alloc | apply pw_below_drewN | apply below_drew1) | exact HB.out)) _ | exact (Box.new (by repeat (first | (with_reducible first | exact HB.out | apply below_alloc | apply pw_below_drewN | apply below_drew1) | exact HB.out)) _).alloc _ | exact (BXY.alloc _).alloc _) (by repeat (with_reducible first | exact HO.out | apply Kd.R_alloc)) hg (by decide); (try clear BXY); have BXY := BXYn; clear BXYn) | skip); clear HB; have HB := Aside0.mk hb2; clear ho2 hb2 hg hpy))
                all_goals
                  go_wp2
                  go_meet
                  case rel => (first
                    | (with_reducible exact ⟨_, rfl, rfl, ⟨blk_new _ _⟩, ⟨below_alloc HB.out _⟩⟩)
                    | exact ⟨_, rfl, rfl, ⟨(BXY.store HB.out).1⟩, ⟨(BXY.store HB.out).2⟩⟩)
              case rest =>
                obtain ⟨gz, rfl, rfl, HKZ, HBZ⟩ := hcut
                obtain ⟨x0, x1, x2⟩ := x_cells KX9.out HBZ.out
                obtain ⟨y0, y1', y2'⟩ := x_cells HKY.out HBZ.out
                obtain ⟨z0, z1', z2'⟩ := x_cells HKZ.out (Below.refl _ _)
                have HFin2 := Aside0.mk (below_step HFin.out HBZ.out)
                have HA2 := HA2.out
                have HB2 := HB2.out
                clear HFin HBZ HKZ KX9 HKY
                rcases HA2 with rfl | ha <;> rcases HB2 with rfl | hb
                all_goals
                  (try have qa1 : (a2 = -1) = False := eq_false (by omega))
                  (try have qa2 : ((ps.length : Int) ≤ a2) = True := eq_true ha)
                  (try have qb1 : (b2 = -1) = False := eq_false (by omega))
                  (try have qb2 : ((ps.length : Int) ≤ b2) = True := eq_true hb)
                  (try clear ha)
                  (try clear hb)
                  go_wp2
                  go_ret
                  exact ⟨rfl, HFin2.out⟩
      · have hz2' : smallB s2 = false := by simpa using hz2
        rw [hz2'] at HSM2
        go_enter Tryz.func4, Tryz.ntmps4
        go_wp2_with fail
        rw [← HW.out]
        refine C0.mono ?_
        rintro e w1 ⟨rfl, hb1⟩
        have HB := Aside0.mk hb1
        obtain ⟨kx0, kx1⟩ := raw_cells HX.out hb1
        clear hb1 C0
        go_wp2_with (first
          | (go_at_call 10; refine (HCL.out _ HB.out).mono ?_; rintro e w2 ⟨rfl, hb⟩; have HB2 := Aside0.mk (below_step (by repeat (first | (with_reducible first | exact HB.out | apply below_alloc | apply pw_below_drewN | apply below_drew1) | exact HB.out)) hb); clear HB; have HB := HB2; clear HB2 hb)
          | (go_at_call 20; (with_reducible refine (HSM1.out _ HB.out).mono ?_); rintro e w2 ⟨rfl, hb⟩; have HB2 := Aside0.mk (below_step (by repeat (first | (with_reducible first | exact HB.out | apply below_alloc | apply pw_below_drewN | apply below_drew1) | exact HB.out)) hb); clear HB; have HB := HB2; clear HB2 hb)
          | (go_at_call 20; (with_reducible refine (HSM2.out _ HB.out).mono ?_); rintro e w2 ⟨rfl, hb⟩; have HB2 := Aside0.mk (below_step (by repeat (first | (with_reducible first | exact HB.out | apply below_alloc | apply pw_below_drewN | apply below_drew1) | exact HB.out)) hb); clear HB; have HB := HB2; clear HB2 hb))
        go_ret
        exact ⟨rfl, below_step HB0.out HB.out⟩
    · have hz1' : smallB s1 = false := by simpa using hz1
      rw [hz1'] at HSM1
      go_enter Tryz.func4, Tryz.ntmps4
      go_wp2_with fail
      rw [← HW.out]
      refine C0.mono ?_
      rintro e w1 ⟨rfl, hb1⟩
      have HB := Aside0.mk hb1
      obtain ⟨kx0, kx1⟩ := raw_cells HX.out hb1
      clear hb1 C0
      go_wp2_with (first
        | (go_at_call 10; refine (HCL.out _ HB.out).mono ?_; rintro e w2 ⟨rfl, hb⟩; have HB2 := Aside0.mk (below_step (by repeat (first | (with_reducible first | exact HB.out | apply below_alloc | apply pw_below_drewN | apply below_drew1) | exact HB.out)) hb); clear HB; have HB := HB2; clear HB2 hb)
        | (go_at_call 20; (with_reducible refine (HSM1.out _ HB.out).mono ?_); rintro e w2 ⟨rfl, hb⟩; have HB2 := Aside0.mk (below_step (by repeat (first | (with_reducible first | exact HB.out | apply below_alloc | apply pw_below_drewN | apply below_drew1) | exact HB.out)) hb); clear HB; have HB := HB2; clear HB2 hb))
      go_ret
      exact ⟨rfl, below_step HB0.out HB.out⟩
  · have hl' : lightB 30 l = false := by simpa using hl
    rw [hl'] at HCL
    go_enter Tryz.func4, Tryz.ntmps4
    go_wp2_with fail
    rw [← HW.out]
    refine C0.mono ?_
    rintro e w1 ⟨rfl, hb1⟩
    have HB := Aside0.mk hb1
    obtain ⟨kx0, kx1⟩ := raw_cells HX.out hb1
    clear hb1 C0
    go_wp2_with (first
      | (go_at_call 10; refine (HCL.out _ HB.out).mono ?_; rintro e w2 ⟨rfl, hb⟩; have HB2 := Aside0.mk (below_step (by repeat (first | (with_reducible first | exact HB.out | apply below_alloc | apply pw_below_drewN | apply below_drew1) | exact HB.out)) hb); clear HB; have HB := HB2; clear HB2 hb))
    go_ret
    exact ⟨rfl, below_step HB0.out HB.out⟩
end Go.Proofs.YtcblijcalhaffaaGreatDoor
