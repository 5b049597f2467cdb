import Derived.Test.YtcblijcalhaffaaGreatDoorCmForm
namespace Go.Proofs.YtcblijcalhaffaaGreatDoor
open Go Go.BigFrame Go.RowKit Go.Proofs.YtcblijcalhaffaaGreatDoorW.PrintWords Go.Proofs.YtcblijcalhaffaaGreatDoorW.PrintLast Go.Proofs.YtcblijcalhaffaaGreatDoorW.PrintMore PCheckSound
open Go.Sort Go.Shelf
attribute [local go_sem] Oper.semAt_some

/-! law08.CheckRefuses. -/
/-- A parser's answer, and the checker's of the same text. -/
theorem text_pair {V : Nat} {FA : Option Addr} {cs : List (List Int)} (fc : Nat) (x : List UInt8) (hX : x.length ≤ 1000000) :
    ∃ n1 r y z n2, (n1 = 0 ∨ n1 = n2 ∧ n1 ≠ 0 ∧ r = false ∧ y = 0 ∧ z = 0) ∧ (∀ W, Env W → Calls Tryz.prog 22 #[strV x] W fun e W' => Below W.heap.size W W' ∧ ∃ A k c, e = .returned (.tuple #[.slice A k c, .int .i64 n1])) ∧
      ∀ W, FormI W V FA cs → Env W → Calls Tryz.prog 23 #[.agg #[.int .i64 V, .slice FA cs.length fc], strV x] W (Said W (.tuple #[.agg #[.bool r, .int .i64 y, .int .i64 z], .int .i64 n2])) := by
  cases hp : parseT x with
  | none =>
    refine ⟨9, false, 0, 0, 9, .inr ⟨rfl, by decide, rfl, rfl, rfl⟩, fun W E => ?_, fun W F E => ?_⟩
    · have C := p_parseText x W (by omega) E
      rw [hp] at C
      exact C.mono fun e W' h => ⟨h.1, _, _, _, h.2⟩
    · have C := p_ctext F fc x hX E
      rw [hp] at C
      exact C
  | some ps =>
    obtain ⟨r, y, z, n, h⟩ := chkV_shape V cs (ps.map ofP)
    refine ⟨0, r, y, z, n, .inl rfl, fun W E => ?_, fun W F E => ?_⟩
    · have C := p_parseText x W (by omega) E
      rw [hp] at C
      refine C.mono ?_
      rintro e W' ⟨hb, A, c, rfl, _⟩
      exact ⟨hb, _, _, _, rfl⟩
    · have C := p_ctext F fc x hX E
      rw [hp] at C
      rw [← h]
      exact C
theorem bin_pair {V : Nat} {FA : Option Addr} {cs : List (List Int)} (fc : Nat) (XA : Option Addr) (xc : Nat) (x : List UInt8) (hX : x.length ≤ 1000000) (hxc : x.length ≤ xc) :
    ∃ n1 r y z n2, (n1 = 0 ∨ n1 = n2 ∧ n1 ≠ 0 ∧ r = false ∧ y = 0 ∧ z = 0) ∧ (∀ W, Rd W XA x → Calls Tryz.prog 24 #[.slice XA x.length xc] W fun e W' => Below W.heap.size W W' ∧ ∃ A k c, e = .returned (.tuple #[.slice A k c, .int .i64 n1])) ∧
      ∀ W, FormI W V FA cs → Rd W XA x → Calls Tryz.prog 25 #[.agg #[.int .i64 V, .slice FA cs.length fc], .slice XA x.length xc] W (Said W (.tuple #[.agg #[.bool r, .int .i64 y, .int .i64 z], .int .i64 n2])) := by
  cases hp : parseB x with
  | form =>
    refine ⟨9, false, 0, 0, 9, .inr ⟨rfl, by decide, rfl, rfl, rfl⟩, fun W E => ?_, fun W F E => ?_⟩
    · have C := p_parseBin XA xc x W E hxc (by omega)
      rw [hp] at C
      exact C.mono fun e W' h => ⟨h.1, _, _, _, h.2⟩
    · have C := p_cbin F fc XA xc x hX E hxc
      rw [hp] at C
      exact C
  | short =>
    refine ⟨10, false, 0, 0, 10, .inr ⟨rfl, by decide, rfl, rfl, rfl⟩, fun W E => ?_, fun W F E => ?_⟩
    · have C := p_parseBin XA xc x W E hxc (by omega)
      rw [hp] at C
      exact C.mono fun e W' h => ⟨h.1, _, _, _, h.2⟩
    · have C := p_cbin F fc XA xc x hX E hxc
      rw [hp] at C
      exact C
  | ok ps rr =>
    obtain ⟨r, y, z, n, h⟩ := chkV_shape V cs (ps.map ofP)
    refine ⟨0, r, y, z, n, .inl rfl, fun W E => ?_, fun W F E => ?_⟩
    · have C := p_parseBin XA xc x W E hxc (by omega)
      rw [hp] at C
      refine C.mono ?_
      rintro e W' ⟨hb, A, c, rfl, _⟩
      exact ⟨hb, _, _, _, rfl⟩
    · have C := p_cbin F fc XA xc x hX E hxc
      rw [hp] at C
      rw [← h]
      exact C
/-- A step that deletes, alone. -/
theorem chk_del (V : Nat) (cs : List (List Int)) (zs : List Int) : chkV V cs (([⟨true, zs⟩] : List PStep).map ofP) = if rightC V zs then .tuple #[.agg #[.bool false, .int .i64 (-1), .int .i64 (-1)], .int .i64 0] else .tuple #[.agg #[.bool false, .int .i64 0, .int .i64 0], .int .i64 1] := by
  have h : chk cs (pairs (([⟨true, zs⟩] : List PStep).map ofP)) 0 = (-1, -1) := by
    simp only [List.map_cons, List.map_nil, ofP, pairs, chk]
  unfold chkV
  rw [h]
  simp only [List.map_cons, List.map_nil, ofP, List.all_cons, List.all_nil, Bool.and_true]
  rfl
/-- The box of a law's raw formula. -/
theorem raw_box (v : World) (u : Int) (A : Option Addr) (n c : Nat) : ∃ w, w = v.alloc (.cells #[.int .u8 u, .slice A n c] 24) ∧ w.heap[v.heap.size]? = some (.cells #[.int .u8 u, .slice A n c] 24 (0, 0)) ∧ Below v.heap.size v w :=
  ⟨_, rfl, heap_alloc_new v _, (Below.refl _ v).alloc (Nat.le_refl _) _⟩
theorem raw_cells {v w w1 : World} {u : Int} {A : Option Addr} {n c : Nat} (h : w.heap[v.heap.size]? = some (.cells #[.int .u8 u, .slice A n c] 24 (0, 0))) (hb : Below w.heap.size w w1) :
    w1.cell? ⟨v.heap.size, 0, none⟩ = some (.int .u8 u) ∧ w1.cell? ⟨v.heap.size, 1, none⟩ = some (.slice A n c) :=
  ⟨(blk_cell ((hb.block _ (blk_lt h)).trans h) 0).trans rfl, (blk_cell ((hb.block _ (blk_lt h)).trans h) 1).trans rfl⟩
theorem f_cells {w w1 : World} {pf V : Nat} {A : Option Addr} {n c : Nat} (h : w.heap[pf]? = some (.cells #[.int .i64 V, .slice A n c] 30 (0, 0))) (hb : Below w.heap.size w w1) :
    w1.cell? ⟨pf, 0, none⟩ = some (.int .i64 V) ∧ w1.cell? ⟨pf, 1, none⟩ = some (.slice A n c) :=
  ⟨(blk_cell ((hb.block _ (blk_lt h)).trans h) 0).trans rfl, (blk_cell ((hb.block _ (blk_lt h)).trans h) 1).trans rfl⟩
theorem right_snoc (V : Nat) (zs : List Int) (j : Nat) (h : j < zs.length) : rightC V (zs.take (j + 1)) = (rightC V (zs.take j) && rightV V (nth zs 0 j)) := by
  rw [take_snoc h 0]
  unfold rightC
  rw [List.all_append]
  simp
set_option maxRecDepth 100000 in
set_option maxHeartbeats 8000000 in
theorem refuses_any (u : Int) (hu : 0 ≤ u ∧ u ≤ 255) (A : Option Addr) (c : Nat) (l : List (List Int)) (hc : l.length ≤ c) (A1 : Option Addr) (c1 : Nat) (zs : List Int) (hc1 : zs.length ≤ c1) (A2 : Option Addr) (c2 : Nat) (b : List UInt8) (hc2 : b.length ≤ c2)
    (v : World) (hr : Kd.C kRaw v A l.length l) (hm : l.length ≤ 140737488355328) (hs : ∀ r ∈ l, r.length ≤ 140737488355328) (hr1 : Kd.C (Kd.int .i64) v A1 zs.length zs) (hr2 : Rd v A2 b) (E : Env v) :
    Calls Tryz.prog 6 #[.agg #[.int .u8 u, .slice A l.length c], .slice A1 zs.length c1, .slice A2 b.length c2] v (Said v (.bool true)) := by
  have hu2 := Tryz.underlying24
  have hu3 := Tryz.underlying30
  have hu4 := Tryz.underlying41
  have hm2 := hr1.2.1
  obtain ⟨w, hw, hx, hb0⟩ := raw_box v u A l.length c
  have HR := Aside0.mk (Kd.C_below hr hb0)
  have HR1 := Aside0.mk (Kd.C_below hr1 hb0)
  have HR2 := Aside0.mk (Kd.C_below hr2 hb0)
  have HE := Aside0.mk (E.below hb0)
  have HX := Aside0.mk hx
  have HB0 := Aside0.mk hb0
  have HW := Aside0.mk hw
  have HS := Aside0.mk hs
  clear hr hr1 hr2 E hx hb0 hw hs
  have C0 := fit_any w HE.out
  have HCL := Aside0.mk (fun W (hW : Below w.heap.size w W) => light_any u A c l 30 W (Kd.C_below HR.out hW) (by omega) hm HS.out)
  by_cases hl : lightB 30 l = true
  · have hsp := lightB_spec hl
    obtain ⟨V, cs, hV, hcn, hcl, har, hFo⟩ := formula_made u hu A c l 8 5 (by omega) (by omega) hc (by omega) HS.out
    have HFo := Aside0.mk hFo
    have HCN := Aside0.mk hcn
    clear hFo hcn
    by_cases hz : 20 < zs.length
    · rw [hl] at HCL
      have q1 : (20 < zs.length) = True := eq_true hz
      have q3 : ((20 : Int) < (zs.length : Int)) = True := eq_true (by omega)
      clear HFo
      go_enter Tryz.func6, Tryz.ntmps6
      go_wp2_with fail
      rw [← HW.out]
      refine C0.mono ?_
      rintro e w1 ⟨rfl, hb1⟩
      have HB := Aside0.mk hb1
      obtain ⟨kx0, kx1⟩ := raw_cells HX.out hb1
      have kc := conv_rd (Kd.C_below HR2.out hb1) c2
      clear hb1 C0
      go_wp2_with (first
        | (go_at_call 10; refine (HCL.out _ HB.out).mono ?_; rintro e w2 ⟨rfl, hb⟩; obtain ⟨kx0, kx1⟩ := raw_cells HX.out (below_step HB.out hb); have HB2 := Aside0.mk (below_step (by repeat (first | (with_reducible first | exact HB.out | apply below_alloc | apply pw_below_drewN | apply below_drew1) | exact HB.out)) hb); clear HB; have HB := HB2; clear HB2 hb))
      go_ret
      exact ⟨rfl, below_step HB0.out HB.out⟩
    · by_cases hbb : 300 < b.length
      · rw [hl] at HCL
        have q1 : (20 < zs.length) = False := eq_false hz
        have q2 : (300 < b.length) = True := eq_true hbb
        have q3 : ((20 : Int) < (zs.length : Int)) = False := eq_false (by omega)
        have q4 : ((300 : Int) < (b.length : Int)) = True := eq_true (by omega)
        clear HFo
        go_enter Tryz.func6, Tryz.ntmps6
        go_wp2_with fail
        rw [← HW.out]
        refine C0.mono ?_
        rintro e w1 ⟨rfl, hb1⟩
        have HB := Aside0.mk hb1
        obtain ⟨kx0, kx1⟩ := raw_cells HX.out hb1
        have kc := conv_rd (Kd.C_below HR2.out hb1) c2
        clear hb1 C0
        go_wp2_with (first
          | (go_at_call 10; refine (HCL.out _ HB.out).mono ?_; rintro e w2 ⟨rfl, hb⟩; obtain ⟨kx0, kx1⟩ := raw_cells HX.out (below_step HB.out hb); have HB2 := Aside0.mk (below_step (by repeat (first | (with_reducible first | exact HB.out | apply below_alloc | apply pw_below_drewN | apply below_drew1) | exact HB.out)) hb); clear HB; have HB := HB2; clear HB2 hb))
        go_ret
        exact ⟨rfl, below_step HB0.out HB.out⟩
      · rw [hl] at HCL
        have q1 : (20 < zs.length) = False := eq_false hz
        have q2 : (300 < b.length) = False := eq_false hbb
        have q3 : ((20 : Int) < (zs.length : Int)) = False := eq_false (by omega)
        have q4 : ((300 : Int) < (b.length : Int)) = False := eq_false (by omega)
        go_enter Tryz.func6, Tryz.ntmps6
        go_wp2_with fail
        rw [← HW.out]
        refine C0.mono ?_
        rintro e w1 ⟨rfl, hb1⟩
        have HB := Aside0.mk hb1
        obtain ⟨kx0, kx1⟩ := raw_cells HX.out hb1
        have kc := conv_rd (Kd.C_below HR2.out hb1) c2
        clear hb1 C0
        go_wp2_with (first
          | (go_at_call 10; refine (HCL.out _ HB.out).mono ?_; rintro e w2 ⟨rfl, hb⟩; obtain ⟨kx0, kx1⟩ := raw_cells HX.out (below_step HB.out hb); have HB2 := Aside0.mk (below_step (by repeat (first | (with_reducible first | exact HB.out | apply below_alloc | apply pw_below_drewN | apply below_drew1) | exact HB.out)) hb); clear HB; have HB := HB2; clear HB2 hb)
          | (go_at_call 11; refine (HFo.out _ (Kd.C_below HR.out HB.out)).mono ?_; rintro e w3 ⟨hb, X, c3, rfl, hc3, hF⟩; have HF := Aside0.mk hF; have HB2 := Aside0.mk (below_step (by repeat (first | (with_reducible first | exact HB.out | apply below_alloc | apply pw_below_drewN | apply below_drew1) | exact HB.out)) hb); clear HB; have HB := HB2; clear HB2 hb; clear hF kx0 kx1))
        have KFo := Aside0.mk (blk_new w3 (.cells #[.int .i64 V, .slice X cs.length c3] 30))
        have HB4 := Aside0.mk (below_alloc HB.out (.cells #[.int .i64 V, .slice X cs.length c3] 30))
        have HF4 := Aside0.mk (HF.out.below (below_alloc (Below.refl _ w3) (.cells #[.int .i64 V, .slice X cs.length c3] 30)))
        clear HF HB kc
        generalize w3.heap.size = pf at *
        generalize w3.alloc (.cells #[.int .i64 V, .slice X cs.length c3] 30) = w4 at *
        have hm2 := HR1.out.2.1
        go_loopg [41, 9] zs.length (fun gk v41 v9 w' => ∃ j : Nat, v41 = .int .i64 j ∧ j + gk = zs.length ∧ v9 = .bool (rightC V (zs.take j)) ∧ Aside0 (Below w4.heap.size w4 w'))
        case atStart => exact ⟨0, rfl, by omega, rfl, ⟨Below.refl _ _⟩⟩
        case round =>
          obtain ⟨j, rfl, hj, rfl, HB5⟩ := hrel
          have KF5 := Aside0.mk ((HB5.out.block _ (blk_lt KFo.out)).trans KFo.out)
          have kf0 := blk_cell KF5.out 0
          have kf1 := blk_cell KF5.out 1
          by_cases hjl : j < zs.length
          · obtain ⟨ad, e0, hx⟩ := at_num (Kd.C_below HR1.out (below_step HB4.out HB5.out)) j hjl
            cases e0
            have q5 : ((j : Int) < (zs.length : Int)) = True := eq_true (by omega)
            have q6 : (0 ≤ (j : Int)) = True := eq_true (by omega)
            have HT := Aside0.mk (right_snoc V zs j hjl)
            generalize nth zs 0 j = x at *
            have hn1 : (x != 0) = !decide (x = 0) := by rw [Bool.eq_iff_iff]; simp
            cases hr0 : rightC V (zs.take j) with
            | false =>
              go_wp2
              go_roundg (zs.length - (j + 1))
              case measure => omega
              case rel => exact ⟨j + 1, by go_num, by omega, by rw [HT.out, hr0]; rfl, HB5⟩
            | true =>
              rw [hr0] at HT
              by_cases h1 : x = 0
              · have q7 : (x == 0) = true := by simp [h1]
                have q8 : (x != 0) = false := by simp [h1]
                have HV := Aside0.mk (show rightV V x = false by rw [Bool.eq_false_iff]; intro h; exact (rightV_iff.1 h).1 h1)
                clear hr0 h1 hn1
                go_wp2
                go_roundg (zs.length - (j + 1))
                case measure => omega
                case rel => exact ⟨j + 1, by go_num, by omega, by rw [HT.out, HV.out]; rfl, HB5⟩
              · have q7 : (x == 0) = false := by simp [h1]
                have q8 : (x != 0) = true := by simp [h1]
                by_cases h2 : x ≤ (V : Int)
                · by_cases h3 : -(V : Int) ≤ x
                  · have HV := Aside0.mk (show rightV V x = true from rightV_iff.2 ⟨h1, h2, h3⟩)
                    clear hr0 hn1
                    go_wp2
                    go_roundg (zs.length - (j + 1))
                    case measure => omega
                    case rel => exact ⟨j + 1, by go_num, by omega, by rw [HT.out, HV.out]; rfl, HB5⟩
                  · have HV := Aside0.mk (show rightV V x = false by rw [Bool.eq_false_iff]; intro h; exact h3 (rightV_iff.1 h).2.2)
                    have q9 : (-(V : Int) ≤ x) = False := eq_false h3
                    clear hr0 hn1
                    go_wp2
                    go_roundg (zs.length - (j + 1))
                    case measure => omega
                    case rel => exact ⟨j + 1, by go_num, by omega, by rw [HT.out, HV.out]; rfl, HB5⟩
                · have HV := Aside0.mk (show rightV V x = false by rw [Bool.eq_false_iff]; intro h; exact h2 (rightV_iff.1 h).2.1)
                  have q9 : (x ≤ (V : Int)) = False := eq_false h2
                  clear hr0 hn1
                  go_wp2
                  go_roundg (zs.length - (j + 1))
                  case measure => omega
                  case rel => exact ⟨j + 1, by go_num, by omega, by rw [HT.out, HV.out]; rfl, HB5⟩
          · have q5 : ((j : Int) < (zs.length : Int)) = False := eq_false (by omega)
            rw [List.take_of_length_le (by omega)]
            have HB6 := Aside0.mk (below_step HB4.out HB5.out)
            have HF6 := Aside0.mk (HF4.out.below HB5.out)
            obtain ⟨n1, r1, y1, z1, n2, ht, T1, T2⟩ := text_pair (V := V) (FA := X) (cs := cs) c3 b (by omega)
            obtain ⟨m1, s1, y2, z2, m2, hbn, B1, B2⟩ := bin_pair (V := V) (FA := X) (cs := cs) c3 A2 c2 b (by omega) hc2
            have HT1 := Aside0.mk T1
            have HT2 := Aside0.mk T2
            have HN1 := Aside0.mk B1
            have HN2 := Aside0.mk B2
            have HT := Aside0.mk ht
            have HN := Aside0.mk hbn
            clear T1 T2 B1 B2 ht hbn
            have CC := p_check (HF6.out.below (below_alloc (Below.refl _ wr) (.cells #[.bool true, .slice A1 zs.length c1] 41))) c3 (some ⟨wr.heap.size, 0, none⟩) 1 [⟨true, zs⟩]
              (pc_one ⟨true, zs⟩ A1 c1 (blk_new wr _) hc1 (Kd.C_below HR1.out (below_alloc HB6.out _))) (by simp) (fun s hs => by simp only [List.mem_singleton] at hs; subst hs; show zs.length ≤ 1000000; omega)
            rw [chk_del] at CC
            generalize rightC V zs = rr at *
            have HF7 := Aside0.mk HF6.out
            obtain ⟨kf0, kf1⟩ := f_cells KF5.out (Below.refl _ _)
            have kg0 := fun o => cell_more kf0 o
            have kg1 := fun o => cell_more kf1 o
            clear HB5 HB4 HF4 KFo
            cases rr with
            | true =>
              rw [if_pos rfl] at CC
              go_wp2_with (first
                | (go_at_call 19
                   refine CC.mono ?_
                   rintro e w5 ⟨rfl, hb⟩
                   have HBr := Aside0.mk (below_step (below_alloc (Below.refl _ wr) _) hb)
                   have HB := Aside0.mk (below_step HB6.out HBr.out)
                   obtain ⟨kf0, kf1⟩ := f_cells KF5.out HBr.out
                   have kg0 := fun o => cell_more kf0 o
                   have kg1 := fun o => cell_more kf1 o
                   clear hb CC))
              all_goals rcases HT.out with rfl | ⟨rfl, hn1, rfl, rfl, rfl⟩
              all_goals rcases HN.out with rfl | ⟨rfl, hm1, rfl, rfl, rfl⟩
              all_goals
                try (have q11 : (n1 == 0) = false := by simpa using hn1)
                try (have q12 : (n1 != 0) = true := by simpa using hn1)
                try (have q13 : (m1 == 0) = false := by simpa using hm1)
                try (have q14 : (m1 != 0) = true := by simpa using hm1)
                clear HT HN
                go_wp2_with (first
                  | (go_at_call 22
                     refine (HT1.out _ (HE.out.below (below_step HB6.out (below_step HBr.out (by first | exact below_alloc (Below.refl _ _) _ | exact Below.refl _ _))))).mono ?_
                     rintro e w6 ⟨hb, A6, k6, c6, rfl⟩
                     have hz := below_step HBr.out (below_step (by first | exact below_alloc (Below.refl _ _) _ | exact Below.refl _ _) hb)
                     clear HBr
                     have HBr := Aside0.mk hz
                     obtain ⟨kf0, kf1⟩ := f_cells KF5.out HBr.out
                     have kg0 := fun o => cell_more kf0 o
                     have kg1 := fun o => cell_more kf1 o
                     clear hb hz)
                  | (go_at_call 23
                     refine (HT2.out _ (HF7.out.below (below_step HBr.out (by first | exact below_alloc (Below.refl _ _) _ | exact Below.refl _ _))) (HE.out.below (below_step HB6.out (below_step HBr.out (by first | exact below_alloc (Below.refl _ _) _ | exact Below.refl _ _))))).mono ?_
                     rintro e w7 ⟨rfl, hb⟩
                     have hz := below_step HBr.out (below_step (by first | exact below_alloc (Below.refl _ _) _ | exact Below.refl _ _) hb)
                     clear HBr
                     have HBr := Aside0.mk hz
                     obtain ⟨kf0, kf1⟩ := f_cells KF5.out HBr.out
                     have kg0 := fun o => cell_more kf0 o
                     have kg1 := fun o => cell_more kf1 o
                     clear hb hz)
                  | (go_at_call 24
                     refine (HN1.out _ (Kd.C_below HR2.out (below_step HB6.out (below_step HBr.out (by first | exact below_alloc (Below.refl _ _) _ | exact Below.refl _ _))))).mono ?_
                     rintro e w8 ⟨hb, A8, k8, c8, rfl⟩
                     have hz := below_step HBr.out (below_step (by first | exact below_alloc (Below.refl _ _) _ | exact Below.refl _ _) hb)
                     clear HBr
                     have HBr := Aside0.mk hz
                     obtain ⟨kf0, kf1⟩ := f_cells KF5.out HBr.out
                     have kg0 := fun o => cell_more kf0 o
                     have kg1 := fun o => cell_more kf1 o
                     clear hb hz)
                  | (go_at_call 25
                     refine (HN2.out _ (HF7.out.below (below_step HBr.out (by first | exact below_alloc (Below.refl _ _) _ | exact Below.refl _ _))) (Kd.C_below HR2.out (below_step HB6.out (below_step HBr.out (by first | exact below_alloc (Below.refl _ _) _ | exact Below.refl _ _))))).mono ?_
                     rintro e w9 ⟨rfl, hb⟩
                     have hz := below_step HBr.out (below_step (by first | exact below_alloc (Below.refl _ _) _ | exact Below.refl _ _) hb)
                     clear HBr
                     have HBr := Aside0.mk hz
                     obtain ⟨kf0, kf1⟩ := f_cells KF5.out HBr.out
                     have kg0 := fun o => cell_more kf0 o
                     have kg1 := fun o => cell_more kf1 o
                     clear hb hz))
                go_ret
                exact ⟨rfl, below_step HB0.out (below_step HB6.out (below_step HBr.out (below_alloc (Below.refl _ _) _)))⟩
            | false =>
              rw [if_neg (by decide)] at CC
              go_wp2_with (first
                | (go_at_call 19
                   refine CC.mono ?_
                   rintro e w5 ⟨rfl, hb⟩
                   have HBr := Aside0.mk (below_step (below_alloc (Below.refl _ wr) _) hb)
                   have HB := Aside0.mk (below_step HB6.out HBr.out)
                   obtain ⟨kf0, kf1⟩ := f_cells KF5.out HBr.out
                   have kg0 := fun o => cell_more kf0 o
                   have kg1 := fun o => cell_more kf1 o
                   clear hb CC))
              all_goals rcases HT.out with rfl | ⟨rfl, hn1, rfl, rfl, rfl⟩
              all_goals rcases HN.out with rfl | ⟨rfl, hm1, rfl, rfl, rfl⟩
              all_goals
                try (have q11 : (n1 == 0) = false := by simpa using hn1)
                try (have q12 : (n1 != 0) = true := by simpa using hn1)
                try (have q13 : (m1 == 0) = false := by simpa using hm1)
                try (have q14 : (m1 != 0) = true := by simpa using hm1)
                clear HT HN
                go_wp2_with (first
                  | (go_at_call 22
                     refine (HT1.out _ (HE.out.below (below_step HB6.out (below_step HBr.out (by first | exact below_alloc (Below.refl _ _) _ | exact Below.refl _ _))))).mono ?_
                     rintro e w6 ⟨hb, A6, k6, c6, rfl⟩
                     have hz := below_step HBr.out (below_step (by first | exact below_alloc (Below.refl _ _) _ | exact Below.refl _ _) hb)
                     clear HBr
                     have HBr := Aside0.mk hz
                     obtain ⟨kf0, kf1⟩ := f_cells KF5.out HBr.out
                     have kg0 := fun o => cell_more kf0 o
                     have kg1 := fun o => cell_more kf1 o
                     clear hb hz)
                  | (go_at_call 23
                     refine (HT2.out _ (HF7.out.below (below_step HBr.out (by first | exact below_alloc (Below.refl _ _) _ | exact Below.refl _ _))) (HE.out.below (below_step HB6.out (below_step HBr.out (by first | exact below_alloc (Below.refl _ _) _ | exact Below.refl _ _))))).mono ?_
                     rintro e w7 ⟨rfl, hb⟩
                     have hz := below_step HBr.out (below_step (by first | exact below_alloc (Below.refl _ _) _ | exact Below.refl _ _) hb)
                     clear HBr
                     have HBr := Aside0.mk hz
                     obtain ⟨kf0, kf1⟩ := f_cells KF5.out HBr.out
                     have kg0 := fun o => cell_more kf0 o
                     have kg1 := fun o => cell_more kf1 o
                     clear hb hz)
                  | (go_at_call 24
                     refine (HN1.out _ (Kd.C_below HR2.out (below_step HB6.out (below_step HBr.out (by first | exact below_alloc (Below.refl _ _) _ | exact Below.refl _ _))))).mono ?_
                     rintro e w8 ⟨hb, A8, k8, c8, rfl⟩
                     have hz := below_step HBr.out (below_step (by first | exact below_alloc (Below.refl _ _) _ | exact Below.refl _ _) hb)
                     clear HBr
                     have HBr := Aside0.mk hz
                     obtain ⟨kf0, kf1⟩ := f_cells KF5.out HBr.out
                     have kg0 := fun o => cell_more kf0 o
                     have kg1 := fun o => cell_more kf1 o
                     clear hb hz)
                  | (go_at_call 25
                     refine (HN2.out _ (HF7.out.below (below_step HBr.out (by first | exact below_alloc (Below.refl _ _) _ | exact Below.refl _ _))) (Kd.C_below HR2.out (below_step HB6.out (below_step HBr.out (by first | exact below_alloc (Below.refl _ _) _ | exact Below.refl _ _))))).mono ?_
                     rintro e w9 ⟨rfl, hb⟩
                     have hz := below_step HBr.out (below_step (by first | exact below_alloc (Below.refl _ _) _ | exact Below.refl _ _) hb)
                     clear HBr
                     have HBr := Aside0.mk hz
                     obtain ⟨kf0, kf1⟩ := f_cells KF5.out HBr.out
                     have kg0 := fun o => cell_more kf0 o
                     have kg1 := fun o => cell_more kf1 o
                     clear hb hz))
                go_ret
                exact ⟨rfl, below_step HB0.out (below_step HB6.out (below_step HBr.out (below_alloc (Below.refl _ _) _)))⟩
  · have hl' : lightB 30 l = false := by simpa using hl
    rw [hl'] at HCL
    go_enter Tryz.func6, Tryz.ntmps6
    go_wp2_with fail
    rw [← HW.out]
    refine C0.mono ?_
    rintro e w1 ⟨rfl, hb1⟩
    have HB := Aside0.mk hb1
    obtain ⟨kx0, kx1⟩ := raw_cells HX.out hb1
    have kc := conv_rd (Kd.C_below HR2.out hb1) c2
    clear hb1 C0
    go_wp2_with (first
      | (go_at_call 10; refine (HCL.out _ HB.out).mono ?_; rintro e w2 ⟨rfl, hb⟩; obtain ⟨kx0, kx1⟩ := raw_cells HX.out (below_step HB.out hb); have HB2 := Aside0.mk (below_step (by repeat (first | (with_reducible first | exact HB.out | apply below_alloc | apply pw_below_drewN | apply below_drew1) | exact HB.out)) hb); clear HB; have HB := HB2; clear HB2 hb))
    go_ret
    exact ⟨rfl, below_step HB0.out HB.out⟩
end Go.Proofs.YtcblijcalhaffaaGreatDoor
