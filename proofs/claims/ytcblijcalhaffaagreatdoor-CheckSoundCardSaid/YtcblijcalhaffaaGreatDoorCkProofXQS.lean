import Derived.Test.YtcblijcalhaffaaGreatDoorPCheckSoundx0QS
import Derived.Test.YtcblijcalhaffaaGreatDoorPCheckSoundx7QS
namespace Go.Proofs.YtcblijcalhaffaaGreatDoor.PCheckSound
open Go.RowKit Go.Proofs.YtcblijcalhaffaaGreatDoorW.PrintWords Go.Proofs.YtcblijcalhaffaaGreatDoorW.PrintLast Go.Proofs.YtcblijcalhaffaaGreatDoorW.PrintMore
attribute [local go_sem] max2_int min2_int max_two min_two max_three min_three max_four min_four   -- for this text's walks alone
set_option linter.unusedVariables false
set_option linter.unusedSimpArgs false

theorem v_away1 {α : Type} {d : Kd α} {e base n c g : Nat} {ok : Nat → Prop} {W : World} {ad : Addr} {xs : List α} (h : Kd.V d e W base ok (.slice (some ad) n c) xs) (hok : ∀ k, ok k → k ≠ g) (hn : 0 < n) (hs : 0 < d.sz) : some g ≠ (Value.slice (some ad) n c).ownBlock := by
  intro e1
  have h1 := Kd.F_in (Kd.V_F h) rfl hn hs
  have h2 : g = ad.block := Option.some.inj e1
  exact hok _ h1 h2.symm
/-! ### bradawllaw08_Proof: function 21 -/
def bradawllaw08_Proof.l0 : Nat → List (S41) → List (S86) → Int → Int → Int → List (List Int) → Option ((List (S41)))
  | 0, _, _, _, _, _, _ => none
  | k + 1, x5, x9, x10, x11, x241000, x241001 => if x11 < x10 then (if 0 ≤ x11 then (if x11 < (x9.length : Int) then ((bradawllaw07_Lits.f k ((rd_T86 x9 x11).f1) x241000).bind fun t243 => (if (rd_T86 x9 x11).f0 = true then (if (Go.bits .and .u8 ((rd_T86 x9 x11).f2) 1) = 0 then (if (x241001.length : Int) > 0 then (if (x241001.length : Int) = 0 then (none) else (if 0 ≤ (Int.tmod (wrap64 (((rd_T86 x9 x11).f2) / 2)) (x241001.length : Int)) then (if (Int.tmod (wrap64 (((rd_T86 x9 x11).f2) / 2)) (x241001.length : Int)) < (x241001.length : Int) then (if x5.length < 4398046511104 then (bradawllaw08_Proof.l0 k (x5 ++ [(⟨(rd_T86 x9 x11).f0, rd_L2 x241001 (Int.tmod (wrap64 (((rd_T86 x9 x11).f2) / 2)) (x241001.length : Int))⟩ : S41)]) x9 x10 (wrap64 (x11 + 1)) x241000 x241001) else (none)) else (none)) else (none))) else (if x5.length < 4398046511104 then (bradawllaw08_Proof.l0 k (x5 ++ [(⟨(rd_T86 x9 x11).f0, t243⟩ : S41)]) x9 x10 (wrap64 (x11 + 1)) x241000 x241001) else (none))) else (if x5.length < 4398046511104 then (bradawllaw08_Proof.l0 k (x5 ++ [(⟨(rd_T86 x9 x11).f0, t243⟩ : S41)]) x9 x10 (wrap64 (x11 + 1)) x241000 x241001) else (none))) else (if x5.length < 4398046511104 then (bradawllaw08_Proof.l0 k (x5 ++ [(⟨(rd_T86 x9 x11).f0, t243⟩ : S41)]) x9 x10 (wrap64 (x11 + 1)) x241000 x241001) else (none)))) else (none)) else (none)) else (some x5)
def bradawllaw08_Proof.f (k : Nat) (l0 : List (S86)) (a1_0 : Int) (l1_1 : List (List Int)) : Option ((List (S41))) := bradawllaw08_Proof.l0 k ([] : List (S41)) l0 (l0.length : Int) 0 a1_0 l1_1
theorem bradawllaw08_Proof.mono_l : ∀ k, (∀ y0 y1 y2 y3 y4 y5, LeO (bradawllaw08_Proof.l0 k y0 y1 y2 y3 y4 y5) (bradawllaw08_Proof.l0 (k + 1) y0 y1 y2 y3 y4 y5))
  | 0 => fun _ _ _ _ _ _ r h => by simp [bradawllaw08_Proof.l0] at h
  | k + 1 => by
    have ih0 := bradawllaw08_Proof.mono_l k
    · intro y0 y1 y2 y3 y4 y5
      unfold bradawllaw08_Proof.l0
      repeat' first
      | (with_reducible exact ih0 _ _ _ _ _ _)
      | (with_reducible exact bradawllaw07_Lits.mono _ _ _)
      | (with_reducible exact LeO.refl _)
      | (with_reducible exact LeO.none _)
      | (with_reducible refine LeO.ite ?_ ?_)
      | (with_reducible refine LeO.bind ?_ (fun _ => ?_))
      | exact ih0 _ _ _ _ _ _
      | exact bradawllaw07_Lits.mono _ _ _
      | exact LeO.none _
      | refine LeO.ite ?_ ?_
      | refine LeO.bind ?_ (fun _ => ?_)
theorem bradawllaw08_Proof.mono : ∀ a0 a1 a2 k, LeO (bradawllaw08_Proof.f k a0 a1 a2) (bradawllaw08_Proof.f (k + 1) a0 a1 a2) := by
  intro a0 a1 a2 k
  have ih0 := bradawllaw08_Proof.mono_l k
  unfold bradawllaw08_Proof.f
  repeat' first
      | (with_reducible exact ih0 _ _ _ _ _ _)
      | (with_reducible exact bradawllaw07_Lits.mono _ _ _)
      | (with_reducible exact LeO.refl _)
      | (with_reducible exact LeO.none _)
      | (with_reducible refine LeO.ite ?_ ?_)
      | (with_reducible refine LeO.bind ?_ (fun _ => ?_))
      | exact ih0 _ _ _ _ _ _
      | exact bradawllaw07_Lits.mono _ _ _
      | exact LeO.none _
      | refine LeO.ite ?_ ?_
      | refine LeO.bind ?_ (fun _ => ?_)
def bradawllaw08_Proof.T5 : Bool × List (List Nat × List Nat) := (true, [([], []), ([0], [0]), ([], []), ([2], [2]), ([], []), ([4], [4]), ([3, 5], [3, 5]), ([1, 6], [1, 6]), ([], []), ([8, 7, 6, 0, 1, 2, 3, 4, 5, 6, 7, 8], [7, 8])])
def bradawllaw08_Proof.B5 : List Nat := [0, 1, 0, 4, 0, 16, 60, 127, 0, 511]
theorem bradawllaw08_Proof.tab5 : rtab .any (opsOf Tryz.f21 5) = bradawllaw08_Proof.T5 := by kernel_rfl
theorem bradawllaw08_Proof.bits5 : waitsOk bradawllaw08_Proof.T5.2 bradawllaw08_Proof.B5 = true := by kernel_rfl
def bradawllaw08_Proof.T7 : Bool × List (List Nat × List Nat) := (true, [([], []), ([0], [0]), ([], []), ([2], [2]), ([3], [3]), ([4], [4]), ([], []), ([6], [6]), ([7], [7]), ([5, 8], [5, 8]), ([1, 9], [1, 9]), ([10], [10]), ([0, 1, 2, 3, 4, 5, 6, 7, 8, 9, 10, 11], []), ([12, 11, 0, 1, 2, 3, 4, 5, 6, 7, 8, 9, 10, 11], [11, 12])])
def bradawllaw08_Proof.B7 : List Nat := [0, 1, 0, 4, 12, 28, 0, 64, 192, 508, 1023, 2047, 4095, 8191]
theorem bradawllaw08_Proof.tab7 : rtab .any (opsOf Tryz.f21 7) = bradawllaw08_Proof.T7 := by kernel_rfl
theorem bradawllaw08_Proof.bits7 : waitsOk bradawllaw08_Proof.T7.2 bradawllaw08_Proof.B7 = true := by kernel_rfl
set_option maxHeartbeats 8000000 in
set_option maxRecDepth 100000 in
theorem bradawllaw08_Proof.calls (k : Nat) (A0 : Option Addr) (c0 : Nat) (l0 : List (S86)) (a1_0 : Int) (P1_1_ : Nat → Prop) (A1_1 : Option Addr) (c1_1 : Nat) (l1_1 : List (List Int)) (r : List (S41)) (w : World) (hr0 : Kd.C k86 w A0 l0.length l0) (hc0 : l0.length ≤ c0) (hs1_1 : Kd.V (Kd.slice 3 (Kd.int .i64)) 34 w w.heap.size (fun k_ => P1_1_ k_) (.slice A1_1 l1_1.length c1_1) l1_1) (h : bradawllaw08_Proof.f k l0 a1_0 l1_1 = some r) :
    Calls Tryz.prog 21 #[.slice A0 l0.length c0, .agg #[.int .i64 a1_0, .slice A1_1 l1_1.length c1_1]] w fun e w' => ∃ v0_ : Value, e = .returned (v0_) ∧ Kd.N k41 41 w' w.heap.size (fun k_ => (P1_1_ k_ ∨ w.heap.size ≤ k_)) v0_ r ∧ Below w.heap.size w w' := by
  have hu30 := Tryz.underlying30
  have hu86 := Tryz.underlying86
  have hu41 := Tryz.underlying41
  have HR0 := Aside0.mk hr0
  have HC0 := Aside0.mk hc0
  clear hr0 hc0
  have HO1_1 := Aside0.mk (show Kd.V (Kd.slice 3 (Kd.int .i64)) 34 w w.heap.size (fun k_ => (P1_1_ k_ ∨ w.heap.size ≤ k_)) (.slice A1_1 l1_1.length c1_1) l1_1 from Kd.V_mono hs1_1 (fun k_ hk => .inl hk))
  have HB := Aside0.mk (Below.refl w.heap.size w)
  have H : (bradawllaw08_Proof.l0 k ([] : List (S41)) l0 (l0.length : Int) 0 a1_0 l1_1) = some r := h
  clear h
  have H' := Aside0.mk H
  clear H
  go_enter Tryz.func21, Tryz.ntmps21
  go_wp2_with (first | ((with_reducible refine gate_dst (N := 3) rfl ?_); (try (refine gate_guard (by rfl) ?_; dsimp only)); refine box_event ?hg (N := 3) ?hd (cs := #[.int .i64 a1_0, .slice A1_1 l1_1.length c1_1]) (t := 30) ?hr ?_; (case hd => rfl); (case hg => rfl); (case hr => first | (go_simp; done) | (go_simp; rfl)); intro gb240 hg w3 hbox hb; have n0_ := Aside0.mk (Kd.V_below (Kd.V_elderB (by (with_reducible repeat (first | apply Kd.V_alloc | apply Kd.V_drewN | apply Kd.V_drew)); exact HO1_1.out) gb240 (Nat.le_of_eq hg.symm)) hb); have n1_ := Aside0.mk (below_step (by repeat (first | (with_reducible first | exact HB.out | apply below_alloc | apply pw_below_drewN | apply below_drew1) | exact HB.out)) hb); have n2_ := Aside0.mk (hbox); have n3_ := Aside0.mk ((by rw [hg]; exact (below_size (by repeat (first | (with_reducible first | exact HB.out | apply below_alloc | apply pw_below_drewN | apply below_drew1) | exact HB.out))) : w.heap.size ≤ gb240)); have n4_ := Aside0.mk ((by rw [hg]; exact (below_size (by repeat (first | (with_reducible first | exact HB.out | apply below_alloc | apply pw_below_drewN | apply below_drew1) | exact HB.out))) : w.heap.size ≤ gb240)); clear HO1_1; clear HB; have HO1_1 := n0_; have HB := n1_; have BK240 := n2_; have GW240 := n3_; have GE240 := n4_; clear n0_ n1_ n2_ n3_ n4_; clear hb hbox hg))
  go_loopg [5, 11] k (fun kq v5 v11 w' => ∃ (x5_1 : List (S41)) (x11_1 : Int), v11 = .int .i64 x11_1 ∧ Aside0 (bradawllaw08_Proof.l0 kq x5_1 l0 (l0.length : Int) x11_1 a1_0 l1_1 = some r) ∧ Aside0 (kq ≤ k) ∧ Aside0 (Kd.N k41 41 w' w.heap.size (fun k_ => (P1_1_ k_ ∨ w.heap.size ≤ k_) ∧ k_ ≠ gb240) v5 x5_1) ∧ Aside0 (Kd.V (Kd.slice 3 (Kd.int .i64)) 34 w' w.heap.size (fun k_ => (P1_1_ k_ ∨ w.heap.size ≤ k_) ∧ some k_ ≠ (v5 : Value).ownBlock ∧ k_ ≠ gb240) (.slice A1_1 l1_1.length c1_1) l1_1) ∧ Aside0 (w'.heap[gb240]? = some (.cells #[.int .i64 a1_0, (.slice A1_1 l1_1.length c1_1)] 30 (0, 0))) ∧ Aside0 (Below w.heap.size w w'))
  case atStart => exact ⟨(([] : List (S41))), (0), (by first | rfl | (simp; done) | (simp [*]; done)), H', ⟨Nat.le_refl _⟩, ⟨by first | exact Kd.S_nil _ _ _ _ _ | exact Kd.N_nil _ _ _ _ _ | exact Kd.V_nil _ _ _ _ _ | exact Kd.Q_nil _ _ _ _ _ | exact Kd.R_nil _ _ _ _ _⟩, ⟨by (with_reducible repeat (first | apply Kd.V_alloc | apply Kd.V_drewN | apply Kd.V_drew)); exact Kd.V_mono HO1_1.out (fun _ hk => ⟨hk.1, ⟨(by simp [Value.ownBlock]), hk.2⟩⟩)⟩, ⟨by (with_reducible repeat (first | refine blk_drewN ?_ _ | refine blk_drew ?_ | refine blk_alloc ?_ _)); exact BK240.out⟩, ⟨by repeat (first | (with_reducible first | exact HB.out | apply below_alloc | apply pw_below_drewN | apply below_drew1 | refine below_set ?_ GE240.out) | exact HB.out)⟩⟩
  case round =>
    clear H'
    try clear c1
    try clear c2
    try clear p2
    obtain ⟨x5_1, x11_1, rfl, HA, HK1, HO_5, HO_241001, BK240, HB⟩ := hrel
    cases gk with
    | zero => exact absurd HA.out (by simp [bradawllaw08_Proof.l0])
    | succ k1 =>
      have H := HA.out
      clear HA
      simp only [bradawllaw08_Proof.l0] at H
      by_cases c4 : x11_1 < (l0.length : Int)
      · rw [if_pos c4] at H
        have c4b0 : decide (x11_1 < (l0.length : Int)) = true := decide_eq_true c4
        clear c4
        by_cases c5 : 0 ≤ x11_1
        · rw [if_pos c5] at H
          have c5b0 : decide (0 ≤ x11_1) = true := decide_eq_true c5
          clear c5
          by_cases c6 : x11_1 < (l0.length : Int)
          · rw [if_pos c6] at H
            have c6b0 : decide (x11_1 < (l0.length : Int)) = true := decide_eq_true c6
            clear c6
            replace H := Option.bind_eq_some_iff.mp H
            obtain ⟨t243, A70, H⟩ := H
            replace H : (if (rd_T86 l0 x11_1).f0 = true then (if (Go.bits .and .u8 ((rd_T86 l0 x11_1).f2) 1) = 0 then (if (l1_1.length : Int) > 0 then (if (l1_1.length : Int) = 0 then (none) else (if 0 ≤ (Int.tmod (wrap64 (((rd_T86 l0 x11_1).f2) / 2)) (l1_1.length : Int)) then (if (Int.tmod (wrap64 (((rd_T86 l0 x11_1).f2) / 2)) (l1_1.length : Int)) < (l1_1.length : Int) then (if x5_1.length < 4398046511104 then (bradawllaw08_Proof.l0 k1 (x5_1 ++ [(⟨(rd_T86 l0 x11_1).f0, rd_L2 l1_1 (Int.tmod (wrap64 (((rd_T86 l0 x11_1).f2) / 2)) (l1_1.length : Int))⟩ : S41)]) l0 (l0.length : Int) (wrap64 (x11_1 + 1)) a1_0 l1_1) else (none)) else (none)) else (none))) else (if x5_1.length < 4398046511104 then (bradawllaw08_Proof.l0 k1 (x5_1 ++ [(⟨(rd_T86 l0 x11_1).f0, t243⟩ : S41)]) l0 (l0.length : Int) (wrap64 (x11_1 + 1)) a1_0 l1_1) else (none))) else (if x5_1.length < 4398046511104 then (bradawllaw08_Proof.l0 k1 (x5_1 ++ [(⟨(rd_T86 l0 x11_1).f0, t243⟩ : S41)]) l0 (l0.length : Int) (wrap64 (x11_1 + 1)) a1_0 l1_1) else (none))) else (if x5_1.length < 4398046511104 then (bradawllaw08_Proof.l0 k1 (x5_1 ++ [(⟨(rd_T86 l0 x11_1).f0, t243⟩ : S41)]) l0 (l0.length : Int) (wrap64 (x11_1 + 1)) a1_0 l1_1) else (none))) = some r := H
            have A7 := Aside0.mk A70
            clear A70
            obtain ⟨bq8, hbq8⟩ : ∃ b_ : Bool, b_ = ((rd_T86 l0 x11_1).f0) := ⟨_, rfl⟩
            replace H : (if bq8 = true then (if (Go.bits .and .u8 ((rd_T86 l0 x11_1).f2) 1) = 0 then (if (l1_1.length : Int) > 0 then (if (l1_1.length : Int) = 0 then (none) else (if 0 ≤ (Int.tmod (wrap64 (((rd_T86 l0 x11_1).f2) / 2)) (l1_1.length : Int)) then (if (Int.tmod (wrap64 (((rd_T86 l0 x11_1).f2) / 2)) (l1_1.length : Int)) < (l1_1.length : Int) then (if x5_1.length < 4398046511104 then (bradawllaw08_Proof.l0 k1 (x5_1 ++ [(⟨bq8, rd_L2 l1_1 (Int.tmod (wrap64 (((rd_T86 l0 x11_1).f2) / 2)) (l1_1.length : Int))⟩ : S41)]) l0 (l0.length : Int) (wrap64 (x11_1 + 1)) a1_0 l1_1) else (none)) else (none)) else (none))) else (if x5_1.length < 4398046511104 then (bradawllaw08_Proof.l0 k1 (x5_1 ++ [(⟨bq8, t243⟩ : S41)]) l0 (l0.length : Int) (wrap64 (x11_1 + 1)) a1_0 l1_1) else (none))) else (if x5_1.length < 4398046511104 then (bradawllaw08_Proof.l0 k1 (x5_1 ++ [(⟨bq8, t243⟩ : S41)]) l0 (l0.length : Int) (wrap64 (x11_1 + 1)) a1_0 l1_1) else (none))) else (if x5_1.length < 4398046511104 then (bradawllaw08_Proof.l0 k1 (x5_1 ++ [(⟨bq8, t243⟩ : S41)]) l0 (l0.length : Int) (wrap64 (x11_1 + 1)) a1_0 l1_1) else (none))) = some r := by rw [← hbq8] at H; exact H
            have Nbq8 := Aside0.mk hbq8
            clear hbq8
            by_cases c9 : bq8 = true
            · subst c9
              have H1 : (if (Go.bits .and .u8 ((rd_T86 l0 x11_1).f2) 1) = 0 then (if (l1_1.length : Int) > 0 then (if (l1_1.length : Int) = 0 then (none) else (if 0 ≤ (Int.tmod (wrap64 (((rd_T86 l0 x11_1).f2) / 2)) (l1_1.length : Int)) then (if (Int.tmod (wrap64 (((rd_T86 l0 x11_1).f2) / 2)) (l1_1.length : Int)) < (l1_1.length : Int) then (if x5_1.length < 4398046511104 then (bradawllaw08_Proof.l0 k1 (x5_1 ++ [(⟨true, rd_L2 l1_1 (Int.tmod (wrap64 (((rd_T86 l0 x11_1).f2) / 2)) (l1_1.length : Int))⟩ : S41)]) l0 (l0.length : Int) (wrap64 (x11_1 + 1)) a1_0 l1_1) else (none)) else (none)) else (none))) else (if x5_1.length < 4398046511104 then (bradawllaw08_Proof.l0 k1 (x5_1 ++ [(⟨true, t243⟩ : S41)]) l0 (l0.length : Int) (wrap64 (x11_1 + 1)) a1_0 l1_1) else (none))) else (if x5_1.length < 4398046511104 then (bradawllaw08_Proof.l0 k1 (x5_1 ++ [(⟨true, t243⟩ : S41)]) l0 (l0.length : Int) (wrap64 (x11_1 + 1)) a1_0 l1_1) else (none))) = some r := by rw [if_pos rfl] at H; exact H
              clear H
              have H := H1
              clear H1
              by_cases c10 : (Go.bits .and .u8 ((rd_T86 l0 x11_1).f2) 1) = 0
              · rw [if_pos c10] at H
                have c10b0 : ((Go.bits .and .u8 ((rd_T86 l0 x11_1).f2) 1) == 0) = true := beq_iff_eq.mpr c10
                have c10b1 : ((Go.bits .and .u8 ((rd_T86 l0 x11_1).f2) 1) != 0) = false := bne_eq_false_iff_eq.mpr c10
                clear c10
                by_cases c11 : (l1_1.length : Int) > 0
                · rw [if_pos c11] at H
                  have c11b0 : decide (0 < (l1_1.length : Int)) = true := decide_eq_true c11
                  have c11b1 : decide (0 < l1_1.length) = true := decide_eq_true (by omega)
                  clear c11
                  by_cases c12 : (l1_1.length : Int) = 0
                  · rw [if_pos c12] at H
                    exact absurd H (by simp)
                  · rw [if_neg c12] at H
                    have c12b0 : ((l1_1.length : Int) == 0) = false := beq_eq_false_iff_ne.mpr c12
                    have c12b1 : ((l1_1.length : Int) != 0) = true := bne_iff_ne.mpr c12
                    have c12b2 : ¬ (l1_1 = []) := fun h_ => c12 (by rw [h_]; rfl)
                    obtain ⟨ji13, hji13⟩ : ∃ j_ : Int, (Int.tmod (wrap64 (((rd_T86 l0 x11_1).f2) / 2)) (l1_1.length : Int)) = j_ := ⟨_, rfl⟩
                    replace H : (if 0 ≤ (ji13) then (if (ji13) < (l1_1.length : Int) then (if x5_1.length < 4398046511104 then (bradawllaw08_Proof.l0 k1 (x5_1 ++ [(⟨true, rd_L2 l1_1 (ji13)⟩ : S41)]) l0 (l0.length : Int) (wrap64 (x11_1 + 1)) a1_0 l1_1) else (none)) else (none)) else (none)) = some r := by first | (rw [hji13] at H; exact H) | (simp only [hji13] at H ⊢; exact H)
                    (try rw [hji13] at A7)
                    by_cases c14 : 0 ≤ (ji13)
                    · rw [if_pos c14] at H
                      have c14b0 : decide (0 ≤ (ji13)) = true := decide_eq_true c14
                      clear c14
                      by_cases c15 : (ji13) < (l1_1.length : Int)
                      · rw [if_pos c15] at H
                        have c15b0 : decide ((ji13) < (l1_1.length : Int)) = true := decide_eq_true c15
                        clear c15
                        by_cases c16 : x5_1.length < 4398046511104
                        · rw [if_pos c16] at H
                          have LMc16 := Aside0.mk c16
                          clear c16
                          obtain ⟨y248, hy248⟩ : ∃ y_ : List (S41), y_ = (x5_1 ++ [(⟨true, rd_L2 l1_1 (ji13)⟩ : S41)]) := ⟨_, rfl⟩
                          replace H : (bradawllaw08_Proof.l0 k1 y248 l0 (l0.length : Int) (wrap64 (x11_1 + 1)) a1_0 l1_1) = some r := by first | (rw [hy248]; with_reducible exact H) | (have H2_ := (Option.bind_some _ _).symm.trans H; rw [hy248]; with_reducible exact H2_) | (have H2_ := (Option.bind_some _ _).symm.trans H; with_reducible exact H2_) | with_reducible exact H | (rw [hy248]; exact H) | exact H
                          have Ny248 := Aside0.mk hy248
                          clear hy248
                          have H' := Aside0.mk H
                          clear H
                          have p241 : 0 ≤ (x11_1 : Int) := of_decide_eq_true (by first | (with_reducible assumption) | assumption)
                          have q241 : x11_1 < (l0.length : Int) := of_decide_eq_true (by first | (with_reducible assumption) | assumption)
                          obtain ⟨ad241, A241_1, c241_1, e241, hx241_0, hx241_1, hx241_2, hl241_1, hi241_1⟩ := at_T86 HR0.out x11_1 p241 q241
                          (try rw [← Nbq8.out] at hx241_0)
                          cases e241
                          replace hx241_0 := (HB.out.cell (World.block_lt_of_cell? w _ hx241_0)).trans hx241_0
                          replace hx241_1 := (HB.out.cell (World.block_lt_of_cell? w _ hx241_1)).trans hx241_1
                          replace hx241_2 := (HB.out.cell (World.block_lt_of_cell? w _ hx241_2)).trans hx241_2
                          have HR241_1 := Aside0.mk hi241_1
                          have HC241_1 := Aside0.mk hl241_1
                          clear hi241_1 hl241_1
                          replace p241 := eq_true p241
                          replace q241 := eq_true q241
                          try go_wp2_with (first | ((with_reducible refine gate_dst (N := 7) rfl ?_); (try (refine gate_guard (by rfl) ?_; dsimp only)); refine box_event ?hg (N := 7) ?hd (cs := #[.bool false, .slice none 0 0, .int .u8 0]) (t := 86) ?hr ?_; (case hd => rfl); (case hg => rfl); (case hr => first | (go_simp; done) | (go_simp; rfl)); intro gb242 hg w17 hbox hb; have n0_ := Aside0.mk (Kd.N_below (Kd.N_elderB (by (with_reducible repeat (first | apply Kd.N_alloc | apply Kd.N_drewN | apply Kd.N_drew)); exact HO_5.out) gb242 (Nat.le_of_eq hg.symm)) hb); have n1_ := Aside0.mk (Kd.V_below (Kd.V_elderB (by (with_reducible repeat (first | apply Kd.V_alloc | apply Kd.V_drewN | apply Kd.V_drew)); exact HO_241001.out) gb242 (Nat.le_of_eq hg.symm)) hb); have n2_ := Aside0.mk (blk_below (g := gb240) (o := .cells #[.int .i64 a1_0, .slice A1_1 l1_1.length c1_1] 30 (0, 0)) (by (with_reducible repeat (first | refine blk_drewN ?_ _ | refine blk_drew ?_ | refine blk_alloc ?_ _)); exact BK240.out) hb); have n3_ := Aside0.mk (below_step (by repeat (first | (with_reducible first | exact HB.out | apply below_alloc | apply pw_below_drewN | apply below_drew1 | refine below_set ?_ GE240.out) | exact HB.out)) hb); have n4_ := Aside0.mk (hbox); have n5_ := Aside0.mk ((by rw [hg]; exact (below_size (by repeat (first | (with_reducible first | exact HB.out | apply below_alloc | apply pw_below_drewN | apply below_drew1 | refine below_set ?_ GE240.out) | exact HB.out))) : w.heap.size ≤ gb242)); have n6_ := Aside0.mk ((by rw [hg]; exact (below_size (by repeat (first | (with_reducible first | exact HB.out | apply below_alloc | apply pw_below_drewN | apply below_drew1 | refine below_set ?_ GE240.out) | exact HB.out))) : w.heap.size ≤ gb242)); have n7_ := Aside0.mk ((by rw [hg]; exact Nat.ne_of_lt (blk_lt (g := gb240) (o := .cells #[.int .i64 a1_0, .slice A1_1 l1_1.length c1_1] 30 (0, 0)) (by (with_reducible repeat (first | refine blk_drewN ?_ _ | refine blk_drew ?_ | refine blk_alloc ?_ _)); exact BK240.out)) : gb240 ≠ gb242)); have n8_ := Aside0.mk ((by rw [hg]; exact Nat.ne_of_gt (blk_lt (g := gb240) (o := .cells #[.int .i64 a1_0, .slice A1_1 l1_1.length c1_1] 30 (0, 0)) (by (with_reducible repeat (first | refine blk_drewN ?_ _ | refine blk_drew ?_ | refine blk_alloc ?_ _)); exact BK240.out)) : gb242 ≠ gb240)); clear HO_5; clear HO_241001; clear BK240; clear HB; have HO_5 := n0_; have HO_241001 := n1_; have BK240 := n2_; have HB := n3_; have BK242 := n4_; have GW242 := n5_; have GE242 := n6_; have NB240_242 := n7_; have NB242_240 := n8_; clear n0_ n1_ n2_ n3_ n4_ n5_ n6_ n7_ n8_; clear hb hbox hg; have hnb18 := NB242_240.out; have hnc18 := NB240_242.out; have hcz19_0 : w17.cell? ⟨gb242, 0, none⟩ = some (.bool false) := (blk_cell BK242.out 0).trans rfl; have hcz19_1 : w17.cell? ⟨gb242, 1, none⟩ = some (.slice none 0 0) := (blk_cell BK242.out 1).trans rfl; have hcz19_2 : w17.cell? ⟨gb242, 2, none⟩ = some (.int .u8 0) := (blk_cell BK242.out 2).trans rfl; have hfz19_0 := blk_frozen BK242.out 0; have hfz19_1 := blk_frozen BK242.out 1; have hfz19_2 := blk_frozen BK242.out 2))
                          have n0_ : Aside0 (Kd.N k41 41 (((w17.setCell ⟨gb242, 0, none⟩ (.bool true)).setCell ⟨gb242, 1, none⟩ (.slice A241_1 ((rd_T86 l0 x11_1).f1).length c241_1)).setCell ⟨gb242, 2, none⟩ (.int .u8 ((rd_T86 l0 x11_1).f2))) w.heap.size (fun k_ => (P1_1_ k_ ∨ w.heap.size ≤ k_) ∧ k_ ≠ gb240 ∧ k_ ≠ gb242) u5 x5_1) := ⟨by (with_reducible repeat (first | apply Kd.N_alloc | apply Kd.N_drewN | apply Kd.N_drew)); exact Kd.N_mono (Kd.N_far (p := ⟨gb242, 2, none⟩) (Kd.N_far (p := ⟨gb242, 1, none⟩) (Kd.N_far (p := ⟨gb242, 0, none⟩) (Kd.N_mono HO_5.out (fun k_ hk => (⟨hk, hk.2⟩ : _ ∧ k_ ≠ gb242))) (fun _ hk => hk.2) (.bool true)) (fun _ hk => hk.2) (.slice A241_1 ((rd_T86 l0 x11_1).f1).length c241_1)) (fun _ hk => hk.2) (.int .u8 ((rd_T86 l0 x11_1).f2))) (fun _ hk => ⟨hk.1.1.1, ⟨hk.1.1.2, hk.1.2⟩⟩)⟩
                          have n1_ : Aside0 (Kd.V (Kd.slice 3 (Kd.int .i64)) 34 (((w17.setCell ⟨gb242, 0, none⟩ (.bool true)).setCell ⟨gb242, 1, none⟩ (.slice A241_1 ((rd_T86 l0 x11_1).f1).length c241_1)).setCell ⟨gb242, 2, none⟩ (.int .u8 ((rd_T86 l0 x11_1).f2))) w.heap.size (fun k_ => (P1_1_ k_ ∨ w.heap.size ≤ k_) ∧ some k_ ≠ (u5 : Value).ownBlock ∧ k_ ≠ gb240 ∧ k_ ≠ gb242) (.slice A1_1 l1_1.length c1_1) l1_1) := ⟨by (with_reducible repeat (first | apply Kd.V_alloc | apply Kd.V_drewN | apply Kd.V_drew)); exact Kd.V_mono (Kd.V_far (p := ⟨gb242, 2, none⟩) (Kd.V_far (p := ⟨gb242, 1, none⟩) (Kd.V_far (p := ⟨gb242, 0, none⟩) (Kd.V_mono HO_241001.out (fun k_ hk => (⟨hk, hk.2⟩ : _ ∧ k_ ≠ gb242))) (fun _ hk => hk.2) (.bool true)) (fun _ hk => hk.2) (.slice A241_1 ((rd_T86 l0 x11_1).f1).length c241_1)) (fun _ hk => hk.2) (.int .u8 ((rd_T86 l0 x11_1).f2))) (fun _ hk => ⟨hk.1.1.1, ⟨hk.1.1.2.1, ⟨hk.1.1.2.2, hk.1.2⟩⟩⟩)⟩
                          have n2_ : Aside0 ((((w17.setCell ⟨gb242, 0, none⟩ (.bool true)).setCell ⟨gb242, 1, none⟩ (.slice A241_1 ((rd_T86 l0 x11_1).f1).length c241_1)).setCell ⟨gb242, 2, none⟩ (.int .u8 ((rd_T86 l0 x11_1).f2))).heap[gb240]? = some (.cells #[.int .i64 a1_0, .slice A1_1 l1_1.length c1_1] 30 (0, 0))) := ⟨by (with_reducible repeat (first | refine blk_drewN ?_ _ | refine blk_drew ?_ | refine blk_alloc ?_ _)); refine blk_far ?_ NB240_242.out _; (with_reducible repeat (first | refine blk_drewN ?_ _ | refine blk_drew ?_ | refine blk_alloc ?_ _)); refine blk_far ?_ NB240_242.out _; (with_reducible repeat (first | refine blk_drewN ?_ _ | refine blk_drew ?_ | refine blk_alloc ?_ _)); refine blk_far ?_ NB240_242.out _; (with_reducible repeat (first | refine blk_drewN ?_ _ | refine blk_drew ?_ | refine blk_alloc ?_ _)); exact BK240.out⟩
                          have n3_ : Aside0 ((((w17.setCell ⟨gb242, 0, none⟩ (.bool true)).setCell ⟨gb242, 1, none⟩ (.slice A241_1 ((rd_T86 l0 x11_1).f1).length c241_1)).setCell ⟨gb242, 2, none⟩ (.int .u8 ((rd_T86 l0 x11_1).f2))).heap[gb242]? = some (.cells #[.bool true, .slice A241_1 ((rd_T86 l0 x11_1).f1).length c241_1, .int .u8 ((rd_T86 l0 x11_1).f2)] 86 (0, 0))) := ⟨by (with_reducible repeat (first | refine blk_drewN ?_ _ | refine blk_drew ?_ | refine blk_alloc ?_ _)); refine blk_put (cs := #[.bool true, .slice A241_1 ((rd_T86 l0 x11_1).f1).length c241_1, .int .u8 0]) ?_ 2 _ rfl; (with_reducible repeat (first | refine blk_drewN ?_ _ | refine blk_drew ?_ | refine blk_alloc ?_ _)); refine blk_put (cs := #[.bool true, .slice none 0 0, .int .u8 0]) ?_ 1 _ rfl; (with_reducible repeat (first | refine blk_drewN ?_ _ | refine blk_drew ?_ | refine blk_alloc ?_ _)); refine blk_put (cs := #[.bool false, .slice none 0 0, .int .u8 0]) ?_ 0 _ rfl; (with_reducible repeat (first | refine blk_drewN ?_ _ | refine blk_drew ?_ | refine blk_alloc ?_ _)); exact BK242.out⟩
                          have n4_ : Aside0 (Below w.heap.size w (((w17.setCell ⟨gb242, 0, none⟩ (.bool true)).setCell ⟨gb242, 1, none⟩ (.slice A241_1 ((rd_T86 l0 x11_1).f1).length c241_1)).setCell ⟨gb242, 2, none⟩ (.int .u8 ((rd_T86 l0 x11_1).f2)))) := ⟨by repeat (first | (with_reducible first | exact HB.out | apply below_alloc | apply pw_below_drewN | apply below_drew1 | refine below_set ?_ GE240.out | refine below_set ?_ GE242.out) | exact HB.out)⟩
                          (try clear HO_5)
                          (try clear HO_241001)
                          (try clear BK240)
                          (try clear BK242)
                          (try clear HB)
                          generalize (((w17.setCell ⟨gb242, 0, none⟩ (.bool true)).setCell ⟨gb242, 1, none⟩ (.slice A241_1 ((rd_T86 l0 x11_1).f1).length c241_1)).setCell ⟨gb242, 2, none⟩ (.int .u8 ((rd_T86 l0 x11_1).f2))) = w20 at n0_ n1_ n2_ n3_ n4_ ⊢
                          have HO_5 := n0_
                          have HO_241001 := n1_
                          have BK240 := n2_
                          have BK242 := n3_
                          have HB := n4_
                          clear n0_ n1_ n2_ n3_ n4_
                          have n0_ := Aside0.mk (Kd.N_drew HO_5.out)
                          have n1_ := Aside0.mk (Kd.V_drew HO_241001.out)
                          have n2_ := Aside0.mk (blk_drew BK240.out)
                          have n3_ := Aside0.mk (blk_drew BK242.out)
                          have n4_ := Aside0.mk (below_drew1 HB.out)
                          clear HO_5
                          clear HO_241001
                          clear BK240
                          clear BK242
                          clear HB
                          have HO_5 := n0_
                          have HO_241001 := n1_
                          have BK240 := n2_
                          have BK242 := n3_
                          have HB := n4_
                          clear n0_ n1_ n2_ n3_ n4_
                          refine start_ (n := 10) (S := fun w' => w'.cell? ⟨gb242, 0, none⟩ = some (.bool true) ∧ w'.cell? ⟨gb242, 1, none⟩ = some (.slice A241_1 ((rd_T86 l0 x11_1).f1).length c241_1) ∧ w'.cell? ⟨gb242, 2, none⟩ = some (.int .u8 ((rd_T86 l0 x11_1).f2)) ∧ w'.cell? ⟨gb240, 0, none⟩ = some (.int .i64 a1_0) ∧ w'.cell? ⟨gb240, 1, none⟩ = some (.slice A1_1 l1_1.length c1_1)) (ds := []) #[false, false, false, false, false, false, false, false, false, false] (by kernel_rfl) rfl rfl ⟨(blk_cell BK242.out 0).trans rfl, (blk_cell BK242.out 1).trans rfl, (blk_cell BK242.out 2).trans rfl, (blk_cell BK240.out 0).trans rfl, (blk_cell BK240.out 1).trans rfl⟩ (fun hHeld => ?_); refine with_tabW bradawllaw08_Proof.tab5 bradawllaw08_Proof.bits5 (fun HT_ HW_ => ?_)
                          generalize w20.drew = w21 at HO_5 HO_241001 BK240 BK242 HB hHeld ⊢
                          refine pure_ (i := 0) (N := some 15) (v := ?_) (a' := ?_) #[true, false, false, false, false, false, false, false, false, false] rfl rfl (any_of HT_.out (by kernel_rfl)) (fun _ _ _ h => h) (Or.inl ⟨by rfl, ?_⟩) ?_ ?_
                          rotate_left
                          · intro w'
                            go_simp
                            with_reducible rfl
                          rotate_left
                          · simp only [Act.put, List.setIfInBounds_toArray, List.set_cons_zero, List.set_cons_succ, i64_w, i32_w]
                            rfl
                          refine pure_ (i := 2) (N := some 17) (v := ?_) (a' := ?_) #[true, false, true, false, false, false, false, false, false, false] rfl rfl (any_of HT_.out (by kernel_rfl)) (fun _ _ _ h => h) (Or.inl ⟨by rfl, ?_⟩) ?_ ?_
                          rotate_left
                          · intro w'
                            go_simp
                            with_reducible rfl
                          rotate_left
                          · simp only [Act.put, List.setIfInBounds_toArray, List.set_cons_zero, List.set_cons_succ, i64_w, i32_w]
                            rfl
                          refine pure_ (i := 4) (N := some 19) (v := ?_) (a' := ?_) #[true, false, true, false, true, false, false, false, false, false] rfl rfl (any_of HT_.out (by kernel_rfl)) (fun _ _ _ h => h) (Or.inl ⟨by rfl, ?_⟩) ?_ ?_
                          rotate_left
                          · intro w'
                            go_simp
                            with_reducible rfl
                          rotate_left
                          · simp only [Act.put, List.setIfInBounds_toArray, List.set_cons_zero, List.set_cons_succ, i64_w, i32_w]
                            rfl
                          refine take_ (i := 1) (N := some 16) (v := ?_) (a' := ?_) #[true, true, true, false, true, false, false, false, false, false] rfl rfl (take_ofW HT_.out HW_.out (by kernel_rfl)) (fun _ _ _ h => h) (Or.inl ⟨by rfl, ?_⟩) hHeld ?_ ?_
                          rotate_left
                          · rintro w' ⟨s0, s1, s2, s3, s4⟩
                            go_simp
                            with_reducible rfl
                          rotate_left
                          · simp only [Act.put, List.setIfInBounds_toArray, List.set_cons_zero, List.set_cons_succ, i64_w, i32_w]
                            rfl
                          refine take_ (i := 3) (N := some 18) (v := ?_) (a' := ?_) #[true, true, true, true, true, false, false, false, false, false] rfl rfl (take_ofW HT_.out HW_.out (by kernel_rfl)) (fun _ _ _ h => h) (Or.inl ⟨by rfl, ?_⟩) hHeld ?_ ?_
                          rotate_left
                          · rintro w' ⟨s0, s1, s2, s3, s4⟩
                            go_simp
                            with_reducible rfl
                          rotate_left
                          · simp only [Act.put, List.setIfInBounds_toArray, List.set_cons_zero, List.set_cons_succ, i64_w, i32_w]
                            rfl
                          refine take_ (i := 5) (N := some 20) (v := ?_) (a' := ?_) #[true, true, true, true, true, true, false, false, false, false] rfl rfl (take_ofW HT_.out HW_.out (by kernel_rfl)) (fun _ _ _ h => h) (Or.inl ⟨by rfl, ?_⟩) hHeld ?_ ?_
                          rotate_left
                          · rintro w' ⟨s0, s1, s2, s3, s4⟩
                            go_simp
                            with_reducible rfl
                          rotate_left
                          · simp only [Act.put, List.setIfInBounds_toArray, List.set_cons_zero, List.set_cons_succ, i64_w, i32_w]
                            rfl
                          refine join_ (σ := Value × Nat) 1 #[true, true, true, true, true, true, true, true, true, false] (fun s_ => [(21, s_.1), (8, .pointer (some ⟨s_.2, 0, none⟩)), (22, .agg #[.bool true, s_.1])]) (fun s_ w' => (w'.cell? ⟨gb242, 0, none⟩ = some (.bool true) ∧ w'.cell? ⟨gb242, 1, none⟩ = some (.slice A241_1 ((rd_T86 l0 x11_1).f1).length c241_1) ∧ w'.cell? ⟨gb242, 2, none⟩ = some (.int .u8 ((rd_T86 l0 x11_1).f2)) ∧ w'.cell? ⟨gb240, 0, none⟩ = some (.int .i64 a1_0) ∧ w'.cell? ⟨gb240, 1, none⟩ = some (.slice A1_1 l1_1.length c1_1)) ∧ (Kd.R (Kd.int .i64) 3 w' w.heap.size (fun k_ => (w.heap.size ≤ k_)) s_.1 t243) ∧ (Kd.V (Kd.slice 3 (Kd.int .i64)) 34 w' w.heap.size (fun k_ => (P1_1_ k_ ∨ w.heap.size ≤ k_) ∧ some k_ ≠ (s_.1 : Value).ownBlock ∧ some k_ ≠ (u5 : Value).ownBlock ∧ k_ ≠ gb240 ∧ k_ ≠ gb242 ∧ k_ ≠ s_.2) (.slice A1_1 l1_1.length c1_1) l1_1) ∧ (Kd.N k41 41 w' w.heap.size (fun k_ => (P1_1_ k_ ∨ w.heap.size ≤ k_) ∧ some k_ ≠ (s_.1 : Value).ownBlock ∧ k_ ≠ gb240 ∧ k_ ≠ gb242 ∧ k_ ≠ s_.2) u5 x5_1) ∧ (w'.heap[gb240]? = some (.cells #[.int .i64 a1_0, .slice A1_1 l1_1.length c1_1] 30 (0, 0))) ∧ (w'.heap[gb242]? = some (.cells #[.bool true, .slice A241_1 ((rd_T86 l0 x11_1).f1).length c241_1, .int .u8 ((rd_T86 l0 x11_1).f2)] 86 (0, 0))) ∧ (w'.heap[s_.2]? = some (.cells #[.bool false, .slice none 0 0] 41 (0, 0))) ∧ (w.heap.size ≤ s_.2) ∧ (w.heap.size ≤ s_.2) ∧ (gb240 ≠ s_.2) ∧ (s_.2 ≠ gb240) ∧ (gb242 ≠ s_.2) ∧ (s_.2 ≠ gb242) ∧ (Below w.heap.size w w')) ?_ ?_
                          rotate_left
                          · intro hCont
                            refine two_ (i := 6) (j := 8) (Ni := some 21) (Nj := some 8) #[true, true, true, true, true, true, true, false, false, false] #[true, true, true, true, true, true, false, false, true, false] rfl rfl rfl rfl (two_of HT_.out (by kernel_rfl)) (by decide) (by decide) (fun K hK => ?_) (fun K hK => ?_)
                            · skip
                              refine goes_ Tryz.func13 (by kernel_rfl) rfl #[.slice A241_1 ((rd_T86 l0 x11_1).f1).length c241_1, .int .i64 a1_0] (by rfl) rfl rfl (by (try simp only [List.map_toArray, List.map_cons, List.map_nil]); first | done | rfl | (simp only [List.length_drop, List.length_take]; rfl)) ?_
                              with_reducible refine (bradawllaw07_Lits.calls k1 _ _ ((rd_T86 l0 x11_1).f1) a1_0 t243 _ ?side1 ?side2 A7.out).mono ?_
                              (case side1 => repeat (first | exact (Kd.C_below HR241_1.out HB.out) | (with_reducible refine Kd.C_alloc ?_ _) | (with_reducible refine Kd.C_drewN ?_ _) | (with_reducible refine Kd.C_drew ?_)))
                              (case side2 => exact HC241_1.out)
                              rintro e w22 ⟨v244, rfl, ho0, hb⟩
                              refine ⟨_, rfl, ?_⟩
                              have n0_ := Aside0.mk (Kd.N_elder' (by (with_reducible repeat (first | apply Kd.N_alloc | apply Kd.N_drewN | apply Kd.N_drew)); exact HO_5.out) (Kd.R_base ho0) hb)
                              have n1_ := Aside0.mk (Kd.V_elder' (by (with_reducible repeat (first | apply Kd.V_alloc | apply Kd.V_drewN | apply Kd.V_drew)); exact HO_241001.out) (Kd.R_base ho0) hb)
                              have n2_ := Aside0.mk (Kd.R_lower (Kd.R_newM (M := fun k_ => (w.heap.size ≤ k_)) ho0 (below_size (by repeat (first | (with_reducible first | exact HB.out | apply below_alloc | apply pw_below_drewN | apply below_drew1 | refine below_set ?_ GE240.out | refine below_set ?_ GE242.out) | exact HB.out))) (fun k_ h_ => h_)) (below_size (by repeat (first | (with_reducible first | exact HB.out | apply below_alloc | apply pw_below_drewN | apply below_drew1 | refine below_set ?_ GE240.out | refine below_set ?_ GE242.out) | exact HB.out))))
                              have n3_ := Aside0.mk (blk_below (g := gb240) (o := .cells #[.int .i64 a1_0, .slice A1_1 l1_1.length c1_1] 30 (0, 0)) (by (with_reducible repeat (first | refine blk_drewN ?_ _ | refine blk_drew ?_ | refine blk_alloc ?_ _)); exact BK240.out) hb)
                              have n4_ := Aside0.mk (blk_below (g := gb242) (o := .cells #[.bool true, .slice A241_1 ((rd_T86 l0 x11_1).f1).length c241_1, .int .u8 ((rd_T86 l0 x11_1).f2)] 86 (0, 0)) (by (with_reducible repeat (first | refine blk_drewN ?_ _ | refine blk_drew ?_ | refine blk_alloc ?_ _)); exact BK242.out) hb)
                              have n5_ := Aside0.mk (below_step (by repeat (first | (with_reducible first | exact HB.out | apply below_alloc | apply pw_below_drewN | apply below_drew1 | refine below_set ?_ GE240.out | refine below_set ?_ GE242.out) | exact HB.out)) hb)
                              clear HO_5
                              clear HO_241001
                              clear BK240
                              clear BK242
                              clear HB
                              have HO_5 := n0_
                              have HO_241001 := n1_
                              have HO245 := n2_
                              have BK240 := n3_
                              have BK242 := n4_
                              have HB := n5_
                              clear n0_ n1_ n2_ n3_ n4_ n5_
                              (try clear hb)
                              (try clear hb2)
                              (try clear hk)
                              (try clear hi)
                              (try clear ho0)
                              obtain ⟨Ao23, co23, eo23⟩ := Kd.R_slice HO245.out
                              (first | subst eo23 | (injection eo23 with f1_ f2_ f3_; have f4_ := f1_.symm; have f5_ := f3_.symm; clear f1_ f2_ f3_; subst f4_; subst f5_))
                              refine hK.out _ _ ⟨(blk_cell BK242.out 0).trans rfl, (blk_cell BK242.out 1).trans rfl, (blk_cell BK242.out 2).trans rfl, (blk_cell BK240.out 0).trans rfl, (blk_cell BK240.out 1).trans rfl⟩ (fun hHeld => ?_)
                              clear hK K
                              refine norm_ (a' := ?_) ?_ ?_
                              rotate_left
                              · show Act.put _ (some 21) _ = _
                                simp only [Act.put, List.setIfInBounds_toArray, List.set_cons_zero, List.set_cons_succ, i64_w, i32_w]
                                rfl
                              refine pure_ (i := 7) (N := some 22) (v := ?_) (a' := ?_) #[true, true, true, true, true, true, true, true, false, false] rfl rfl (any_of HT_.out (by kernel_rfl)) (fun _ _ _ h => h) (Or.inl ⟨by rfl, ?_⟩) ?_ ?_
                              rotate_left
                              · intro w'
                                go_simp
                                with_reducible rfl
                              rotate_left
                              · simp only [Act.put, List.setIfInBounds_toArray, List.set_cons_zero, List.set_cons_succ, i64_w, i32_w]
                                rfl
                              refine one_ (i := 8) (N := some 8) #[true, true, true, true, true, true, true, true, true, false] rfl rfl (one_of HT_.out (by kernel_rfl)) (by decide) (fun K hK => ?_)
                              refine box_step ?hg (N := 8) ?hd (cs := #[.bool false, .slice none 0 0]) (t := 41) ?hr ?_; (case hd => rfl); (case hg => rfl); (case hr => first | (go_simp; done) | (go_simp; rfl))
                              intro gb246 hg w24 hbox hb
                              have n0_ := Aside0.mk (Kd.N_below (Kd.N_elderB (by (with_reducible repeat (first | apply Kd.N_alloc | apply Kd.N_drewN | apply Kd.N_drew)); exact HO_5.out) gb246 (Nat.le_of_eq hg.symm)) hb)
                              have n1_ := Aside0.mk (Kd.V_below (Kd.V_elderB (by (with_reducible repeat (first | apply Kd.V_alloc | apply Kd.V_drewN | apply Kd.V_drew)); exact HO_241001.out) gb246 (Nat.le_of_eq hg.symm)) hb)
                              have n2_ := Aside0.mk (Kd.R_below (by (with_reducible repeat (first | apply Kd.R_alloc | apply Kd.R_drewN | apply Kd.R_drew)); exact HO245.out) hb)
                              have n3_ := Aside0.mk (blk_below (g := gb240) (o := .cells #[.int .i64 a1_0, .slice A1_1 l1_1.length c1_1] 30 (0, 0)) (by (with_reducible repeat (first | refine blk_drewN ?_ _ | refine blk_drew ?_ | refine blk_alloc ?_ _)); exact BK240.out) hb)
                              have n4_ := Aside0.mk (blk_below (g := gb242) (o := .cells #[.bool true, .slice A241_1 ((rd_T86 l0 x11_1).f1).length c241_1, .int .u8 ((rd_T86 l0 x11_1).f2)] 86 (0, 0)) (by (with_reducible repeat (first | refine blk_drewN ?_ _ | refine blk_drew ?_ | refine blk_alloc ?_ _)); exact BK242.out) hb)
                              have n5_ := Aside0.mk (below_step (by repeat (first | (with_reducible first | exact HB.out | apply below_alloc | apply pw_below_drewN | apply below_drew1 | refine below_set ?_ GE240.out | refine below_set ?_ GE242.out) | exact HB.out)) hb)
                              have n6_ := Aside0.mk (hbox)
                              have n7_ := Aside0.mk ((by rw [hg]; exact (below_size (by repeat (first | (with_reducible first | exact HB.out | apply below_alloc | apply pw_below_drewN | apply below_drew1 | refine below_set ?_ GE240.out | refine below_set ?_ GE242.out) | exact HB.out))) : w.heap.size ≤ gb246))
                              have n8_ := Aside0.mk ((by rw [hg]; exact (below_size (by repeat (first | (with_reducible first | exact HB.out | apply below_alloc | apply pw_below_drewN | apply below_drew1 | refine below_set ?_ GE240.out | refine below_set ?_ GE242.out) | exact HB.out))) : w.heap.size ≤ gb246))
                              have n9_ := Aside0.mk ((by rw [hg]; exact Nat.ne_of_lt (blk_lt (g := gb240) (o := .cells #[.int .i64 a1_0, .slice A1_1 l1_1.length c1_1] 30 (0, 0)) (by (with_reducible repeat (first | refine blk_drewN ?_ _ | refine blk_drew ?_ | refine blk_alloc ?_ _)); exact BK240.out)) : gb240 ≠ gb246))
                              have n10_ := Aside0.mk ((by rw [hg]; exact Nat.ne_of_gt (blk_lt (g := gb240) (o := .cells #[.int .i64 a1_0, .slice A1_1 l1_1.length c1_1] 30 (0, 0)) (by (with_reducible repeat (first | refine blk_drewN ?_ _ | refine blk_drew ?_ | refine blk_alloc ?_ _)); exact BK240.out)) : gb246 ≠ gb240))
                              have n11_ := Aside0.mk ((by rw [hg]; exact Nat.ne_of_lt (blk_lt (g := gb242) (o := .cells #[.bool true, .slice A241_1 ((rd_T86 l0 x11_1).f1).length c241_1, .int .u8 ((rd_T86 l0 x11_1).f2)] 86 (0, 0)) (by (with_reducible repeat (first | refine blk_drewN ?_ _ | refine blk_drew ?_ | refine blk_alloc ?_ _)); exact BK242.out)) : gb242 ≠ gb246))
                              have n12_ := Aside0.mk ((by rw [hg]; exact Nat.ne_of_gt (blk_lt (g := gb242) (o := .cells #[.bool true, .slice A241_1 ((rd_T86 l0 x11_1).f1).length c241_1, .int .u8 ((rd_T86 l0 x11_1).f2)] 86 (0, 0)) (by (with_reducible repeat (first | refine blk_drewN ?_ _ | refine blk_drew ?_ | refine blk_alloc ?_ _)); exact BK242.out)) : gb246 ≠ gb242))
                              clear HO_5
                              clear HO_241001
                              clear HO245
                              clear BK240
                              clear BK242
                              clear HB
                              have HO_5 := n0_
                              have HO_241001 := n1_
                              have HO245 := n2_
                              have BK240 := n3_
                              have BK242 := n4_
                              have HB := n5_
                              have BK246 := n6_
                              have GW246 := n7_
                              have GE246 := n8_
                              have NB240_246 := n9_
                              have NB246_240 := n10_
                              have NB242_246 := n11_
                              have NB246_242 := n12_
                              clear n0_ n1_ n2_ n3_ n4_ n5_ n6_ n7_ n8_ n9_ n10_ n11_ n12_
                              clear hb hbox hg
                              refine hK.out _ _ ⟨(blk_cell BK242.out 0).trans rfl, (blk_cell BK242.out 1).trans rfl, (blk_cell BK242.out 2).trans rfl, (blk_cell BK240.out 0).trans rfl, (blk_cell BK240.out 1).trans rfl⟩ (fun hHeld => ?_)
                              clear hK K
                              refine norm_ (a' := ?_) ?_ ?_
                              rotate_left
                              · show Act.put _ (some 8) _ = _
                                simp only [Act.put, List.setIfInBounds_toArray, List.set_cons_zero, List.set_cons_succ, i64_w, i32_w]
                                rfl
                              exact norm_ (by simp only [putAll, Act.put, List.setIfInBounds_toArray, List.set_cons_zero, List.set_cons_succ]) (hCont (.slice Ao23 t243.length co23, gb246) _ ⟨hHeld, (by (with_reducible repeat (first | apply Kd.R_alloc | apply Kd.R_drewN | apply Kd.R_drew)); exact Kd.R_mono HO245.out (fun _ hk => hk.1)), (by (with_reducible repeat (first | apply Kd.V_alloc | apply Kd.V_drewN | apply Kd.V_drew)); exact Kd.V_mono HO_241001.out (fun _ hk => ⟨hk.1.1.1, ⟨hk.1.2, ⟨hk.1.1.2.1, ⟨hk.1.1.2.2.1, ⟨hk.1.1.2.2.2, hk.2⟩⟩⟩⟩⟩)), (by (with_reducible repeat (first | apply Kd.N_alloc | apply Kd.N_drewN | apply Kd.N_drew)); exact Kd.N_mono HO_5.out (fun _ hk => ⟨hk.1.1.1, ⟨hk.1.2, ⟨hk.1.1.2.1, ⟨hk.1.1.2.2, hk.2⟩⟩⟩⟩)), (by (with_reducible repeat (first | refine blk_drewN ?_ _ | refine blk_drew ?_ | refine blk_alloc ?_ _)); exact BK240.out), (by (with_reducible repeat (first | refine blk_drewN ?_ _ | refine blk_drew ?_ | refine blk_alloc ?_ _)); exact BK242.out), (by (with_reducible repeat (first | refine blk_drewN ?_ _ | refine blk_drew ?_ | refine blk_alloc ?_ _)); exact BK246.out), GW246.out, GE246.out, NB240_246.out, NB246_240.out, NB242_246.out, NB246_242.out, (by repeat (first | (with_reducible first | exact HB.out | apply below_alloc | apply pw_below_drewN | apply below_drew1 | refine below_set ?_ GE240.out | refine below_set ?_ GE242.out | refine below_set ?_ GE246.out) | exact HB.out))⟩)
                            · skip
                              refine box_step ?hg (N := 8) ?hd (cs := #[.bool false, .slice none 0 0]) (t := 41) ?hr ?_; (case hd => rfl); (case hg => rfl); (case hr => first | (go_simp; done) | (go_simp; rfl))
                              intro gb246 hg w22 hbox hb
                              have n0_ := Aside0.mk (Kd.N_below (Kd.N_elderB (by (with_reducible repeat (first | apply Kd.N_alloc | apply Kd.N_drewN | apply Kd.N_drew)); exact HO_5.out) gb246 (Nat.le_of_eq hg.symm)) hb)
                              have n1_ := Aside0.mk (Kd.V_below (Kd.V_elderB (by (with_reducible repeat (first | apply Kd.V_alloc | apply Kd.V_drewN | apply Kd.V_drew)); exact HO_241001.out) gb246 (Nat.le_of_eq hg.symm)) hb)
                              have n2_ := Aside0.mk (blk_below (g := gb240) (o := .cells #[.int .i64 a1_0, .slice A1_1 l1_1.length c1_1] 30 (0, 0)) (by (with_reducible repeat (first | refine blk_drewN ?_ _ | refine blk_drew ?_ | refine blk_alloc ?_ _)); exact BK240.out) hb)
                              have n3_ := Aside0.mk (blk_below (g := gb242) (o := .cells #[.bool true, .slice A241_1 ((rd_T86 l0 x11_1).f1).length c241_1, .int .u8 ((rd_T86 l0 x11_1).f2)] 86 (0, 0)) (by (with_reducible repeat (first | refine blk_drewN ?_ _ | refine blk_drew ?_ | refine blk_alloc ?_ _)); exact BK242.out) hb)
                              have n4_ := Aside0.mk (below_step (by repeat (first | (with_reducible first | exact HB.out | apply below_alloc | apply pw_below_drewN | apply below_drew1 | refine below_set ?_ GE240.out | refine below_set ?_ GE242.out) | exact HB.out)) hb)
                              have n5_ := Aside0.mk (hbox)
                              have n6_ := Aside0.mk ((by rw [hg]; exact (below_size (by repeat (first | (with_reducible first | exact HB.out | apply below_alloc | apply pw_below_drewN | apply below_drew1 | refine below_set ?_ GE240.out | refine below_set ?_ GE242.out) | exact HB.out))) : w.heap.size ≤ gb246))
                              have n7_ := Aside0.mk ((by rw [hg]; exact (below_size (by repeat (first | (with_reducible first | exact HB.out | apply below_alloc | apply pw_below_drewN | apply below_drew1 | refine below_set ?_ GE240.out | refine below_set ?_ GE242.out) | exact HB.out))) : w.heap.size ≤ gb246))
                              have n8_ := Aside0.mk ((by rw [hg]; exact Nat.ne_of_lt (blk_lt (g := gb240) (o := .cells #[.int .i64 a1_0, .slice A1_1 l1_1.length c1_1] 30 (0, 0)) (by (with_reducible repeat (first | refine blk_drewN ?_ _ | refine blk_drew ?_ | refine blk_alloc ?_ _)); exact BK240.out)) : gb240 ≠ gb246))
                              have n9_ := Aside0.mk ((by rw [hg]; exact Nat.ne_of_gt (blk_lt (g := gb240) (o := .cells #[.int .i64 a1_0, .slice A1_1 l1_1.length c1_1] 30 (0, 0)) (by (with_reducible repeat (first | refine blk_drewN ?_ _ | refine blk_drew ?_ | refine blk_alloc ?_ _)); exact BK240.out)) : gb246 ≠ gb240))
                              have n10_ := Aside0.mk ((by rw [hg]; exact Nat.ne_of_lt (blk_lt (g := gb242) (o := .cells #[.bool true, .slice A241_1 ((rd_T86 l0 x11_1).f1).length c241_1, .int .u8 ((rd_T86 l0 x11_1).f2)] 86 (0, 0)) (by (with_reducible repeat (first | refine blk_drewN ?_ _ | refine blk_drew ?_ | refine blk_alloc ?_ _)); exact BK242.out)) : gb242 ≠ gb246))
                              have n11_ := Aside0.mk ((by rw [hg]; exact Nat.ne_of_gt (blk_lt (g := gb242) (o := .cells #[.bool true, .slice A241_1 ((rd_T86 l0 x11_1).f1).length c241_1, .int .u8 ((rd_T86 l0 x11_1).f2)] 86 (0, 0)) (by (with_reducible repeat (first | refine blk_drewN ?_ _ | refine blk_drew ?_ | refine blk_alloc ?_ _)); exact BK242.out)) : gb246 ≠ gb242))
                              clear HO_5
                              clear HO_241001
                              clear BK240
                              clear BK242
                              clear HB
                              have HO_5 := n0_
                              have HO_241001 := n1_
                              have BK240 := n2_
                              have BK242 := n3_
                              have HB := n4_
                              have BK246 := n5_
                              have GW246 := n6_
                              have GE246 := n7_
                              have NB240_246 := n8_
                              have NB246_240 := n9_
                              have NB242_246 := n10_
                              have NB246_242 := n11_
                              clear n0_ n1_ n2_ n3_ n4_ n5_ n6_ n7_ n8_ n9_ n10_ n11_
                              clear hb hbox hg
                              refine hK.out _ _ ⟨(blk_cell BK242.out 0).trans rfl, (blk_cell BK242.out 1).trans rfl, (blk_cell BK242.out 2).trans rfl, (blk_cell BK240.out 0).trans rfl, (blk_cell BK240.out 1).trans rfl⟩ (fun hHeld => ?_)
                              clear hK K
                              refine norm_ (a' := ?_) ?_ ?_
                              rotate_left
                              · show Act.put _ (some 8) _ = _
                                simp only [Act.put, List.setIfInBounds_toArray, List.set_cons_zero, List.set_cons_succ, i64_w, i32_w]
                                rfl
                              refine one_ (i := 6) (N := some 21) #[true, true, true, true, true, true, true, false, true, false] rfl rfl (one_of HT_.out (by kernel_rfl)) (by decide) (fun K hK => ?_)
                              refine goes_ Tryz.func13 (by kernel_rfl) rfl #[.slice A241_1 ((rd_T86 l0 x11_1).f1).length c241_1, .int .i64 a1_0] (by rfl) rfl rfl (by (try simp only [List.map_toArray, List.map_cons, List.map_nil]); first | done | rfl | (simp only [List.length_drop, List.length_take]; rfl)) ?_
                              with_reducible refine (bradawllaw07_Lits.calls k1 _ _ ((rd_T86 l0 x11_1).f1) a1_0 t243 _ ?side1 ?side2 A7.out).mono ?_
                              (case side1 => repeat (first | exact (Kd.C_below HR241_1.out HB.out) | (with_reducible refine Kd.C_alloc ?_ _) | (with_reducible refine Kd.C_drewN ?_ _) | (with_reducible refine Kd.C_drew ?_)))
                              (case side2 => exact HC241_1.out)
                              rintro e w23 ⟨v244, rfl, ho0, hb⟩
                              refine ⟨_, rfl, ?_⟩
                              have n0_ := Aside0.mk (Kd.N_elder' (by (with_reducible repeat (first | apply Kd.N_alloc | apply Kd.N_drewN | apply Kd.N_drew)); exact HO_5.out) (Kd.R_base ho0) hb)
                              have n1_ := Aside0.mk (Kd.V_elder' (by (with_reducible repeat (first | apply Kd.V_alloc | apply Kd.V_drewN | apply Kd.V_drew)); exact HO_241001.out) (Kd.R_base ho0) hb)
                              have n2_ := Aside0.mk (Kd.R_lower (Kd.R_newM (M := fun k_ => (w.heap.size ≤ k_)) ho0 (below_size (by repeat (first | (with_reducible first | exact HB.out | apply below_alloc | apply pw_below_drewN | apply below_drew1 | refine below_set ?_ GE240.out | refine below_set ?_ GE242.out | refine below_set ?_ GE246.out) | exact HB.out))) (fun k_ h_ => h_)) (below_size (by repeat (first | (with_reducible first | exact HB.out | apply below_alloc | apply pw_below_drewN | apply below_drew1 | refine below_set ?_ GE240.out | refine below_set ?_ GE242.out | refine below_set ?_ GE246.out) | exact HB.out))))
                              have n3_ := Aside0.mk (blk_below (g := gb240) (o := .cells #[.int .i64 a1_0, .slice A1_1 l1_1.length c1_1] 30 (0, 0)) (by (with_reducible repeat (first | refine blk_drewN ?_ _ | refine blk_drew ?_ | refine blk_alloc ?_ _)); exact BK240.out) hb)
                              have n4_ := Aside0.mk (blk_below (g := gb242) (o := .cells #[.bool true, .slice A241_1 ((rd_T86 l0 x11_1).f1).length c241_1, .int .u8 ((rd_T86 l0 x11_1).f2)] 86 (0, 0)) (by (with_reducible repeat (first | refine blk_drewN ?_ _ | refine blk_drew ?_ | refine blk_alloc ?_ _)); exact BK242.out) hb)
                              have n5_ := Aside0.mk (blk_below (g := gb246) (o := .cells #[.bool false, .slice none 0 0] 41 (0, 0)) (by (with_reducible repeat (first | refine blk_drewN ?_ _ | refine blk_drew ?_ | refine blk_alloc ?_ _)); exact BK246.out) hb)
                              have n6_ := Aside0.mk (below_step (by repeat (first | (with_reducible first | exact HB.out | apply below_alloc | apply pw_below_drewN | apply below_drew1 | refine below_set ?_ GE240.out | refine below_set ?_ GE242.out | refine below_set ?_ GE246.out) | exact HB.out)) hb)
                              clear HO_5
                              clear HO_241001
                              clear BK240
                              clear BK242
                              clear BK246
                              clear HB
                              have HO_5 := n0_
                              have HO_241001 := n1_
                              have HO245 := n2_
                              have BK240 := n3_
                              have BK242 := n4_
                              have BK246 := n5_
                              have HB := n6_
                              clear n0_ n1_ n2_ n3_ n4_ n5_ n6_
                              (try clear hb)
                              (try clear hb2)
                              (try clear hk)
                              (try clear hi)
                              (try clear ho0)
                              obtain ⟨Ao24, co24, eo24⟩ := Kd.R_slice HO245.out
                              (first | subst eo24 | (injection eo24 with f1_ f2_ f3_; have f4_ := f1_.symm; have f5_ := f3_.symm; clear f1_ f2_ f3_; subst f4_; subst f5_))
                              refine hK.out _ _ ⟨(blk_cell BK242.out 0).trans rfl, (blk_cell BK242.out 1).trans rfl, (blk_cell BK242.out 2).trans rfl, (blk_cell BK240.out 0).trans rfl, (blk_cell BK240.out 1).trans rfl⟩ (fun hHeld => ?_)
                              clear hK K
                              refine norm_ (a' := ?_) ?_ ?_
                              rotate_left
                              · show Act.put _ (some 21) _ = _
                                simp only [Act.put, List.setIfInBounds_toArray, List.set_cons_zero, List.set_cons_succ, i64_w, i32_w]
                                rfl
                              refine pure_ (i := 7) (N := some 22) (v := ?_) (a' := ?_) #[true, true, true, true, true, true, true, true, true, false] rfl rfl (any_of HT_.out (by kernel_rfl)) (fun _ _ _ h => h) (Or.inl ⟨by rfl, ?_⟩) ?_ ?_
                              rotate_left
                              · intro w'
                                go_simp
                                with_reducible rfl
                              rotate_left
                              · simp only [Act.put, List.setIfInBounds_toArray, List.set_cons_zero, List.set_cons_succ, i64_w, i32_w]
                                rfl
                              exact norm_ (by simp only [putAll, Act.put, List.setIfInBounds_toArray, List.set_cons_zero, List.set_cons_succ]) (hCont (.slice Ao24 t243.length co24, gb246) _ ⟨hHeld, (by (with_reducible repeat (first | apply Kd.R_alloc | apply Kd.R_drewN | apply Kd.R_drew)); exact Kd.R_mono HO245.out (fun _ hk => hk.1)), (by (with_reducible repeat (first | apply Kd.V_alloc | apply Kd.V_drewN | apply Kd.V_drew)); exact Kd.V_mono HO_241001.out (fun _ hk => ⟨hk.1.1.1, ⟨hk.2, ⟨hk.1.1.2.1, ⟨hk.1.1.2.2.1, ⟨hk.1.1.2.2.2, hk.1.2⟩⟩⟩⟩⟩)), (by (with_reducible repeat (first | apply Kd.N_alloc | apply Kd.N_drewN | apply Kd.N_drew)); exact Kd.N_mono HO_5.out (fun _ hk => ⟨hk.1.1.1, ⟨hk.2, ⟨hk.1.1.2.1, ⟨hk.1.1.2.2, hk.1.2⟩⟩⟩⟩)), (by (with_reducible repeat (first | refine blk_drewN ?_ _ | refine blk_drew ?_ | refine blk_alloc ?_ _)); exact BK240.out), (by (with_reducible repeat (first | refine blk_drewN ?_ _ | refine blk_drew ?_ | refine blk_alloc ?_ _)); exact BK242.out), (by (with_reducible repeat (first | refine blk_drewN ?_ _ | refine blk_drew ?_ | refine blk_alloc ?_ _)); exact BK246.out), GW246.out, GE246.out, NB240_246.out, NB246_240.out, NB242_246.out, NB246_242.out, (by repeat (first | (with_reducible first | exact HB.out | apply below_alloc | apply pw_below_drewN | apply below_drew1 | refine below_set ?_ GE240.out | refine below_set ?_ GE242.out | refine below_set ?_ GE246.out) | exact HB.out))⟩)
                          rintro ⟨v244, gb246⟩ w25 ⟨hS_, h0_, h1_, h2_, h3_, h4_, h5_, h6_, h7_, h8_, h9_, h10_, h11_, h12_⟩
                          have n0_ : Aside0 (Kd.R (Kd.int .i64) 3 w25 w.heap.size (fun k_ => (w.heap.size ≤ k_)) v244 t243) := ⟨h0_⟩
                          have n1_ : Aside0 (Kd.V (Kd.slice 3 (Kd.int .i64)) 34 w25 w.heap.size (fun k_ => (P1_1_ k_ ∨ w.heap.size ≤ k_) ∧ some k_ ≠ (v244 : Value).ownBlock ∧ some k_ ≠ (u5 : Value).ownBlock ∧ k_ ≠ gb240 ∧ k_ ≠ gb242 ∧ k_ ≠ gb246) (.slice A1_1 l1_1.length c1_1) l1_1) := ⟨h1_⟩
                          have n2_ : Aside0 (Kd.N k41 41 w25 w.heap.size (fun k_ => (P1_1_ k_ ∨ w.heap.size ≤ k_) ∧ some k_ ≠ (v244 : Value).ownBlock ∧ k_ ≠ gb240 ∧ k_ ≠ gb242 ∧ k_ ≠ gb246) u5 x5_1) := ⟨h2_⟩
                          have n3_ : Aside0 (w25.heap[gb240]? = some (.cells #[.int .i64 a1_0, .slice A1_1 l1_1.length c1_1] 30 (0, 0))) := ⟨h3_⟩
                          have n4_ : Aside0 (w25.heap[gb242]? = some (.cells #[.bool true, .slice A241_1 ((rd_T86 l0 x11_1).f1).length c241_1, .int .u8 ((rd_T86 l0 x11_1).f2)] 86 (0, 0))) := ⟨h4_⟩
                          have n5_ : Aside0 (w25.heap[gb246]? = some (.cells #[.bool false, .slice none 0 0] 41 (0, 0))) := ⟨h5_⟩
                          have n6_ : Aside0 (w.heap.size ≤ gb246) := ⟨h6_⟩
                          have n7_ : Aside0 (w.heap.size ≤ gb246) := ⟨h7_⟩
                          have n8_ : Aside0 (gb240 ≠ gb246) := ⟨h8_⟩
                          have n9_ : Aside0 (gb246 ≠ gb240) := ⟨h9_⟩
                          have n10_ : Aside0 (gb242 ≠ gb246) := ⟨h10_⟩
                          have n11_ : Aside0 (gb246 ≠ gb242) := ⟨h11_⟩
                          have n12_ : Aside0 (Below w.heap.size w w25) := ⟨h12_⟩
                          clear HO_5
                          clear HO_241001
                          clear BK240
                          clear BK242
                          clear HB
                          clear h0_ h1_ h2_ h3_ h4_ h5_ h6_ h7_ h8_ h9_ h10_ h11_ h12_
                          have HO245 := n0_
                          have HO_241001 := n1_
                          have HO_5 := n2_
                          have BK240 := n3_
                          have BK242 := n4_
                          have BK246 := n5_
                          have GW246 := n6_
                          have GE246 := n7_
                          have NB240_246 := n8_
                          have NB246_240 := n9_
                          have NB242_246 := n10_
                          have NB246_242 := n11_
                          have HB := n12_
                          clear n0_ n1_ n2_ n3_ n4_ n5_ n6_ n7_ n8_ n9_ n10_ n11_ n12_
                          have hHeld : w25.cell? ⟨gb242, 0, none⟩ = some (.bool true) ∧ w25.cell? ⟨gb242, 1, none⟩ = some (.slice A241_1 ((rd_T86 l0 x11_1).f1).length c241_1) ∧ w25.cell? ⟨gb242, 2, none⟩ = some (.int .u8 ((rd_T86 l0 x11_1).f2)) ∧ w25.cell? ⟨gb240, 0, none⟩ = some (.int .i64 a1_0) ∧ w25.cell? ⟨gb240, 1, none⟩ = some (.slice A1_1 l1_1.length c1_1) := hS_
                          obtain ⟨Ao26, co26, eo26⟩ := Kd.R_slice HO245.out
                          (first | subst eo26 | (injection eo26 with f1_ f2_ f3_; have f4_ := f1_.symm; have f5_ := f3_.symm; clear f1_ f2_ f3_; subst f4_; subst f5_))
                          refine norm_ (a' := ?_) ?_ ?_
                          rotate_left
                          · simp only [putAll, Act.put, List.setIfInBounds_toArray, List.set_cons_zero, List.set_cons_succ]
                            rfl
                          refine one_ (i := 9) (N := none) #[true, true, true, true, true, true, true, true, true, true] rfl rfl (one_of HT_.out (by kernel_rfl)) (by decide) (fun K hK => ?_)
                          have hs27 : w25.cell? ⟨gb246, 0, none⟩ = some (.bool false) := (blk_cell BK246.out 0).trans rfl
                          have hfs27 := blk_frozen BK246.out 0
                          have hns27_0 := NB240_246.out
                          have hns27_1 := NB242_246.out
                          have hms27_0 := NB246_240.out
                          have hms27_1 := NB246_242.out
                          have hs28 : w25.cell? ⟨gb246, 1, none⟩ = some (.slice none 0 0) := (blk_cell BK246.out 1).trans rfl
                          have hfs28 := blk_frozen BK246.out 1
                          have hns28_0 := NB240_246.out
                          have hns28_1 := NB242_246.out
                          have hms28_0 := NB246_240.out
                          have hms28_1 := NB246_242.out
                          refine skip_ (w1 := ?_) (by rfl) rfl ?_ ?_
                          rotate_left
                          · go_simp
                            rfl
                          refine hK.out _ _ ⟨((cell_far (p := ⟨gb246, _, none⟩) NB242_246.out _).trans (((cell_far (p := ⟨gb246, _, none⟩) NB242_246.out _).trans (hHeld.1)))), ((cell_far (p := ⟨gb246, _, none⟩) NB242_246.out _).trans (((cell_far (p := ⟨gb246, _, none⟩) NB242_246.out _).trans (hHeld.2.1)))), ((cell_far (p := ⟨gb246, _, none⟩) NB242_246.out _).trans (((cell_far (p := ⟨gb246, _, none⟩) NB242_246.out _).trans (hHeld.2.2.1)))), ((cell_far (p := ⟨gb246, _, none⟩) NB240_246.out _).trans (((cell_far (p := ⟨gb246, _, none⟩) NB240_246.out _).trans (hHeld.2.2.2.1)))), ((cell_far (p := ⟨gb246, _, none⟩) NB240_246.out _).trans (((cell_far (p := ⟨gb246, _, none⟩) NB240_246.out _).trans (hHeld.2.2.2.2))))⟩ (fun hHeld => ?_)
                          clear hK K
                          refine done_ (done_of HT_.out (by kernel_rfl)) ?_
                          have hnb29 := NB242_246.out
                          have hnc29 := NB246_242.out
                          have hcz30_0 : w25.cell? ⟨gb242, 0, none⟩ = some (.bool true) := (blk_cell BK242.out 0).trans rfl
                          have hcz30_1 : w25.cell? ⟨gb242, 1, none⟩ = some (.slice A241_1 ((rd_T86 l0 x11_1).f1).length c241_1) := (blk_cell BK242.out 1).trans rfl
                          have hcz30_2 : w25.cell? ⟨gb242, 2, none⟩ = some (.int .u8 ((rd_T86 l0 x11_1).f2)) := (blk_cell BK242.out 2).trans rfl
                          have hfz30_0 := blk_frozen BK242.out 0
                          have hfz30_1 := blk_frozen BK242.out 1
                          have hfz30_2 := blk_frozen BK242.out 2
                          have hnb31 := NB240_246.out
                          have hnc31 := NB246_240.out
                          have hcz32_0 : w25.cell? ⟨gb240, 0, none⟩ = some (.int .i64 a1_0) := (blk_cell BK240.out 0).trans rfl
                          have hcz32_1 : w25.cell? ⟨gb240, 1, none⟩ = some (.slice A1_1 l1_1.length c1_1) := (blk_cell BK240.out 1).trans rfl
                          have hfz32_0 := blk_frozen BK240.out 0
                          have hfz32_1 := blk_frozen BK240.out 1
                          try go_wp2
                          have n0_ : Aside0 (Kd.N k41 41 ((w25.setCell ⟨gb246, 0, none⟩ (.bool true)).setCell ⟨gb246, 1, none⟩ (.slice Ao26 t243.length co26)) w.heap.size (fun k_ => (P1_1_ k_ ∨ w.heap.size ≤ k_) ∧ some k_ ≠ (.slice Ao26 t243.length co26 : Value).ownBlock ∧ k_ ≠ gb240 ∧ k_ ≠ gb242 ∧ k_ ≠ gb246) u5 x5_1) := ⟨by (with_reducible repeat (first | apply Kd.N_alloc | apply Kd.N_drewN | apply Kd.N_drew)); exact Kd.N_mono (Kd.N_far (p := ⟨gb246, 1, none⟩) (Kd.N_far (p := ⟨gb246, 0, none⟩) (Kd.N_mono HO_5.out (fun k_ hk => (⟨hk, hk.2.2.2.2⟩ : _ ∧ k_ ≠ gb246))) (fun _ hk => hk.2) (.bool true)) (fun _ hk => hk.2) (.slice Ao26 t243.length co26)) (fun _ hk => ⟨hk.1.1, ⟨hk.1.2.1, ⟨hk.1.2.2.1, ⟨hk.1.2.2.2.1, hk.1.2.2.2.2⟩⟩⟩⟩)⟩
                          have n1_ : Aside0 (Kd.V (Kd.slice 3 (Kd.int .i64)) 34 ((w25.setCell ⟨gb246, 0, none⟩ (.bool true)).setCell ⟨gb246, 1, none⟩ (.slice Ao26 t243.length co26)) w.heap.size (fun k_ => (P1_1_ k_ ∨ w.heap.size ≤ k_) ∧ some k_ ≠ (u5 : Value).ownBlock ∧ some k_ ≠ (.slice Ao26 t243.length co26 : Value).ownBlock ∧ k_ ≠ gb240 ∧ k_ ≠ gb242 ∧ k_ ≠ gb246) (.slice A1_1 l1_1.length c1_1) l1_1) := ⟨by (with_reducible repeat (first | apply Kd.V_alloc | apply Kd.V_drewN | apply Kd.V_drew)); exact Kd.V_mono (Kd.V_far (p := ⟨gb246, 1, none⟩) (Kd.V_far (p := ⟨gb246, 0, none⟩) (Kd.V_mono HO_241001.out (fun k_ hk => (⟨hk, hk.2.2.2.2.2⟩ : _ ∧ k_ ≠ gb246))) (fun _ hk => hk.2) (.bool true)) (fun _ hk => hk.2) (.slice Ao26 t243.length co26)) (fun _ hk => ⟨hk.1.1, ⟨hk.1.2.2.1, ⟨hk.1.2.1, ⟨hk.1.2.2.2.1, ⟨hk.1.2.2.2.2.1, hk.1.2.2.2.2.2⟩⟩⟩⟩⟩)⟩
                          have n2_ : Aside0 (Kd.R (Kd.int .i64) 3 ((w25.setCell ⟨gb246, 0, none⟩ (.bool true)).setCell ⟨gb246, 1, none⟩ (.slice Ao26 t243.length co26)) w.heap.size (fun k_ => (w.heap.size ≤ k_)) (.slice Ao26 t243.length co26) t243) := ⟨by (with_reducible repeat (first | apply Kd.R_alloc | apply Kd.R_drewN | apply Kd.R_drew)); exact Kd.R_mono (Kd.R_far (p := ⟨gb246, 1, none⟩) (Kd.R_far (p := ⟨gb246, 0, none⟩) (Kd.R_types HO245.out BK246.out (by decide)) (fun _ hk => hk.2) (.bool true)) (fun _ hk => hk.2) (.slice Ao26 t243.length co26)) (fun _ hk => hk.1)⟩
                          have n3_ : Aside0 (((w25.setCell ⟨gb246, 0, none⟩ (.bool true)).setCell ⟨gb246, 1, none⟩ (.slice Ao26 t243.length co26)).heap[gb240]? = some (.cells #[.int .i64 a1_0, .slice A1_1 l1_1.length c1_1] 30 (0, 0))) := ⟨by (with_reducible repeat (first | refine blk_drewN ?_ _ | refine blk_drew ?_ | refine blk_alloc ?_ _)); refine blk_far ?_ NB240_246.out _; (with_reducible repeat (first | refine blk_drewN ?_ _ | refine blk_drew ?_ | refine blk_alloc ?_ _)); refine blk_far ?_ NB240_246.out _; (with_reducible repeat (first | refine blk_drewN ?_ _ | refine blk_drew ?_ | refine blk_alloc ?_ _)); exact BK240.out⟩
                          have n4_ : Aside0 (((w25.setCell ⟨gb246, 0, none⟩ (.bool true)).setCell ⟨gb246, 1, none⟩ (.slice Ao26 t243.length co26)).heap[gb242]? = some (.cells #[.bool true, .slice A241_1 ((rd_T86 l0 x11_1).f1).length c241_1, .int .u8 ((rd_T86 l0 x11_1).f2)] 86 (0, 0))) := ⟨by (with_reducible repeat (first | refine blk_drewN ?_ _ | refine blk_drew ?_ | refine blk_alloc ?_ _)); refine blk_far ?_ NB242_246.out _; (with_reducible repeat (first | refine blk_drewN ?_ _ | refine blk_drew ?_ | refine blk_alloc ?_ _)); refine blk_far ?_ NB242_246.out _; (with_reducible repeat (first | refine blk_drewN ?_ _ | refine blk_drew ?_ | refine blk_alloc ?_ _)); exact BK242.out⟩
                          have n5_ : Aside0 (((w25.setCell ⟨gb246, 0, none⟩ (.bool true)).setCell ⟨gb246, 1, none⟩ (.slice Ao26 t243.length co26)).heap[gb246]? = some (.cells #[.bool true, .slice Ao26 t243.length co26] 41 (0, 0))) := ⟨by (with_reducible repeat (first | refine blk_drewN ?_ _ | refine blk_drew ?_ | refine blk_alloc ?_ _)); refine blk_put (cs := #[.bool true, .slice none 0 0]) ?_ 1 _ rfl; (with_reducible repeat (first | refine blk_drewN ?_ _ | refine blk_drew ?_ | refine blk_alloc ?_ _)); refine blk_put (cs := #[.bool false, .slice none 0 0]) ?_ 0 _ rfl; (with_reducible repeat (first | refine blk_drewN ?_ _ | refine blk_drew ?_ | refine blk_alloc ?_ _)); exact BK246.out⟩
                          have n6_ : Aside0 (Below w.heap.size w ((w25.setCell ⟨gb246, 0, none⟩ (.bool true)).setCell ⟨gb246, 1, none⟩ (.slice Ao26 t243.length co26))) := ⟨by repeat (first | (with_reducible first | exact HB.out | apply below_alloc | apply pw_below_drewN | apply below_drew1 | refine below_set ?_ GE240.out | refine below_set ?_ GE242.out | refine below_set ?_ GE246.out) | exact HB.out)⟩
                          (try clear HO_5)
                          (try clear HO_241001)
                          (try clear HO245)
                          (try clear BK240)
                          (try clear BK242)
                          (try clear BK246)
                          (try clear HB)
                          generalize ((w25.setCell ⟨gb246, 0, none⟩ (.bool true)).setCell ⟨gb246, 1, none⟩ (.slice Ao26 t243.length co26)) = w33 at n0_ n1_ n2_ n3_ n4_ n5_ n6_ ⊢
                          have HO_5 := n0_
                          have HO_241001 := n1_
                          have HO245 := n2_
                          have BK240 := n3_
                          have BK242 := n4_
                          have BK246 := n5_
                          have HB := n6_
                          clear n0_ n1_ n2_ n3_ n4_ n5_ n6_
                          have n0_ := Aside0.mk (Kd.N_drew HO_5.out)
                          have n1_ := Aside0.mk (Kd.V_drew HO_241001.out)
                          have n2_ := Aside0.mk (Kd.R_drew HO245.out)
                          have n3_ := Aside0.mk (blk_drew BK240.out)
                          have n4_ := Aside0.mk (blk_drew BK242.out)
                          have n5_ := Aside0.mk (blk_drew BK246.out)
                          have n6_ := Aside0.mk (below_drew1 HB.out)
                          clear HO_5
                          clear HO_241001
                          clear HO245
                          clear BK240
                          clear BK242
                          clear BK246
                          clear HB
                          have HO_5 := n0_
                          have HO_241001 := n1_
                          have HO245 := n2_
                          have BK240 := n3_
                          have BK242 := n4_
                          have BK246 := n5_
                          have HB := n6_
                          clear n0_ n1_ n2_ n3_ n4_ n5_ n6_
                          have p247 : 0 ≤ ((ji13) : Int) := of_decide_eq_true (by first | (with_reducible assumption) | assumption)
                          have q247 : (ji13) < (l1_1.length : Int) := of_decide_eq_true (by first | (with_reducible assumption) | assumption)
                          obtain ⟨ad247, A247_0, c247_0, e247, hx247_0, hl247_0, hi247_0⟩ := at_L2 (Kd.V_reads' HO_241001.out).2.2 (ji13) p247 q247
                          cases e247
                          obtain ⟨ce247, hce247, hMe247, hcc247⟩ := Kd.V_get HO_241001.out [] (ji13) p247 (by first | exact q247 | exact of_decide_eq_true (by first | (with_reducible assumption) | assumption) | (have e_ := (Kd.V_reads' HO_241001.out).1; omega))
                          obtain ⟨ua247_0, uc247_0, rfl, ul247_0, ge247_0⟩ := Kd.FK_slice_open hMe247
                          have hv247_0 := hcc247 0 _ rfl
                          rw [Nat.add_zero, show ((Kd.slice 3 (Kd.int .i64))).sz = 1 from rfl, Nat.mul_one] at hv247_0
                          replace hv247_0 := Option.some.inj (hv247_0.symm.trans hx247_0)
                          injection hv247_0 with hva_ hvn_ hvc_
                          rw [hva_] at ge247_0
                          rw [hvc_] at ul247_0
                          have HL247_0 := Aside0.mk (show Kd.V (Kd.int .i64) 3 _ w.heap.size _ _ (rd_L2 l1_1 (ji13)) from Kd.V_mk ul247_0 ge247_0)
                          clear hva_ hvn_ hvc_ ge247_0 ul247_0
                          clear hcc247 hce247
                          have HR247_0 := Aside0.mk hi247_0
                          have HC247_0 := Aside0.mk hl247_0
                          clear hi247_0 hl247_0
                          replace p247 := eq_true p247
                          replace q247 := eq_true q247
                          refine start_ (n := 14) (S := fun w' => w'.cell? ⟨gb240, 0, none⟩ = some (.int .i64 a1_0) ∧ w'.cell? ⟨gb240, 1, none⟩ = some (.slice (some ad247) l1_1.length c1_1) ∧ w'.cell? ⟨gb242, 0, none⟩ = some (.bool true) ∧ w'.cell? ⟨gb242, 1, none⟩ = some (.slice A241_1 ((rd_T86 l0 x11_1).f1).length c241_1) ∧ w'.cell? ⟨gb242, 2, none⟩ = some (.int .u8 ((rd_T86 l0 x11_1).f2)) ∧ w'.cell? (ad247.add ((ji13)).toNat) = some (.slice A247_0 (rd_L2 l1_1 (ji13)).length c247_0)) (ds := []) #[false, false, false, false, false, false, false, false, false, false, false, false, false, false] (by kernel_rfl) rfl rfl ⟨(blk_cell BK240.out 0).trans rfl, (blk_cell BK240.out 1).trans rfl, (blk_cell BK242.out 0).trans rfl, (blk_cell BK242.out 1).trans rfl, (blk_cell BK242.out 2).trans rfl, hx247_0⟩ (fun hHeld => ?_); refine with_tabW bradawllaw08_Proof.tab7 bradawllaw08_Proof.bits7 (fun HT_ HW_ => ?_)
                          generalize w33.drew = w34 at HO_5 HO_241001 HO245 BK240 BK242 BK246 HB HL247_0 HR247_0 hx247_0 hHeld ⊢
                          refine pure_ (i := 0) (N := some 37) (v := ?_) (a' := ?_) #[true, false, false, false, false, false, false, false, false, false, false, false, false, false] rfl rfl (any_of HT_.out (by kernel_rfl)) (fun _ _ _ h => h) (Or.inl ⟨by rfl, ?_⟩) ?_ ?_
                          rotate_left
                          · intro w'
                            go_simp
                            with_reducible rfl
                          rotate_left
                          · simp only [Act.put, List.setIfInBounds_toArray, List.set_cons_zero, List.set_cons_succ, i64_w, i32_w]
                            rfl
                          refine pure_ (i := 2) (N := some 39) (v := ?_) (a' := ?_) #[true, false, true, false, false, false, false, false, false, false, false, false, false, false] rfl rfl (any_of HT_.out (by kernel_rfl)) (fun _ _ _ h => h) (Or.inl ⟨by rfl, ?_⟩) ?_ ?_
                          rotate_left
                          · intro w'
                            go_simp
                            with_reducible rfl
                          rotate_left
                          · simp only [Act.put, List.setIfInBounds_toArray, List.set_cons_zero, List.set_cons_succ, i64_w, i32_w]
                            rfl
                          refine pure_ (i := 6) (N := some 43) (v := ?_) (a' := ?_) #[true, false, true, false, false, false, true, false, false, false, false, false, false, false] rfl rfl (any_of HT_.out (by kernel_rfl)) (fun _ _ _ h => h) (Or.inl ⟨by rfl, ?_⟩) ?_ ?_
                          rotate_left
                          · intro w'
                            go_simp
                            with_reducible rfl
                          rotate_left
                          · simp only [Act.put, List.setIfInBounds_toArray, List.set_cons_zero, List.set_cons_succ, i64_w, i32_w]
                            rfl
                          refine take_ (i := 1) (N := some 38) (v := ?_) (a' := ?_) #[true, true, true, false, false, false, true, false, false, false, false, false, false, false] rfl rfl (take_ofW HT_.out HW_.out (by kernel_rfl)) (fun _ _ _ h => h) (Or.inl ⟨by rfl, ?_⟩) hHeld ?_ ?_
                          rotate_left
                          · rintro w' ⟨s0, s1, s2, s3, s4, s5⟩
                            go_simp
                            with_reducible rfl
                          rotate_left
                          · simp only [Act.put, List.setIfInBounds_toArray, List.set_cons_zero, List.set_cons_succ, i64_w, i32_w]
                            rfl
                          refine take_ (i := 3) (N := some 40) (v := ?_) (a' := ?_) #[true, true, true, true, false, false, true, false, false, false, false, false, false, false] rfl rfl (take_ofW HT_.out HW_.out (by kernel_rfl)) (fun _ _ _ h => h) (Or.inl ⟨by rfl, ?_⟩) hHeld ?_ ?_
                          rotate_left
                          · rintro w' ⟨s0, s1, s2, s3, s4, s5⟩
                            go_simp
                            with_reducible rfl
                          rotate_left
                          · simp only [Act.put, List.setIfInBounds_toArray, List.set_cons_zero, List.set_cons_succ, i64_w, i32_w]
                            rfl
                          refine pure_ (i := 4) (N := some 41) (v := ?_) (a' := ?_) #[true, true, true, true, true, false, true, false, false, false, false, false, false, false] rfl rfl (any_of HT_.out (by kernel_rfl)) (fun _ _ _ h => h) (Or.inl ⟨by rfl, ?_⟩) ?_ ?_
                          rotate_left
                          · intro w'
                            go_simp
                            with_reducible rfl
                          rotate_left
                          · simp only [Act.put, List.setIfInBounds_toArray, List.set_cons_zero, List.set_cons_succ, i64_w, i32_w]
                            rfl
                          refine pure_ (i := 5) (N := some 42) (v := ?_) (a' := ?_) #[true, true, true, true, true, true, true, false, false, false, false, false, false, false] rfl rfl (any_of HT_.out (by kernel_rfl)) (fun _ _ _ h => h) (Or.inl ⟨by rfl, ?_⟩) ?_ ?_
                          rotate_left
                          · intro w'
                            go_simp
                            with_reducible rfl
                          rotate_left
                          · simp only [Act.put, List.setIfInBounds_toArray, List.set_cons_zero, List.set_cons_succ, i64_w, i32_w]
                            rfl
                          refine take_ (i := 7) (N := some 44) (v := ?_) (a' := ?_) #[true, true, true, true, true, true, true, true, false, false, false, false, false, false] rfl rfl (take_ofW HT_.out HW_.out (by kernel_rfl)) (fun _ _ _ h => h) (Or.inl ⟨by rfl, ?_⟩) hHeld ?_ ?_
                          rotate_left
                          · rintro w' ⟨s0, s1, s2, s3, s4, s5⟩
                            go_simp
                            with_reducible rfl
                          rotate_left
                          · simp only [Act.put, List.setIfInBounds_toArray, List.set_cons_zero, List.set_cons_succ, i64_w, i32_w]
                            rfl
                          refine pure_ (i := 8) (N := some 45) (v := ?_) (a' := ?_) #[true, true, true, true, true, true, true, true, true, false, false, false, false, false] rfl rfl (any_of HT_.out (by kernel_rfl)) (fun _ _ _ h => h) (Or.inl ⟨by rfl, ?_⟩) ?_ ?_
                          rotate_left
                          · intro w'
                            go_simp
                            with_reducible rfl
                          rotate_left
                          · simp only [Act.put, List.setIfInBounds_toArray, List.set_cons_zero, List.set_cons_succ, i64_w, i32_w]
                            rfl
                          refine pure_ (i := 9) (N := some 46) (v := ?_) (a' := ?_) #[true, true, true, true, true, true, true, true, true, true, false, false, false, false] rfl rfl (any_of HT_.out (by kernel_rfl)) (fun _ _ _ h => h) (Or.inl ⟨by rfl, ?_⟩) ?_ ?_
                          rotate_left
                          · intro w'
                            go_simp
                            with_reducible rfl
                          rotate_left
                          · simp only [Act.put, List.setIfInBounds_toArray, List.set_cons_zero, List.set_cons_succ, i64_w, i32_w]
                            rfl
                          refine pure_ (i := 10) (N := some 47) (v := ?_) (a' := ?_) #[true, true, true, true, true, true, true, true, true, true, true, false, false, false] rfl rfl (any_of HT_.out (by kernel_rfl)) (fun _ _ _ h => h) (Or.inl ⟨by rfl, ?_⟩) ?_ ?_
                          rotate_left
                          · intro w'
                            go_simp
                            with_reducible rfl
                          rotate_left
                          · simp only [Act.put, List.setIfInBounds_toArray, List.set_cons_zero, List.set_cons_succ, i64_w, i32_w]
                            rfl
                          refine take_ (i := 11) (N := some 48) (v := ?_) (a' := ?_) #[true, true, true, true, true, true, true, true, true, true, true, true, false, false] rfl rfl (take_ofW HT_.out HW_.out (by kernel_rfl)) (fun _ _ _ h => h) (Or.inl ⟨by rfl, ?_⟩) hHeld ?_ ?_
                          rotate_left
                          · rintro w' ⟨s0, s1, s2, s3, s4, s5⟩
                            go_simp
                            with_reducible rfl
                          rotate_left
                          · simp only [Act.put, List.setIfInBounds_toArray, List.set_cons_zero, List.set_cons_succ, i64_w, i32_w]
                            rfl
                          refine pure_ (i := 12) (N := some 49) (v := ?_) (a' := ?_) #[true, true, true, true, true, true, true, true, true, true, true, true, true, false] rfl rfl (any_of HT_.out (by kernel_rfl)) (fun _ _ _ h => h) (Or.inl ⟨by rfl, ?_⟩) ?_ ?_
                          rotate_left
                          · intro w'
                            go_simp
                            with_reducible rfl
                          rotate_left
                          · simp only [Act.put, List.setIfInBounds_toArray, List.set_cons_zero, List.set_cons_succ, i64_w, i32_w]
                            rfl
                          refine one_ (i := 13) (N := none) #[true, true, true, true, true, true, true, true, true, true, true, true, true, true] rfl rfl (one_of HT_.out (by kernel_rfl)) (by decide) (fun K hK => ?_)
                          have hs35 : w34.cell? ⟨gb246, 1, none⟩ = some (.slice Ao26 t243.length co26) := (blk_cell BK246.out 1).trans rfl
                          have hfs35 := blk_frozen BK246.out 1
                          have hns35_0 := NB240_246.out
                          have hns35_1 := NB242_246.out
                          have hms35_0 := NB246_240.out
                          have hms35_1 := NB246_242.out
                          refine skip_ (w1 := ?_) (by rfl) rfl ?_ ?_
                          rotate_left
                          · go_simp
                            rfl
                          refine hK.out _ _ ⟨((cell_far (p := ⟨gb246, _, none⟩) NB240_246.out _).trans (hHeld.1)), ((cell_far (p := ⟨gb246, _, none⟩) NB240_246.out _).trans (hHeld.2.1)), ((cell_far (p := ⟨gb246, _, none⟩) NB242_246.out _).trans (hHeld.2.2.1)), ((cell_far (p := ⟨gb246, _, none⟩) NB242_246.out _).trans (hHeld.2.2.2.1)), ((cell_far (p := ⟨gb246, _, none⟩) NB242_246.out _).trans (hHeld.2.2.2.2.1)), ((cell_far (p := ⟨gb246, _, none⟩) (by first | exact Kd.own_blk (v_away1 HO_241001.out (fun _ hk => hk.2.2.2.2.2) (by omega) (by decide)) | (rw [add_block]; exact Kd.own_blk (v_away1 HO_241001.out (fun _ hk => hk.2.2.2.2.2) (by omega) (by decide))) | (show (Addr.add _ _).block ≠ _; rw [add_block]; exact Kd.own_blk (v_away1 HO_241001.out (fun _ hk => hk.2.2.2.2.2) (by omega) (by decide))) | (dsimp only; exact Kd.own_blk (v_away1 HO_241001.out (fun _ hk => hk.2.2.2.2.2) (by omega) (by decide)))) _).trans (hHeld.2.2.2.2.2))⟩ (fun hHeld => ?_)
                          clear hK K
                          refine done_ (done_of HT_.out (by kernel_rfl)) ?_
                          have n0_ : Aside0 (Kd.N k41 41 (w34.setCell ⟨gb246, 1, none⟩ (.slice A247_0 (rd_L2 l1_1 (ji13)).length c247_0)) w.heap.size (fun k_ => (P1_1_ k_ ∨ w.heap.size ≤ k_) ∧ some k_ ≠ (.slice Ao26 t243.length co26 : Value).ownBlock ∧ k_ ≠ gb240 ∧ k_ ≠ gb242 ∧ k_ ≠ gb246) u5 x5_1) := ⟨by (with_reducible repeat (first | apply Kd.N_alloc | apply Kd.N_drewN | apply Kd.N_drew)); exact Kd.N_mono (Kd.N_far (p := ⟨gb246, 1, none⟩) (Kd.N_mono HO_5.out (fun k_ hk => (⟨hk, hk.2.2.2.2⟩ : _ ∧ k_ ≠ gb246))) (fun _ hk => hk.2) (.slice A247_0 (rd_L2 l1_1 (ji13)).length c247_0)) (fun _ hk => ⟨hk.1.1, ⟨hk.1.2.1, ⟨hk.1.2.2.1, ⟨hk.1.2.2.2.1, hk.1.2.2.2.2⟩⟩⟩⟩)⟩
                          have n1_ : Aside0 (Kd.V (Kd.slice 3 (Kd.int .i64)) 34 (w34.setCell ⟨gb246, 1, none⟩ (.slice A247_0 (rd_L2 l1_1 (ji13)).length c247_0)) w.heap.size (fun k_ => (P1_1_ k_ ∨ w.heap.size ≤ k_) ∧ some k_ ≠ (u5 : Value).ownBlock ∧ some k_ ≠ (.slice Ao26 t243.length co26 : Value).ownBlock ∧ k_ ≠ gb240 ∧ k_ ≠ gb242 ∧ k_ ≠ gb246) (.slice (some ad247) l1_1.length c1_1) l1_1) := ⟨by (with_reducible repeat (first | apply Kd.V_alloc | apply Kd.V_drewN | apply Kd.V_drew)); exact Kd.V_mono (Kd.V_far (p := ⟨gb246, 1, none⟩) (Kd.V_mono HO_241001.out (fun k_ hk => (⟨hk, hk.2.2.2.2.2⟩ : _ ∧ k_ ≠ gb246))) (fun _ hk => hk.2) (.slice A247_0 (rd_L2 l1_1 (ji13)).length c247_0)) (fun _ hk => ⟨hk.1.1, ⟨hk.1.2.1, ⟨hk.1.2.2.1, ⟨hk.1.2.2.2.1, ⟨hk.1.2.2.2.2.1, hk.1.2.2.2.2.2⟩⟩⟩⟩⟩)⟩
                          have n2_ : Aside0 (Kd.R (Kd.int .i64) 3 (w34.setCell ⟨gb246, 1, none⟩ (.slice A247_0 (rd_L2 l1_1 (ji13)).length c247_0)) w.heap.size (fun k_ => (w.heap.size ≤ k_)) (.slice Ao26 t243.length co26) t243) := ⟨by (with_reducible repeat (first | apply Kd.R_alloc | apply Kd.R_drewN | apply Kd.R_drew)); exact Kd.R_mono (Kd.R_far (p := ⟨gb246, 1, none⟩) (Kd.R_types HO245.out BK246.out (by decide)) (fun _ hk => hk.2) (.slice A247_0 (rd_L2 l1_1 (ji13)).length c247_0)) (fun _ hk => hk.1)⟩
                          have n3_ : Aside0 (Kd.V (Kd.int .i64) 3 (w34.setCell ⟨gb246, 1, none⟩ (.slice A247_0 (rd_L2 l1_1 (ji13)).length c247_0)) w.heap.size (fun k_ => (P1_1_ k_ ∨ w.heap.size ≤ k_) ∧ some k_ ≠ (u5 : Value).ownBlock ∧ some k_ ≠ (.slice Ao26 t243.length co26 : Value).ownBlock ∧ k_ ≠ gb240 ∧ k_ ≠ gb242 ∧ k_ ≠ gb246) (.slice A247_0 (rd_L2 l1_1 (ji13)).length c247_0) (rd_L2 l1_1 (ji13))) := ⟨by (with_reducible repeat (first | apply Kd.V_alloc | apply Kd.V_drewN | apply Kd.V_drew)); exact Kd.V_mono (Kd.V_far (p := ⟨gb246, 1, none⟩) (Kd.V_mono HL247_0.out (fun k_ hk => (⟨hk, hk.2.2.2.2.2⟩ : _ ∧ k_ ≠ gb246))) (fun _ hk => hk.2) (.slice A247_0 (rd_L2 l1_1 (ji13)).length c247_0)) (fun _ hk => ⟨hk.1.1, ⟨hk.1.2.1, ⟨hk.1.2.2.1, ⟨hk.1.2.2.2.1, ⟨hk.1.2.2.2.2.1, hk.1.2.2.2.2.2⟩⟩⟩⟩⟩)⟩
                          have n4_ : Aside0 ((w34.setCell ⟨gb246, 1, none⟩ (.slice A247_0 (rd_L2 l1_1 (ji13)).length c247_0)).heap[gb240]? = some (.cells #[.int .i64 a1_0, .slice (some ad247) l1_1.length c1_1] 30 (0, 0))) := ⟨by (with_reducible repeat (first | refine blk_drewN ?_ _ | refine blk_drew ?_ | refine blk_alloc ?_ _)); refine blk_far ?_ NB240_246.out _; (with_reducible repeat (first | refine blk_drewN ?_ _ | refine blk_drew ?_ | refine blk_alloc ?_ _)); exact BK240.out⟩
                          have n5_ : Aside0 ((w34.setCell ⟨gb246, 1, none⟩ (.slice A247_0 (rd_L2 l1_1 (ji13)).length c247_0)).heap[gb242]? = some (.cells #[.bool true, .slice A241_1 ((rd_T86 l0 x11_1).f1).length c241_1, .int .u8 ((rd_T86 l0 x11_1).f2)] 86 (0, 0))) := ⟨by (with_reducible repeat (first | refine blk_drewN ?_ _ | refine blk_drew ?_ | refine blk_alloc ?_ _)); refine blk_far ?_ NB242_246.out _; (with_reducible repeat (first | refine blk_drewN ?_ _ | refine blk_drew ?_ | refine blk_alloc ?_ _)); exact BK242.out⟩
                          have n6_ : Aside0 ((w34.setCell ⟨gb246, 1, none⟩ (.slice A247_0 (rd_L2 l1_1 (ji13)).length c247_0)).heap[gb246]? = some (.cells #[.bool true, .slice A247_0 (rd_L2 l1_1 (ji13)).length c247_0] 41 (0, 0))) := ⟨by (with_reducible repeat (first | refine blk_drewN ?_ _ | refine blk_drew ?_ | refine blk_alloc ?_ _)); refine blk_put (cs := #[.bool true, .slice Ao26 t243.length co26]) ?_ 1 _ rfl; (with_reducible repeat (first | refine blk_drewN ?_ _ | refine blk_drew ?_ | refine blk_alloc ?_ _)); exact BK246.out⟩
                          have n7_ : Aside0 (Below w.heap.size w (w34.setCell ⟨gb246, 1, none⟩ (.slice A247_0 (rd_L2 l1_1 (ji13)).length c247_0))) := ⟨by repeat (first | (with_reducible first | exact HB.out | apply below_alloc | apply pw_below_drewN | apply below_drew1 | refine below_set ?_ GE240.out | refine below_set ?_ GE242.out | refine below_set ?_ GE246.out) | exact HB.out)⟩
                          (try clear HO_5)
                          (try clear HO_241001)
                          (try clear HO245)
                          (try clear HL247_0)
                          (try clear BK240)
                          (try clear BK242)
                          (try clear BK246)
                          (try clear HB)
                          generalize (w34.setCell ⟨gb246, 1, none⟩ (.slice A247_0 (rd_L2 l1_1 (ji13)).length c247_0)) = w36 at n0_ n1_ n2_ n3_ n4_ n5_ n6_ n7_ ⊢
                          have HO_5 := n0_
                          have HO_241001 := n1_
                          have HO245 := n2_
                          have HL247_0 := n3_
                          have BK240 := n4_
                          have BK242 := n5_
                          have BK246 := n6_
                          have HB := n7_
                          clear n0_ n1_ n2_ n3_ n4_ n5_ n6_ n7_
                          have hcz37_0 : w36.cell? ⟨gb246, 0, none⟩ = some (.bool true) := (blk_cell BK246.out 0).trans rfl
                          have hcz37_1 : w36.cell? ⟨gb246, 1, none⟩ = some (.slice A247_0 (rd_L2 l1_1 (ji13)).length c247_0) := (blk_cell BK246.out 1).trans rfl
                          have hfz37_0 := blk_frozen BK246.out 0
                          have hfz37_1 := blk_frozen BK246.out 1
                          try go_wp2_with (first | ((with_reducible refine gate_builtin (b := .append) (xs := #[.tmp 50, .tmp 52]) rfl ?_); (try (refine gate_guard (by rfl) ?_; dsimp only)); at_builtin; refine Kd.N_append k41 (w0 := w) w.heap.size rfl (.tmp 50) (.tmp 52) 39 41 (.agg #[(.bool false), (.slice none 0 0)]) 32 rfl Tryz.underlying39 info41 rfl (by decide) (by omega) u5 x5_1 (⟨true, rd_L2 l1_1 (ji13)⟩ : S41) [.bool true, .slice A247_0 (rd_L2 l1_1 (ji13)).length c247_0] (fun k_ => (P1_1_ k_ ∨ w.heap.size ≤ k_) ∧ some k_ ≠ (.slice Ao26 t243.length co26 : Value).ownBlock ∧ k_ ≠ gb240 ∧ k_ ≠ gb242 ∧ k_ ≠ gb246) (fun k_ => ((fun k_ => (P1_1_ k_ ∨ w.heap.size ≤ k_) ∧ some k_ ≠ (.slice Ao26 t243.length co26 : Value).ownBlock ∧ k_ ≠ gb240 ∧ k_ ≠ gb242 ∧ k_ ≠ gb246)) k_ ∧ some k_ ≠ (u5 : Value).ownBlock) rfl rfl ?aP (fun _ hk => hk) ?aF ?aO ?aB ?aS ?aL ?_; (case aP => exact (k41_mkF _ _ (⟨true, rd_L2 l1_1 (ji13)⟩ : S41) (Kd.V_reads' (Kd.V_mono (ok' := (fun k_ => ((fun k_ => (P1_1_ k_ ∨ w.heap.size ≤ k_) ∧ some k_ ≠ (.slice Ao26 t243.length co26 : Value).ownBlock ∧ k_ ≠ gb240 ∧ k_ ≠ gb242 ∧ k_ ≠ gb246)) k_ ∧ some k_ ≠ (u5 : Value).ownBlock)) (HL247_0.out) (fun k_ hk => ⟨⟨hk.1, ⟨hk.2.2.1, ⟨hk.2.2.2.1, ⟨hk.2.2.2.2.1, hk.2.2.2.2.2⟩⟩⟩⟩, hk.2.1⟩))).2.1 (Kd.V_F (Kd.V_mono (ok' := (fun k_ => ((fun k_ => (P1_1_ k_ ∨ w.heap.size ≤ k_) ∧ some k_ ≠ (.slice Ao26 t243.length co26 : Value).ownBlock ∧ k_ ≠ gb240 ∧ k_ ≠ gb242 ∧ k_ ≠ gb246)) k_ ∧ some k_ ≠ (u5 : Value).ownBlock)) (HL247_0.out) (fun k_ hk => ⟨⟨hk.1, ⟨hk.2.2.1, ⟨hk.2.2.2.1, ⟨hk.2.2.2.2.1, hk.2.2.2.2.2⟩⟩⟩⟩, hk.2.1⟩))))); (case aB => exact (by repeat (first | (with_reducible first | exact HB.out | apply below_alloc | apply pw_below_drewN | apply below_drew1 | refine below_set ?_ GE240.out | refine below_set ?_ GE242.out | refine below_set ?_ GE246.out) | exact HB.out))); (case aF => exact (fun k_ hk => ⟨(.inr (Nat.le_trans (below_size (by repeat (first | (with_reducible first | exact HB.out | apply below_alloc | apply pw_below_drewN | apply below_drew1 | refine below_set ?_ GE240.out | refine below_set ?_ GE242.out | refine below_set ?_ GE246.out) | exact HB.out))) hk)), Kd.fresh' (Kd.R_lt (by (with_reducible repeat (first | apply Kd.R_alloc | apply Kd.R_drewN | apply Kd.R_drew)); exact HO245.out)) k_ hk, Kd.freshB (g := gb240) (o := .cells #[.int .i64 a1_0, .slice (some ad247) l1_1.length c1_1] 30 (0, 0)) (by (with_reducible repeat (first | refine blk_drewN ?_ _ | refine blk_drew ?_ | refine blk_alloc ?_ _)); exact BK240.out) k_ hk, Kd.freshB (g := gb242) (o := .cells #[.bool true, .slice A241_1 ((rd_T86 l0 x11_1).f1).length c241_1, .int .u8 ((rd_T86 l0 x11_1).f2)] 86 (0, 0)) (by (with_reducible repeat (first | refine blk_drewN ?_ _ | refine blk_drew ?_ | refine blk_alloc ?_ _)); exact BK242.out) k_ hk, Kd.freshB (g := gb246) (o := .cells #[.bool true, .slice A247_0 (rd_L2 l1_1 (ji13)).length c247_0] 41 (0, 0)) (by (with_reducible repeat (first | refine blk_drewN ?_ _ | refine blk_drew ?_ | refine blk_alloc ?_ _)); exact BK246.out) k_ hk⟩)); (case aO => exact (by (with_reducible repeat (first | apply Kd.N_alloc | apply Kd.N_drewN | apply Kd.N_drew)); exact HO_5.out)); (case aS => exact (below_size (by repeat (first | (with_reducible first | exact HB.out | apply below_alloc | apply pw_below_drewN | apply below_drew1 | refine below_set ?_ GE240.out | refine below_set ?_ GE242.out | refine below_set ?_ GE246.out) | exact HB.out)))); (case aL => have := LMc16.out; omega); intro v249 w38 ho hb hg hat; rw [← Ny248.out] at ho; have n0_ := Aside0.mk (Kd.V_afterv (ok := (fun k_ => (P1_1_ k_ ∨ w.heap.size ≤ k_) ∧ some k_ ≠ (.slice Ao26 t243.length co26 : Value).ownBlock ∧ k_ ≠ gb240 ∧ k_ ≠ gb242 ∧ k_ ≠ gb246)) (by (with_reducible repeat (first | apply Kd.V_alloc | apply Kd.V_drewN | apply Kd.V_drew)); exact Kd.V_mono HO_241001.out (fun _ hk => ⟨⟨hk.1, ⟨hk.2.2.1, ⟨hk.2.2.2.1, ⟨hk.2.2.2.2.1, hk.2.2.2.2.2⟩⟩⟩⟩, hk.2.1⟩)) hg hat); have n1_ := Aside0.mk (blk_grown (g := gb240) (o := .cells #[.int .i64 a1_0, .slice (some ad247) l1_1.length c1_1] 30 (0, 0)) (by (with_reducible repeat (first | refine blk_drewN ?_ _ | refine blk_drew ?_ | refine blk_alloc ?_ _)); exact BK240.out) hg (Kd.N_ne HO_5.out BK240.out (by decide))); have n2_ := Aside0.mk (blk_grown (g := gb242) (o := .cells #[.bool true, .slice A241_1 ((rd_T86 l0 x11_1).f1).length c241_1, .int .u8 ((rd_T86 l0 x11_1).f2)] 86 (0, 0)) (by (with_reducible repeat (first | refine blk_drewN ?_ _ | refine blk_drew ?_ | refine blk_alloc ?_ _)); exact BK242.out) hg (Kd.N_ne HO_5.out BK242.out (by decide))); have n3_ := Aside0.mk (Kd.R_over' (by (with_reducible repeat (first | apply Kd.R_alloc | apply Kd.R_drewN | apply Kd.R_drew)); exact HO245.out) (Kd.N_typed (by (with_reducible repeat (first | apply Kd.N_alloc | apply Kd.N_drewN | apply Kd.N_drew)); exact HO_5.out)) (by decide) hg); have n4_ := Aside0.mk (blk_grown (g := gb246) (o := .cells #[.bool true, .slice A247_0 (rd_L2 l1_1 (ji13)).length c247_0] 41 (0, 0)) (by (with_reducible repeat (first | refine blk_drewN ?_ _ | refine blk_drew ?_ | refine blk_alloc ?_ _)); exact BK246.out) hg (Kd.N_away HO_5.out (fun _ hk => hk.2.2.2.2))); have n5_ := Aside0.mk (Kd.V_afterv (ok := (fun k_ => (P1_1_ k_ ∨ w.heap.size ≤ k_) ∧ some k_ ≠ (.slice Ao26 t243.length co26 : Value).ownBlock ∧ k_ ≠ gb240 ∧ k_ ≠ gb242 ∧ k_ ≠ gb246)) (by (with_reducible repeat (first | apply Kd.V_alloc | apply Kd.V_drewN | apply Kd.V_drew)); exact Kd.V_mono HL247_0.out (fun _ hk => ⟨⟨hk.1, ⟨hk.2.2.1, ⟨hk.2.2.2.1, ⟨hk.2.2.2.2.1, hk.2.2.2.2.2⟩⟩⟩⟩, hk.2.1⟩)) hg hat); have n6_ := Aside0.mk (hb); have n7_ := Aside0.mk (ho); clear HO_241001; clear BK240; clear BK242; clear HO245; clear BK246; clear HL247_0; clear HB; clear HO_5; have HO_241001 := n0_; have BK240 := n1_; have BK242 := n2_; have HO245 := n3_; have BK246 := n4_; have HL247_0 := n5_; have HB := n6_; have HO250 := n7_; clear n0_ n1_ n2_ n3_ n4_ n5_ n6_ n7_; clear ho hb hg hat))
                          go_roundg k1
                          case measure => have := HK1.out; omega
                          case rel => exact ⟨(y248), (wrap64 (x11_1 + 1)), (by first | rfl | (simp; done) | (simp [*]; done)), H', ⟨by have := HK1.out; omega⟩, ⟨by (with_reducible repeat (first | apply Kd.N_alloc | apply Kd.N_drewN | apply Kd.N_drew)); exact Kd.N_mono HO250.out (fun _ hk => ⟨hk.1, hk.2.2.1⟩)⟩, ⟨by (with_reducible repeat (first | apply Kd.V_alloc | apply Kd.V_drewN | apply Kd.V_drew)); exact Kd.V_mono HO_241001.out (fun _ hk => ⟨hk.1.1, ⟨hk.2, hk.1.2.2.1⟩⟩)⟩, ⟨by (with_reducible repeat (first | refine blk_drewN ?_ _ | refine blk_drew ?_ | refine blk_alloc ?_ _)); exact BK240.out⟩, ⟨by repeat (first | (with_reducible first | exact HB.out | apply below_alloc | apply pw_below_drewN | apply below_drew1 | refine below_set ?_ GE240.out | refine below_set ?_ GE242.out | refine below_set ?_ GE246.out) | exact HB.out)⟩⟩
                        · rw [if_neg c16] at H
                          exact absurd H (by simp)
                      · rw [if_neg c15] at H
                        exact absurd H (by simp)
                    · rw [if_neg c14] at H
                      exact absurd H (by simp)
                · rw [if_neg c11] at H
                  have c11b0 : decide (0 < (l1_1.length : Int)) = false := decide_eq_false c11
                  have c11b1 : decide (0 < l1_1.length) = false := decide_eq_false (by omega)
                  clear c11
                  by_cases c39 : x5_1.length < 4398046511104
                  · rw [if_pos c39] at H
                    have LMc39 := Aside0.mk c39
                    clear c39
                    obtain ⟨y251, hy251⟩ : ∃ y_ : List (S41), y_ = (x5_1 ++ [(⟨true, t243⟩ : S41)]) := ⟨_, rfl⟩
                    replace H : (bradawllaw08_Proof.l0 k1 y251 l0 (l0.length : Int) (wrap64 (x11_1 + 1)) a1_0 l1_1) = some r := by first | (rw [hy251]; with_reducible exact H) | (have H2_ := (Option.bind_some _ _).symm.trans H; rw [hy251]; with_reducible exact H2_) | (have H2_ := (Option.bind_some _ _).symm.trans H; with_reducible exact H2_) | with_reducible exact H | (rw [hy251]; exact H) | exact H
                    have Ny251 := Aside0.mk hy251
                    clear hy251
                    have H' := Aside0.mk H
                    clear H
                    have p241 : 0 ≤ (x11_1 : Int) := of_decide_eq_true (by first | (with_reducible assumption) | assumption)
                    have q241 : x11_1 < (l0.length : Int) := of_decide_eq_true (by first | (with_reducible assumption) | assumption)
                    obtain ⟨ad241, A241_1, c241_1, e241, hx241_0, hx241_1, hx241_2, hl241_1, hi241_1⟩ := at_T86 HR0.out x11_1 p241 q241
                    (try rw [← Nbq8.out] at hx241_0)
                    cases e241
                    replace hx241_0 := (HB.out.cell (World.block_lt_of_cell? w _ hx241_0)).trans hx241_0
                    replace hx241_1 := (HB.out.cell (World.block_lt_of_cell? w _ hx241_1)).trans hx241_1
                    replace hx241_2 := (HB.out.cell (World.block_lt_of_cell? w _ hx241_2)).trans hx241_2
                    have HR241_1 := Aside0.mk hi241_1
                    have HC241_1 := Aside0.mk hl241_1
                    clear hi241_1 hl241_1
                    replace p241 := eq_true p241
                    replace q241 := eq_true q241
                    try go_wp2_with (first | ((with_reducible refine gate_dst (N := 7) rfl ?_); (try (refine gate_guard (by rfl) ?_; dsimp only)); refine box_event ?hg (N := 7) ?hd (cs := #[.bool false, .slice none 0 0, .int .u8 0]) (t := 86) ?hr ?_; (case hd => rfl); (case hg => rfl); (case hr => first | (go_simp; done) | (go_simp; rfl)); intro gb242 hg w40 hbox hb; have n0_ := Aside0.mk (Kd.N_below (Kd.N_elderB (by (with_reducible repeat (first | apply Kd.N_alloc | apply Kd.N_drewN | apply Kd.N_drew)); exact HO_5.out) gb242 (Nat.le_of_eq hg.symm)) hb); have n1_ := Aside0.mk (Kd.V_below (Kd.V_elderB (by (with_reducible repeat (first | apply Kd.V_alloc | apply Kd.V_drewN | apply Kd.V_drew)); exact HO_241001.out) gb242 (Nat.le_of_eq hg.symm)) hb); have n2_ := Aside0.mk (blk_below (g := gb240) (o := .cells #[.int .i64 a1_0, .slice A1_1 l1_1.length c1_1] 30 (0, 0)) (by (with_reducible repeat (first | refine blk_drewN ?_ _ | refine blk_drew ?_ | refine blk_alloc ?_ _)); exact BK240.out) hb); have n3_ := Aside0.mk (below_step (by repeat (first | (with_reducible first | exact HB.out | apply below_alloc | apply pw_below_drewN | apply below_drew1 | refine below_set ?_ GE240.out) | exact HB.out)) hb); have n4_ := Aside0.mk (hbox); have n5_ := Aside0.mk ((by rw [hg]; exact (below_size (by repeat (first | (with_reducible first | exact HB.out | apply below_alloc | apply pw_below_drewN | apply below_drew1 | refine below_set ?_ GE240.out) | exact HB.out))) : w.heap.size ≤ gb242)); have n6_ := Aside0.mk ((by rw [hg]; exact (below_size (by repeat (first | (with_reducible first | exact HB.out | apply below_alloc | apply pw_below_drewN | apply below_drew1 | refine below_set ?_ GE240.out) | exact HB.out))) : w.heap.size ≤ gb242)); have n7_ := Aside0.mk ((by rw [hg]; exact Nat.ne_of_lt (blk_lt (g := gb240) (o := .cells #[.int .i64 a1_0, .slice A1_1 l1_1.length c1_1] 30 (0, 0)) (by (with_reducible repeat (first | refine blk_drewN ?_ _ | refine blk_drew ?_ | refine blk_alloc ?_ _)); exact BK240.out)) : gb240 ≠ gb242)); have n8_ := Aside0.mk ((by rw [hg]; exact Nat.ne_of_gt (blk_lt (g := gb240) (o := .cells #[.int .i64 a1_0, .slice A1_1 l1_1.length c1_1] 30 (0, 0)) (by (with_reducible repeat (first | refine blk_drewN ?_ _ | refine blk_drew ?_ | refine blk_alloc ?_ _)); exact BK240.out)) : gb242 ≠ gb240)); clear HO_5; clear HO_241001; clear BK240; clear HB; have HO_5 := n0_; have HO_241001 := n1_; have BK240 := n2_; have HB := n3_; have BK242 := n4_; have GW242 := n5_; have GE242 := n6_; have NB240_242 := n7_; have NB242_240 := n8_; clear n0_ n1_ n2_ n3_ n4_ n5_ n6_ n7_ n8_; clear hb hbox hg; have hnb41 := NB242_240.out; have hnc41 := NB240_242.out; have hcz42_0 : w40.cell? ⟨gb242, 0, none⟩ = some (.bool false) := (blk_cell BK242.out 0).trans rfl; have hcz42_1 : w40.cell? ⟨gb242, 1, none⟩ = some (.slice none 0 0) := (blk_cell BK242.out 1).trans rfl; have hcz42_2 : w40.cell? ⟨gb242, 2, none⟩ = some (.int .u8 0) := (blk_cell BK242.out 2).trans rfl; have hfz42_0 := blk_frozen BK242.out 0; have hfz42_1 := blk_frozen BK242.out 1; have hfz42_2 := blk_frozen BK242.out 2))
                    have n0_ : Aside0 (Kd.N k41 41 (((w40.setCell ⟨gb242, 0, none⟩ (.bool true)).setCell ⟨gb242, 1, none⟩ (.slice A241_1 ((rd_T86 l0 x11_1).f1).length c241_1)).setCell ⟨gb242, 2, none⟩ (.int .u8 ((rd_T86 l0 x11_1).f2))) w.heap.size (fun k_ => (P1_1_ k_ ∨ w.heap.size ≤ k_) ∧ k_ ≠ gb240 ∧ k_ ≠ gb242) u5 x5_1) := ⟨by (with_reducible repeat (first | apply Kd.N_alloc | apply Kd.N_drewN | apply Kd.N_drew)); exact Kd.N_mono (Kd.N_far (p := ⟨gb242, 2, none⟩) (Kd.N_far (p := ⟨gb242, 1, none⟩) (Kd.N_far (p := ⟨gb242, 0, none⟩) (Kd.N_mono HO_5.out (fun k_ hk => (⟨hk, hk.2⟩ : _ ∧ k_ ≠ gb242))) (fun _ hk => hk.2) (.bool true)) (fun _ hk => hk.2) (.slice A241_1 ((rd_T86 l0 x11_1).f1).length c241_1)) (fun _ hk => hk.2) (.int .u8 ((rd_T86 l0 x11_1).f2))) (fun _ hk => ⟨hk.1.1.1, ⟨hk.1.1.2, hk.1.2⟩⟩)⟩
                    have n1_ : Aside0 (Kd.V (Kd.slice 3 (Kd.int .i64)) 34 (((w40.setCell ⟨gb242, 0, none⟩ (.bool true)).setCell ⟨gb242, 1, none⟩ (.slice A241_1 ((rd_T86 l0 x11_1).f1).length c241_1)).setCell ⟨gb242, 2, none⟩ (.int .u8 ((rd_T86 l0 x11_1).f2))) w.heap.size (fun k_ => (P1_1_ k_ ∨ w.heap.size ≤ k_) ∧ some k_ ≠ (u5 : Value).ownBlock ∧ k_ ≠ gb240 ∧ k_ ≠ gb242) (.slice A1_1 l1_1.length c1_1) l1_1) := ⟨by (with_reducible repeat (first | apply Kd.V_alloc | apply Kd.V_drewN | apply Kd.V_drew)); exact Kd.V_mono (Kd.V_far (p := ⟨gb242, 2, none⟩) (Kd.V_far (p := ⟨gb242, 1, none⟩) (Kd.V_far (p := ⟨gb242, 0, none⟩) (Kd.V_mono HO_241001.out (fun k_ hk => (⟨hk, hk.2⟩ : _ ∧ k_ ≠ gb242))) (fun _ hk => hk.2) (.bool true)) (fun _ hk => hk.2) (.slice A241_1 ((rd_T86 l0 x11_1).f1).length c241_1)) (fun _ hk => hk.2) (.int .u8 ((rd_T86 l0 x11_1).f2))) (fun _ hk => ⟨hk.1.1.1, ⟨hk.1.1.2.1, ⟨hk.1.1.2.2, hk.1.2⟩⟩⟩)⟩
                    have n2_ : Aside0 ((((w40.setCell ⟨gb242, 0, none⟩ (.bool true)).setCell ⟨gb242, 1, none⟩ (.slice A241_1 ((rd_T86 l0 x11_1).f1).length c241_1)).setCell ⟨gb242, 2, none⟩ (.int .u8 ((rd_T86 l0 x11_1).f2))).heap[gb240]? = some (.cells #[.int .i64 a1_0, .slice A1_1 l1_1.length c1_1] 30 (0, 0))) := ⟨by (with_reducible repeat (first | refine blk_drewN ?_ _ | refine blk_drew ?_ | refine blk_alloc ?_ _)); refine blk_far ?_ NB240_242.out _; (with_reducible repeat (first | refine blk_drewN ?_ _ | refine blk_drew ?_ | refine blk_alloc ?_ _)); refine blk_far ?_ NB240_242.out _; (with_reducible repeat (first | refine blk_drewN ?_ _ | refine blk_drew ?_ | refine blk_alloc ?_ _)); refine blk_far ?_ NB240_242.out _; (with_reducible repeat (first | refine blk_drewN ?_ _ | refine blk_drew ?_ | refine blk_alloc ?_ _)); exact BK240.out⟩
                    have n3_ : Aside0 ((((w40.setCell ⟨gb242, 0, none⟩ (.bool true)).setCell ⟨gb242, 1, none⟩ (.slice A241_1 ((rd_T86 l0 x11_1).f1).length c241_1)).setCell ⟨gb242, 2, none⟩ (.int .u8 ((rd_T86 l0 x11_1).f2))).heap[gb242]? = some (.cells #[.bool true, .slice A241_1 ((rd_T86 l0 x11_1).f1).length c241_1, .int .u8 ((rd_T86 l0 x11_1).f2)] 86 (0, 0))) := ⟨by (with_reducible repeat (first | refine blk_drewN ?_ _ | refine blk_drew ?_ | refine blk_alloc ?_ _)); refine blk_put (cs := #[.bool true, .slice A241_1 ((rd_T86 l0 x11_1).f1).length c241_1, .int .u8 0]) ?_ 2 _ rfl; (with_reducible repeat (first | refine blk_drewN ?_ _ | refine blk_drew ?_ | refine blk_alloc ?_ _)); refine blk_put (cs := #[.bool true, .slice none 0 0, .int .u8 0]) ?_ 1 _ rfl; (with_reducible repeat (first | refine blk_drewN ?_ _ | refine blk_drew ?_ | refine blk_alloc ?_ _)); refine blk_put (cs := #[.bool false, .slice none 0 0, .int .u8 0]) ?_ 0 _ rfl; (with_reducible repeat (first | refine blk_drewN ?_ _ | refine blk_drew ?_ | refine blk_alloc ?_ _)); exact BK242.out⟩
                    have n4_ : Aside0 (Below w.heap.size w (((w40.setCell ⟨gb242, 0, none⟩ (.bool true)).setCell ⟨gb242, 1, none⟩ (.slice A241_1 ((rd_T86 l0 x11_1).f1).length c241_1)).setCell ⟨gb242, 2, none⟩ (.int .u8 ((rd_T86 l0 x11_1).f2)))) := ⟨by repeat (first | (with_reducible first | exact HB.out | apply below_alloc | apply pw_below_drewN | apply below_drew1 | refine below_set ?_ GE240.out | refine below_set ?_ GE242.out) | exact HB.out)⟩
                    (try clear HO_5)
                    (try clear HO_241001)
                    (try clear BK240)
                    (try clear BK242)
                    (try clear HB)
                    generalize (((w40.setCell ⟨gb242, 0, none⟩ (.bool true)).setCell ⟨gb242, 1, none⟩ (.slice A241_1 ((rd_T86 l0 x11_1).f1).length c241_1)).setCell ⟨gb242, 2, none⟩ (.int .u8 ((rd_T86 l0 x11_1).f2))) = w43 at n0_ n1_ n2_ n3_ n4_ ⊢
                    have HO_5 := n0_
                    have HO_241001 := n1_
                    have BK240 := n2_
                    have BK242 := n3_
                    have HB := n4_
                    clear n0_ n1_ n2_ n3_ n4_
                    have n0_ := Aside0.mk (Kd.N_drew HO_5.out)
                    have n1_ := Aside0.mk (Kd.V_drew HO_241001.out)
                    have n2_ := Aside0.mk (blk_drew BK240.out)
                    have n3_ := Aside0.mk (blk_drew BK242.out)
                    have n4_ := Aside0.mk (below_drew1 HB.out)
                    clear HO_5
                    clear HO_241001
                    clear BK240
                    clear BK242
                    clear HB
                    have HO_5 := n0_
                    have HO_241001 := n1_
                    have BK240 := n2_
                    have BK242 := n3_
                    have HB := n4_
                    clear n0_ n1_ n2_ n3_ n4_
                    refine start_ (n := 10) (S := fun w' => w'.cell? ⟨gb242, 0, none⟩ = some (.bool true) ∧ w'.cell? ⟨gb242, 1, none⟩ = some (.slice A241_1 ((rd_T86 l0 x11_1).f1).length c241_1) ∧ w'.cell? ⟨gb242, 2, none⟩ = some (.int .u8 ((rd_T86 l0 x11_1).f2)) ∧ w'.cell? ⟨gb240, 0, none⟩ = some (.int .i64 a1_0) ∧ w'.cell? ⟨gb240, 1, none⟩ = some (.slice A1_1 l1_1.length c1_1)) (ds := []) #[false, false, false, false, false, false, false, false, false, false] (by kernel_rfl) rfl rfl ⟨(blk_cell BK242.out 0).trans rfl, (blk_cell BK242.out 1).trans rfl, (blk_cell BK242.out 2).trans rfl, (blk_cell BK240.out 0).trans rfl, (blk_cell BK240.out 1).trans rfl⟩ (fun hHeld => ?_); refine with_tabW bradawllaw08_Proof.tab5 bradawllaw08_Proof.bits5 (fun HT_ HW_ => ?_)
                    generalize w43.drew = w44 at HO_5 HO_241001 BK240 BK242 HB hHeld ⊢
                    refine pure_ (i := 0) (N := some 15) (v := ?_) (a' := ?_) #[true, false, false, false, false, false, false, false, false, false] rfl rfl (any_of HT_.out (by kernel_rfl)) (fun _ _ _ h => h) (Or.inl ⟨by rfl, ?_⟩) ?_ ?_
                    rotate_left
                    · intro w'
                      go_simp
                      with_reducible rfl
                    rotate_left
                    · simp only [Act.put, List.setIfInBounds_toArray, List.set_cons_zero, List.set_cons_succ, i64_w, i32_w]
                      rfl
                    refine pure_ (i := 2) (N := some 17) (v := ?_) (a' := ?_) #[true, false, true, false, false, false, false, false, false, false] rfl rfl (any_of HT_.out (by kernel_rfl)) (fun _ _ _ h => h) (Or.inl ⟨by rfl, ?_⟩) ?_ ?_
                    rotate_left
                    · intro w'
                      go_simp
                      with_reducible rfl
                    rotate_left
                    · simp only [Act.put, List.setIfInBounds_toArray, List.set_cons_zero, List.set_cons_succ, i64_w, i32_w]
                      rfl
                    refine pure_ (i := 4) (N := some 19) (v := ?_) (a' := ?_) #[true, false, true, false, true, false, false, false, false, false] rfl rfl (any_of HT_.out (by kernel_rfl)) (fun _ _ _ h => h) (Or.inl ⟨by rfl, ?_⟩) ?_ ?_
                    rotate_left
                    · intro w'
                      go_simp
                      with_reducible rfl
                    rotate_left
                    · simp only [Act.put, List.setIfInBounds_toArray, List.set_cons_zero, List.set_cons_succ, i64_w, i32_w]
                      rfl
                    refine take_ (i := 1) (N := some 16) (v := ?_) (a' := ?_) #[true, true, true, false, true, false, false, false, false, false] rfl rfl (take_ofW HT_.out HW_.out (by kernel_rfl)) (fun _ _ _ h => h) (Or.inl ⟨by rfl, ?_⟩) hHeld ?_ ?_
                    rotate_left
                    · rintro w' ⟨s0, s1, s2, s3, s4⟩
                      go_simp
                      with_reducible rfl
                    rotate_left
                    · simp only [Act.put, List.setIfInBounds_toArray, List.set_cons_zero, List.set_cons_succ, i64_w, i32_w]
                      rfl
                    refine take_ (i := 3) (N := some 18) (v := ?_) (a' := ?_) #[true, true, true, true, true, false, false, false, false, false] rfl rfl (take_ofW HT_.out HW_.out (by kernel_rfl)) (fun _ _ _ h => h) (Or.inl ⟨by rfl, ?_⟩) hHeld ?_ ?_
                    rotate_left
                    · rintro w' ⟨s0, s1, s2, s3, s4⟩
                      go_simp
                      with_reducible rfl
                    rotate_left
                    · simp only [Act.put, List.setIfInBounds_toArray, List.set_cons_zero, List.set_cons_succ, i64_w, i32_w]
                      rfl
                    refine take_ (i := 5) (N := some 20) (v := ?_) (a' := ?_) #[true, true, true, true, true, true, false, false, false, false] rfl rfl (take_ofW HT_.out HW_.out (by kernel_rfl)) (fun _ _ _ h => h) (Or.inl ⟨by rfl, ?_⟩) hHeld ?_ ?_
                    rotate_left
                    · rintro w' ⟨s0, s1, s2, s3, s4⟩
                      go_simp
                      with_reducible rfl
                    rotate_left
                    · simp only [Act.put, List.setIfInBounds_toArray, List.set_cons_zero, List.set_cons_succ, i64_w, i32_w]
                      rfl
                    refine join_ (σ := Value × Nat) 1 #[true, true, true, true, true, true, true, true, true, false] (fun s_ => [(21, s_.1), (8, .pointer (some ⟨s_.2, 0, none⟩)), (22, .agg #[.bool true, s_.1])]) (fun s_ w' => (w'.cell? ⟨gb242, 0, none⟩ = some (.bool true) ∧ w'.cell? ⟨gb242, 1, none⟩ = some (.slice A241_1 ((rd_T86 l0 x11_1).f1).length c241_1) ∧ w'.cell? ⟨gb242, 2, none⟩ = some (.int .u8 ((rd_T86 l0 x11_1).f2)) ∧ w'.cell? ⟨gb240, 0, none⟩ = some (.int .i64 a1_0) ∧ w'.cell? ⟨gb240, 1, none⟩ = some (.slice A1_1 l1_1.length c1_1)) ∧ (Kd.R (Kd.int .i64) 3 w' w.heap.size (fun k_ => (w.heap.size ≤ k_)) s_.1 t243) ∧ (Kd.V (Kd.slice 3 (Kd.int .i64)) 34 w' w.heap.size (fun k_ => (P1_1_ k_ ∨ w.heap.size ≤ k_) ∧ some k_ ≠ (s_.1 : Value).ownBlock ∧ some k_ ≠ (u5 : Value).ownBlock ∧ k_ ≠ gb240 ∧ k_ ≠ gb242 ∧ k_ ≠ s_.2) (.slice A1_1 l1_1.length c1_1) l1_1) ∧ (Kd.N k41 41 w' w.heap.size (fun k_ => (P1_1_ k_ ∨ w.heap.size ≤ k_) ∧ some k_ ≠ (s_.1 : Value).ownBlock ∧ k_ ≠ gb240 ∧ k_ ≠ gb242 ∧ k_ ≠ s_.2) u5 x5_1) ∧ (w'.heap[gb240]? = some (.cells #[.int .i64 a1_0, .slice A1_1 l1_1.length c1_1] 30 (0, 0))) ∧ (w'.heap[gb242]? = some (.cells #[.bool true, .slice A241_1 ((rd_T86 l0 x11_1).f1).length c241_1, .int .u8 ((rd_T86 l0 x11_1).f2)] 86 (0, 0))) ∧ (w'.heap[s_.2]? = some (.cells #[.bool false, .slice none 0 0] 41 (0, 0))) ∧ (w.heap.size ≤ s_.2) ∧ (w.heap.size ≤ s_.2) ∧ (gb240 ≠ s_.2) ∧ (s_.2 ≠ gb240) ∧ (gb242 ≠ s_.2) ∧ (s_.2 ≠ gb242) ∧ (Below w.heap.size w w')) ?_ ?_
                    rotate_left
                    · intro hCont
                      refine two_ (i := 6) (j := 8) (Ni := some 21) (Nj := some 8) #[true, true, true, true, true, true, true, false, false, false] #[true, true, true, true, true, true, false, false, true, false] rfl rfl rfl rfl (two_of HT_.out (by kernel_rfl)) (by decide) (by decide) (fun K hK => ?_) (fun K hK => ?_)
                      · skip
                        refine goes_ Tryz.func13 (by kernel_rfl) rfl #[.slice A241_1 ((rd_T86 l0 x11_1).f1).length c241_1, .int .i64 a1_0] (by rfl) rfl rfl (by (try simp only [List.map_toArray, List.map_cons, List.map_nil]); first | done | rfl | (simp only [List.length_drop, List.length_take]; rfl)) ?_
                        with_reducible refine (bradawllaw07_Lits.calls k1 _ _ ((rd_T86 l0 x11_1).f1) a1_0 t243 _ ?side1 ?side2 A7.out).mono ?_
                        (case side1 => repeat (first | exact (Kd.C_below HR241_1.out HB.out) | (with_reducible refine Kd.C_alloc ?_ _) | (with_reducible refine Kd.C_drewN ?_ _) | (with_reducible refine Kd.C_drew ?_)))
                        (case side2 => exact HC241_1.out)
                        rintro e w45 ⟨v244, rfl, ho0, hb⟩
                        refine ⟨_, rfl, ?_⟩
                        have n0_ := Aside0.mk (Kd.N_elder' (by (with_reducible repeat (first | apply Kd.N_alloc | apply Kd.N_drewN | apply Kd.N_drew)); exact HO_5.out) (Kd.R_base ho0) hb)
                        have n1_ := Aside0.mk (Kd.V_elder' (by (with_reducible repeat (first | apply Kd.V_alloc | apply Kd.V_drewN | apply Kd.V_drew)); exact HO_241001.out) (Kd.R_base ho0) hb)
                        have n2_ := Aside0.mk (Kd.R_lower (Kd.R_newM (M := fun k_ => (w.heap.size ≤ k_)) ho0 (below_size (by repeat (first | (with_reducible first | exact HB.out | apply below_alloc | apply pw_below_drewN | apply below_drew1 | refine below_set ?_ GE240.out | refine below_set ?_ GE242.out) | exact HB.out))) (fun k_ h_ => h_)) (below_size (by repeat (first | (with_reducible first | exact HB.out | apply below_alloc | apply pw_below_drewN | apply below_drew1 | refine below_set ?_ GE240.out | refine below_set ?_ GE242.out) | exact HB.out))))
                        have n3_ := Aside0.mk (blk_below (g := gb240) (o := .cells #[.int .i64 a1_0, .slice A1_1 l1_1.length c1_1] 30 (0, 0)) (by (with_reducible repeat (first | refine blk_drewN ?_ _ | refine blk_drew ?_ | refine blk_alloc ?_ _)); exact BK240.out) hb)
                        have n4_ := Aside0.mk (blk_below (g := gb242) (o := .cells #[.bool true, .slice A241_1 ((rd_T86 l0 x11_1).f1).length c241_1, .int .u8 ((rd_T86 l0 x11_1).f2)] 86 (0, 0)) (by (with_reducible repeat (first | refine blk_drewN ?_ _ | refine blk_drew ?_ | refine blk_alloc ?_ _)); exact BK242.out) hb)
                        have n5_ := Aside0.mk (below_step (by repeat (first | (with_reducible first | exact HB.out | apply below_alloc | apply pw_below_drewN | apply below_drew1 | refine below_set ?_ GE240.out | refine below_set ?_ GE242.out) | exact HB.out)) hb)
                        clear HO_5
                        clear HO_241001
                        clear BK240
                        clear BK242
                        clear HB
                        have HO_5 := n0_
                        have HO_241001 := n1_
                        have HO245 := n2_
                        have BK240 := n3_
                        have BK242 := n4_
                        have HB := n5_
                        clear n0_ n1_ n2_ n3_ n4_ n5_
                        (try clear hb)
                        (try clear hb2)
                        (try clear hk)
                        (try clear hi)
                        (try clear ho0)
                        obtain ⟨Ao46, co46, eo46⟩ := Kd.R_slice HO245.out
                        (first | subst eo46 | (injection eo46 with f1_ f2_ f3_; have f4_ := f1_.symm; have f5_ := f3_.symm; clear f1_ f2_ f3_; subst f4_; subst f5_))
                        refine hK.out _ _ ⟨(blk_cell BK242.out 0).trans rfl, (blk_cell BK242.out 1).trans rfl, (blk_cell BK242.out 2).trans rfl, (blk_cell BK240.out 0).trans rfl, (blk_cell BK240.out 1).trans rfl⟩ (fun hHeld => ?_)
                        clear hK K
                        refine norm_ (a' := ?_) ?_ ?_
                        rotate_left
                        · show Act.put _ (some 21) _ = _
                          simp only [Act.put, List.setIfInBounds_toArray, List.set_cons_zero, List.set_cons_succ, i64_w, i32_w]
                          rfl
                        refine pure_ (i := 7) (N := some 22) (v := ?_) (a' := ?_) #[true, true, true, true, true, true, true, true, false, false] rfl rfl (any_of HT_.out (by kernel_rfl)) (fun _ _ _ h => h) (Or.inl ⟨by rfl, ?_⟩) ?_ ?_
                        rotate_left
                        · intro w'
                          go_simp
                          with_reducible rfl
                        rotate_left
                        · simp only [Act.put, List.setIfInBounds_toArray, List.set_cons_zero, List.set_cons_succ, i64_w, i32_w]
                          rfl
                        refine one_ (i := 8) (N := some 8) #[true, true, true, true, true, true, true, true, true, false] rfl rfl (one_of HT_.out (by kernel_rfl)) (by decide) (fun K hK => ?_)
                        refine box_step ?hg (N := 8) ?hd (cs := #[.bool false, .slice none 0 0]) (t := 41) ?hr ?_; (case hd => rfl); (case hg => rfl); (case hr => first | (go_simp; done) | (go_simp; rfl))
                        intro gb246 hg w47 hbox hb
                        have n0_ := Aside0.mk (Kd.N_below (Kd.N_elderB (by (with_reducible repeat (first | apply Kd.N_alloc | apply Kd.N_drewN | apply Kd.N_drew)); exact HO_5.out) gb246 (Nat.le_of_eq hg.symm)) hb)
                        have n1_ := Aside0.mk (Kd.V_below (Kd.V_elderB (by (with_reducible repeat (first | apply Kd.V_alloc | apply Kd.V_drewN | apply Kd.V_drew)); exact HO_241001.out) gb246 (Nat.le_of_eq hg.symm)) hb)
                        have n2_ := Aside0.mk (Kd.R_below (by (with_reducible repeat (first | apply Kd.R_alloc | apply Kd.R_drewN | apply Kd.R_drew)); exact HO245.out) hb)
                        have n3_ := Aside0.mk (blk_below (g := gb240) (o := .cells #[.int .i64 a1_0, .slice A1_1 l1_1.length c1_1] 30 (0, 0)) (by (with_reducible repeat (first | refine blk_drewN ?_ _ | refine blk_drew ?_ | refine blk_alloc ?_ _)); exact BK240.out) hb)
                        have n4_ := Aside0.mk (blk_below (g := gb242) (o := .cells #[.bool true, .slice A241_1 ((rd_T86 l0 x11_1).f1).length c241_1, .int .u8 ((rd_T86 l0 x11_1).f2)] 86 (0, 0)) (by (with_reducible repeat (first | refine blk_drewN ?_ _ | refine blk_drew ?_ | refine blk_alloc ?_ _)); exact BK242.out) hb)
                        have n5_ := Aside0.mk (below_step (by repeat (first | (with_reducible first | exact HB.out | apply below_alloc | apply pw_below_drewN | apply below_drew1 | refine below_set ?_ GE240.out | refine below_set ?_ GE242.out) | exact HB.out)) hb)
                        have n6_ := Aside0.mk (hbox)
                        have n7_ := Aside0.mk ((by rw [hg]; exact (below_size (by repeat (first | (with_reducible first | exact HB.out | apply below_alloc | apply pw_below_drewN | apply below_drew1 | refine below_set ?_ GE240.out | refine below_set ?_ GE242.out) | exact HB.out))) : w.heap.size ≤ gb246))
                        have n8_ := Aside0.mk ((by rw [hg]; exact (below_size (by repeat (first | (with_reducible first | exact HB.out | apply below_alloc | apply pw_below_drewN | apply below_drew1 | refine below_set ?_ GE240.out | refine below_set ?_ GE242.out) | exact HB.out))) : w.heap.size ≤ gb246))
                        have n9_ := Aside0.mk ((by rw [hg]; exact Nat.ne_of_lt (blk_lt (g := gb240) (o := .cells #[.int .i64 a1_0, .slice A1_1 l1_1.length c1_1] 30 (0, 0)) (by (with_reducible repeat (first | refine blk_drewN ?_ _ | refine blk_drew ?_ | refine blk_alloc ?_ _)); exact BK240.out)) : gb240 ≠ gb246))
                        have n10_ := Aside0.mk ((by rw [hg]; exact Nat.ne_of_gt (blk_lt (g := gb240) (o := .cells #[.int .i64 a1_0, .slice A1_1 l1_1.length c1_1] 30 (0, 0)) (by (with_reducible repeat (first | refine blk_drewN ?_ _ | refine blk_drew ?_ | refine blk_alloc ?_ _)); exact BK240.out)) : gb246 ≠ gb240))
                        have n11_ := Aside0.mk ((by rw [hg]; exact Nat.ne_of_lt (blk_lt (g := gb242) (o := .cells #[.bool true, .slice A241_1 ((rd_T86 l0 x11_1).f1).length c241_1, .int .u8 ((rd_T86 l0 x11_1).f2)] 86 (0, 0)) (by (with_reducible repeat (first | refine blk_drewN ?_ _ | refine blk_drew ?_ | refine blk_alloc ?_ _)); exact BK242.out)) : gb242 ≠ gb246))
                        have n12_ := Aside0.mk ((by rw [hg]; exact Nat.ne_of_gt (blk_lt (g := gb242) (o := .cells #[.bool true, .slice A241_1 ((rd_T86 l0 x11_1).f1).length c241_1, .int .u8 ((rd_T86 l0 x11_1).f2)] 86 (0, 0)) (by (with_reducible repeat (first | refine blk_drewN ?_ _ | refine blk_drew ?_ | refine blk_alloc ?_ _)); exact BK242.out)) : gb246 ≠ gb242))
                        clear HO_5
                        clear HO_241001
                        clear HO245
                        clear BK240
                        clear BK242
                        clear HB
                        have HO_5 := n0_
                        have HO_241001 := n1_
                        have HO245 := n2_
                        have BK240 := n3_
                        have BK242 := n4_
                        have HB := n5_
                        have BK246 := n6_
                        have GW246 := n7_
                        have GE246 := n8_
                        have NB240_246 := n9_
                        have NB246_240 := n10_
                        have NB242_246 := n11_
                        have NB246_242 := n12_
                        clear n0_ n1_ n2_ n3_ n4_ n5_ n6_ n7_ n8_ n9_ n10_ n11_ n12_
                        clear hb hbox hg
                        refine hK.out _ _ ⟨(blk_cell BK242.out 0).trans rfl, (blk_cell BK242.out 1).trans rfl, (blk_cell BK242.out 2).trans rfl, (blk_cell BK240.out 0).trans rfl, (blk_cell BK240.out 1).trans rfl⟩ (fun hHeld => ?_)
                        clear hK K
                        refine norm_ (a' := ?_) ?_ ?_
                        rotate_left
                        · show Act.put _ (some 8) _ = _
                          simp only [Act.put, List.setIfInBounds_toArray, List.set_cons_zero, List.set_cons_succ, i64_w, i32_w]
                          rfl
                        exact norm_ (by simp only [putAll, Act.put, List.setIfInBounds_toArray, List.set_cons_zero, List.set_cons_succ]) (hCont (.slice Ao46 t243.length co46, gb246) _ ⟨hHeld, (by (with_reducible repeat (first | apply Kd.R_alloc | apply Kd.R_drewN | apply Kd.R_drew)); exact Kd.R_mono HO245.out (fun _ hk => hk.1)), (by (with_reducible repeat (first | apply Kd.V_alloc | apply Kd.V_drewN | apply Kd.V_drew)); exact Kd.V_mono HO_241001.out (fun _ hk => ⟨hk.1.1.1, ⟨hk.1.2, ⟨hk.1.1.2.1, ⟨hk.1.1.2.2.1, ⟨hk.1.1.2.2.2, hk.2⟩⟩⟩⟩⟩)), (by (with_reducible repeat (first | apply Kd.N_alloc | apply Kd.N_drewN | apply Kd.N_drew)); exact Kd.N_mono HO_5.out (fun _ hk => ⟨hk.1.1.1, ⟨hk.1.2, ⟨hk.1.1.2.1, ⟨hk.1.1.2.2, hk.2⟩⟩⟩⟩)), (by (with_reducible repeat (first | refine blk_drewN ?_ _ | refine blk_drew ?_ | refine blk_alloc ?_ _)); exact BK240.out), (by (with_reducible repeat (first | refine blk_drewN ?_ _ | refine blk_drew ?_ | refine blk_alloc ?_ _)); exact BK242.out), (by (with_reducible repeat (first | refine blk_drewN ?_ _ | refine blk_drew ?_ | refine blk_alloc ?_ _)); exact BK246.out), GW246.out, GE246.out, NB240_246.out, NB246_240.out, NB242_246.out, NB246_242.out, (by repeat (first | (with_reducible first | exact HB.out | apply below_alloc | apply pw_below_drewN | apply below_drew1 | refine below_set ?_ GE240.out | refine below_set ?_ GE242.out | refine below_set ?_ GE246.out) | exact HB.out))⟩)
                      · skip
                        refine box_step ?hg (N := 8) ?hd (cs := #[.bool false, .slice none 0 0]) (t := 41) ?hr ?_; (case hd => rfl); (case hg => rfl); (case hr => first | (go_simp; done) | (go_simp; rfl))
                        intro gb246 hg w45 hbox hb
                        have n0_ := Aside0.mk (Kd.N_below (Kd.N_elderB (by (with_reducible repeat (first | apply Kd.N_alloc | apply Kd.N_drewN | apply Kd.N_drew)); exact HO_5.out) gb246 (Nat.le_of_eq hg.symm)) hb)
                        have n1_ := Aside0.mk (Kd.V_below (Kd.V_elderB (by (with_reducible repeat (first | apply Kd.V_alloc | apply Kd.V_drewN | apply Kd.V_drew)); exact HO_241001.out) gb246 (Nat.le_of_eq hg.symm)) hb)
                        have n2_ := Aside0.mk (blk_below (g := gb240) (o := .cells #[.int .i64 a1_0, .slice A1_1 l1_1.length c1_1] 30 (0, 0)) (by (with_reducible repeat (first | refine blk_drewN ?_ _ | refine blk_drew ?_ | refine blk_alloc ?_ _)); exact BK240.out) hb)
                        have n3_ := Aside0.mk (blk_below (g := gb242) (o := .cells #[.bool true, .slice A241_1 ((rd_T86 l0 x11_1).f1).length c241_1, .int .u8 ((rd_T86 l0 x11_1).f2)] 86 (0, 0)) (by (with_reducible repeat (first | refine blk_drewN ?_ _ | refine blk_drew ?_ | refine blk_alloc ?_ _)); exact BK242.out) hb)
                        have n4_ := Aside0.mk (below_step (by repeat (first | (with_reducible first | exact HB.out | apply below_alloc | apply pw_below_drewN | apply below_drew1 | refine below_set ?_ GE240.out | refine below_set ?_ GE242.out) | exact HB.out)) hb)
                        have n5_ := Aside0.mk (hbox)
                        have n6_ := Aside0.mk ((by rw [hg]; exact (below_size (by repeat (first | (with_reducible first | exact HB.out | apply below_alloc | apply pw_below_drewN | apply below_drew1 | refine below_set ?_ GE240.out | refine below_set ?_ GE242.out) | exact HB.out))) : w.heap.size ≤ gb246))
                        have n7_ := Aside0.mk ((by rw [hg]; exact (below_size (by repeat (first | (with_reducible first | exact HB.out | apply below_alloc | apply pw_below_drewN | apply below_drew1 | refine below_set ?_ GE240.out | refine below_set ?_ GE242.out) | exact HB.out))) : w.heap.size ≤ gb246))
                        have n8_ := Aside0.mk ((by rw [hg]; exact Nat.ne_of_lt (blk_lt (g := gb240) (o := .cells #[.int .i64 a1_0, .slice A1_1 l1_1.length c1_1] 30 (0, 0)) (by (with_reducible repeat (first | refine blk_drewN ?_ _ | refine blk_drew ?_ | refine blk_alloc ?_ _)); exact BK240.out)) : gb240 ≠ gb246))
                        have n9_ := Aside0.mk ((by rw [hg]; exact Nat.ne_of_gt (blk_lt (g := gb240) (o := .cells #[.int .i64 a1_0, .slice A1_1 l1_1.length c1_1] 30 (0, 0)) (by (with_reducible repeat (first | refine blk_drewN ?_ _ | refine blk_drew ?_ | refine blk_alloc ?_ _)); exact BK240.out)) : gb246 ≠ gb240))
                        have n10_ := Aside0.mk ((by rw [hg]; exact Nat.ne_of_lt (blk_lt (g := gb242) (o := .cells #[.bool true, .slice A241_1 ((rd_T86 l0 x11_1).f1).length c241_1, .int .u8 ((rd_T86 l0 x11_1).f2)] 86 (0, 0)) (by (with_reducible repeat (first | refine blk_drewN ?_ _ | refine blk_drew ?_ | refine blk_alloc ?_ _)); exact BK242.out)) : gb242 ≠ gb246))
                        have n11_ := Aside0.mk ((by rw [hg]; exact Nat.ne_of_gt (blk_lt (g := gb242) (o := .cells #[.bool true, .slice A241_1 ((rd_T86 l0 x11_1).f1).length c241_1, .int .u8 ((rd_T86 l0 x11_1).f2)] 86 (0, 0)) (by (with_reducible repeat (first | refine blk_drewN ?_ _ | refine blk_drew ?_ | refine blk_alloc ?_ _)); exact BK242.out)) : gb246 ≠ gb242))
                        clear HO_5
                        clear HO_241001
                        clear BK240
                        clear BK242
                        clear HB
                        have HO_5 := n0_
                        have HO_241001 := n1_
                        have BK240 := n2_
                        have BK242 := n3_
                        have HB := n4_
                        have BK246 := n5_
                        have GW246 := n6_
                        have GE246 := n7_
                        have NB240_246 := n8_
                        have NB246_240 := n9_
                        have NB242_246 := n10_
                        have NB246_242 := n11_
                        clear n0_ n1_ n2_ n3_ n4_ n5_ n6_ n7_ n8_ n9_ n10_ n11_
                        clear hb hbox hg
                        refine hK.out _ _ ⟨(blk_cell BK242.out 0).trans rfl, (blk_cell BK242.out 1).trans rfl, (blk_cell BK242.out 2).trans rfl, (blk_cell BK240.out 0).trans rfl, (blk_cell BK240.out 1).trans rfl⟩ (fun hHeld => ?_)
                        clear hK K
                        refine norm_ (a' := ?_) ?_ ?_
                        rotate_left
                        · show Act.put _ (some 8) _ = _
                          simp only [Act.put, List.setIfInBounds_toArray, List.set_cons_zero, List.set_cons_succ, i64_w, i32_w]
                          rfl
                        refine one_ (i := 6) (N := some 21) #[true, true, true, true, true, true, true, false, true, false] rfl rfl (one_of HT_.out (by kernel_rfl)) (by decide) (fun K hK => ?_)
                        refine goes_ Tryz.func13 (by kernel_rfl) rfl #[.slice A241_1 ((rd_T86 l0 x11_1).f1).length c241_1, .int .i64 a1_0] (by rfl) rfl rfl (by (try simp only [List.map_toArray, List.map_cons, List.map_nil]); first | done | rfl | (simp only [List.length_drop, List.length_take]; rfl)) ?_
                        with_reducible refine (bradawllaw07_Lits.calls k1 _ _ ((rd_T86 l0 x11_1).f1) a1_0 t243 _ ?side1 ?side2 A7.out).mono ?_
                        (case side1 => repeat (first | exact (Kd.C_below HR241_1.out HB.out) | (with_reducible refine Kd.C_alloc ?_ _) | (with_reducible refine Kd.C_drewN ?_ _) | (with_reducible refine Kd.C_drew ?_)))
                        (case side2 => exact HC241_1.out)
                        rintro e w46 ⟨v244, rfl, ho0, hb⟩
                        refine ⟨_, rfl, ?_⟩
                        have n0_ := Aside0.mk (Kd.N_elder' (by (with_reducible repeat (first | apply Kd.N_alloc | apply Kd.N_drewN | apply Kd.N_drew)); exact HO_5.out) (Kd.R_base ho0) hb)
                        have n1_ := Aside0.mk (Kd.V_elder' (by (with_reducible repeat (first | apply Kd.V_alloc | apply Kd.V_drewN | apply Kd.V_drew)); exact HO_241001.out) (Kd.R_base ho0) hb)
                        have n2_ := Aside0.mk (Kd.R_lower (Kd.R_newM (M := fun k_ => (w.heap.size ≤ k_)) ho0 (below_size (by repeat (first | (with_reducible first | exact HB.out | apply below_alloc | apply pw_below_drewN | apply below_drew1 | refine below_set ?_ GE240.out | refine below_set ?_ GE242.out | refine below_set ?_ GE246.out) | exact HB.out))) (fun k_ h_ => h_)) (below_size (by repeat (first | (with_reducible first | exact HB.out | apply below_alloc | apply pw_below_drewN | apply below_drew1 | refine below_set ?_ GE240.out | refine below_set ?_ GE242.out | refine below_set ?_ GE246.out) | exact HB.out))))
                        have n3_ := Aside0.mk (blk_below (g := gb240) (o := .cells #[.int .i64 a1_0, .slice A1_1 l1_1.length c1_1] 30 (0, 0)) (by (with_reducible repeat (first | refine blk_drewN ?_ _ | refine blk_drew ?_ | refine blk_alloc ?_ _)); exact BK240.out) hb)
                        have n4_ := Aside0.mk (blk_below (g := gb242) (o := .cells #[.bool true, .slice A241_1 ((rd_T86 l0 x11_1).f1).length c241_1, .int .u8 ((rd_T86 l0 x11_1).f2)] 86 (0, 0)) (by (with_reducible repeat (first | refine blk_drewN ?_ _ | refine blk_drew ?_ | refine blk_alloc ?_ _)); exact BK242.out) hb)
                        have n5_ := Aside0.mk (blk_below (g := gb246) (o := .cells #[.bool false, .slice none 0 0] 41 (0, 0)) (by (with_reducible repeat (first | refine blk_drewN ?_ _ | refine blk_drew ?_ | refine blk_alloc ?_ _)); exact BK246.out) hb)
                        have n6_ := Aside0.mk (below_step (by repeat (first | (with_reducible first | exact HB.out | apply below_alloc | apply pw_below_drewN | apply below_drew1 | refine below_set ?_ GE240.out | refine below_set ?_ GE242.out | refine below_set ?_ GE246.out) | exact HB.out)) hb)
                        clear HO_5
                        clear HO_241001
                        clear BK240
                        clear BK242
                        clear BK246
                        clear HB
                        have HO_5 := n0_
                        have HO_241001 := n1_
                        have HO245 := n2_
                        have BK240 := n3_
                        have BK242 := n4_
                        have BK246 := n5_
                        have HB := n6_
                        clear n0_ n1_ n2_ n3_ n4_ n5_ n6_
                        (try clear hb)
                        (try clear hb2)
                        (try clear hk)
                        (try clear hi)
                        (try clear ho0)
                        obtain ⟨Ao47, co47, eo47⟩ := Kd.R_slice HO245.out
                        (first | subst eo47 | (injection eo47 with f1_ f2_ f3_; have f4_ := f1_.symm; have f5_ := f3_.symm; clear f1_ f2_ f3_; subst f4_; subst f5_))
                        refine hK.out _ _ ⟨(blk_cell BK242.out 0).trans rfl, (blk_cell BK242.out 1).trans rfl, (blk_cell BK242.out 2).trans rfl, (blk_cell BK240.out 0).trans rfl, (blk_cell BK240.out 1).trans rfl⟩ (fun hHeld => ?_)
                        clear hK K
                        refine norm_ (a' := ?_) ?_ ?_
                        rotate_left
                        · show Act.put _ (some 21) _ = _
                          simp only [Act.put, List.setIfInBounds_toArray, List.set_cons_zero, List.set_cons_succ, i64_w, i32_w]
                          rfl
                        refine pure_ (i := 7) (N := some 22) (v := ?_) (a' := ?_) #[true, true, true, true, true, true, true, true, true, false] rfl rfl (any_of HT_.out (by kernel_rfl)) (fun _ _ _ h => h) (Or.inl ⟨by rfl, ?_⟩) ?_ ?_
                        rotate_left
                        · intro w'
                          go_simp
                          with_reducible rfl
                        rotate_left
                        · simp only [Act.put, List.setIfInBounds_toArray, List.set_cons_zero, List.set_cons_succ, i64_w, i32_w]
                          rfl
                        exact norm_ (by simp only [putAll, Act.put, List.setIfInBounds_toArray, List.set_cons_zero, List.set_cons_succ]) (hCont (.slice Ao47 t243.length co47, gb246) _ ⟨hHeld, (by (with_reducible repeat (first | apply Kd.R_alloc | apply Kd.R_drewN | apply Kd.R_drew)); exact Kd.R_mono HO245.out (fun _ hk => hk.1)), (by (with_reducible repeat (first | apply Kd.V_alloc | apply Kd.V_drewN | apply Kd.V_drew)); exact Kd.V_mono HO_241001.out (fun _ hk => ⟨hk.1.1.1, ⟨hk.2, ⟨hk.1.1.2.1, ⟨hk.1.1.2.2.1, ⟨hk.1.1.2.2.2, hk.1.2⟩⟩⟩⟩⟩)), (by (with_reducible repeat (first | apply Kd.N_alloc | apply Kd.N_drewN | apply Kd.N_drew)); exact Kd.N_mono HO_5.out (fun _ hk => ⟨hk.1.1.1, ⟨hk.2, ⟨hk.1.1.2.1, ⟨hk.1.1.2.2, hk.1.2⟩⟩⟩⟩)), (by (with_reducible repeat (first | refine blk_drewN ?_ _ | refine blk_drew ?_ | refine blk_alloc ?_ _)); exact BK240.out), (by (with_reducible repeat (first | refine blk_drewN ?_ _ | refine blk_drew ?_ | refine blk_alloc ?_ _)); exact BK242.out), (by (with_reducible repeat (first | refine blk_drewN ?_ _ | refine blk_drew ?_ | refine blk_alloc ?_ _)); exact BK246.out), GW246.out, GE246.out, NB240_246.out, NB246_240.out, NB242_246.out, NB246_242.out, (by repeat (first | (with_reducible first | exact HB.out | apply below_alloc | apply pw_below_drewN | apply below_drew1 | refine below_set ?_ GE240.out | refine below_set ?_ GE242.out | refine below_set ?_ GE246.out) | exact HB.out))⟩)
                    rintro ⟨v244, gb246⟩ w48 ⟨hS_, h0_, h1_, h2_, h3_, h4_, h5_, h6_, h7_, h8_, h9_, h10_, h11_, h12_⟩
                    have n0_ : Aside0 (Kd.R (Kd.int .i64) 3 w48 w.heap.size (fun k_ => (w.heap.size ≤ k_)) v244 t243) := ⟨h0_⟩
                    have n1_ : Aside0 (Kd.V (Kd.slice 3 (Kd.int .i64)) 34 w48 w.heap.size (fun k_ => (P1_1_ k_ ∨ w.heap.size ≤ k_) ∧ some k_ ≠ (v244 : Value).ownBlock ∧ some k_ ≠ (u5 : Value).ownBlock ∧ k_ ≠ gb240 ∧ k_ ≠ gb242 ∧ k_ ≠ gb246) (.slice A1_1 l1_1.length c1_1) l1_1) := ⟨h1_⟩
                    have n2_ : Aside0 (Kd.N k41 41 w48 w.heap.size (fun k_ => (P1_1_ k_ ∨ w.heap.size ≤ k_) ∧ some k_ ≠ (v244 : Value).ownBlock ∧ k_ ≠ gb240 ∧ k_ ≠ gb242 ∧ k_ ≠ gb246) u5 x5_1) := ⟨h2_⟩
                    have n3_ : Aside0 (w48.heap[gb240]? = some (.cells #[.int .i64 a1_0, .slice A1_1 l1_1.length c1_1] 30 (0, 0))) := ⟨h3_⟩
                    have n4_ : Aside0 (w48.heap[gb242]? = some (.cells #[.bool true, .slice A241_1 ((rd_T86 l0 x11_1).f1).length c241_1, .int .u8 ((rd_T86 l0 x11_1).f2)] 86 (0, 0))) := ⟨h4_⟩
                    have n5_ : Aside0 (w48.heap[gb246]? = some (.cells #[.bool false, .slice none 0 0] 41 (0, 0))) := ⟨h5_⟩
                    have n6_ : Aside0 (w.heap.size ≤ gb246) := ⟨h6_⟩
                    have n7_ : Aside0 (w.heap.size ≤ gb246) := ⟨h7_⟩
                    have n8_ : Aside0 (gb240 ≠ gb246) := ⟨h8_⟩
                    have n9_ : Aside0 (gb246 ≠ gb240) := ⟨h9_⟩
                    have n10_ : Aside0 (gb242 ≠ gb246) := ⟨h10_⟩
                    have n11_ : Aside0 (gb246 ≠ gb242) := ⟨h11_⟩
                    have n12_ : Aside0 (Below w.heap.size w w48) := ⟨h12_⟩
                    clear HO_5
                    clear HO_241001
                    clear BK240
                    clear BK242
                    clear HB
                    clear h0_ h1_ h2_ h3_ h4_ h5_ h6_ h7_ h8_ h9_ h10_ h11_ h12_
                    have HO245 := n0_
                    have HO_241001 := n1_
                    have HO_5 := n2_
                    have BK240 := n3_
                    have BK242 := n4_
                    have BK246 := n5_
                    have GW246 := n6_
                    have GE246 := n7_
                    have NB240_246 := n8_
                    have NB246_240 := n9_
                    have NB242_246 := n10_
                    have NB246_242 := n11_
                    have HB := n12_
                    clear n0_ n1_ n2_ n3_ n4_ n5_ n6_ n7_ n8_ n9_ n10_ n11_ n12_
                    have hHeld : w48.cell? ⟨gb242, 0, none⟩ = some (.bool true) ∧ w48.cell? ⟨gb242, 1, none⟩ = some (.slice A241_1 ((rd_T86 l0 x11_1).f1).length c241_1) ∧ w48.cell? ⟨gb242, 2, none⟩ = some (.int .u8 ((rd_T86 l0 x11_1).f2)) ∧ w48.cell? ⟨gb240, 0, none⟩ = some (.int .i64 a1_0) ∧ w48.cell? ⟨gb240, 1, none⟩ = some (.slice A1_1 l1_1.length c1_1) := hS_
                    obtain ⟨Ao49, co49, eo49⟩ := Kd.R_slice HO245.out
                    (first | subst eo49 | (injection eo49 with f1_ f2_ f3_; have f4_ := f1_.symm; have f5_ := f3_.symm; clear f1_ f2_ f3_; subst f4_; subst f5_))
                    refine norm_ (a' := ?_) ?_ ?_
                    rotate_left
                    · simp only [putAll, Act.put, List.setIfInBounds_toArray, List.set_cons_zero, List.set_cons_succ]
                      rfl
                    refine one_ (i := 9) (N := none) #[true, true, true, true, true, true, true, true, true, true] rfl rfl (one_of HT_.out (by kernel_rfl)) (by decide) (fun K hK => ?_)
                    have hs50 : w48.cell? ⟨gb246, 0, none⟩ = some (.bool false) := (blk_cell BK246.out 0).trans rfl
                    have hfs50 := blk_frozen BK246.out 0
                    have hns50_0 := NB240_246.out
                    have hns50_1 := NB242_246.out
                    have hms50_0 := NB246_240.out
                    have hms50_1 := NB246_242.out
                    have hs51 : w48.cell? ⟨gb246, 1, none⟩ = some (.slice none 0 0) := (blk_cell BK246.out 1).trans rfl
                    have hfs51 := blk_frozen BK246.out 1
                    have hns51_0 := NB240_246.out
                    have hns51_1 := NB242_246.out
                    have hms51_0 := NB246_240.out
                    have hms51_1 := NB246_242.out
                    refine skip_ (w1 := ?_) (by rfl) rfl ?_ ?_
                    rotate_left
                    · go_simp
                      rfl
                    refine hK.out _ _ ⟨((cell_far (p := ⟨gb246, _, none⟩) NB242_246.out _).trans (((cell_far (p := ⟨gb246, _, none⟩) NB242_246.out _).trans (hHeld.1)))), ((cell_far (p := ⟨gb246, _, none⟩) NB242_246.out _).trans (((cell_far (p := ⟨gb246, _, none⟩) NB242_246.out _).trans (hHeld.2.1)))), ((cell_far (p := ⟨gb246, _, none⟩) NB242_246.out _).trans (((cell_far (p := ⟨gb246, _, none⟩) NB242_246.out _).trans (hHeld.2.2.1)))), ((cell_far (p := ⟨gb246, _, none⟩) NB240_246.out _).trans (((cell_far (p := ⟨gb246, _, none⟩) NB240_246.out _).trans (hHeld.2.2.2.1)))), ((cell_far (p := ⟨gb246, _, none⟩) NB240_246.out _).trans (((cell_far (p := ⟨gb246, _, none⟩) NB240_246.out _).trans (hHeld.2.2.2.2))))⟩ (fun hHeld => ?_)
                    clear hK K
                    refine done_ (done_of HT_.out (by kernel_rfl)) ?_
                    have n0_ : Aside0 (Kd.N k41 41 ((w48.setCell ⟨gb246, 0, none⟩ (.bool true)).setCell ⟨gb246, 1, none⟩ (.slice Ao49 t243.length co49)) w.heap.size (fun k_ => (P1_1_ k_ ∨ w.heap.size ≤ k_) ∧ some k_ ≠ (.slice Ao49 t243.length co49 : Value).ownBlock ∧ k_ ≠ gb240 ∧ k_ ≠ gb242 ∧ k_ ≠ gb246) u5 x5_1) := ⟨by (with_reducible repeat (first | apply Kd.N_alloc | apply Kd.N_drewN | apply Kd.N_drew)); exact Kd.N_mono (Kd.N_far (p := ⟨gb246, 1, none⟩) (Kd.N_far (p := ⟨gb246, 0, none⟩) (Kd.N_mono HO_5.out (fun k_ hk => (⟨hk, hk.2.2.2.2⟩ : _ ∧ k_ ≠ gb246))) (fun _ hk => hk.2) (.bool true)) (fun _ hk => hk.2) (.slice Ao49 t243.length co49)) (fun _ hk => ⟨hk.1.1, ⟨hk.1.2.1, ⟨hk.1.2.2.1, ⟨hk.1.2.2.2.1, hk.1.2.2.2.2⟩⟩⟩⟩)⟩
                    have n1_ : Aside0 (Kd.V (Kd.slice 3 (Kd.int .i64)) 34 ((w48.setCell ⟨gb246, 0, none⟩ (.bool true)).setCell ⟨gb246, 1, none⟩ (.slice Ao49 t243.length co49)) w.heap.size (fun k_ => (P1_1_ k_ ∨ w.heap.size ≤ k_) ∧ some k_ ≠ (u5 : Value).ownBlock ∧ some k_ ≠ (.slice Ao49 t243.length co49 : Value).ownBlock ∧ k_ ≠ gb240 ∧ k_ ≠ gb242 ∧ k_ ≠ gb246) (.slice A1_1 l1_1.length c1_1) l1_1) := ⟨by (with_reducible repeat (first | apply Kd.V_alloc | apply Kd.V_drewN | apply Kd.V_drew)); exact Kd.V_mono (Kd.V_far (p := ⟨gb246, 1, none⟩) (Kd.V_far (p := ⟨gb246, 0, none⟩) (Kd.V_mono HO_241001.out (fun k_ hk => (⟨hk, hk.2.2.2.2.2⟩ : _ ∧ k_ ≠ gb246))) (fun _ hk => hk.2) (.bool true)) (fun _ hk => hk.2) (.slice Ao49 t243.length co49)) (fun _ hk => ⟨hk.1.1, ⟨hk.1.2.2.1, ⟨hk.1.2.1, ⟨hk.1.2.2.2.1, ⟨hk.1.2.2.2.2.1, hk.1.2.2.2.2.2⟩⟩⟩⟩⟩)⟩
                    have n2_ : Aside0 (Kd.R (Kd.int .i64) 3 ((w48.setCell ⟨gb246, 0, none⟩ (.bool true)).setCell ⟨gb246, 1, none⟩ (.slice Ao49 t243.length co49)) w.heap.size (fun k_ => (w.heap.size ≤ k_)) (.slice Ao49 t243.length co49) t243) := ⟨by (with_reducible repeat (first | apply Kd.R_alloc | apply Kd.R_drewN | apply Kd.R_drew)); exact Kd.R_mono (Kd.R_far (p := ⟨gb246, 1, none⟩) (Kd.R_far (p := ⟨gb246, 0, none⟩) (Kd.R_types HO245.out BK246.out (by decide)) (fun _ hk => hk.2) (.bool true)) (fun _ hk => hk.2) (.slice Ao49 t243.length co49)) (fun _ hk => hk.1)⟩
                    have n3_ : Aside0 (((w48.setCell ⟨gb246, 0, none⟩ (.bool true)).setCell ⟨gb246, 1, none⟩ (.slice Ao49 t243.length co49)).heap[gb240]? = some (.cells #[.int .i64 a1_0, .slice A1_1 l1_1.length c1_1] 30 (0, 0))) := ⟨by (with_reducible repeat (first | refine blk_drewN ?_ _ | refine blk_drew ?_ | refine blk_alloc ?_ _)); refine blk_far ?_ NB240_246.out _; (with_reducible repeat (first | refine blk_drewN ?_ _ | refine blk_drew ?_ | refine blk_alloc ?_ _)); refine blk_far ?_ NB240_246.out _; (with_reducible repeat (first | refine blk_drewN ?_ _ | refine blk_drew ?_ | refine blk_alloc ?_ _)); exact BK240.out⟩
                    have n4_ : Aside0 (((w48.setCell ⟨gb246, 0, none⟩ (.bool true)).setCell ⟨gb246, 1, none⟩ (.slice Ao49 t243.length co49)).heap[gb242]? = some (.cells #[.bool true, .slice A241_1 ((rd_T86 l0 x11_1).f1).length c241_1, .int .u8 ((rd_T86 l0 x11_1).f2)] 86 (0, 0))) := ⟨by (with_reducible repeat (first | refine blk_drewN ?_ _ | refine blk_drew ?_ | refine blk_alloc ?_ _)); refine blk_far ?_ NB242_246.out _; (with_reducible repeat (first | refine blk_drewN ?_ _ | refine blk_drew ?_ | refine blk_alloc ?_ _)); refine blk_far ?_ NB242_246.out _; (with_reducible repeat (first | refine blk_drewN ?_ _ | refine blk_drew ?_ | refine blk_alloc ?_ _)); exact BK242.out⟩
                    have n5_ : Aside0 (((w48.setCell ⟨gb246, 0, none⟩ (.bool true)).setCell ⟨gb246, 1, none⟩ (.slice Ao49 t243.length co49)).heap[gb246]? = some (.cells #[.bool true, .slice Ao49 t243.length co49] 41 (0, 0))) := ⟨by (with_reducible repeat (first | refine blk_drewN ?_ _ | refine blk_drew ?_ | refine blk_alloc ?_ _)); refine blk_put (cs := #[.bool true, .slice none 0 0]) ?_ 1 _ rfl; (with_reducible repeat (first | refine blk_drewN ?_ _ | refine blk_drew ?_ | refine blk_alloc ?_ _)); refine blk_put (cs := #[.bool false, .slice none 0 0]) ?_ 0 _ rfl; (with_reducible repeat (first | refine blk_drewN ?_ _ | refine blk_drew ?_ | refine blk_alloc ?_ _)); exact BK246.out⟩
                    have n6_ : Aside0 (Below w.heap.size w ((w48.setCell ⟨gb246, 0, none⟩ (.bool true)).setCell ⟨gb246, 1, none⟩ (.slice Ao49 t243.length co49))) := ⟨by repeat (first | (with_reducible first | exact HB.out | apply below_alloc | apply pw_below_drewN | apply below_drew1 | refine below_set ?_ GE240.out | refine below_set ?_ GE242.out | refine below_set ?_ GE246.out) | exact HB.out)⟩
                    (try clear HO_5)
                    (try clear HO_241001)
                    (try clear HO245)
                    (try clear BK240)
                    (try clear BK242)
                    (try clear BK246)
                    (try clear HB)
                    generalize ((w48.setCell ⟨gb246, 0, none⟩ (.bool true)).setCell ⟨gb246, 1, none⟩ (.slice Ao49 t243.length co49)) = w52 at n0_ n1_ n2_ n3_ n4_ n5_ n6_ ⊢
                    have HO_5 := n0_
                    have HO_241001 := n1_
                    have HO245 := n2_
                    have BK240 := n3_
                    have BK242 := n4_
                    have BK246 := n5_
                    have HB := n6_
                    clear n0_ n1_ n2_ n3_ n4_ n5_ n6_
                    have hnb53 := NB242_246.out
                    have hnc53 := NB246_242.out
                    have hcz54_0 : w52.cell? ⟨gb242, 0, none⟩ = some (.bool true) := (blk_cell BK242.out 0).trans rfl
                    have hcz54_1 : w52.cell? ⟨gb242, 1, none⟩ = some (.slice A241_1 ((rd_T86 l0 x11_1).f1).length c241_1) := (blk_cell BK242.out 1).trans rfl
                    have hcz54_2 : w52.cell? ⟨gb242, 2, none⟩ = some (.int .u8 ((rd_T86 l0 x11_1).f2)) := (blk_cell BK242.out 2).trans rfl
                    have hfz54_0 := blk_frozen BK242.out 0
                    have hfz54_1 := blk_frozen BK242.out 1
                    have hfz54_2 := blk_frozen BK242.out 2
                    have hnb55 := NB240_246.out
                    have hnc55 := NB246_240.out
                    have hcz56_0 : w52.cell? ⟨gb240, 0, none⟩ = some (.int .i64 a1_0) := (blk_cell BK240.out 0).trans rfl
                    have hcz56_1 : w52.cell? ⟨gb240, 1, none⟩ = some (.slice A1_1 l1_1.length c1_1) := (blk_cell BK240.out 1).trans rfl
                    have hfz56_0 := blk_frozen BK240.out 0
                    have hfz56_1 := blk_frozen BK240.out 1
                    have hcz57_0 : w52.cell? ⟨gb246, 0, none⟩ = some (.bool true) := (blk_cell BK246.out 0).trans rfl
                    have hcz57_1 : w52.cell? ⟨gb246, 1, none⟩ = some (.slice Ao49 t243.length co49) := (blk_cell BK246.out 1).trans rfl
                    have hfz57_0 := blk_frozen BK246.out 0
                    have hfz57_1 := blk_frozen BK246.out 1
                    try go_wp2_with (first | ((with_reducible refine gate_builtin (b := .append) (xs := #[.tmp 50, .tmp 52]) rfl ?_); (try (refine gate_guard (by rfl) ?_; dsimp only)); at_builtin; refine Kd.N_append k41 (w0 := w) w.heap.size rfl (.tmp 50) (.tmp 52) 39 41 (.agg #[(.bool false), (.slice none 0 0)]) 32 rfl Tryz.underlying39 info41 rfl (by decide) (by omega) u5 x5_1 (⟨true, t243⟩ : S41) [.bool true, .slice Ao49 t243.length co49] (fun k_ => (P1_1_ k_ ∨ w.heap.size ≤ k_) ∧ k_ ≠ gb240 ∧ k_ ≠ gb242 ∧ k_ ≠ gb246) (fun k_ => ((fun k_ => (P1_1_ k_ ∨ w.heap.size ≤ k_) ∧ k_ ≠ gb240 ∧ k_ ≠ gb242 ∧ k_ ≠ gb246)) k_ ∧ some k_ ≠ (u5 : Value).ownBlock) rfl rfl ?aP (fun _ hk => hk) ?aF ?aO ?aB ?aS ?aL ?_; (case aP => exact (k41_mkF _ _ (⟨true, t243⟩ : S41) (Kd.R_reads' (Kd.R_mono (ok' := (fun k_ => ((fun k_ => (P1_1_ k_ ∨ w.heap.size ≤ k_) ∧ k_ ≠ gb240 ∧ k_ ≠ gb242 ∧ k_ ≠ gb246)) k_ ∧ some k_ ≠ (u5 : Value).ownBlock)) (Kd.R_types (Kd.R_types (Kd.R_types (Kd.R_apart' (HO245.out) (Kd.N_typed HO_5.out) (by decide)) BK240.out (by decide)) BK242.out (by decide)) BK246.out (by decide)) (fun k_ hk => ⟨⟨(.inr (hk.1.1.1.1)), ⟨hk.1.1.2, ⟨hk.1.2, hk.2⟩⟩⟩, hk.1.1.1.2⟩))).2.1 (Kd.R_F (Kd.R_mono (ok' := (fun k_ => ((fun k_ => (P1_1_ k_ ∨ w.heap.size ≤ k_) ∧ k_ ≠ gb240 ∧ k_ ≠ gb242 ∧ k_ ≠ gb246)) k_ ∧ some k_ ≠ (u5 : Value).ownBlock)) (Kd.R_types (Kd.R_types (Kd.R_types (Kd.R_apart' (HO245.out) (Kd.N_typed HO_5.out) (by decide)) BK240.out (by decide)) BK242.out (by decide)) BK246.out (by decide)) (fun k_ hk => ⟨⟨(.inr (hk.1.1.1.1)), ⟨hk.1.1.2, ⟨hk.1.2, hk.2⟩⟩⟩, hk.1.1.1.2⟩))))); (case aB => exact (by repeat (first | (with_reducible first | exact HB.out | apply below_alloc | apply pw_below_drewN | apply below_drew1 | refine below_set ?_ GE240.out | refine below_set ?_ GE242.out | refine below_set ?_ GE246.out) | exact HB.out))); (case aF => exact (fun k_ hk => ⟨(.inr (Nat.le_trans (below_size (by repeat (first | (with_reducible first | exact HB.out | apply below_alloc | apply pw_below_drewN | apply below_drew1 | refine below_set ?_ GE240.out | refine below_set ?_ GE242.out | refine below_set ?_ GE246.out) | exact HB.out))) hk)), Kd.freshB (g := gb240) (o := .cells #[.int .i64 a1_0, .slice A1_1 l1_1.length c1_1] 30 (0, 0)) (by (with_reducible repeat (first | refine blk_drewN ?_ _ | refine blk_drew ?_ | refine blk_alloc ?_ _)); exact BK240.out) k_ hk, Kd.freshB (g := gb242) (o := .cells #[.bool true, .slice A241_1 ((rd_T86 l0 x11_1).f1).length c241_1, .int .u8 ((rd_T86 l0 x11_1).f2)] 86 (0, 0)) (by (with_reducible repeat (first | refine blk_drewN ?_ _ | refine blk_drew ?_ | refine blk_alloc ?_ _)); exact BK242.out) k_ hk, Kd.freshB (g := gb246) (o := .cells #[.bool true, .slice Ao49 t243.length co49] 41 (0, 0)) (by (with_reducible repeat (first | refine blk_drewN ?_ _ | refine blk_drew ?_ | refine blk_alloc ?_ _)); exact BK246.out) k_ hk⟩)); (case aO => exact (by (with_reducible repeat (first | apply Kd.N_alloc | apply Kd.N_drewN | apply Kd.N_drew)); exact Kd.N_mono HO_5.out (fun _ hk => ⟨hk.1, ⟨hk.2.2.1, ⟨hk.2.2.2.1, hk.2.2.2.2⟩⟩⟩))); (case aS => exact (below_size (by repeat (first | (with_reducible first | exact HB.out | apply below_alloc | apply pw_below_drewN | apply below_drew1 | refine below_set ?_ GE240.out | refine below_set ?_ GE242.out | refine below_set ?_ GE246.out) | exact HB.out)))); (case aL => have := LMc39.out; omega); intro v252 w58 ho hb hg hat; rw [← Ny251.out] at ho; have n0_ := Aside0.mk (Kd.V_afterv (ok := (fun k_ => (P1_1_ k_ ∨ w.heap.size ≤ k_) ∧ some k_ ≠ (.slice Ao49 t243.length co49 : Value).ownBlock ∧ k_ ≠ gb240 ∧ k_ ≠ gb242 ∧ k_ ≠ gb246)) (by (with_reducible repeat (first | apply Kd.V_alloc | apply Kd.V_drewN | apply Kd.V_drew)); exact Kd.V_mono HO_241001.out (fun _ hk => ⟨⟨hk.1, ⟨hk.2.2.1, ⟨hk.2.2.2.1, ⟨hk.2.2.2.2.1, hk.2.2.2.2.2⟩⟩⟩⟩, hk.2.1⟩)) hg hat); have n1_ := Aside0.mk (blk_grown (g := gb240) (o := .cells #[.int .i64 a1_0, .slice A1_1 l1_1.length c1_1] 30 (0, 0)) (by (with_reducible repeat (first | refine blk_drewN ?_ _ | refine blk_drew ?_ | refine blk_alloc ?_ _)); exact BK240.out) hg (Kd.N_ne HO_5.out BK240.out (by decide))); have n2_ := Aside0.mk (blk_grown (g := gb242) (o := .cells #[.bool true, .slice A241_1 ((rd_T86 l0 x11_1).f1).length c241_1, .int .u8 ((rd_T86 l0 x11_1).f2)] 86 (0, 0)) (by (with_reducible repeat (first | refine blk_drewN ?_ _ | refine blk_drew ?_ | refine blk_alloc ?_ _)); exact BK242.out) hg (Kd.N_ne HO_5.out BK242.out (by decide))); have n3_ := Aside0.mk (blk_grown (g := gb246) (o := .cells #[.bool true, .slice Ao49 t243.length co49] 41 (0, 0)) (by (with_reducible repeat (first | refine blk_drewN ?_ _ | refine blk_drew ?_ | refine blk_alloc ?_ _)); exact BK246.out) hg (Kd.N_away HO_5.out (fun _ hk => hk.2.2.2.2))); have n4_ := Aside0.mk (hb); have n5_ := Aside0.mk (ho); clear HO_241001; clear BK240; clear BK242; clear BK246; clear HB; clear HO_5; clear HO245; have HO_241001 := n0_; have BK240 := n1_; have BK242 := n2_; have BK246 := n3_; have HB := n4_; have HO253 := n5_; clear n0_ n1_ n2_ n3_ n4_ n5_; clear ho hb hg hat))
                    go_roundg k1
                    case measure => have := HK1.out; omega
                    case rel => exact ⟨(y251), (wrap64 (x11_1 + 1)), (by first | rfl | (simp; done) | (simp [*]; done)), H', ⟨by have := HK1.out; omega⟩, ⟨by (with_reducible repeat (first | apply Kd.N_alloc | apply Kd.N_drewN | apply Kd.N_drew)); exact Kd.N_mono HO253.out (fun _ hk => ⟨hk.1, hk.2.1⟩)⟩, ⟨by (with_reducible repeat (first | apply Kd.V_alloc | apply Kd.V_drewN | apply Kd.V_drew)); exact Kd.V_mono HO_241001.out (fun _ hk => ⟨hk.1.1, ⟨hk.2, hk.1.2.2.1⟩⟩)⟩, ⟨by (with_reducible repeat (first | refine blk_drewN ?_ _ | refine blk_drew ?_ | refine blk_alloc ?_ _)); exact BK240.out⟩, ⟨by repeat (first | (with_reducible first | exact HB.out | apply below_alloc | apply pw_below_drewN | apply below_drew1 | refine below_set ?_ GE240.out | refine below_set ?_ GE242.out | refine below_set ?_ GE246.out) | exact HB.out)⟩⟩
                  · rw [if_neg c39] at H
                    exact absurd H (by simp)
              · rw [if_neg c10] at H
                have c10b0 : ((Go.bits .and .u8 ((rd_T86 l0 x11_1).f2) 1) == 0) = false := beq_eq_false_iff_ne.mpr c10
                have c10b1 : ((Go.bits .and .u8 ((rd_T86 l0 x11_1).f2) 1) != 0) = true := bne_iff_ne.mpr c10
                by_cases c59 : x5_1.length < 4398046511104
                · rw [if_pos c59] at H
                  have LMc59 := Aside0.mk c59
                  clear c59
                  obtain ⟨y254, hy254⟩ : ∃ y_ : List (S41), y_ = (x5_1 ++ [(⟨true, t243⟩ : S41)]) := ⟨_, rfl⟩
                  replace H : (bradawllaw08_Proof.l0 k1 y254 l0 (l0.length : Int) (wrap64 (x11_1 + 1)) a1_0 l1_1) = some r := by first | (rw [hy254]; with_reducible exact H) | (have H2_ := (Option.bind_some _ _).symm.trans H; rw [hy254]; with_reducible exact H2_) | (have H2_ := (Option.bind_some _ _).symm.trans H; with_reducible exact H2_) | with_reducible exact H | (rw [hy254]; exact H) | exact H
                  have Ny254 := Aside0.mk hy254
                  clear hy254
                  have H' := Aside0.mk H
                  clear H
                  have p241 : 0 ≤ (x11_1 : Int) := of_decide_eq_true (by first | (with_reducible assumption) | assumption)
                  have q241 : x11_1 < (l0.length : Int) := of_decide_eq_true (by first | (with_reducible assumption) | assumption)
                  obtain ⟨ad241, A241_1, c241_1, e241, hx241_0, hx241_1, hx241_2, hl241_1, hi241_1⟩ := at_T86 HR0.out x11_1 p241 q241
                  (try rw [← Nbq8.out] at hx241_0)
                  cases e241
                  replace hx241_0 := (HB.out.cell (World.block_lt_of_cell? w _ hx241_0)).trans hx241_0
                  replace hx241_1 := (HB.out.cell (World.block_lt_of_cell? w _ hx241_1)).trans hx241_1
                  replace hx241_2 := (HB.out.cell (World.block_lt_of_cell? w _ hx241_2)).trans hx241_2
                  have HR241_1 := Aside0.mk hi241_1
                  have HC241_1 := Aside0.mk hl241_1
                  clear hi241_1 hl241_1
                  replace p241 := eq_true p241
                  replace q241 := eq_true q241
                  try go_wp2_with (first | ((with_reducible refine gate_dst (N := 7) rfl ?_); (try (refine gate_guard (by rfl) ?_; dsimp only)); refine box_event ?hg (N := 7) ?hd (cs := #[.bool false, .slice none 0 0, .int .u8 0]) (t := 86) ?hr ?_; (case hd => rfl); (case hg => rfl); (case hr => first | (go_simp; done) | (go_simp; rfl)); intro gb242 hg w60 hbox hb; have n0_ := Aside0.mk (Kd.N_below (Kd.N_elderB (by (with_reducible repeat (first | apply Kd.N_alloc | apply Kd.N_drewN | apply Kd.N_drew)); exact HO_5.out) gb242 (Nat.le_of_eq hg.symm)) hb); have n1_ := Aside0.mk (Kd.V_below (Kd.V_elderB (by (with_reducible repeat (first | apply Kd.V_alloc | apply Kd.V_drewN | apply Kd.V_drew)); exact HO_241001.out) gb242 (Nat.le_of_eq hg.symm)) hb); have n2_ := Aside0.mk (blk_below (g := gb240) (o := .cells #[.int .i64 a1_0, .slice A1_1 l1_1.length c1_1] 30 (0, 0)) (by (with_reducible repeat (first | refine blk_drewN ?_ _ | refine blk_drew ?_ | refine blk_alloc ?_ _)); exact BK240.out) hb); have n3_ := Aside0.mk (below_step (by repeat (first | (with_reducible first | exact HB.out | apply below_alloc | apply pw_below_drewN | apply below_drew1 | refine below_set ?_ GE240.out) | exact HB.out)) hb); have n4_ := Aside0.mk (hbox); have n5_ := Aside0.mk ((by rw [hg]; exact (below_size (by repeat (first | (with_reducible first | exact HB.out | apply below_alloc | apply pw_below_drewN | apply below_drew1 | refine below_set ?_ GE240.out) | exact HB.out))) : w.heap.size ≤ gb242)); have n6_ := Aside0.mk ((by rw [hg]; exact (below_size (by repeat (first | (with_reducible first | exact HB.out | apply below_alloc | apply pw_below_drewN | apply below_drew1 | refine below_set ?_ GE240.out) | exact HB.out))) : w.heap.size ≤ gb242)); have n7_ := Aside0.mk ((by rw [hg]; exact Nat.ne_of_lt (blk_lt (g := gb240) (o := .cells #[.int .i64 a1_0, .slice A1_1 l1_1.length c1_1] 30 (0, 0)) (by (with_reducible repeat (first | refine blk_drewN ?_ _ | refine blk_drew ?_ | refine blk_alloc ?_ _)); exact BK240.out)) : gb240 ≠ gb242)); have n8_ := Aside0.mk ((by rw [hg]; exact Nat.ne_of_gt (blk_lt (g := gb240) (o := .cells #[.int .i64 a1_0, .slice A1_1 l1_1.length c1_1] 30 (0, 0)) (by (with_reducible repeat (first | refine blk_drewN ?_ _ | refine blk_drew ?_ | refine blk_alloc ?_ _)); exact BK240.out)) : gb242 ≠ gb240)); clear HO_5; clear HO_241001; clear BK240; clear HB; have HO_5 := n0_; have HO_241001 := n1_; have BK240 := n2_; have HB := n3_; have BK242 := n4_; have GW242 := n5_; have GE242 := n6_; have NB240_242 := n7_; have NB242_240 := n8_; clear n0_ n1_ n2_ n3_ n4_ n5_ n6_ n7_ n8_; clear hb hbox hg; have hnb61 := NB242_240.out; have hnc61 := NB240_242.out; have hcz62_0 : w60.cell? ⟨gb242, 0, none⟩ = some (.bool false) := (blk_cell BK242.out 0).trans rfl; have hcz62_1 : w60.cell? ⟨gb242, 1, none⟩ = some (.slice none 0 0) := (blk_cell BK242.out 1).trans rfl; have hcz62_2 : w60.cell? ⟨gb242, 2, none⟩ = some (.int .u8 0) := (blk_cell BK242.out 2).trans rfl; have hfz62_0 := blk_frozen BK242.out 0; have hfz62_1 := blk_frozen BK242.out 1; have hfz62_2 := blk_frozen BK242.out 2))
                  have n0_ : Aside0 (Kd.N k41 41 (((w60.setCell ⟨gb242, 0, none⟩ (.bool true)).setCell ⟨gb242, 1, none⟩ (.slice A241_1 ((rd_T86 l0 x11_1).f1).length c241_1)).setCell ⟨gb242, 2, none⟩ (.int .u8 ((rd_T86 l0 x11_1).f2))) w.heap.size (fun k_ => (P1_1_ k_ ∨ w.heap.size ≤ k_) ∧ k_ ≠ gb240 ∧ k_ ≠ gb242) u5 x5_1) := ⟨by (with_reducible repeat (first | apply Kd.N_alloc | apply Kd.N_drewN | apply Kd.N_drew)); exact Kd.N_mono (Kd.N_far (p := ⟨gb242, 2, none⟩) (Kd.N_far (p := ⟨gb242, 1, none⟩) (Kd.N_far (p := ⟨gb242, 0, none⟩) (Kd.N_mono HO_5.out (fun k_ hk => (⟨hk, hk.2⟩ : _ ∧ k_ ≠ gb242))) (fun _ hk => hk.2) (.bool true)) (fun _ hk => hk.2) (.slice A241_1 ((rd_T86 l0 x11_1).f1).length c241_1)) (fun _ hk => hk.2) (.int .u8 ((rd_T86 l0 x11_1).f2))) (fun _ hk => ⟨hk.1.1.1, ⟨hk.1.1.2, hk.1.2⟩⟩)⟩
                  have n1_ : Aside0 (Kd.V (Kd.slice 3 (Kd.int .i64)) 34 (((w60.setCell ⟨gb242, 0, none⟩ (.bool true)).setCell ⟨gb242, 1, none⟩ (.slice A241_1 ((rd_T86 l0 x11_1).f1).length c241_1)).setCell ⟨gb242, 2, none⟩ (.int .u8 ((rd_T86 l0 x11_1).f2))) w.heap.size (fun k_ => (P1_1_ k_ ∨ w.heap.size ≤ k_) ∧ some k_ ≠ (u5 : Value).ownBlock ∧ k_ ≠ gb240 ∧ k_ ≠ gb242) (.slice A1_1 l1_1.length c1_1) l1_1) := ⟨by (with_reducible repeat (first | apply Kd.V_alloc | apply Kd.V_drewN | apply Kd.V_drew)); exact Kd.V_mono (Kd.V_far (p := ⟨gb242, 2, none⟩) (Kd.V_far (p := ⟨gb242, 1, none⟩) (Kd.V_far (p := ⟨gb242, 0, none⟩) (Kd.V_mono HO_241001.out (fun k_ hk => (⟨hk, hk.2⟩ : _ ∧ k_ ≠ gb242))) (fun _ hk => hk.2) (.bool true)) (fun _ hk => hk.2) (.slice A241_1 ((rd_T86 l0 x11_1).f1).length c241_1)) (fun _ hk => hk.2) (.int .u8 ((rd_T86 l0 x11_1).f2))) (fun _ hk => ⟨hk.1.1.1, ⟨hk.1.1.2.1, ⟨hk.1.1.2.2, hk.1.2⟩⟩⟩)⟩
                  have n2_ : Aside0 ((((w60.setCell ⟨gb242, 0, none⟩ (.bool true)).setCell ⟨gb242, 1, none⟩ (.slice A241_1 ((rd_T86 l0 x11_1).f1).length c241_1)).setCell ⟨gb242, 2, none⟩ (.int .u8 ((rd_T86 l0 x11_1).f2))).heap[gb240]? = some (.cells #[.int .i64 a1_0, .slice A1_1 l1_1.length c1_1] 30 (0, 0))) := ⟨by (with_reducible repeat (first | refine blk_drewN ?_ _ | refine blk_drew ?_ | refine blk_alloc ?_ _)); refine blk_far ?_ NB240_242.out _; (with_reducible repeat (first | refine blk_drewN ?_ _ | refine blk_drew ?_ | refine blk_alloc ?_ _)); refine blk_far ?_ NB240_242.out _; (with_reducible repeat (first | refine blk_drewN ?_ _ | refine blk_drew ?_ | refine blk_alloc ?_ _)); refine blk_far ?_ NB240_242.out _; (with_reducible repeat (first | refine blk_drewN ?_ _ | refine blk_drew ?_ | refine blk_alloc ?_ _)); exact BK240.out⟩
                  have n3_ : Aside0 ((((w60.setCell ⟨gb242, 0, none⟩ (.bool true)).setCell ⟨gb242, 1, none⟩ (.slice A241_1 ((rd_T86 l0 x11_1).f1).length c241_1)).setCell ⟨gb242, 2, none⟩ (.int .u8 ((rd_T86 l0 x11_1).f2))).heap[gb242]? = some (.cells #[.bool true, .slice A241_1 ((rd_T86 l0 x11_1).f1).length c241_1, .int .u8 ((rd_T86 l0 x11_1).f2)] 86 (0, 0))) := ⟨by (with_reducible repeat (first | refine blk_drewN ?_ _ | refine blk_drew ?_ | refine blk_alloc ?_ _)); refine blk_put (cs := #[.bool true, .slice A241_1 ((rd_T86 l0 x11_1).f1).length c241_1, .int .u8 0]) ?_ 2 _ rfl; (with_reducible repeat (first | refine blk_drewN ?_ _ | refine blk_drew ?_ | refine blk_alloc ?_ _)); refine blk_put (cs := #[.bool true, .slice none 0 0, .int .u8 0]) ?_ 1 _ rfl; (with_reducible repeat (first | refine blk_drewN ?_ _ | refine blk_drew ?_ | refine blk_alloc ?_ _)); refine blk_put (cs := #[.bool false, .slice none 0 0, .int .u8 0]) ?_ 0 _ rfl; (with_reducible repeat (first | refine blk_drewN ?_ _ | refine blk_drew ?_ | refine blk_alloc ?_ _)); exact BK242.out⟩
                  have n4_ : Aside0 (Below w.heap.size w (((w60.setCell ⟨gb242, 0, none⟩ (.bool true)).setCell ⟨gb242, 1, none⟩ (.slice A241_1 ((rd_T86 l0 x11_1).f1).length c241_1)).setCell ⟨gb242, 2, none⟩ (.int .u8 ((rd_T86 l0 x11_1).f2)))) := ⟨by repeat (first | (with_reducible first | exact HB.out | apply below_alloc | apply pw_below_drewN | apply below_drew1 | refine below_set ?_ GE240.out | refine below_set ?_ GE242.out) | exact HB.out)⟩
                  (try clear HO_5)
                  (try clear HO_241001)
                  (try clear BK240)
                  (try clear BK242)
                  (try clear HB)
                  generalize (((w60.setCell ⟨gb242, 0, none⟩ (.bool true)).setCell ⟨gb242, 1, none⟩ (.slice A241_1 ((rd_T86 l0 x11_1).f1).length c241_1)).setCell ⟨gb242, 2, none⟩ (.int .u8 ((rd_T86 l0 x11_1).f2))) = w63 at n0_ n1_ n2_ n3_ n4_ ⊢
                  have HO_5 := n0_
                  have HO_241001 := n1_
                  have BK240 := n2_
                  have BK242 := n3_
                  have HB := n4_
                  clear n0_ n1_ n2_ n3_ n4_
                  have n0_ := Aside0.mk (Kd.N_drew HO_5.out)
                  have n1_ := Aside0.mk (Kd.V_drew HO_241001.out)
                  have n2_ := Aside0.mk (blk_drew BK240.out)
                  have n3_ := Aside0.mk (blk_drew BK242.out)
                  have n4_ := Aside0.mk (below_drew1 HB.out)
                  clear HO_5
                  clear HO_241001
                  clear BK240
                  clear BK242
                  clear HB
                  have HO_5 := n0_
                  have HO_241001 := n1_
                  have BK240 := n2_
                  have BK242 := n3_
                  have HB := n4_
                  clear n0_ n1_ n2_ n3_ n4_
                  refine start_ (n := 10) (S := fun w' => w'.cell? ⟨gb242, 0, none⟩ = some (.bool true) ∧ w'.cell? ⟨gb242, 1, none⟩ = some (.slice A241_1 ((rd_T86 l0 x11_1).f1).length c241_1) ∧ w'.cell? ⟨gb242, 2, none⟩ = some (.int .u8 ((rd_T86 l0 x11_1).f2)) ∧ w'.cell? ⟨gb240, 0, none⟩ = some (.int .i64 a1_0) ∧ w'.cell? ⟨gb240, 1, none⟩ = some (.slice A1_1 l1_1.length c1_1)) (ds := []) #[false, false, false, false, false, false, false, false, false, false] (by kernel_rfl) rfl rfl ⟨(blk_cell BK242.out 0).trans rfl, (blk_cell BK242.out 1).trans rfl, (blk_cell BK242.out 2).trans rfl, (blk_cell BK240.out 0).trans rfl, (blk_cell BK240.out 1).trans rfl⟩ (fun hHeld => ?_); refine with_tabW bradawllaw08_Proof.tab5 bradawllaw08_Proof.bits5 (fun HT_ HW_ => ?_)
                  generalize w63.drew = w64 at HO_5 HO_241001 BK240 BK242 HB hHeld ⊢
                  refine pure_ (i := 0) (N := some 15) (v := ?_) (a' := ?_) #[true, false, false, false, false, false, false, false, false, false] rfl rfl (any_of HT_.out (by kernel_rfl)) (fun _ _ _ h => h) (Or.inl ⟨by rfl, ?_⟩) ?_ ?_
                  rotate_left
                  · intro w'
                    go_simp
                    with_reducible rfl
                  rotate_left
                  · simp only [Act.put, List.setIfInBounds_toArray, List.set_cons_zero, List.set_cons_succ, i64_w, i32_w]
                    rfl
                  refine pure_ (i := 2) (N := some 17) (v := ?_) (a' := ?_) #[true, false, true, false, false, false, false, false, false, false] rfl rfl (any_of HT_.out (by kernel_rfl)) (fun _ _ _ h => h) (Or.inl ⟨by rfl, ?_⟩) ?_ ?_
                  rotate_left
                  · intro w'
                    go_simp
                    with_reducible rfl
                  rotate_left
                  · simp only [Act.put, List.setIfInBounds_toArray, List.set_cons_zero, List.set_cons_succ, i64_w, i32_w]
                    rfl
                  refine pure_ (i := 4) (N := some 19) (v := ?_) (a' := ?_) #[true, false, true, false, true, false, false, false, false, false] rfl rfl (any_of HT_.out (by kernel_rfl)) (fun _ _ _ h => h) (Or.inl ⟨by rfl, ?_⟩) ?_ ?_
                  rotate_left
                  · intro w'
                    go_simp
                    with_reducible rfl
                  rotate_left
                  · simp only [Act.put, List.setIfInBounds_toArray, List.set_cons_zero, List.set_cons_succ, i64_w, i32_w]
                    rfl
                  refine take_ (i := 1) (N := some 16) (v := ?_) (a' := ?_) #[true, true, true, false, true, false, false, false, false, false] rfl rfl (take_ofW HT_.out HW_.out (by kernel_rfl)) (fun _ _ _ h => h) (Or.inl ⟨by rfl, ?_⟩) hHeld ?_ ?_
                  rotate_left
                  · rintro w' ⟨s0, s1, s2, s3, s4⟩
                    go_simp
                    with_reducible rfl
                  rotate_left
                  · simp only [Act.put, List.setIfInBounds_toArray, List.set_cons_zero, List.set_cons_succ, i64_w, i32_w]
                    rfl
                  refine take_ (i := 3) (N := some 18) (v := ?_) (a' := ?_) #[true, true, true, true, true, false, false, false, false, false] rfl rfl (take_ofW HT_.out HW_.out (by kernel_rfl)) (fun _ _ _ h => h) (Or.inl ⟨by rfl, ?_⟩) hHeld ?_ ?_
                  rotate_left
                  · rintro w' ⟨s0, s1, s2, s3, s4⟩
                    go_simp
                    with_reducible rfl
                  rotate_left
                  · simp only [Act.put, List.setIfInBounds_toArray, List.set_cons_zero, List.set_cons_succ, i64_w, i32_w]
                    rfl
                  refine take_ (i := 5) (N := some 20) (v := ?_) (a' := ?_) #[true, true, true, true, true, true, false, false, false, false] rfl rfl (take_ofW HT_.out HW_.out (by kernel_rfl)) (fun _ _ _ h => h) (Or.inl ⟨by rfl, ?_⟩) hHeld ?_ ?_
                  rotate_left
                  · rintro w' ⟨s0, s1, s2, s3, s4⟩
                    go_simp
                    with_reducible rfl
                  rotate_left
                  · simp only [Act.put, List.setIfInBounds_toArray, List.set_cons_zero, List.set_cons_succ, i64_w, i32_w]
                    rfl
                  refine join_ (σ := Value × Nat) 1 #[true, true, true, true, true, true, true, true, true, false] (fun s_ => [(21, s_.1), (8, .pointer (some ⟨s_.2, 0, none⟩)), (22, .agg #[.bool true, s_.1])]) (fun s_ w' => (w'.cell? ⟨gb242, 0, none⟩ = some (.bool true) ∧ w'.cell? ⟨gb242, 1, none⟩ = some (.slice A241_1 ((rd_T86 l0 x11_1).f1).length c241_1) ∧ w'.cell? ⟨gb242, 2, none⟩ = some (.int .u8 ((rd_T86 l0 x11_1).f2)) ∧ w'.cell? ⟨gb240, 0, none⟩ = some (.int .i64 a1_0) ∧ w'.cell? ⟨gb240, 1, none⟩ = some (.slice A1_1 l1_1.length c1_1)) ∧ (Kd.R (Kd.int .i64) 3 w' w.heap.size (fun k_ => (w.heap.size ≤ k_)) s_.1 t243) ∧ (Kd.V (Kd.slice 3 (Kd.int .i64)) 34 w' w.heap.size (fun k_ => (P1_1_ k_ ∨ w.heap.size ≤ k_) ∧ some k_ ≠ (s_.1 : Value).ownBlock ∧ some k_ ≠ (u5 : Value).ownBlock ∧ k_ ≠ gb240 ∧ k_ ≠ gb242 ∧ k_ ≠ s_.2) (.slice A1_1 l1_1.length c1_1) l1_1) ∧ (Kd.N k41 41 w' w.heap.size (fun k_ => (P1_1_ k_ ∨ w.heap.size ≤ k_) ∧ some k_ ≠ (s_.1 : Value).ownBlock ∧ k_ ≠ gb240 ∧ k_ ≠ gb242 ∧ k_ ≠ s_.2) u5 x5_1) ∧ (w'.heap[gb240]? = some (.cells #[.int .i64 a1_0, .slice A1_1 l1_1.length c1_1] 30 (0, 0))) ∧ (w'.heap[gb242]? = some (.cells #[.bool true, .slice A241_1 ((rd_T86 l0 x11_1).f1).length c241_1, .int .u8 ((rd_T86 l0 x11_1).f2)] 86 (0, 0))) ∧ (w'.heap[s_.2]? = some (.cells #[.bool false, .slice none 0 0] 41 (0, 0))) ∧ (w.heap.size ≤ s_.2) ∧ (w.heap.size ≤ s_.2) ∧ (gb240 ≠ s_.2) ∧ (s_.2 ≠ gb240) ∧ (gb242 ≠ s_.2) ∧ (s_.2 ≠ gb242) ∧ (Below w.heap.size w w')) ?_ ?_
                  rotate_left
                  · intro hCont
                    refine two_ (i := 6) (j := 8) (Ni := some 21) (Nj := some 8) #[true, true, true, true, true, true, true, false, false, false] #[true, true, true, true, true, true, false, false, true, false] rfl rfl rfl rfl (two_of HT_.out (by kernel_rfl)) (by decide) (by decide) (fun K hK => ?_) (fun K hK => ?_)
                    · skip
                      refine goes_ Tryz.func13 (by kernel_rfl) rfl #[.slice A241_1 ((rd_T86 l0 x11_1).f1).length c241_1, .int .i64 a1_0] (by rfl) rfl rfl (by (try simp only [List.map_toArray, List.map_cons, List.map_nil]); first | done | rfl | (simp only [List.length_drop, List.length_take]; rfl)) ?_
                      with_reducible refine (bradawllaw07_Lits.calls k1 _ _ ((rd_T86 l0 x11_1).f1) a1_0 t243 _ ?side1 ?side2 A7.out).mono ?_
                      (case side1 => repeat (first | exact (Kd.C_below HR241_1.out HB.out) | (with_reducible refine Kd.C_alloc ?_ _) | (with_reducible refine Kd.C_drewN ?_ _) | (with_reducible refine Kd.C_drew ?_)))
                      (case side2 => exact HC241_1.out)
                      rintro e w65 ⟨v244, rfl, ho0, hb⟩
                      refine ⟨_, rfl, ?_⟩
                      have n0_ := Aside0.mk (Kd.N_elder' (by (with_reducible repeat (first | apply Kd.N_alloc | apply Kd.N_drewN | apply Kd.N_drew)); exact HO_5.out) (Kd.R_base ho0) hb)
                      have n1_ := Aside0.mk (Kd.V_elder' (by (with_reducible repeat (first | apply Kd.V_alloc | apply Kd.V_drewN | apply Kd.V_drew)); exact HO_241001.out) (Kd.R_base ho0) hb)
                      have n2_ := Aside0.mk (Kd.R_lower (Kd.R_newM (M := fun k_ => (w.heap.size ≤ k_)) ho0 (below_size (by repeat (first | (with_reducible first | exact HB.out | apply below_alloc | apply pw_below_drewN | apply below_drew1 | refine below_set ?_ GE240.out | refine below_set ?_ GE242.out) | exact HB.out))) (fun k_ h_ => h_)) (below_size (by repeat (first | (with_reducible first | exact HB.out | apply below_alloc | apply pw_below_drewN | apply below_drew1 | refine below_set ?_ GE240.out | refine below_set ?_ GE242.out) | exact HB.out))))
                      have n3_ := Aside0.mk (blk_below (g := gb240) (o := .cells #[.int .i64 a1_0, .slice A1_1 l1_1.length c1_1] 30 (0, 0)) (by (with_reducible repeat (first | refine blk_drewN ?_ _ | refine blk_drew ?_ | refine blk_alloc ?_ _)); exact BK240.out) hb)
                      have n4_ := Aside0.mk (blk_below (g := gb242) (o := .cells #[.bool true, .slice A241_1 ((rd_T86 l0 x11_1).f1).length c241_1, .int .u8 ((rd_T86 l0 x11_1).f2)] 86 (0, 0)) (by (with_reducible repeat (first | refine blk_drewN ?_ _ | refine blk_drew ?_ | refine blk_alloc ?_ _)); exact BK242.out) hb)
                      have n5_ := Aside0.mk (below_step (by repeat (first | (with_reducible first | exact HB.out | apply below_alloc | apply pw_below_drewN | apply below_drew1 | refine below_set ?_ GE240.out | refine below_set ?_ GE242.out) | exact HB.out)) hb)
                      clear HO_5
                      clear HO_241001
                      clear BK240
                      clear BK242
                      clear HB
                      have HO_5 := n0_
                      have HO_241001 := n1_
                      have HO245 := n2_
                      have BK240 := n3_
                      have BK242 := n4_
                      have HB := n5_
                      clear n0_ n1_ n2_ n3_ n4_ n5_
                      (try clear hb)
                      (try clear hb2)
                      (try clear hk)
                      (try clear hi)
                      (try clear ho0)
                      obtain ⟨Ao66, co66, eo66⟩ := Kd.R_slice HO245.out
                      (first | subst eo66 | (injection eo66 with f1_ f2_ f3_; have f4_ := f1_.symm; have f5_ := f3_.symm; clear f1_ f2_ f3_; subst f4_; subst f5_))
                      refine hK.out _ _ ⟨(blk_cell BK242.out 0).trans rfl, (blk_cell BK242.out 1).trans rfl, (blk_cell BK242.out 2).trans rfl, (blk_cell BK240.out 0).trans rfl, (blk_cell BK240.out 1).trans rfl⟩ (fun hHeld => ?_)
                      clear hK K
                      refine norm_ (a' := ?_) ?_ ?_
                      rotate_left
                      · show Act.put _ (some 21) _ = _
                        simp only [Act.put, List.setIfInBounds_toArray, List.set_cons_zero, List.set_cons_succ, i64_w, i32_w]
                        rfl
                      refine pure_ (i := 7) (N := some 22) (v := ?_) (a' := ?_) #[true, true, true, true, true, true, true, true, false, false] rfl rfl (any_of HT_.out (by kernel_rfl)) (fun _ _ _ h => h) (Or.inl ⟨by rfl, ?_⟩) ?_ ?_
                      rotate_left
                      · intro w'
                        go_simp
                        with_reducible rfl
                      rotate_left
                      · simp only [Act.put, List.setIfInBounds_toArray, List.set_cons_zero, List.set_cons_succ, i64_w, i32_w]
                        rfl
                      refine one_ (i := 8) (N := some 8) #[true, true, true, true, true, true, true, true, true, false] rfl rfl (one_of HT_.out (by kernel_rfl)) (by decide) (fun K hK => ?_)
                      refine box_step ?hg (N := 8) ?hd (cs := #[.bool false, .slice none 0 0]) (t := 41) ?hr ?_; (case hd => rfl); (case hg => rfl); (case hr => first | (go_simp; done) | (go_simp; rfl))
                      intro gb246 hg w67 hbox hb
                      have n0_ := Aside0.mk (Kd.N_below (Kd.N_elderB (by (with_reducible repeat (first | apply Kd.N_alloc | apply Kd.N_drewN | apply Kd.N_drew)); exact HO_5.out) gb246 (Nat.le_of_eq hg.symm)) hb)
                      have n1_ := Aside0.mk (Kd.V_below (Kd.V_elderB (by (with_reducible repeat (first | apply Kd.V_alloc | apply Kd.V_drewN | apply Kd.V_drew)); exact HO_241001.out) gb246 (Nat.le_of_eq hg.symm)) hb)
                      have n2_ := Aside0.mk (Kd.R_below (by (with_reducible repeat (first | apply Kd.R_alloc | apply Kd.R_drewN | apply Kd.R_drew)); exact HO245.out) hb)
                      have n3_ := Aside0.mk (blk_below (g := gb240) (o := .cells #[.int .i64 a1_0, .slice A1_1 l1_1.length c1_1] 30 (0, 0)) (by (with_reducible repeat (first | refine blk_drewN ?_ _ | refine blk_drew ?_ | refine blk_alloc ?_ _)); exact BK240.out) hb)
                      have n4_ := Aside0.mk (blk_below (g := gb242) (o := .cells #[.bool true, .slice A241_1 ((rd_T86 l0 x11_1).f1).length c241_1, .int .u8 ((rd_T86 l0 x11_1).f2)] 86 (0, 0)) (by (with_reducible repeat (first | refine blk_drewN ?_ _ | refine blk_drew ?_ | refine blk_alloc ?_ _)); exact BK242.out) hb)
                      have n5_ := Aside0.mk (below_step (by repeat (first | (with_reducible first | exact HB.out | apply below_alloc | apply pw_below_drewN | apply below_drew1 | refine below_set ?_ GE240.out | refine below_set ?_ GE242.out) | exact HB.out)) hb)
                      have n6_ := Aside0.mk (hbox)
                      have n7_ := Aside0.mk ((by rw [hg]; exact (below_size (by repeat (first | (with_reducible first | exact HB.out | apply below_alloc | apply pw_below_drewN | apply below_drew1 | refine below_set ?_ GE240.out | refine below_set ?_ GE242.out) | exact HB.out))) : w.heap.size ≤ gb246))
                      have n8_ := Aside0.mk ((by rw [hg]; exact (below_size (by repeat (first | (with_reducible first | exact HB.out | apply below_alloc | apply pw_below_drewN | apply below_drew1 | refine below_set ?_ GE240.out | refine below_set ?_ GE242.out) | exact HB.out))) : w.heap.size ≤ gb246))
                      have n9_ := Aside0.mk ((by rw [hg]; exact Nat.ne_of_lt (blk_lt (g := gb240) (o := .cells #[.int .i64 a1_0, .slice A1_1 l1_1.length c1_1] 30 (0, 0)) (by (with_reducible repeat (first | refine blk_drewN ?_ _ | refine blk_drew ?_ | refine blk_alloc ?_ _)); exact BK240.out)) : gb240 ≠ gb246))
                      have n10_ := Aside0.mk ((by rw [hg]; exact Nat.ne_of_gt (blk_lt (g := gb240) (o := .cells #[.int .i64 a1_0, .slice A1_1 l1_1.length c1_1] 30 (0, 0)) (by (with_reducible repeat (first | refine blk_drewN ?_ _ | refine blk_drew ?_ | refine blk_alloc ?_ _)); exact BK240.out)) : gb246 ≠ gb240))
                      have n11_ := Aside0.mk ((by rw [hg]; exact Nat.ne_of_lt (blk_lt (g := gb242) (o := .cells #[.bool true, .slice A241_1 ((rd_T86 l0 x11_1).f1).length c241_1, .int .u8 ((rd_T86 l0 x11_1).f2)] 86 (0, 0)) (by (with_reducible repeat (first | refine blk_drewN ?_ _ | refine blk_drew ?_ | refine blk_alloc ?_ _)); exact BK242.out)) : gb242 ≠ gb246))
                      have n12_ := Aside0.mk ((by rw [hg]; exact Nat.ne_of_gt (blk_lt (g := gb242) (o := .cells #[.bool true, .slice A241_1 ((rd_T86 l0 x11_1).f1).length c241_1, .int .u8 ((rd_T86 l0 x11_1).f2)] 86 (0, 0)) (by (with_reducible repeat (first | refine blk_drewN ?_ _ | refine blk_drew ?_ | refine blk_alloc ?_ _)); exact BK242.out)) : gb246 ≠ gb242))
                      clear HO_5
                      clear HO_241001
                      clear HO245
                      clear BK240
                      clear BK242
                      clear HB
                      have HO_5 := n0_
                      have HO_241001 := n1_
                      have HO245 := n2_
                      have BK240 := n3_
                      have BK242 := n4_
                      have HB := n5_
                      have BK246 := n6_
                      have GW246 := n7_
                      have GE246 := n8_
                      have NB240_246 := n9_
                      have NB246_240 := n10_
                      have NB242_246 := n11_
                      have NB246_242 := n12_
                      clear n0_ n1_ n2_ n3_ n4_ n5_ n6_ n7_ n8_ n9_ n10_ n11_ n12_
                      clear hb hbox hg
                      refine hK.out _ _ ⟨(blk_cell BK242.out 0).trans rfl, (blk_cell BK242.out 1).trans rfl, (blk_cell BK242.out 2).trans rfl, (blk_cell BK240.out 0).trans rfl, (blk_cell BK240.out 1).trans rfl⟩ (fun hHeld => ?_)
                      clear hK K
                      refine norm_ (a' := ?_) ?_ ?_
                      rotate_left
                      · show Act.put _ (some 8) _ = _
                        simp only [Act.put, List.setIfInBounds_toArray, List.set_cons_zero, List.set_cons_succ, i64_w, i32_w]
                        rfl
                      exact norm_ (by simp only [putAll, Act.put, List.setIfInBounds_toArray, List.set_cons_zero, List.set_cons_succ]) (hCont (.slice Ao66 t243.length co66, gb246) _ ⟨hHeld, (by (with_reducible repeat (first | apply Kd.R_alloc | apply Kd.R_drewN | apply Kd.R_drew)); exact Kd.R_mono HO245.out (fun _ hk => hk.1)), (by (with_reducible repeat (first | apply Kd.V_alloc | apply Kd.V_drewN | apply Kd.V_drew)); exact Kd.V_mono HO_241001.out (fun _ hk => ⟨hk.1.1.1, ⟨hk.1.2, ⟨hk.1.1.2.1, ⟨hk.1.1.2.2.1, ⟨hk.1.1.2.2.2, hk.2⟩⟩⟩⟩⟩)), (by (with_reducible repeat (first | apply Kd.N_alloc | apply Kd.N_drewN | apply Kd.N_drew)); exact Kd.N_mono HO_5.out (fun _ hk => ⟨hk.1.1.1, ⟨hk.1.2, ⟨hk.1.1.2.1, ⟨hk.1.1.2.2, hk.2⟩⟩⟩⟩)), (by (with_reducible repeat (first | refine blk_drewN ?_ _ | refine blk_drew ?_ | refine blk_alloc ?_ _)); exact BK240.out), (by (with_reducible repeat (first | refine blk_drewN ?_ _ | refine blk_drew ?_ | refine blk_alloc ?_ _)); exact BK242.out), (by (with_reducible repeat (first | refine blk_drewN ?_ _ | refine blk_drew ?_ | refine blk_alloc ?_ _)); exact BK246.out), GW246.out, GE246.out, NB240_246.out, NB246_240.out, NB242_246.out, NB246_242.out, (by repeat (first | (with_reducible first | exact HB.out | apply below_alloc | apply pw_below_drewN | apply below_drew1 | refine below_set ?_ GE240.out | refine below_set ?_ GE242.out | refine below_set ?_ GE246.out) | exact HB.out))⟩)
                    · skip
                      refine box_step ?hg (N := 8) ?hd (cs := #[.bool false, .slice none 0 0]) (t := 41) ?hr ?_; (case hd => rfl); (case hg => rfl); (case hr => first | (go_simp; done) | (go_simp; rfl))
                      intro gb246 hg w65 hbox hb
                      have n0_ := Aside0.mk (Kd.N_below (Kd.N_elderB (by (with_reducible repeat (first | apply Kd.N_alloc | apply Kd.N_drewN | apply Kd.N_drew)); exact HO_5.out) gb246 (Nat.le_of_eq hg.symm)) hb)
                      have n1_ := Aside0.mk (Kd.V_below (Kd.V_elderB (by (with_reducible repeat (first | apply Kd.V_alloc | apply Kd.V_drewN | apply Kd.V_drew)); exact HO_241001.out) gb246 (Nat.le_of_eq hg.symm)) hb)
                      have n2_ := Aside0.mk (blk_below (g := gb240) (o := .cells #[.int .i64 a1_0, .slice A1_1 l1_1.length c1_1] 30 (0, 0)) (by (with_reducible repeat (first | refine blk_drewN ?_ _ | refine blk_drew ?_ | refine blk_alloc ?_ _)); exact BK240.out) hb)
                      have n3_ := Aside0.mk (blk_below (g := gb242) (o := .cells #[.bool true, .slice A241_1 ((rd_T86 l0 x11_1).f1).length c241_1, .int .u8 ((rd_T86 l0 x11_1).f2)] 86 (0, 0)) (by (with_reducible repeat (first | refine blk_drewN ?_ _ | refine blk_drew ?_ | refine blk_alloc ?_ _)); exact BK242.out) hb)
                      have n4_ := Aside0.mk (below_step (by repeat (first | (with_reducible first | exact HB.out | apply below_alloc | apply pw_below_drewN | apply below_drew1 | refine below_set ?_ GE240.out | refine below_set ?_ GE242.out) | exact HB.out)) hb)
                      have n5_ := Aside0.mk (hbox)
                      have n6_ := Aside0.mk ((by rw [hg]; exact (below_size (by repeat (first | (with_reducible first | exact HB.out | apply below_alloc | apply pw_below_drewN | apply below_drew1 | refine below_set ?_ GE240.out | refine below_set ?_ GE242.out) | exact HB.out))) : w.heap.size ≤ gb246))
                      have n7_ := Aside0.mk ((by rw [hg]; exact (below_size (by repeat (first | (with_reducible first | exact HB.out | apply below_alloc | apply pw_below_drewN | apply below_drew1 | refine below_set ?_ GE240.out | refine below_set ?_ GE242.out) | exact HB.out))) : w.heap.size ≤ gb246))
                      have n8_ := Aside0.mk ((by rw [hg]; exact Nat.ne_of_lt (blk_lt (g := gb240) (o := .cells #[.int .i64 a1_0, .slice A1_1 l1_1.length c1_1] 30 (0, 0)) (by (with_reducible repeat (first | refine blk_drewN ?_ _ | refine blk_drew ?_ | refine blk_alloc ?_ _)); exact BK240.out)) : gb240 ≠ gb246))
                      have n9_ := Aside0.mk ((by rw [hg]; exact Nat.ne_of_gt (blk_lt (g := gb240) (o := .cells #[.int .i64 a1_0, .slice A1_1 l1_1.length c1_1] 30 (0, 0)) (by (with_reducible repeat (first | refine blk_drewN ?_ _ | refine blk_drew ?_ | refine blk_alloc ?_ _)); exact BK240.out)) : gb246 ≠ gb240))
                      have n10_ := Aside0.mk ((by rw [hg]; exact Nat.ne_of_lt (blk_lt (g := gb242) (o := .cells #[.bool true, .slice A241_1 ((rd_T86 l0 x11_1).f1).length c241_1, .int .u8 ((rd_T86 l0 x11_1).f2)] 86 (0, 0)) (by (with_reducible repeat (first | refine blk_drewN ?_ _ | refine blk_drew ?_ | refine blk_alloc ?_ _)); exact BK242.out)) : gb242 ≠ gb246))
                      have n11_ := Aside0.mk ((by rw [hg]; exact Nat.ne_of_gt (blk_lt (g := gb242) (o := .cells #[.bool true, .slice A241_1 ((rd_T86 l0 x11_1).f1).length c241_1, .int .u8 ((rd_T86 l0 x11_1).f2)] 86 (0, 0)) (by (with_reducible repeat (first | refine blk_drewN ?_ _ | refine blk_drew ?_ | refine blk_alloc ?_ _)); exact BK242.out)) : gb246 ≠ gb242))
                      clear HO_5
                      clear HO_241001
                      clear BK240
                      clear BK242
                      clear HB
                      have HO_5 := n0_
                      have HO_241001 := n1_
                      have BK240 := n2_
                      have BK242 := n3_
                      have HB := n4_
                      have BK246 := n5_
                      have GW246 := n6_
                      have GE246 := n7_
                      have NB240_246 := n8_
                      have NB246_240 := n9_
                      have NB242_246 := n10_
                      have NB246_242 := n11_
                      clear n0_ n1_ n2_ n3_ n4_ n5_ n6_ n7_ n8_ n9_ n10_ n11_
                      clear hb hbox hg
                      refine hK.out _ _ ⟨(blk_cell BK242.out 0).trans rfl, (blk_cell BK242.out 1).trans rfl, (blk_cell BK242.out 2).trans rfl, (blk_cell BK240.out 0).trans rfl, (blk_cell BK240.out 1).trans rfl⟩ (fun hHeld => ?_)
                      clear hK K
                      refine norm_ (a' := ?_) ?_ ?_
                      rotate_left
                      · show Act.put _ (some 8) _ = _
                        simp only [Act.put, List.setIfInBounds_toArray, List.set_cons_zero, List.set_cons_succ, i64_w, i32_w]
                        rfl
                      refine one_ (i := 6) (N := some 21) #[true, true, true, true, true, true, true, false, true, false] rfl rfl (one_of HT_.out (by kernel_rfl)) (by decide) (fun K hK => ?_)
                      refine goes_ Tryz.func13 (by kernel_rfl) rfl #[.slice A241_1 ((rd_T86 l0 x11_1).f1).length c241_1, .int .i64 a1_0] (by rfl) rfl rfl (by (try simp only [List.map_toArray, List.map_cons, List.map_nil]); first | done | rfl | (simp only [List.length_drop, List.length_take]; rfl)) ?_
                      with_reducible refine (bradawllaw07_Lits.calls k1 _ _ ((rd_T86 l0 x11_1).f1) a1_0 t243 _ ?side1 ?side2 A7.out).mono ?_
                      (case side1 => repeat (first | exact (Kd.C_below HR241_1.out HB.out) | (with_reducible refine Kd.C_alloc ?_ _) | (with_reducible refine Kd.C_drewN ?_ _) | (with_reducible refine Kd.C_drew ?_)))
                      (case side2 => exact HC241_1.out)
                      rintro e w66 ⟨v244, rfl, ho0, hb⟩
                      refine ⟨_, rfl, ?_⟩
                      have n0_ := Aside0.mk (Kd.N_elder' (by (with_reducible repeat (first | apply Kd.N_alloc | apply Kd.N_drewN | apply Kd.N_drew)); exact HO_5.out) (Kd.R_base ho0) hb)
                      have n1_ := Aside0.mk (Kd.V_elder' (by (with_reducible repeat (first | apply Kd.V_alloc | apply Kd.V_drewN | apply Kd.V_drew)); exact HO_241001.out) (Kd.R_base ho0) hb)
                      have n2_ := Aside0.mk (Kd.R_lower (Kd.R_newM (M := fun k_ => (w.heap.size ≤ k_)) ho0 (below_size (by repeat (first | (with_reducible first | exact HB.out | apply below_alloc | apply pw_below_drewN | apply below_drew1 | refine below_set ?_ GE240.out | refine below_set ?_ GE242.out | refine below_set ?_ GE246.out) | exact HB.out))) (fun k_ h_ => h_)) (below_size (by repeat (first | (with_reducible first | exact HB.out | apply below_alloc | apply pw_below_drewN | apply below_drew1 | refine below_set ?_ GE240.out | refine below_set ?_ GE242.out | refine below_set ?_ GE246.out) | exact HB.out))))
                      have n3_ := Aside0.mk (blk_below (g := gb240) (o := .cells #[.int .i64 a1_0, .slice A1_1 l1_1.length c1_1] 30 (0, 0)) (by (with_reducible repeat (first | refine blk_drewN ?_ _ | refine blk_drew ?_ | refine blk_alloc ?_ _)); exact BK240.out) hb)
                      have n4_ := Aside0.mk (blk_below (g := gb242) (o := .cells #[.bool true, .slice A241_1 ((rd_T86 l0 x11_1).f1).length c241_1, .int .u8 ((rd_T86 l0 x11_1).f2)] 86 (0, 0)) (by (with_reducible repeat (first | refine blk_drewN ?_ _ | refine blk_drew ?_ | refine blk_alloc ?_ _)); exact BK242.out) hb)
                      have n5_ := Aside0.mk (blk_below (g := gb246) (o := .cells #[.bool false, .slice none 0 0] 41 (0, 0)) (by (with_reducible repeat (first | refine blk_drewN ?_ _ | refine blk_drew ?_ | refine blk_alloc ?_ _)); exact BK246.out) hb)
                      have n6_ := Aside0.mk (below_step (by repeat (first | (with_reducible first | exact HB.out | apply below_alloc | apply pw_below_drewN | apply below_drew1 | refine below_set ?_ GE240.out | refine below_set ?_ GE242.out | refine below_set ?_ GE246.out) | exact HB.out)) hb)
                      clear HO_5
                      clear HO_241001
                      clear BK240
                      clear BK242
                      clear BK246
                      clear HB
                      have HO_5 := n0_
                      have HO_241001 := n1_
                      have HO245 := n2_
                      have BK240 := n3_
                      have BK242 := n4_
                      have BK246 := n5_
                      have HB := n6_
                      clear n0_ n1_ n2_ n3_ n4_ n5_ n6_
                      (try clear hb)
                      (try clear hb2)
                      (try clear hk)
                      (try clear hi)
                      (try clear ho0)
                      obtain ⟨Ao67, co67, eo67⟩ := Kd.R_slice HO245.out
                      (first | subst eo67 | (injection eo67 with f1_ f2_ f3_; have f4_ := f1_.symm; have f5_ := f3_.symm; clear f1_ f2_ f3_; subst f4_; subst f5_))
                      refine hK.out _ _ ⟨(blk_cell BK242.out 0).trans rfl, (blk_cell BK242.out 1).trans rfl, (blk_cell BK242.out 2).trans rfl, (blk_cell BK240.out 0).trans rfl, (blk_cell BK240.out 1).trans rfl⟩ (fun hHeld => ?_)
                      clear hK K
                      refine norm_ (a' := ?_) ?_ ?_
                      rotate_left
                      · show Act.put _ (some 21) _ = _
                        simp only [Act.put, List.setIfInBounds_toArray, List.set_cons_zero, List.set_cons_succ, i64_w, i32_w]
                        rfl
                      refine pure_ (i := 7) (N := some 22) (v := ?_) (a' := ?_) #[true, true, true, true, true, true, true, true, true, false] rfl rfl (any_of HT_.out (by kernel_rfl)) (fun _ _ _ h => h) (Or.inl ⟨by rfl, ?_⟩) ?_ ?_
                      rotate_left
                      · intro w'
                        go_simp
                        with_reducible rfl
                      rotate_left
                      · simp only [Act.put, List.setIfInBounds_toArray, List.set_cons_zero, List.set_cons_succ, i64_w, i32_w]
                        rfl
                      exact norm_ (by simp only [putAll, Act.put, List.setIfInBounds_toArray, List.set_cons_zero, List.set_cons_succ]) (hCont (.slice Ao67 t243.length co67, gb246) _ ⟨hHeld, (by (with_reducible repeat (first | apply Kd.R_alloc | apply Kd.R_drewN | apply Kd.R_drew)); exact Kd.R_mono HO245.out (fun _ hk => hk.1)), (by (with_reducible repeat (first | apply Kd.V_alloc | apply Kd.V_drewN | apply Kd.V_drew)); exact Kd.V_mono HO_241001.out (fun _ hk => ⟨hk.1.1.1, ⟨hk.2, ⟨hk.1.1.2.1, ⟨hk.1.1.2.2.1, ⟨hk.1.1.2.2.2, hk.1.2⟩⟩⟩⟩⟩)), (by (with_reducible repeat (first | apply Kd.N_alloc | apply Kd.N_drewN | apply Kd.N_drew)); exact Kd.N_mono HO_5.out (fun _ hk => ⟨hk.1.1.1, ⟨hk.2, ⟨hk.1.1.2.1, ⟨hk.1.1.2.2, hk.1.2⟩⟩⟩⟩)), (by (with_reducible repeat (first | refine blk_drewN ?_ _ | refine blk_drew ?_ | refine blk_alloc ?_ _)); exact BK240.out), (by (with_reducible repeat (first | refine blk_drewN ?_ _ | refine blk_drew ?_ | refine blk_alloc ?_ _)); exact BK242.out), (by (with_reducible repeat (first | refine blk_drewN ?_ _ | refine blk_drew ?_ | refine blk_alloc ?_ _)); exact BK246.out), GW246.out, GE246.out, NB240_246.out, NB246_240.out, NB242_246.out, NB246_242.out, (by repeat (first | (with_reducible first | exact HB.out | apply below_alloc | apply pw_below_drewN | apply below_drew1 | refine below_set ?_ GE240.out | refine below_set ?_ GE242.out | refine below_set ?_ GE246.out) | exact HB.out))⟩)
                  rintro ⟨v244, gb246⟩ w68 ⟨hS_, h0_, h1_, h2_, h3_, h4_, h5_, h6_, h7_, h8_, h9_, h10_, h11_, h12_⟩
                  have n0_ : Aside0 (Kd.R (Kd.int .i64) 3 w68 w.heap.size (fun k_ => (w.heap.size ≤ k_)) v244 t243) := ⟨h0_⟩
                  have n1_ : Aside0 (Kd.V (Kd.slice 3 (Kd.int .i64)) 34 w68 w.heap.size (fun k_ => (P1_1_ k_ ∨ w.heap.size ≤ k_) ∧ some k_ ≠ (v244 : Value).ownBlock ∧ some k_ ≠ (u5 : Value).ownBlock ∧ k_ ≠ gb240 ∧ k_ ≠ gb242 ∧ k_ ≠ gb246) (.slice A1_1 l1_1.length c1_1) l1_1) := ⟨h1_⟩
                  have n2_ : Aside0 (Kd.N k41 41 w68 w.heap.size (fun k_ => (P1_1_ k_ ∨ w.heap.size ≤ k_) ∧ some k_ ≠ (v244 : Value).ownBlock ∧ k_ ≠ gb240 ∧ k_ ≠ gb242 ∧ k_ ≠ gb246) u5 x5_1) := ⟨h2_⟩
                  have n3_ : Aside0 (w68.heap[gb240]? = some (.cells #[.int .i64 a1_0, .slice A1_1 l1_1.length c1_1] 30 (0, 0))) := ⟨h3_⟩
                  have n4_ : Aside0 (w68.heap[gb242]? = some (.cells #[.bool true, .slice A241_1 ((rd_T86 l0 x11_1).f1).length c241_1, .int .u8 ((rd_T86 l0 x11_1).f2)] 86 (0, 0))) := ⟨h4_⟩
                  have n5_ : Aside0 (w68.heap[gb246]? = some (.cells #[.bool false, .slice none 0 0] 41 (0, 0))) := ⟨h5_⟩
                  have n6_ : Aside0 (w.heap.size ≤ gb246) := ⟨h6_⟩
                  have n7_ : Aside0 (w.heap.size ≤ gb246) := ⟨h7_⟩
                  have n8_ : Aside0 (gb240 ≠ gb246) := ⟨h8_⟩
                  have n9_ : Aside0 (gb246 ≠ gb240) := ⟨h9_⟩
                  have n10_ : Aside0 (gb242 ≠ gb246) := ⟨h10_⟩
                  have n11_ : Aside0 (gb246 ≠ gb242) := ⟨h11_⟩
                  have n12_ : Aside0 (Below w.heap.size w w68) := ⟨h12_⟩
                  clear HO_5
                  clear HO_241001
                  clear BK240
                  clear BK242
                  clear HB
                  clear h0_ h1_ h2_ h3_ h4_ h5_ h6_ h7_ h8_ h9_ h10_ h11_ h12_
                  have HO245 := n0_
                  have HO_241001 := n1_
                  have HO_5 := n2_
                  have BK240 := n3_
                  have BK242 := n4_
                  have BK246 := n5_
                  have GW246 := n6_
                  have GE246 := n7_
                  have NB240_246 := n8_
                  have NB246_240 := n9_
                  have NB242_246 := n10_
                  have NB246_242 := n11_
                  have HB := n12_
                  clear n0_ n1_ n2_ n3_ n4_ n5_ n6_ n7_ n8_ n9_ n10_ n11_ n12_
                  have hHeld : w68.cell? ⟨gb242, 0, none⟩ = some (.bool true) ∧ w68.cell? ⟨gb242, 1, none⟩ = some (.slice A241_1 ((rd_T86 l0 x11_1).f1).length c241_1) ∧ w68.cell? ⟨gb242, 2, none⟩ = some (.int .u8 ((rd_T86 l0 x11_1).f2)) ∧ w68.cell? ⟨gb240, 0, none⟩ = some (.int .i64 a1_0) ∧ w68.cell? ⟨gb240, 1, none⟩ = some (.slice A1_1 l1_1.length c1_1) := hS_
                  obtain ⟨Ao69, co69, eo69⟩ := Kd.R_slice HO245.out
                  (first | subst eo69 | (injection eo69 with f1_ f2_ f3_; have f4_ := f1_.symm; have f5_ := f3_.symm; clear f1_ f2_ f3_; subst f4_; subst f5_))
                  refine norm_ (a' := ?_) ?_ ?_
                  rotate_left
                  · simp only [putAll, Act.put, List.setIfInBounds_toArray, List.set_cons_zero, List.set_cons_succ]
                    rfl
                  refine one_ (i := 9) (N := none) #[true, true, true, true, true, true, true, true, true, true] rfl rfl (one_of HT_.out (by kernel_rfl)) (by decide) (fun K hK => ?_)
                  have hs70 : w68.cell? ⟨gb246, 0, none⟩ = some (.bool false) := (blk_cell BK246.out 0).trans rfl
                  have hfs70 := blk_frozen BK246.out 0
                  have hns70_0 := NB240_246.out
                  have hns70_1 := NB242_246.out
                  have hms70_0 := NB246_240.out
                  have hms70_1 := NB246_242.out
                  have hs71 : w68.cell? ⟨gb246, 1, none⟩ = some (.slice none 0 0) := (blk_cell BK246.out 1).trans rfl
                  have hfs71 := blk_frozen BK246.out 1
                  have hns71_0 := NB240_246.out
                  have hns71_1 := NB242_246.out
                  have hms71_0 := NB246_240.out
                  have hms71_1 := NB246_242.out
                  refine skip_ (w1 := ?_) (by rfl) rfl ?_ ?_
                  rotate_left
                  · go_simp
                    rfl
                  refine hK.out _ _ ⟨((cell_far (p := ⟨gb246, _, none⟩) NB242_246.out _).trans (((cell_far (p := ⟨gb246, _, none⟩) NB242_246.out _).trans (hHeld.1)))), ((cell_far (p := ⟨gb246, _, none⟩) NB242_246.out _).trans (((cell_far (p := ⟨gb246, _, none⟩) NB242_246.out _).trans (hHeld.2.1)))), ((cell_far (p := ⟨gb246, _, none⟩) NB242_246.out _).trans (((cell_far (p := ⟨gb246, _, none⟩) NB242_246.out _).trans (hHeld.2.2.1)))), ((cell_far (p := ⟨gb246, _, none⟩) NB240_246.out _).trans (((cell_far (p := ⟨gb246, _, none⟩) NB240_246.out _).trans (hHeld.2.2.2.1)))), ((cell_far (p := ⟨gb246, _, none⟩) NB240_246.out _).trans (((cell_far (p := ⟨gb246, _, none⟩) NB240_246.out _).trans (hHeld.2.2.2.2))))⟩ (fun hHeld => ?_)
                  clear hK K
                  refine done_ (done_of HT_.out (by kernel_rfl)) ?_
                  have n0_ : Aside0 (Kd.N k41 41 ((w68.setCell ⟨gb246, 0, none⟩ (.bool true)).setCell ⟨gb246, 1, none⟩ (.slice Ao69 t243.length co69)) w.heap.size (fun k_ => (P1_1_ k_ ∨ w.heap.size ≤ k_) ∧ some k_ ≠ (.slice Ao69 t243.length co69 : Value).ownBlock ∧ k_ ≠ gb240 ∧ k_ ≠ gb242 ∧ k_ ≠ gb246) u5 x5_1) := ⟨by (with_reducible repeat (first | apply Kd.N_alloc | apply Kd.N_drewN | apply Kd.N_drew)); exact Kd.N_mono (Kd.N_far (p := ⟨gb246, 1, none⟩) (Kd.N_far (p := ⟨gb246, 0, none⟩) (Kd.N_mono HO_5.out (fun k_ hk => (⟨hk, hk.2.2.2.2⟩ : _ ∧ k_ ≠ gb246))) (fun _ hk => hk.2) (.bool true)) (fun _ hk => hk.2) (.slice Ao69 t243.length co69)) (fun _ hk => ⟨hk.1.1, ⟨hk.1.2.1, ⟨hk.1.2.2.1, ⟨hk.1.2.2.2.1, hk.1.2.2.2.2⟩⟩⟩⟩)⟩
                  have n1_ : Aside0 (Kd.V (Kd.slice 3 (Kd.int .i64)) 34 ((w68.setCell ⟨gb246, 0, none⟩ (.bool true)).setCell ⟨gb246, 1, none⟩ (.slice Ao69 t243.length co69)) w.heap.size (fun k_ => (P1_1_ k_ ∨ w.heap.size ≤ k_) ∧ some k_ ≠ (u5 : Value).ownBlock ∧ some k_ ≠ (.slice Ao69 t243.length co69 : Value).ownBlock ∧ k_ ≠ gb240 ∧ k_ ≠ gb242 ∧ k_ ≠ gb246) (.slice A1_1 l1_1.length c1_1) l1_1) := ⟨by (with_reducible repeat (first | apply Kd.V_alloc | apply Kd.V_drewN | apply Kd.V_drew)); exact Kd.V_mono (Kd.V_far (p := ⟨gb246, 1, none⟩) (Kd.V_far (p := ⟨gb246, 0, none⟩) (Kd.V_mono HO_241001.out (fun k_ hk => (⟨hk, hk.2.2.2.2.2⟩ : _ ∧ k_ ≠ gb246))) (fun _ hk => hk.2) (.bool true)) (fun _ hk => hk.2) (.slice Ao69 t243.length co69)) (fun _ hk => ⟨hk.1.1, ⟨hk.1.2.2.1, ⟨hk.1.2.1, ⟨hk.1.2.2.2.1, ⟨hk.1.2.2.2.2.1, hk.1.2.2.2.2.2⟩⟩⟩⟩⟩)⟩
                  have n2_ : Aside0 (Kd.R (Kd.int .i64) 3 ((w68.setCell ⟨gb246, 0, none⟩ (.bool true)).setCell ⟨gb246, 1, none⟩ (.slice Ao69 t243.length co69)) w.heap.size (fun k_ => (w.heap.size ≤ k_)) (.slice Ao69 t243.length co69) t243) := ⟨by (with_reducible repeat (first | apply Kd.R_alloc | apply Kd.R_drewN | apply Kd.R_drew)); exact Kd.R_mono (Kd.R_far (p := ⟨gb246, 1, none⟩) (Kd.R_far (p := ⟨gb246, 0, none⟩) (Kd.R_types HO245.out BK246.out (by decide)) (fun _ hk => hk.2) (.bool true)) (fun _ hk => hk.2) (.slice Ao69 t243.length co69)) (fun _ hk => hk.1)⟩
                  have n3_ : Aside0 (((w68.setCell ⟨gb246, 0, none⟩ (.bool true)).setCell ⟨gb246, 1, none⟩ (.slice Ao69 t243.length co69)).heap[gb240]? = some (.cells #[.int .i64 a1_0, .slice A1_1 l1_1.length c1_1] 30 (0, 0))) := ⟨by (with_reducible repeat (first | refine blk_drewN ?_ _ | refine blk_drew ?_ | refine blk_alloc ?_ _)); refine blk_far ?_ NB240_246.out _; (with_reducible repeat (first | refine blk_drewN ?_ _ | refine blk_drew ?_ | refine blk_alloc ?_ _)); refine blk_far ?_ NB240_246.out _; (with_reducible repeat (first | refine blk_drewN ?_ _ | refine blk_drew ?_ | refine blk_alloc ?_ _)); exact BK240.out⟩
                  have n4_ : Aside0 (((w68.setCell ⟨gb246, 0, none⟩ (.bool true)).setCell ⟨gb246, 1, none⟩ (.slice Ao69 t243.length co69)).heap[gb242]? = some (.cells #[.bool true, .slice A241_1 ((rd_T86 l0 x11_1).f1).length c241_1, .int .u8 ((rd_T86 l0 x11_1).f2)] 86 (0, 0))) := ⟨by (with_reducible repeat (first | refine blk_drewN ?_ _ | refine blk_drew ?_ | refine blk_alloc ?_ _)); refine blk_far ?_ NB242_246.out _; (with_reducible repeat (first | refine blk_drewN ?_ _ | refine blk_drew ?_ | refine blk_alloc ?_ _)); refine blk_far ?_ NB242_246.out _; (with_reducible repeat (first | refine blk_drewN ?_ _ | refine blk_drew ?_ | refine blk_alloc ?_ _)); exact BK242.out⟩
                  have n5_ : Aside0 (((w68.setCell ⟨gb246, 0, none⟩ (.bool true)).setCell ⟨gb246, 1, none⟩ (.slice Ao69 t243.length co69)).heap[gb246]? = some (.cells #[.bool true, .slice Ao69 t243.length co69] 41 (0, 0))) := ⟨by (with_reducible repeat (first | refine blk_drewN ?_ _ | refine blk_drew ?_ | refine blk_alloc ?_ _)); refine blk_put (cs := #[.bool true, .slice none 0 0]) ?_ 1 _ rfl; (with_reducible repeat (first | refine blk_drewN ?_ _ | refine blk_drew ?_ | refine blk_alloc ?_ _)); refine blk_put (cs := #[.bool false, .slice none 0 0]) ?_ 0 _ rfl; (with_reducible repeat (first | refine blk_drewN ?_ _ | refine blk_drew ?_ | refine blk_alloc ?_ _)); exact BK246.out⟩
                  have n6_ : Aside0 (Below w.heap.size w ((w68.setCell ⟨gb246, 0, none⟩ (.bool true)).setCell ⟨gb246, 1, none⟩ (.slice Ao69 t243.length co69))) := ⟨by repeat (first | (with_reducible first | exact HB.out | apply below_alloc | apply pw_below_drewN | apply below_drew1 | refine below_set ?_ GE240.out | refine below_set ?_ GE242.out | refine below_set ?_ GE246.out) | exact HB.out)⟩
                  (try clear HO_5)
                  (try clear HO_241001)
                  (try clear HO245)
                  (try clear BK240)
                  (try clear BK242)
                  (try clear BK246)
                  (try clear HB)
                  generalize ((w68.setCell ⟨gb246, 0, none⟩ (.bool true)).setCell ⟨gb246, 1, none⟩ (.slice Ao69 t243.length co69)) = w72 at n0_ n1_ n2_ n3_ n4_ n5_ n6_ ⊢
                  have HO_5 := n0_
                  have HO_241001 := n1_
                  have HO245 := n2_
                  have BK240 := n3_
                  have BK242 := n4_
                  have BK246 := n5_
                  have HB := n6_
                  clear n0_ n1_ n2_ n3_ n4_ n5_ n6_
                  have hnb73 := NB242_246.out
                  have hnc73 := NB246_242.out
                  have hcz74_0 : w72.cell? ⟨gb242, 0, none⟩ = some (.bool true) := (blk_cell BK242.out 0).trans rfl
                  have hcz74_1 : w72.cell? ⟨gb242, 1, none⟩ = some (.slice A241_1 ((rd_T86 l0 x11_1).f1).length c241_1) := (blk_cell BK242.out 1).trans rfl
                  have hcz74_2 : w72.cell? ⟨gb242, 2, none⟩ = some (.int .u8 ((rd_T86 l0 x11_1).f2)) := (blk_cell BK242.out 2).trans rfl
                  have hfz74_0 := blk_frozen BK242.out 0
                  have hfz74_1 := blk_frozen BK242.out 1
                  have hfz74_2 := blk_frozen BK242.out 2
                  have hnb75 := NB246_240.out
                  have hnc75 := NB240_246.out
                  have hcz76_0 : w72.cell? ⟨gb246, 0, none⟩ = some (.bool true) := (blk_cell BK246.out 0).trans rfl
                  have hcz76_1 : w72.cell? ⟨gb246, 1, none⟩ = some (.slice Ao69 t243.length co69) := (blk_cell BK246.out 1).trans rfl
                  have hfz76_0 := blk_frozen BK246.out 0
                  have hfz76_1 := blk_frozen BK246.out 1
                  try go_wp2_with (first | ((with_reducible refine gate_builtin (b := .append) (xs := #[.tmp 50, .tmp 52]) rfl ?_); (try (refine gate_guard (by rfl) ?_; dsimp only)); at_builtin; refine Kd.N_append k41 (w0 := w) w.heap.size rfl (.tmp 50) (.tmp 52) 39 41 (.agg #[(.bool false), (.slice none 0 0)]) 32 rfl Tryz.underlying39 info41 rfl (by decide) (by omega) u5 x5_1 (⟨true, t243⟩ : S41) [.bool true, .slice Ao69 t243.length co69] (fun k_ => (P1_1_ k_ ∨ w.heap.size ≤ k_) ∧ k_ ≠ gb240 ∧ k_ ≠ gb242 ∧ k_ ≠ gb246) (fun k_ => ((fun k_ => (P1_1_ k_ ∨ w.heap.size ≤ k_) ∧ k_ ≠ gb240 ∧ k_ ≠ gb242 ∧ k_ ≠ gb246)) k_ ∧ some k_ ≠ (u5 : Value).ownBlock) rfl rfl ?aP (fun _ hk => hk) ?aF ?aO ?aB ?aS ?aL ?_; (case aP => exact (k41_mkF _ _ (⟨true, t243⟩ : S41) (Kd.R_reads' (Kd.R_mono (ok' := (fun k_ => ((fun k_ => (P1_1_ k_ ∨ w.heap.size ≤ k_) ∧ k_ ≠ gb240 ∧ k_ ≠ gb242 ∧ k_ ≠ gb246)) k_ ∧ some k_ ≠ (u5 : Value).ownBlock)) (Kd.R_types (Kd.R_types (Kd.R_types (Kd.R_apart' (HO245.out) (Kd.N_typed HO_5.out) (by decide)) BK240.out (by decide)) BK242.out (by decide)) BK246.out (by decide)) (fun k_ hk => ⟨⟨(.inr (hk.1.1.1.1)), ⟨hk.1.1.2, ⟨hk.1.2, hk.2⟩⟩⟩, hk.1.1.1.2⟩))).2.1 (Kd.R_F (Kd.R_mono (ok' := (fun k_ => ((fun k_ => (P1_1_ k_ ∨ w.heap.size ≤ k_) ∧ k_ ≠ gb240 ∧ k_ ≠ gb242 ∧ k_ ≠ gb246)) k_ ∧ some k_ ≠ (u5 : Value).ownBlock)) (Kd.R_types (Kd.R_types (Kd.R_types (Kd.R_apart' (HO245.out) (Kd.N_typed HO_5.out) (by decide)) BK240.out (by decide)) BK242.out (by decide)) BK246.out (by decide)) (fun k_ hk => ⟨⟨(.inr (hk.1.1.1.1)), ⟨hk.1.1.2, ⟨hk.1.2, hk.2⟩⟩⟩, hk.1.1.1.2⟩))))); (case aB => exact (by repeat (first | (with_reducible first | exact HB.out | apply below_alloc | apply pw_below_drewN | apply below_drew1 | refine below_set ?_ GE240.out | refine below_set ?_ GE242.out | refine below_set ?_ GE246.out) | exact HB.out))); (case aF => exact (fun k_ hk => ⟨(.inr (Nat.le_trans (below_size (by repeat (first | (with_reducible first | exact HB.out | apply below_alloc | apply pw_below_drewN | apply below_drew1 | refine below_set ?_ GE240.out | refine below_set ?_ GE242.out | refine below_set ?_ GE246.out) | exact HB.out))) hk)), Kd.freshB (g := gb240) (o := .cells #[.int .i64 a1_0, .slice A1_1 l1_1.length c1_1] 30 (0, 0)) (by (with_reducible repeat (first | refine blk_drewN ?_ _ | refine blk_drew ?_ | refine blk_alloc ?_ _)); exact BK240.out) k_ hk, Kd.freshB (g := gb242) (o := .cells #[.bool true, .slice A241_1 ((rd_T86 l0 x11_1).f1).length c241_1, .int .u8 ((rd_T86 l0 x11_1).f2)] 86 (0, 0)) (by (with_reducible repeat (first | refine blk_drewN ?_ _ | refine blk_drew ?_ | refine blk_alloc ?_ _)); exact BK242.out) k_ hk, Kd.freshB (g := gb246) (o := .cells #[.bool true, .slice Ao69 t243.length co69] 41 (0, 0)) (by (with_reducible repeat (first | refine blk_drewN ?_ _ | refine blk_drew ?_ | refine blk_alloc ?_ _)); exact BK246.out) k_ hk⟩)); (case aO => exact (by (with_reducible repeat (first | apply Kd.N_alloc | apply Kd.N_drewN | apply Kd.N_drew)); exact Kd.N_mono HO_5.out (fun _ hk => ⟨hk.1, ⟨hk.2.2.1, ⟨hk.2.2.2.1, hk.2.2.2.2⟩⟩⟩))); (case aS => exact (below_size (by repeat (first | (with_reducible first | exact HB.out | apply below_alloc | apply pw_below_drewN | apply below_drew1 | refine below_set ?_ GE240.out | refine below_set ?_ GE242.out | refine below_set ?_ GE246.out) | exact HB.out)))); (case aL => have := LMc59.out; omega); intro v255 w77 ho hb hg hat; rw [← Ny254.out] at ho; have n0_ := Aside0.mk (Kd.V_afterv (ok := (fun k_ => (P1_1_ k_ ∨ w.heap.size ≤ k_) ∧ some k_ ≠ (.slice Ao69 t243.length co69 : Value).ownBlock ∧ k_ ≠ gb240 ∧ k_ ≠ gb242 ∧ k_ ≠ gb246)) (by (with_reducible repeat (first | apply Kd.V_alloc | apply Kd.V_drewN | apply Kd.V_drew)); exact Kd.V_mono HO_241001.out (fun _ hk => ⟨⟨hk.1, ⟨hk.2.2.1, ⟨hk.2.2.2.1, ⟨hk.2.2.2.2.1, hk.2.2.2.2.2⟩⟩⟩⟩, hk.2.1⟩)) hg hat); have n1_ := Aside0.mk (blk_grown (g := gb240) (o := .cells #[.int .i64 a1_0, .slice A1_1 l1_1.length c1_1] 30 (0, 0)) (by (with_reducible repeat (first | refine blk_drewN ?_ _ | refine blk_drew ?_ | refine blk_alloc ?_ _)); exact BK240.out) hg (Kd.N_ne HO_5.out BK240.out (by decide))); have n2_ := Aside0.mk (blk_grown (g := gb242) (o := .cells #[.bool true, .slice A241_1 ((rd_T86 l0 x11_1).f1).length c241_1, .int .u8 ((rd_T86 l0 x11_1).f2)] 86 (0, 0)) (by (with_reducible repeat (first | refine blk_drewN ?_ _ | refine blk_drew ?_ | refine blk_alloc ?_ _)); exact BK242.out) hg (Kd.N_ne HO_5.out BK242.out (by decide))); have n3_ := Aside0.mk (blk_grown (g := gb246) (o := .cells #[.bool true, .slice Ao69 t243.length co69] 41 (0, 0)) (by (with_reducible repeat (first | refine blk_drewN ?_ _ | refine blk_drew ?_ | refine blk_alloc ?_ _)); exact BK246.out) hg (Kd.N_away HO_5.out (fun _ hk => hk.2.2.2.2))); have n4_ := Aside0.mk (hb); have n5_ := Aside0.mk (ho); clear HO_241001; clear BK240; clear BK242; clear BK246; clear HB; clear HO_5; clear HO245; have HO_241001 := n0_; have BK240 := n1_; have BK242 := n2_; have BK246 := n3_; have HB := n4_; have HO256 := n5_; clear n0_ n1_ n2_ n3_ n4_ n5_; clear ho hb hg hat))
                  go_roundg k1
                  case measure => have := HK1.out; omega
                  case rel => exact ⟨(y254), (wrap64 (x11_1 + 1)), (by first | rfl | (simp; done) | (simp [*]; done)), H', ⟨by have := HK1.out; omega⟩, ⟨by (with_reducible repeat (first | apply Kd.N_alloc | apply Kd.N_drewN | apply Kd.N_drew)); exact Kd.N_mono HO256.out (fun _ hk => ⟨hk.1, hk.2.1⟩)⟩, ⟨by (with_reducible repeat (first | apply Kd.V_alloc | apply Kd.V_drewN | apply Kd.V_drew)); exact Kd.V_mono HO_241001.out (fun _ hk => ⟨hk.1.1, ⟨hk.2, hk.1.2.2.1⟩⟩)⟩, ⟨by (with_reducible repeat (first | refine blk_drewN ?_ _ | refine blk_drew ?_ | refine blk_alloc ?_ _)); exact BK240.out⟩, ⟨by repeat (first | (with_reducible first | exact HB.out | apply below_alloc | apply pw_below_drewN | apply below_drew1 | refine below_set ?_ GE240.out | refine below_set ?_ GE242.out | refine below_set ?_ GE246.out) | exact HB.out)⟩⟩
                · rw [if_neg c59] at H
                  exact absurd H (by simp)
            · replace c9 := Bool.eq_false_iff.mpr c9
              subst c9
              have H1 : (if x5_1.length < 4398046511104 then (bradawllaw08_Proof.l0 k1 (x5_1 ++ [(⟨false, t243⟩ : S41)]) l0 (l0.length : Int) (wrap64 (x11_1 + 1)) a1_0 l1_1) else (none)) = some r := by rw [if_neg (show ¬ (false = true) by decide)] at H; exact H
              clear H
              have H := H1
              clear H1
              by_cases c78 : x5_1.length < 4398046511104
              · rw [if_pos c78] at H
                have LMc78 := Aside0.mk c78
                clear c78
                obtain ⟨y257, hy257⟩ : ∃ y_ : List (S41), y_ = (x5_1 ++ [(⟨false, t243⟩ : S41)]) := ⟨_, rfl⟩
                replace H : (bradawllaw08_Proof.l0 k1 y257 l0 (l0.length : Int) (wrap64 (x11_1 + 1)) a1_0 l1_1) = some r := by first | (rw [hy257]; with_reducible exact H) | (have H2_ := (Option.bind_some _ _).symm.trans H; rw [hy257]; with_reducible exact H2_) | (have H2_ := (Option.bind_some _ _).symm.trans H; with_reducible exact H2_) | with_reducible exact H | (rw [hy257]; exact H) | exact H
                have Ny257 := Aside0.mk hy257
                clear hy257
                have H' := Aside0.mk H
                clear H
                have p241 : 0 ≤ (x11_1 : Int) := of_decide_eq_true (by first | (with_reducible assumption) | assumption)
                have q241 : x11_1 < (l0.length : Int) := of_decide_eq_true (by first | (with_reducible assumption) | assumption)
                obtain ⟨ad241, A241_1, c241_1, e241, hx241_0, hx241_1, hx241_2, hl241_1, hi241_1⟩ := at_T86 HR0.out x11_1 p241 q241
                (try rw [← Nbq8.out] at hx241_0)
                cases e241
                replace hx241_0 := (HB.out.cell (World.block_lt_of_cell? w _ hx241_0)).trans hx241_0
                replace hx241_1 := (HB.out.cell (World.block_lt_of_cell? w _ hx241_1)).trans hx241_1
                replace hx241_2 := (HB.out.cell (World.block_lt_of_cell? w _ hx241_2)).trans hx241_2
                have HR241_1 := Aside0.mk hi241_1
                have HC241_1 := Aside0.mk hl241_1
                clear hi241_1 hl241_1
                replace p241 := eq_true p241
                replace q241 := eq_true q241
                try go_wp2_with (first | ((with_reducible refine gate_dst (N := 7) rfl ?_); (try (refine gate_guard (by rfl) ?_; dsimp only)); refine box_event ?hg (N := 7) ?hd (cs := #[.bool false, .slice none 0 0, .int .u8 0]) (t := 86) ?hr ?_; (case hd => rfl); (case hg => rfl); (case hr => first | (go_simp; done) | (go_simp; rfl)); intro gb242 hg w79 hbox hb; have n0_ := Aside0.mk (Kd.N_below (Kd.N_elderB (by (with_reducible repeat (first | apply Kd.N_alloc | apply Kd.N_drewN | apply Kd.N_drew)); exact HO_5.out) gb242 (Nat.le_of_eq hg.symm)) hb); have n1_ := Aside0.mk (Kd.V_below (Kd.V_elderB (by (with_reducible repeat (first | apply Kd.V_alloc | apply Kd.V_drewN | apply Kd.V_drew)); exact HO_241001.out) gb242 (Nat.le_of_eq hg.symm)) hb); have n2_ := Aside0.mk (blk_below (g := gb240) (o := .cells #[.int .i64 a1_0, .slice A1_1 l1_1.length c1_1] 30 (0, 0)) (by (with_reducible repeat (first | refine blk_drewN ?_ _ | refine blk_drew ?_ | refine blk_alloc ?_ _)); exact BK240.out) hb); have n3_ := Aside0.mk (below_step (by repeat (first | (with_reducible first | exact HB.out | apply below_alloc | apply pw_below_drewN | apply below_drew1 | refine below_set ?_ GE240.out) | exact HB.out)) hb); have n4_ := Aside0.mk (hbox); have n5_ := Aside0.mk ((by rw [hg]; exact (below_size (by repeat (first | (with_reducible first | exact HB.out | apply below_alloc | apply pw_below_drewN | apply below_drew1 | refine below_set ?_ GE240.out) | exact HB.out))) : w.heap.size ≤ gb242)); have n6_ := Aside0.mk ((by rw [hg]; exact (below_size (by repeat (first | (with_reducible first | exact HB.out | apply below_alloc | apply pw_below_drewN | apply below_drew1 | refine below_set ?_ GE240.out) | exact HB.out))) : w.heap.size ≤ gb242)); have n7_ := Aside0.mk ((by rw [hg]; exact Nat.ne_of_lt (blk_lt (g := gb240) (o := .cells #[.int .i64 a1_0, .slice A1_1 l1_1.length c1_1] 30 (0, 0)) (by (with_reducible repeat (first | refine blk_drewN ?_ _ | refine blk_drew ?_ | refine blk_alloc ?_ _)); exact BK240.out)) : gb240 ≠ gb242)); have n8_ := Aside0.mk ((by rw [hg]; exact Nat.ne_of_gt (blk_lt (g := gb240) (o := .cells #[.int .i64 a1_0, .slice A1_1 l1_1.length c1_1] 30 (0, 0)) (by (with_reducible repeat (first | refine blk_drewN ?_ _ | refine blk_drew ?_ | refine blk_alloc ?_ _)); exact BK240.out)) : gb242 ≠ gb240)); clear HO_5; clear HO_241001; clear BK240; clear HB; have HO_5 := n0_; have HO_241001 := n1_; have BK240 := n2_; have HB := n3_; have BK242 := n4_; have GW242 := n5_; have GE242 := n6_; have NB240_242 := n7_; have NB242_240 := n8_; clear n0_ n1_ n2_ n3_ n4_ n5_ n6_ n7_ n8_; clear hb hbox hg; have hnb80 := NB242_240.out; have hnc80 := NB240_242.out; have hcz81_0 : w79.cell? ⟨gb242, 0, none⟩ = some (.bool false) := (blk_cell BK242.out 0).trans rfl; have hcz81_1 : w79.cell? ⟨gb242, 1, none⟩ = some (.slice none 0 0) := (blk_cell BK242.out 1).trans rfl; have hcz81_2 : w79.cell? ⟨gb242, 2, none⟩ = some (.int .u8 0) := (blk_cell BK242.out 2).trans rfl; have hfz81_0 := blk_frozen BK242.out 0; have hfz81_1 := blk_frozen BK242.out 1; have hfz81_2 := blk_frozen BK242.out 2))
                have n0_ : Aside0 (Kd.N k41 41 (((w79.setCell ⟨gb242, 0, none⟩ (.bool false)).setCell ⟨gb242, 1, none⟩ (.slice A241_1 ((rd_T86 l0 x11_1).f1).length c241_1)).setCell ⟨gb242, 2, none⟩ (.int .u8 ((rd_T86 l0 x11_1).f2))) w.heap.size (fun k_ => (P1_1_ k_ ∨ w.heap.size ≤ k_) ∧ k_ ≠ gb240 ∧ k_ ≠ gb242) u5 x5_1) := ⟨by (with_reducible repeat (first | apply Kd.N_alloc | apply Kd.N_drewN | apply Kd.N_drew)); exact Kd.N_mono (Kd.N_far (p := ⟨gb242, 2, none⟩) (Kd.N_far (p := ⟨gb242, 1, none⟩) (Kd.N_far (p := ⟨gb242, 0, none⟩) (Kd.N_mono HO_5.out (fun k_ hk => (⟨hk, hk.2⟩ : _ ∧ k_ ≠ gb242))) (fun _ hk => hk.2) (.bool false)) (fun _ hk => hk.2) (.slice A241_1 ((rd_T86 l0 x11_1).f1).length c241_1)) (fun _ hk => hk.2) (.int .u8 ((rd_T86 l0 x11_1).f2))) (fun _ hk => ⟨hk.1.1.1, ⟨hk.1.1.2, hk.1.2⟩⟩)⟩
                have n1_ : Aside0 (Kd.V (Kd.slice 3 (Kd.int .i64)) 34 (((w79.setCell ⟨gb242, 0, none⟩ (.bool false)).setCell ⟨gb242, 1, none⟩ (.slice A241_1 ((rd_T86 l0 x11_1).f1).length c241_1)).setCell ⟨gb242, 2, none⟩ (.int .u8 ((rd_T86 l0 x11_1).f2))) w.heap.size (fun k_ => (P1_1_ k_ ∨ w.heap.size ≤ k_) ∧ some k_ ≠ (u5 : Value).ownBlock ∧ k_ ≠ gb240 ∧ k_ ≠ gb242) (.slice A1_1 l1_1.length c1_1) l1_1) := ⟨by (with_reducible repeat (first | apply Kd.V_alloc | apply Kd.V_drewN | apply Kd.V_drew)); exact Kd.V_mono (Kd.V_far (p := ⟨gb242, 2, none⟩) (Kd.V_far (p := ⟨gb242, 1, none⟩) (Kd.V_far (p := ⟨gb242, 0, none⟩) (Kd.V_mono HO_241001.out (fun k_ hk => (⟨hk, hk.2⟩ : _ ∧ k_ ≠ gb242))) (fun _ hk => hk.2) (.bool false)) (fun _ hk => hk.2) (.slice A241_1 ((rd_T86 l0 x11_1).f1).length c241_1)) (fun _ hk => hk.2) (.int .u8 ((rd_T86 l0 x11_1).f2))) (fun _ hk => ⟨hk.1.1.1, ⟨hk.1.1.2.1, ⟨hk.1.1.2.2, hk.1.2⟩⟩⟩)⟩
                have n2_ : Aside0 ((((w79.setCell ⟨gb242, 0, none⟩ (.bool false)).setCell ⟨gb242, 1, none⟩ (.slice A241_1 ((rd_T86 l0 x11_1).f1).length c241_1)).setCell ⟨gb242, 2, none⟩ (.int .u8 ((rd_T86 l0 x11_1).f2))).heap[gb240]? = some (.cells #[.int .i64 a1_0, .slice A1_1 l1_1.length c1_1] 30 (0, 0))) := ⟨by (with_reducible repeat (first | refine blk_drewN ?_ _ | refine blk_drew ?_ | refine blk_alloc ?_ _)); refine blk_far ?_ NB240_242.out _; (with_reducible repeat (first | refine blk_drewN ?_ _ | refine blk_drew ?_ | refine blk_alloc ?_ _)); refine blk_far ?_ NB240_242.out _; (with_reducible repeat (first | refine blk_drewN ?_ _ | refine blk_drew ?_ | refine blk_alloc ?_ _)); refine blk_far ?_ NB240_242.out _; (with_reducible repeat (first | refine blk_drewN ?_ _ | refine blk_drew ?_ | refine blk_alloc ?_ _)); exact BK240.out⟩
                have n3_ : Aside0 ((((w79.setCell ⟨gb242, 0, none⟩ (.bool false)).setCell ⟨gb242, 1, none⟩ (.slice A241_1 ((rd_T86 l0 x11_1).f1).length c241_1)).setCell ⟨gb242, 2, none⟩ (.int .u8 ((rd_T86 l0 x11_1).f2))).heap[gb242]? = some (.cells #[.bool false, .slice A241_1 ((rd_T86 l0 x11_1).f1).length c241_1, .int .u8 ((rd_T86 l0 x11_1).f2)] 86 (0, 0))) := ⟨by (with_reducible repeat (first | refine blk_drewN ?_ _ | refine blk_drew ?_ | refine blk_alloc ?_ _)); refine blk_put (cs := #[.bool false, .slice A241_1 ((rd_T86 l0 x11_1).f1).length c241_1, .int .u8 0]) ?_ 2 _ rfl; (with_reducible repeat (first | refine blk_drewN ?_ _ | refine blk_drew ?_ | refine blk_alloc ?_ _)); refine blk_put (cs := #[.bool false, .slice none 0 0, .int .u8 0]) ?_ 1 _ rfl; (with_reducible repeat (first | refine blk_drewN ?_ _ | refine blk_drew ?_ | refine blk_alloc ?_ _)); refine blk_put (cs := #[.bool false, .slice none 0 0, .int .u8 0]) ?_ 0 _ rfl; (with_reducible repeat (first | refine blk_drewN ?_ _ | refine blk_drew ?_ | refine blk_alloc ?_ _)); exact BK242.out⟩
                have n4_ : Aside0 (Below w.heap.size w (((w79.setCell ⟨gb242, 0, none⟩ (.bool false)).setCell ⟨gb242, 1, none⟩ (.slice A241_1 ((rd_T86 l0 x11_1).f1).length c241_1)).setCell ⟨gb242, 2, none⟩ (.int .u8 ((rd_T86 l0 x11_1).f2)))) := ⟨by repeat (first | (with_reducible first | exact HB.out | apply below_alloc | apply pw_below_drewN | apply below_drew1 | refine below_set ?_ GE240.out | refine below_set ?_ GE242.out) | exact HB.out)⟩
                (try clear HO_5)
                (try clear HO_241001)
                (try clear BK240)
                (try clear BK242)
                (try clear HB)
                generalize (((w79.setCell ⟨gb242, 0, none⟩ (.bool false)).setCell ⟨gb242, 1, none⟩ (.slice A241_1 ((rd_T86 l0 x11_1).f1).length c241_1)).setCell ⟨gb242, 2, none⟩ (.int .u8 ((rd_T86 l0 x11_1).f2))) = w82 at n0_ n1_ n2_ n3_ n4_ ⊢
                have HO_5 := n0_
                have HO_241001 := n1_
                have BK240 := n2_
                have BK242 := n3_
                have HB := n4_
                clear n0_ n1_ n2_ n3_ n4_
                have n0_ := Aside0.mk (Kd.N_drew HO_5.out)
                have n1_ := Aside0.mk (Kd.V_drew HO_241001.out)
                have n2_ := Aside0.mk (blk_drew BK240.out)
                have n3_ := Aside0.mk (blk_drew BK242.out)
                have n4_ := Aside0.mk (below_drew1 HB.out)
                clear HO_5
                clear HO_241001
                clear BK240
                clear BK242
                clear HB
                have HO_5 := n0_
                have HO_241001 := n1_
                have BK240 := n2_
                have BK242 := n3_
                have HB := n4_
                clear n0_ n1_ n2_ n3_ n4_
                refine start_ (n := 10) (S := fun w' => w'.cell? ⟨gb242, 0, none⟩ = some (.bool false) ∧ w'.cell? ⟨gb242, 1, none⟩ = some (.slice A241_1 ((rd_T86 l0 x11_1).f1).length c241_1) ∧ w'.cell? ⟨gb242, 2, none⟩ = some (.int .u8 ((rd_T86 l0 x11_1).f2)) ∧ w'.cell? ⟨gb240, 0, none⟩ = some (.int .i64 a1_0) ∧ w'.cell? ⟨gb240, 1, none⟩ = some (.slice A1_1 l1_1.length c1_1)) (ds := []) #[false, false, false, false, false, false, false, false, false, false] (by kernel_rfl) rfl rfl ⟨(blk_cell BK242.out 0).trans rfl, (blk_cell BK242.out 1).trans rfl, (blk_cell BK242.out 2).trans rfl, (blk_cell BK240.out 0).trans rfl, (blk_cell BK240.out 1).trans rfl⟩ (fun hHeld => ?_); refine with_tabW bradawllaw08_Proof.tab5 bradawllaw08_Proof.bits5 (fun HT_ HW_ => ?_)
                generalize w82.drew = w83 at HO_5 HO_241001 BK240 BK242 HB hHeld ⊢
                refine pure_ (i := 0) (N := some 15) (v := ?_) (a' := ?_) #[true, false, false, false, false, false, false, false, false, false] rfl rfl (any_of HT_.out (by kernel_rfl)) (fun _ _ _ h => h) (Or.inl ⟨by rfl, ?_⟩) ?_ ?_
                rotate_left
                · intro w'
                  go_simp
                  with_reducible rfl
                rotate_left
                · simp only [Act.put, List.setIfInBounds_toArray, List.set_cons_zero, List.set_cons_succ, i64_w, i32_w]
                  rfl
                refine pure_ (i := 2) (N := some 17) (v := ?_) (a' := ?_) #[true, false, true, false, false, false, false, false, false, false] rfl rfl (any_of HT_.out (by kernel_rfl)) (fun _ _ _ h => h) (Or.inl ⟨by rfl, ?_⟩) ?_ ?_
                rotate_left
                · intro w'
                  go_simp
                  with_reducible rfl
                rotate_left
                · simp only [Act.put, List.setIfInBounds_toArray, List.set_cons_zero, List.set_cons_succ, i64_w, i32_w]
                  rfl
                refine pure_ (i := 4) (N := some 19) (v := ?_) (a' := ?_) #[true, false, true, false, true, false, false, false, false, false] rfl rfl (any_of HT_.out (by kernel_rfl)) (fun _ _ _ h => h) (Or.inl ⟨by rfl, ?_⟩) ?_ ?_
                rotate_left
                · intro w'
                  go_simp
                  with_reducible rfl
                rotate_left
                · simp only [Act.put, List.setIfInBounds_toArray, List.set_cons_zero, List.set_cons_succ, i64_w, i32_w]
                  rfl
                refine take_ (i := 1) (N := some 16) (v := ?_) (a' := ?_) #[true, true, true, false, true, false, false, false, false, false] rfl rfl (take_ofW HT_.out HW_.out (by kernel_rfl)) (fun _ _ _ h => h) (Or.inl ⟨by rfl, ?_⟩) hHeld ?_ ?_
                rotate_left
                · rintro w' ⟨s0, s1, s2, s3, s4⟩
                  go_simp
                  with_reducible rfl
                rotate_left
                · simp only [Act.put, List.setIfInBounds_toArray, List.set_cons_zero, List.set_cons_succ, i64_w, i32_w]
                  rfl
                refine take_ (i := 3) (N := some 18) (v := ?_) (a' := ?_) #[true, true, true, true, true, false, false, false, false, false] rfl rfl (take_ofW HT_.out HW_.out (by kernel_rfl)) (fun _ _ _ h => h) (Or.inl ⟨by rfl, ?_⟩) hHeld ?_ ?_
                rotate_left
                · rintro w' ⟨s0, s1, s2, s3, s4⟩
                  go_simp
                  with_reducible rfl
                rotate_left
                · simp only [Act.put, List.setIfInBounds_toArray, List.set_cons_zero, List.set_cons_succ, i64_w, i32_w]
                  rfl
                refine take_ (i := 5) (N := some 20) (v := ?_) (a' := ?_) #[true, true, true, true, true, true, false, false, false, false] rfl rfl (take_ofW HT_.out HW_.out (by kernel_rfl)) (fun _ _ _ h => h) (Or.inl ⟨by rfl, ?_⟩) hHeld ?_ ?_
                rotate_left
                · rintro w' ⟨s0, s1, s2, s3, s4⟩
                  go_simp
                  with_reducible rfl
                rotate_left
                · simp only [Act.put, List.setIfInBounds_toArray, List.set_cons_zero, List.set_cons_succ, i64_w, i32_w]
                  rfl
                refine join_ (σ := Value × Nat) 1 #[true, true, true, true, true, true, true, true, true, false] (fun s_ => [(21, s_.1), (8, .pointer (some ⟨s_.2, 0, none⟩)), (22, .agg #[.bool false, s_.1])]) (fun s_ w' => (w'.cell? ⟨gb242, 0, none⟩ = some (.bool false) ∧ w'.cell? ⟨gb242, 1, none⟩ = some (.slice A241_1 ((rd_T86 l0 x11_1).f1).length c241_1) ∧ w'.cell? ⟨gb242, 2, none⟩ = some (.int .u8 ((rd_T86 l0 x11_1).f2)) ∧ w'.cell? ⟨gb240, 0, none⟩ = some (.int .i64 a1_0) ∧ w'.cell? ⟨gb240, 1, none⟩ = some (.slice A1_1 l1_1.length c1_1)) ∧ (Kd.R (Kd.int .i64) 3 w' w.heap.size (fun k_ => (w.heap.size ≤ k_)) s_.1 t243) ∧ (Kd.V (Kd.slice 3 (Kd.int .i64)) 34 w' w.heap.size (fun k_ => (P1_1_ k_ ∨ w.heap.size ≤ k_) ∧ some k_ ≠ (s_.1 : Value).ownBlock ∧ some k_ ≠ (u5 : Value).ownBlock ∧ k_ ≠ gb240 ∧ k_ ≠ gb242 ∧ k_ ≠ s_.2) (.slice A1_1 l1_1.length c1_1) l1_1) ∧ (Kd.N k41 41 w' w.heap.size (fun k_ => (P1_1_ k_ ∨ w.heap.size ≤ k_) ∧ some k_ ≠ (s_.1 : Value).ownBlock ∧ k_ ≠ gb240 ∧ k_ ≠ gb242 ∧ k_ ≠ s_.2) u5 x5_1) ∧ (w'.heap[gb240]? = some (.cells #[.int .i64 a1_0, .slice A1_1 l1_1.length c1_1] 30 (0, 0))) ∧ (w'.heap[gb242]? = some (.cells #[.bool false, .slice A241_1 ((rd_T86 l0 x11_1).f1).length c241_1, .int .u8 ((rd_T86 l0 x11_1).f2)] 86 (0, 0))) ∧ (w'.heap[s_.2]? = some (.cells #[.bool false, .slice none 0 0] 41 (0, 0))) ∧ (w.heap.size ≤ s_.2) ∧ (w.heap.size ≤ s_.2) ∧ (gb240 ≠ s_.2) ∧ (s_.2 ≠ gb240) ∧ (gb242 ≠ s_.2) ∧ (s_.2 ≠ gb242) ∧ (Below w.heap.size w w')) ?_ ?_
                rotate_left
                · intro hCont
                  refine two_ (i := 6) (j := 8) (Ni := some 21) (Nj := some 8) #[true, true, true, true, true, true, true, false, false, false] #[true, true, true, true, true, true, false, false, true, false] rfl rfl rfl rfl (two_of HT_.out (by kernel_rfl)) (by decide) (by decide) (fun K hK => ?_) (fun K hK => ?_)
                  · skip
                    refine goes_ Tryz.func13 (by kernel_rfl) rfl #[.slice A241_1 ((rd_T86 l0 x11_1).f1).length c241_1, .int .i64 a1_0] (by rfl) rfl rfl (by (try simp only [List.map_toArray, List.map_cons, List.map_nil]); first | done | rfl | (simp only [List.length_drop, List.length_take]; rfl)) ?_
                    with_reducible refine (bradawllaw07_Lits.calls k1 _ _ ((rd_T86 l0 x11_1).f1) a1_0 t243 _ ?side1 ?side2 A7.out).mono ?_
                    (case side1 => repeat (first | exact (Kd.C_below HR241_1.out HB.out) | (with_reducible refine Kd.C_alloc ?_ _) | (with_reducible refine Kd.C_drewN ?_ _) | (with_reducible refine Kd.C_drew ?_)))
                    (case side2 => exact HC241_1.out)
                    rintro e w84 ⟨v244, rfl, ho0, hb⟩
                    refine ⟨_, rfl, ?_⟩
                    have n0_ := Aside0.mk (Kd.N_elder' (by (with_reducible repeat (first | apply Kd.N_alloc | apply Kd.N_drewN | apply Kd.N_drew)); exact HO_5.out) (Kd.R_base ho0) hb)
                    have n1_ := Aside0.mk (Kd.V_elder' (by (with_reducible repeat (first | apply Kd.V_alloc | apply Kd.V_drewN | apply Kd.V_drew)); exact HO_241001.out) (Kd.R_base ho0) hb)
                    have n2_ := Aside0.mk (Kd.R_lower (Kd.R_newM (M := fun k_ => (w.heap.size ≤ k_)) ho0 (below_size (by repeat (first | (with_reducible first | exact HB.out | apply below_alloc | apply pw_below_drewN | apply below_drew1 | refine below_set ?_ GE240.out | refine below_set ?_ GE242.out) | exact HB.out))) (fun k_ h_ => h_)) (below_size (by repeat (first | (with_reducible first | exact HB.out | apply below_alloc | apply pw_below_drewN | apply below_drew1 | refine below_set ?_ GE240.out | refine below_set ?_ GE242.out) | exact HB.out))))
                    have n3_ := Aside0.mk (blk_below (g := gb240) (o := .cells #[.int .i64 a1_0, .slice A1_1 l1_1.length c1_1] 30 (0, 0)) (by (with_reducible repeat (first | refine blk_drewN ?_ _ | refine blk_drew ?_ | refine blk_alloc ?_ _)); exact BK240.out) hb)
                    have n4_ := Aside0.mk (blk_below (g := gb242) (o := .cells #[.bool false, .slice A241_1 ((rd_T86 l0 x11_1).f1).length c241_1, .int .u8 ((rd_T86 l0 x11_1).f2)] 86 (0, 0)) (by (with_reducible repeat (first | refine blk_drewN ?_ _ | refine blk_drew ?_ | refine blk_alloc ?_ _)); exact BK242.out) hb)
                    have n5_ := Aside0.mk (below_step (by repeat (first | (with_reducible first | exact HB.out | apply below_alloc | apply pw_below_drewN | apply below_drew1 | refine below_set ?_ GE240.out | refine below_set ?_ GE242.out) | exact HB.out)) hb)
                    clear HO_5
                    clear HO_241001
                    clear BK240
                    clear BK242
                    clear HB
                    have HO_5 := n0_
                    have HO_241001 := n1_
                    have HO245 := n2_
                    have BK240 := n3_
                    have BK242 := n4_
                    have HB := n5_
                    clear n0_ n1_ n2_ n3_ n4_ n5_
                    (try clear hb)
                    (try clear hb2)
                    (try clear hk)
                    (try clear hi)
                    (try clear ho0)
                    obtain ⟨Ao85, co85, eo85⟩ := Kd.R_slice HO245.out
                    (first | subst eo85 | (injection eo85 with f1_ f2_ f3_; have f4_ := f1_.symm; have f5_ := f3_.symm; clear f1_ f2_ f3_; subst f4_; subst f5_))
                    refine hK.out _ _ ⟨(blk_cell BK242.out 0).trans rfl, (blk_cell BK242.out 1).trans rfl, (blk_cell BK242.out 2).trans rfl, (blk_cell BK240.out 0).trans rfl, (blk_cell BK240.out 1).trans rfl⟩ (fun hHeld => ?_)
                    clear hK K
                    refine norm_ (a' := ?_) ?_ ?_
                    rotate_left
                    · show Act.put _ (some 21) _ = _
                      simp only [Act.put, List.setIfInBounds_toArray, List.set_cons_zero, List.set_cons_succ, i64_w, i32_w]
                      rfl
                    refine pure_ (i := 7) (N := some 22) (v := ?_) (a' := ?_) #[true, true, true, true, true, true, true, true, false, false] rfl rfl (any_of HT_.out (by kernel_rfl)) (fun _ _ _ h => h) (Or.inl ⟨by rfl, ?_⟩) ?_ ?_
                    rotate_left
                    · intro w'
                      go_simp
                      with_reducible rfl
                    rotate_left
                    · simp only [Act.put, List.setIfInBounds_toArray, List.set_cons_zero, List.set_cons_succ, i64_w, i32_w]
                      rfl
                    refine one_ (i := 8) (N := some 8) #[true, true, true, true, true, true, true, true, true, false] rfl rfl (one_of HT_.out (by kernel_rfl)) (by decide) (fun K hK => ?_)
                    refine box_step ?hg (N := 8) ?hd (cs := #[.bool false, .slice none 0 0]) (t := 41) ?hr ?_; (case hd => rfl); (case hg => rfl); (case hr => first | (go_simp; done) | (go_simp; rfl))
                    intro gb246 hg w86 hbox hb
                    have n0_ := Aside0.mk (Kd.N_below (Kd.N_elderB (by (with_reducible repeat (first | apply Kd.N_alloc | apply Kd.N_drewN | apply Kd.N_drew)); exact HO_5.out) gb246 (Nat.le_of_eq hg.symm)) hb)
                    have n1_ := Aside0.mk (Kd.V_below (Kd.V_elderB (by (with_reducible repeat (first | apply Kd.V_alloc | apply Kd.V_drewN | apply Kd.V_drew)); exact HO_241001.out) gb246 (Nat.le_of_eq hg.symm)) hb)
                    have n2_ := Aside0.mk (Kd.R_below (by (with_reducible repeat (first | apply Kd.R_alloc | apply Kd.R_drewN | apply Kd.R_drew)); exact HO245.out) hb)
                    have n3_ := Aside0.mk (blk_below (g := gb240) (o := .cells #[.int .i64 a1_0, .slice A1_1 l1_1.length c1_1] 30 (0, 0)) (by (with_reducible repeat (first | refine blk_drewN ?_ _ | refine blk_drew ?_ | refine blk_alloc ?_ _)); exact BK240.out) hb)
                    have n4_ := Aside0.mk (blk_below (g := gb242) (o := .cells #[.bool false, .slice A241_1 ((rd_T86 l0 x11_1).f1).length c241_1, .int .u8 ((rd_T86 l0 x11_1).f2)] 86 (0, 0)) (by (with_reducible repeat (first | refine blk_drewN ?_ _ | refine blk_drew ?_ | refine blk_alloc ?_ _)); exact BK242.out) hb)
                    have n5_ := Aside0.mk (below_step (by repeat (first | (with_reducible first | exact HB.out | apply below_alloc | apply pw_below_drewN | apply below_drew1 | refine below_set ?_ GE240.out | refine below_set ?_ GE242.out) | exact HB.out)) hb)
                    have n6_ := Aside0.mk (hbox)
                    have n7_ := Aside0.mk ((by rw [hg]; exact (below_size (by repeat (first | (with_reducible first | exact HB.out | apply below_alloc | apply pw_below_drewN | apply below_drew1 | refine below_set ?_ GE240.out | refine below_set ?_ GE242.out) | exact HB.out))) : w.heap.size ≤ gb246))
                    have n8_ := Aside0.mk ((by rw [hg]; exact (below_size (by repeat (first | (with_reducible first | exact HB.out | apply below_alloc | apply pw_below_drewN | apply below_drew1 | refine below_set ?_ GE240.out | refine below_set ?_ GE242.out) | exact HB.out))) : w.heap.size ≤ gb246))
                    have n9_ := Aside0.mk ((by rw [hg]; exact Nat.ne_of_lt (blk_lt (g := gb240) (o := .cells #[.int .i64 a1_0, .slice A1_1 l1_1.length c1_1] 30 (0, 0)) (by (with_reducible repeat (first | refine blk_drewN ?_ _ | refine blk_drew ?_ | refine blk_alloc ?_ _)); exact BK240.out)) : gb240 ≠ gb246))
                    have n10_ := Aside0.mk ((by rw [hg]; exact Nat.ne_of_gt (blk_lt (g := gb240) (o := .cells #[.int .i64 a1_0, .slice A1_1 l1_1.length c1_1] 30 (0, 0)) (by (with_reducible repeat (first | refine blk_drewN ?_ _ | refine blk_drew ?_ | refine blk_alloc ?_ _)); exact BK240.out)) : gb246 ≠ gb240))
                    have n11_ := Aside0.mk ((by rw [hg]; exact Nat.ne_of_lt (blk_lt (g := gb242) (o := .cells #[.bool false, .slice A241_1 ((rd_T86 l0 x11_1).f1).length c241_1, .int .u8 ((rd_T86 l0 x11_1).f2)] 86 (0, 0)) (by (with_reducible repeat (first | refine blk_drewN ?_ _ | refine blk_drew ?_ | refine blk_alloc ?_ _)); exact BK242.out)) : gb242 ≠ gb246))
                    have n12_ := Aside0.mk ((by rw [hg]; exact Nat.ne_of_gt (blk_lt (g := gb242) (o := .cells #[.bool false, .slice A241_1 ((rd_T86 l0 x11_1).f1).length c241_1, .int .u8 ((rd_T86 l0 x11_1).f2)] 86 (0, 0)) (by (with_reducible repeat (first | refine blk_drewN ?_ _ | refine blk_drew ?_ | refine blk_alloc ?_ _)); exact BK242.out)) : gb246 ≠ gb242))
                    clear HO_5
                    clear HO_241001
                    clear HO245
                    clear BK240
                    clear BK242
                    clear HB
                    have HO_5 := n0_
                    have HO_241001 := n1_
                    have HO245 := n2_
                    have BK240 := n3_
                    have BK242 := n4_
                    have HB := n5_
                    have BK246 := n6_
                    have GW246 := n7_
                    have GE246 := n8_
                    have NB240_246 := n9_
                    have NB246_240 := n10_
                    have NB242_246 := n11_
                    have NB246_242 := n12_
                    clear n0_ n1_ n2_ n3_ n4_ n5_ n6_ n7_ n8_ n9_ n10_ n11_ n12_
                    clear hb hbox hg
                    refine hK.out _ _ ⟨(blk_cell BK242.out 0).trans rfl, (blk_cell BK242.out 1).trans rfl, (blk_cell BK242.out 2).trans rfl, (blk_cell BK240.out 0).trans rfl, (blk_cell BK240.out 1).trans rfl⟩ (fun hHeld => ?_)
                    clear hK K
                    refine norm_ (a' := ?_) ?_ ?_
                    rotate_left
                    · show Act.put _ (some 8) _ = _
                      simp only [Act.put, List.setIfInBounds_toArray, List.set_cons_zero, List.set_cons_succ, i64_w, i32_w]
                      rfl
                    exact norm_ (by simp only [putAll, Act.put, List.setIfInBounds_toArray, List.set_cons_zero, List.set_cons_succ]) (hCont (.slice Ao85 t243.length co85, gb246) _ ⟨hHeld, (by (with_reducible repeat (first | apply Kd.R_alloc | apply Kd.R_drewN | apply Kd.R_drew)); exact Kd.R_mono HO245.out (fun _ hk => hk.1)), (by (with_reducible repeat (first | apply Kd.V_alloc | apply Kd.V_drewN | apply Kd.V_drew)); exact Kd.V_mono HO_241001.out (fun _ hk => ⟨hk.1.1.1, ⟨hk.1.2, ⟨hk.1.1.2.1, ⟨hk.1.1.2.2.1, ⟨hk.1.1.2.2.2, hk.2⟩⟩⟩⟩⟩)), (by (with_reducible repeat (first | apply Kd.N_alloc | apply Kd.N_drewN | apply Kd.N_drew)); exact Kd.N_mono HO_5.out (fun _ hk => ⟨hk.1.1.1, ⟨hk.1.2, ⟨hk.1.1.2.1, ⟨hk.1.1.2.2, hk.2⟩⟩⟩⟩)), (by (with_reducible repeat (first | refine blk_drewN ?_ _ | refine blk_drew ?_ | refine blk_alloc ?_ _)); exact BK240.out), (by (with_reducible repeat (first | refine blk_drewN ?_ _ | refine blk_drew ?_ | refine blk_alloc ?_ _)); exact BK242.out), (by (with_reducible repeat (first | refine blk_drewN ?_ _ | refine blk_drew ?_ | refine blk_alloc ?_ _)); exact BK246.out), GW246.out, GE246.out, NB240_246.out, NB246_240.out, NB242_246.out, NB246_242.out, (by repeat (first | (with_reducible first | exact HB.out | apply below_alloc | apply pw_below_drewN | apply below_drew1 | refine below_set ?_ GE240.out | refine below_set ?_ GE242.out | refine below_set ?_ GE246.out) | exact HB.out))⟩)
                  · skip
                    refine box_step ?hg (N := 8) ?hd (cs := #[.bool false, .slice none 0 0]) (t := 41) ?hr ?_; (case hd => rfl); (case hg => rfl); (case hr => first | (go_simp; done) | (go_simp; rfl))
                    intro gb246 hg w84 hbox hb
                    have n0_ := Aside0.mk (Kd.N_below (Kd.N_elderB (by (with_reducible repeat (first | apply Kd.N_alloc | apply Kd.N_drewN | apply Kd.N_drew)); exact HO_5.out) gb246 (Nat.le_of_eq hg.symm)) hb)
                    have n1_ := Aside0.mk (Kd.V_below (Kd.V_elderB (by (with_reducible repeat (first | apply Kd.V_alloc | apply Kd.V_drewN | apply Kd.V_drew)); exact HO_241001.out) gb246 (Nat.le_of_eq hg.symm)) hb)
                    have n2_ := Aside0.mk (blk_below (g := gb240) (o := .cells #[.int .i64 a1_0, .slice A1_1 l1_1.length c1_1] 30 (0, 0)) (by (with_reducible repeat (first | refine blk_drewN ?_ _ | refine blk_drew ?_ | refine blk_alloc ?_ _)); exact BK240.out) hb)
                    have n3_ := Aside0.mk (blk_below (g := gb242) (o := .cells #[.bool false, .slice A241_1 ((rd_T86 l0 x11_1).f1).length c241_1, .int .u8 ((rd_T86 l0 x11_1).f2)] 86 (0, 0)) (by (with_reducible repeat (first | refine blk_drewN ?_ _ | refine blk_drew ?_ | refine blk_alloc ?_ _)); exact BK242.out) hb)
                    have n4_ := Aside0.mk (below_step (by repeat (first | (with_reducible first | exact HB.out | apply below_alloc | apply pw_below_drewN | apply below_drew1 | refine below_set ?_ GE240.out | refine below_set ?_ GE242.out) | exact HB.out)) hb)
                    have n5_ := Aside0.mk (hbox)
                    have n6_ := Aside0.mk ((by rw [hg]; exact (below_size (by repeat (first | (with_reducible first | exact HB.out | apply below_alloc | apply pw_below_drewN | apply below_drew1 | refine below_set ?_ GE240.out | refine below_set ?_ GE242.out) | exact HB.out))) : w.heap.size ≤ gb246))
                    have n7_ := Aside0.mk ((by rw [hg]; exact (below_size (by repeat (first | (with_reducible first | exact HB.out | apply below_alloc | apply pw_below_drewN | apply below_drew1 | refine below_set ?_ GE240.out | refine below_set ?_ GE242.out) | exact HB.out))) : w.heap.size ≤ gb246))
                    have n8_ := Aside0.mk ((by rw [hg]; exact Nat.ne_of_lt (blk_lt (g := gb240) (o := .cells #[.int .i64 a1_0, .slice A1_1 l1_1.length c1_1] 30 (0, 0)) (by (with_reducible repeat (first | refine blk_drewN ?_ _ | refine blk_drew ?_ | refine blk_alloc ?_ _)); exact BK240.out)) : gb240 ≠ gb246))
                    have n9_ := Aside0.mk ((by rw [hg]; exact Nat.ne_of_gt (blk_lt (g := gb240) (o := .cells #[.int .i64 a1_0, .slice A1_1 l1_1.length c1_1] 30 (0, 0)) (by (with_reducible repeat (first | refine blk_drewN ?_ _ | refine blk_drew ?_ | refine blk_alloc ?_ _)); exact BK240.out)) : gb246 ≠ gb240))
                    have n10_ := Aside0.mk ((by rw [hg]; exact Nat.ne_of_lt (blk_lt (g := gb242) (o := .cells #[.bool false, .slice A241_1 ((rd_T86 l0 x11_1).f1).length c241_1, .int .u8 ((rd_T86 l0 x11_1).f2)] 86 (0, 0)) (by (with_reducible repeat (first | refine blk_drewN ?_ _ | refine blk_drew ?_ | refine blk_alloc ?_ _)); exact BK242.out)) : gb242 ≠ gb246))
                    have n11_ := Aside0.mk ((by rw [hg]; exact Nat.ne_of_gt (blk_lt (g := gb242) (o := .cells #[.bool false, .slice A241_1 ((rd_T86 l0 x11_1).f1).length c241_1, .int .u8 ((rd_T86 l0 x11_1).f2)] 86 (0, 0)) (by (with_reducible repeat (first | refine blk_drewN ?_ _ | refine blk_drew ?_ | refine blk_alloc ?_ _)); exact BK242.out)) : gb246 ≠ gb242))
                    clear HO_5
                    clear HO_241001
                    clear BK240
                    clear BK242
                    clear HB
                    have HO_5 := n0_
                    have HO_241001 := n1_
                    have BK240 := n2_
                    have BK242 := n3_
                    have HB := n4_
                    have BK246 := n5_
                    have GW246 := n6_
                    have GE246 := n7_
                    have NB240_246 := n8_
                    have NB246_240 := n9_
                    have NB242_246 := n10_
                    have NB246_242 := n11_
                    clear n0_ n1_ n2_ n3_ n4_ n5_ n6_ n7_ n8_ n9_ n10_ n11_
                    clear hb hbox hg
                    refine hK.out _ _ ⟨(blk_cell BK242.out 0).trans rfl, (blk_cell BK242.out 1).trans rfl, (blk_cell BK242.out 2).trans rfl, (blk_cell BK240.out 0).trans rfl, (blk_cell BK240.out 1).trans rfl⟩ (fun hHeld => ?_)
                    clear hK K
                    refine norm_ (a' := ?_) ?_ ?_
                    rotate_left
                    · show Act.put _ (some 8) _ = _
                      simp only [Act.put, List.setIfInBounds_toArray, List.set_cons_zero, List.set_cons_succ, i64_w, i32_w]
                      rfl
                    refine one_ (i := 6) (N := some 21) #[true, true, true, true, true, true, true, false, true, false] rfl rfl (one_of HT_.out (by kernel_rfl)) (by decide) (fun K hK => ?_)
                    refine goes_ Tryz.func13 (by kernel_rfl) rfl #[.slice A241_1 ((rd_T86 l0 x11_1).f1).length c241_1, .int .i64 a1_0] (by rfl) rfl rfl (by (try simp only [List.map_toArray, List.map_cons, List.map_nil]); first | done | rfl | (simp only [List.length_drop, List.length_take]; rfl)) ?_
                    with_reducible refine (bradawllaw07_Lits.calls k1 _ _ ((rd_T86 l0 x11_1).f1) a1_0 t243 _ ?side1 ?side2 A7.out).mono ?_
                    (case side1 => repeat (first | exact (Kd.C_below HR241_1.out HB.out) | (with_reducible refine Kd.C_alloc ?_ _) | (with_reducible refine Kd.C_drewN ?_ _) | (with_reducible refine Kd.C_drew ?_)))
                    (case side2 => exact HC241_1.out)
                    rintro e w85 ⟨v244, rfl, ho0, hb⟩
                    refine ⟨_, rfl, ?_⟩
                    have n0_ := Aside0.mk (Kd.N_elder' (by (with_reducible repeat (first | apply Kd.N_alloc | apply Kd.N_drewN | apply Kd.N_drew)); exact HO_5.out) (Kd.R_base ho0) hb)
                    have n1_ := Aside0.mk (Kd.V_elder' (by (with_reducible repeat (first | apply Kd.V_alloc | apply Kd.V_drewN | apply Kd.V_drew)); exact HO_241001.out) (Kd.R_base ho0) hb)
                    have n2_ := Aside0.mk (Kd.R_lower (Kd.R_newM (M := fun k_ => (w.heap.size ≤ k_)) ho0 (below_size (by repeat (first | (with_reducible first | exact HB.out | apply below_alloc | apply pw_below_drewN | apply below_drew1 | refine below_set ?_ GE240.out | refine below_set ?_ GE242.out | refine below_set ?_ GE246.out) | exact HB.out))) (fun k_ h_ => h_)) (below_size (by repeat (first | (with_reducible first | exact HB.out | apply below_alloc | apply pw_below_drewN | apply below_drew1 | refine below_set ?_ GE240.out | refine below_set ?_ GE242.out | refine below_set ?_ GE246.out) | exact HB.out))))
                    have n3_ := Aside0.mk (blk_below (g := gb240) (o := .cells #[.int .i64 a1_0, .slice A1_1 l1_1.length c1_1] 30 (0, 0)) (by (with_reducible repeat (first | refine blk_drewN ?_ _ | refine blk_drew ?_ | refine blk_alloc ?_ _)); exact BK240.out) hb)
                    have n4_ := Aside0.mk (blk_below (g := gb242) (o := .cells #[.bool false, .slice A241_1 ((rd_T86 l0 x11_1).f1).length c241_1, .int .u8 ((rd_T86 l0 x11_1).f2)] 86 (0, 0)) (by (with_reducible repeat (first | refine blk_drewN ?_ _ | refine blk_drew ?_ | refine blk_alloc ?_ _)); exact BK242.out) hb)
                    have n5_ := Aside0.mk (blk_below (g := gb246) (o := .cells #[.bool false, .slice none 0 0] 41 (0, 0)) (by (with_reducible repeat (first | refine blk_drewN ?_ _ | refine blk_drew ?_ | refine blk_alloc ?_ _)); exact BK246.out) hb)
                    have n6_ := Aside0.mk (below_step (by repeat (first | (with_reducible first | exact HB.out | apply below_alloc | apply pw_below_drewN | apply below_drew1 | refine below_set ?_ GE240.out | refine below_set ?_ GE242.out | refine below_set ?_ GE246.out) | exact HB.out)) hb)
                    clear HO_5
                    clear HO_241001
                    clear BK240
                    clear BK242
                    clear BK246
                    clear HB
                    have HO_5 := n0_
                    have HO_241001 := n1_
                    have HO245 := n2_
                    have BK240 := n3_
                    have BK242 := n4_
                    have BK246 := n5_
                    have HB := n6_
                    clear n0_ n1_ n2_ n3_ n4_ n5_ n6_
                    (try clear hb)
                    (try clear hb2)
                    (try clear hk)
                    (try clear hi)
                    (try clear ho0)
                    obtain ⟨Ao86, co86, eo86⟩ := Kd.R_slice HO245.out
                    (first | subst eo86 | (injection eo86 with f1_ f2_ f3_; have f4_ := f1_.symm; have f5_ := f3_.symm; clear f1_ f2_ f3_; subst f4_; subst f5_))
                    refine hK.out _ _ ⟨(blk_cell BK242.out 0).trans rfl, (blk_cell BK242.out 1).trans rfl, (blk_cell BK242.out 2).trans rfl, (blk_cell BK240.out 0).trans rfl, (blk_cell BK240.out 1).trans rfl⟩ (fun hHeld => ?_)
                    clear hK K
                    refine norm_ (a' := ?_) ?_ ?_
                    rotate_left
                    · show Act.put _ (some 21) _ = _
                      simp only [Act.put, List.setIfInBounds_toArray, List.set_cons_zero, List.set_cons_succ, i64_w, i32_w]
                      rfl
                    refine pure_ (i := 7) (N := some 22) (v := ?_) (a' := ?_) #[true, true, true, true, true, true, true, true, true, false] rfl rfl (any_of HT_.out (by kernel_rfl)) (fun _ _ _ h => h) (Or.inl ⟨by rfl, ?_⟩) ?_ ?_
                    rotate_left
                    · intro w'
                      go_simp
                      with_reducible rfl
                    rotate_left
                    · simp only [Act.put, List.setIfInBounds_toArray, List.set_cons_zero, List.set_cons_succ, i64_w, i32_w]
                      rfl
                    exact norm_ (by simp only [putAll, Act.put, List.setIfInBounds_toArray, List.set_cons_zero, List.set_cons_succ]) (hCont (.slice Ao86 t243.length co86, gb246) _ ⟨hHeld, (by (with_reducible repeat (first | apply Kd.R_alloc | apply Kd.R_drewN | apply Kd.R_drew)); exact Kd.R_mono HO245.out (fun _ hk => hk.1)), (by (with_reducible repeat (first | apply Kd.V_alloc | apply Kd.V_drewN | apply Kd.V_drew)); exact Kd.V_mono HO_241001.out (fun _ hk => ⟨hk.1.1.1, ⟨hk.2, ⟨hk.1.1.2.1, ⟨hk.1.1.2.2.1, ⟨hk.1.1.2.2.2, hk.1.2⟩⟩⟩⟩⟩)), (by (with_reducible repeat (first | apply Kd.N_alloc | apply Kd.N_drewN | apply Kd.N_drew)); exact Kd.N_mono HO_5.out (fun _ hk => ⟨hk.1.1.1, ⟨hk.2, ⟨hk.1.1.2.1, ⟨hk.1.1.2.2, hk.1.2⟩⟩⟩⟩)), (by (with_reducible repeat (first | refine blk_drewN ?_ _ | refine blk_drew ?_ | refine blk_alloc ?_ _)); exact BK240.out), (by (with_reducible repeat (first | refine blk_drewN ?_ _ | refine blk_drew ?_ | refine blk_alloc ?_ _)); exact BK242.out), (by (with_reducible repeat (first | refine blk_drewN ?_ _ | refine blk_drew ?_ | refine blk_alloc ?_ _)); exact BK246.out), GW246.out, GE246.out, NB240_246.out, NB246_240.out, NB242_246.out, NB246_242.out, (by repeat (first | (with_reducible first | exact HB.out | apply below_alloc | apply pw_below_drewN | apply below_drew1 | refine below_set ?_ GE240.out | refine below_set ?_ GE242.out | refine below_set ?_ GE246.out) | exact HB.out))⟩)
                rintro ⟨v244, gb246⟩ w87 ⟨hS_, h0_, h1_, h2_, h3_, h4_, h5_, h6_, h7_, h8_, h9_, h10_, h11_, h12_⟩
                have n0_ : Aside0 (Kd.R (Kd.int .i64) 3 w87 w.heap.size (fun k_ => (w.heap.size ≤ k_)) v244 t243) := ⟨h0_⟩
                have n1_ : Aside0 (Kd.V (Kd.slice 3 (Kd.int .i64)) 34 w87 w.heap.size (fun k_ => (P1_1_ k_ ∨ w.heap.size ≤ k_) ∧ some k_ ≠ (v244 : Value).ownBlock ∧ some k_ ≠ (u5 : Value).ownBlock ∧ k_ ≠ gb240 ∧ k_ ≠ gb242 ∧ k_ ≠ gb246) (.slice A1_1 l1_1.length c1_1) l1_1) := ⟨h1_⟩
                have n2_ : Aside0 (Kd.N k41 41 w87 w.heap.size (fun k_ => (P1_1_ k_ ∨ w.heap.size ≤ k_) ∧ some k_ ≠ (v244 : Value).ownBlock ∧ k_ ≠ gb240 ∧ k_ ≠ gb242 ∧ k_ ≠ gb246) u5 x5_1) := ⟨h2_⟩
                have n3_ : Aside0 (w87.heap[gb240]? = some (.cells #[.int .i64 a1_0, .slice A1_1 l1_1.length c1_1] 30 (0, 0))) := ⟨h3_⟩
                have n4_ : Aside0 (w87.heap[gb242]? = some (.cells #[.bool false, .slice A241_1 ((rd_T86 l0 x11_1).f1).length c241_1, .int .u8 ((rd_T86 l0 x11_1).f2)] 86 (0, 0))) := ⟨h4_⟩
                have n5_ : Aside0 (w87.heap[gb246]? = some (.cells #[.bool false, .slice none 0 0] 41 (0, 0))) := ⟨h5_⟩
                have n6_ : Aside0 (w.heap.size ≤ gb246) := ⟨h6_⟩
                have n7_ : Aside0 (w.heap.size ≤ gb246) := ⟨h7_⟩
                have n8_ : Aside0 (gb240 ≠ gb246) := ⟨h8_⟩
                have n9_ : Aside0 (gb246 ≠ gb240) := ⟨h9_⟩
                have n10_ : Aside0 (gb242 ≠ gb246) := ⟨h10_⟩
                have n11_ : Aside0 (gb246 ≠ gb242) := ⟨h11_⟩
                have n12_ : Aside0 (Below w.heap.size w w87) := ⟨h12_⟩
                clear HO_5
                clear HO_241001
                clear BK240
                clear BK242
                clear HB
                clear h0_ h1_ h2_ h3_ h4_ h5_ h6_ h7_ h8_ h9_ h10_ h11_ h12_
                have HO245 := n0_
                have HO_241001 := n1_
                have HO_5 := n2_
                have BK240 := n3_
                have BK242 := n4_
                have BK246 := n5_
                have GW246 := n6_
                have GE246 := n7_
                have NB240_246 := n8_
                have NB246_240 := n9_
                have NB242_246 := n10_
                have NB246_242 := n11_
                have HB := n12_
                clear n0_ n1_ n2_ n3_ n4_ n5_ n6_ n7_ n8_ n9_ n10_ n11_ n12_
                have hHeld : w87.cell? ⟨gb242, 0, none⟩ = some (.bool false) ∧ w87.cell? ⟨gb242, 1, none⟩ = some (.slice A241_1 ((rd_T86 l0 x11_1).f1).length c241_1) ∧ w87.cell? ⟨gb242, 2, none⟩ = some (.int .u8 ((rd_T86 l0 x11_1).f2)) ∧ w87.cell? ⟨gb240, 0, none⟩ = some (.int .i64 a1_0) ∧ w87.cell? ⟨gb240, 1, none⟩ = some (.slice A1_1 l1_1.length c1_1) := hS_
                obtain ⟨Ao88, co88, eo88⟩ := Kd.R_slice HO245.out
                (first | subst eo88 | (injection eo88 with f1_ f2_ f3_; have f4_ := f1_.symm; have f5_ := f3_.symm; clear f1_ f2_ f3_; subst f4_; subst f5_))
                refine norm_ (a' := ?_) ?_ ?_
                rotate_left
                · simp only [putAll, Act.put, List.setIfInBounds_toArray, List.set_cons_zero, List.set_cons_succ]
                  rfl
                refine one_ (i := 9) (N := none) #[true, true, true, true, true, true, true, true, true, true] rfl rfl (one_of HT_.out (by kernel_rfl)) (by decide) (fun K hK => ?_)
                have hs89 : w87.cell? ⟨gb246, 0, none⟩ = some (.bool false) := (blk_cell BK246.out 0).trans rfl
                have hfs89 := blk_frozen BK246.out 0
                have hns89_0 := NB240_246.out
                have hns89_1 := NB242_246.out
                have hms89_0 := NB246_240.out
                have hms89_1 := NB246_242.out
                have hs90 : w87.cell? ⟨gb246, 1, none⟩ = some (.slice none 0 0) := (blk_cell BK246.out 1).trans rfl
                have hfs90 := blk_frozen BK246.out 1
                have hns90_0 := NB240_246.out
                have hns90_1 := NB242_246.out
                have hms90_0 := NB246_240.out
                have hms90_1 := NB246_242.out
                refine skip_ (w1 := ?_) (by rfl) rfl ?_ ?_
                rotate_left
                · go_simp
                  rfl
                refine hK.out _ _ ⟨((cell_far (p := ⟨gb246, _, none⟩) NB242_246.out _).trans (((cell_far (p := ⟨gb246, _, none⟩) NB242_246.out _).trans (hHeld.1)))), ((cell_far (p := ⟨gb246, _, none⟩) NB242_246.out _).trans (((cell_far (p := ⟨gb246, _, none⟩) NB242_246.out _).trans (hHeld.2.1)))), ((cell_far (p := ⟨gb246, _, none⟩) NB242_246.out _).trans (((cell_far (p := ⟨gb246, _, none⟩) NB242_246.out _).trans (hHeld.2.2.1)))), ((cell_far (p := ⟨gb246, _, none⟩) NB240_246.out _).trans (((cell_far (p := ⟨gb246, _, none⟩) NB240_246.out _).trans (hHeld.2.2.2.1)))), ((cell_far (p := ⟨gb246, _, none⟩) NB240_246.out _).trans (((cell_far (p := ⟨gb246, _, none⟩) NB240_246.out _).trans (hHeld.2.2.2.2))))⟩ (fun hHeld => ?_)
                clear hK K
                refine done_ (done_of HT_.out (by kernel_rfl)) ?_
                have n0_ : Aside0 (Kd.N k41 41 ((w87.setCell ⟨gb246, 0, none⟩ (.bool false)).setCell ⟨gb246, 1, none⟩ (.slice Ao88 t243.length co88)) w.heap.size (fun k_ => (P1_1_ k_ ∨ w.heap.size ≤ k_) ∧ some k_ ≠ (.slice Ao88 t243.length co88 : Value).ownBlock ∧ k_ ≠ gb240 ∧ k_ ≠ gb242 ∧ k_ ≠ gb246) u5 x5_1) := ⟨by (with_reducible repeat (first | apply Kd.N_alloc | apply Kd.N_drewN | apply Kd.N_drew)); exact Kd.N_mono (Kd.N_far (p := ⟨gb246, 1, none⟩) (Kd.N_far (p := ⟨gb246, 0, none⟩) (Kd.N_mono HO_5.out (fun k_ hk => (⟨hk, hk.2.2.2.2⟩ : _ ∧ k_ ≠ gb246))) (fun _ hk => hk.2) (.bool false)) (fun _ hk => hk.2) (.slice Ao88 t243.length co88)) (fun _ hk => ⟨hk.1.1, ⟨hk.1.2.1, ⟨hk.1.2.2.1, ⟨hk.1.2.2.2.1, hk.1.2.2.2.2⟩⟩⟩⟩)⟩
                have n1_ : Aside0 (Kd.V (Kd.slice 3 (Kd.int .i64)) 34 ((w87.setCell ⟨gb246, 0, none⟩ (.bool false)).setCell ⟨gb246, 1, none⟩ (.slice Ao88 t243.length co88)) w.heap.size (fun k_ => (P1_1_ k_ ∨ w.heap.size ≤ k_) ∧ some k_ ≠ (u5 : Value).ownBlock ∧ some k_ ≠ (.slice Ao88 t243.length co88 : Value).ownBlock ∧ k_ ≠ gb240 ∧ k_ ≠ gb242 ∧ k_ ≠ gb246) (.slice A1_1 l1_1.length c1_1) l1_1) := ⟨by (with_reducible repeat (first | apply Kd.V_alloc | apply Kd.V_drewN | apply Kd.V_drew)); exact Kd.V_mono (Kd.V_far (p := ⟨gb246, 1, none⟩) (Kd.V_far (p := ⟨gb246, 0, none⟩) (Kd.V_mono HO_241001.out (fun k_ hk => (⟨hk, hk.2.2.2.2.2⟩ : _ ∧ k_ ≠ gb246))) (fun _ hk => hk.2) (.bool false)) (fun _ hk => hk.2) (.slice Ao88 t243.length co88)) (fun _ hk => ⟨hk.1.1, ⟨hk.1.2.2.1, ⟨hk.1.2.1, ⟨hk.1.2.2.2.1, ⟨hk.1.2.2.2.2.1, hk.1.2.2.2.2.2⟩⟩⟩⟩⟩)⟩
                have n2_ : Aside0 (Kd.R (Kd.int .i64) 3 ((w87.setCell ⟨gb246, 0, none⟩ (.bool false)).setCell ⟨gb246, 1, none⟩ (.slice Ao88 t243.length co88)) w.heap.size (fun k_ => (w.heap.size ≤ k_)) (.slice Ao88 t243.length co88) t243) := ⟨by (with_reducible repeat (first | apply Kd.R_alloc | apply Kd.R_drewN | apply Kd.R_drew)); exact Kd.R_mono (Kd.R_far (p := ⟨gb246, 1, none⟩) (Kd.R_far (p := ⟨gb246, 0, none⟩) (Kd.R_types HO245.out BK246.out (by decide)) (fun _ hk => hk.2) (.bool false)) (fun _ hk => hk.2) (.slice Ao88 t243.length co88)) (fun _ hk => hk.1)⟩
                have n3_ : Aside0 (((w87.setCell ⟨gb246, 0, none⟩ (.bool false)).setCell ⟨gb246, 1, none⟩ (.slice Ao88 t243.length co88)).heap[gb240]? = some (.cells #[.int .i64 a1_0, .slice A1_1 l1_1.length c1_1] 30 (0, 0))) := ⟨by (with_reducible repeat (first | refine blk_drewN ?_ _ | refine blk_drew ?_ | refine blk_alloc ?_ _)); refine blk_far ?_ NB240_246.out _; (with_reducible repeat (first | refine blk_drewN ?_ _ | refine blk_drew ?_ | refine blk_alloc ?_ _)); refine blk_far ?_ NB240_246.out _; (with_reducible repeat (first | refine blk_drewN ?_ _ | refine blk_drew ?_ | refine blk_alloc ?_ _)); exact BK240.out⟩
                have n4_ : Aside0 (((w87.setCell ⟨gb246, 0, none⟩ (.bool false)).setCell ⟨gb246, 1, none⟩ (.slice Ao88 t243.length co88)).heap[gb242]? = some (.cells #[.bool false, .slice A241_1 ((rd_T86 l0 x11_1).f1).length c241_1, .int .u8 ((rd_T86 l0 x11_1).f2)] 86 (0, 0))) := ⟨by (with_reducible repeat (first | refine blk_drewN ?_ _ | refine blk_drew ?_ | refine blk_alloc ?_ _)); refine blk_far ?_ NB242_246.out _; (with_reducible repeat (first | refine blk_drewN ?_ _ | refine blk_drew ?_ | refine blk_alloc ?_ _)); refine blk_far ?_ NB242_246.out _; (with_reducible repeat (first | refine blk_drewN ?_ _ | refine blk_drew ?_ | refine blk_alloc ?_ _)); exact BK242.out⟩
                have n5_ : Aside0 (((w87.setCell ⟨gb246, 0, none⟩ (.bool false)).setCell ⟨gb246, 1, none⟩ (.slice Ao88 t243.length co88)).heap[gb246]? = some (.cells #[.bool false, .slice Ao88 t243.length co88] 41 (0, 0))) := ⟨by (with_reducible repeat (first | refine blk_drewN ?_ _ | refine blk_drew ?_ | refine blk_alloc ?_ _)); refine blk_put (cs := #[.bool false, .slice none 0 0]) ?_ 1 _ rfl; (with_reducible repeat (first | refine blk_drewN ?_ _ | refine blk_drew ?_ | refine blk_alloc ?_ _)); refine blk_put (cs := #[.bool false, .slice none 0 0]) ?_ 0 _ rfl; (with_reducible repeat (first | refine blk_drewN ?_ _ | refine blk_drew ?_ | refine blk_alloc ?_ _)); exact BK246.out⟩
                have n6_ : Aside0 (Below w.heap.size w ((w87.setCell ⟨gb246, 0, none⟩ (.bool false)).setCell ⟨gb246, 1, none⟩ (.slice Ao88 t243.length co88))) := ⟨by repeat (first | (with_reducible first | exact HB.out | apply below_alloc | apply pw_below_drewN | apply below_drew1 | refine below_set ?_ GE240.out | refine below_set ?_ GE242.out | refine below_set ?_ GE246.out) | exact HB.out)⟩
                (try clear HO_5)
                (try clear HO_241001)
                (try clear HO245)
                (try clear BK240)
                (try clear BK242)
                (try clear BK246)
                (try clear HB)
                generalize ((w87.setCell ⟨gb246, 0, none⟩ (.bool false)).setCell ⟨gb246, 1, none⟩ (.slice Ao88 t243.length co88)) = w91 at n0_ n1_ n2_ n3_ n4_ n5_ n6_ ⊢
                have HO_5 := n0_
                have HO_241001 := n1_
                have HO245 := n2_
                have BK240 := n3_
                have BK242 := n4_
                have BK246 := n5_
                have HB := n6_
                clear n0_ n1_ n2_ n3_ n4_ n5_ n6_
                have hnb92 := NB242_246.out
                have hnc92 := NB246_242.out
                have hcz93_0 : w91.cell? ⟨gb242, 0, none⟩ = some (.bool false) := (blk_cell BK242.out 0).trans rfl
                have hcz93_1 : w91.cell? ⟨gb242, 1, none⟩ = some (.slice A241_1 ((rd_T86 l0 x11_1).f1).length c241_1) := (blk_cell BK242.out 1).trans rfl
                have hcz93_2 : w91.cell? ⟨gb242, 2, none⟩ = some (.int .u8 ((rd_T86 l0 x11_1).f2)) := (blk_cell BK242.out 2).trans rfl
                have hfz93_0 := blk_frozen BK242.out 0
                have hfz93_1 := blk_frozen BK242.out 1
                have hfz93_2 := blk_frozen BK242.out 2
                have hnb94 := NB246_240.out
                have hnc94 := NB240_246.out
                have hcz95_0 : w91.cell? ⟨gb246, 0, none⟩ = some (.bool false) := (blk_cell BK246.out 0).trans rfl
                have hcz95_1 : w91.cell? ⟨gb246, 1, none⟩ = some (.slice Ao88 t243.length co88) := (blk_cell BK246.out 1).trans rfl
                have hfz95_0 := blk_frozen BK246.out 0
                have hfz95_1 := blk_frozen BK246.out 1
                try go_wp2_with (first | ((with_reducible refine gate_builtin (b := .append) (xs := #[.tmp 50, .tmp 52]) rfl ?_); (try (refine gate_guard (by rfl) ?_; dsimp only)); at_builtin; refine Kd.N_append k41 (w0 := w) w.heap.size rfl (.tmp 50) (.tmp 52) 39 41 (.agg #[(.bool false), (.slice none 0 0)]) 32 rfl Tryz.underlying39 info41 rfl (by decide) (by omega) u5 x5_1 (⟨false, t243⟩ : S41) [.bool false, .slice Ao88 t243.length co88] (fun k_ => (P1_1_ k_ ∨ w.heap.size ≤ k_) ∧ k_ ≠ gb240 ∧ k_ ≠ gb242 ∧ k_ ≠ gb246) (fun k_ => ((fun k_ => (P1_1_ k_ ∨ w.heap.size ≤ k_) ∧ k_ ≠ gb240 ∧ k_ ≠ gb242 ∧ k_ ≠ gb246)) k_ ∧ some k_ ≠ (u5 : Value).ownBlock) rfl rfl ?aP (fun _ hk => hk) ?aF ?aO ?aB ?aS ?aL ?_; (case aP => exact (k41_mkF _ _ (⟨false, t243⟩ : S41) (Kd.R_reads' (Kd.R_mono (ok' := (fun k_ => ((fun k_ => (P1_1_ k_ ∨ w.heap.size ≤ k_) ∧ k_ ≠ gb240 ∧ k_ ≠ gb242 ∧ k_ ≠ gb246)) k_ ∧ some k_ ≠ (u5 : Value).ownBlock)) (Kd.R_types (Kd.R_types (Kd.R_types (Kd.R_apart' (HO245.out) (Kd.N_typed HO_5.out) (by decide)) BK240.out (by decide)) BK242.out (by decide)) BK246.out (by decide)) (fun k_ hk => ⟨⟨(.inr (hk.1.1.1.1)), ⟨hk.1.1.2, ⟨hk.1.2, hk.2⟩⟩⟩, hk.1.1.1.2⟩))).2.1 (Kd.R_F (Kd.R_mono (ok' := (fun k_ => ((fun k_ => (P1_1_ k_ ∨ w.heap.size ≤ k_) ∧ k_ ≠ gb240 ∧ k_ ≠ gb242 ∧ k_ ≠ gb246)) k_ ∧ some k_ ≠ (u5 : Value).ownBlock)) (Kd.R_types (Kd.R_types (Kd.R_types (Kd.R_apart' (HO245.out) (Kd.N_typed HO_5.out) (by decide)) BK240.out (by decide)) BK242.out (by decide)) BK246.out (by decide)) (fun k_ hk => ⟨⟨(.inr (hk.1.1.1.1)), ⟨hk.1.1.2, ⟨hk.1.2, hk.2⟩⟩⟩, hk.1.1.1.2⟩))))); (case aB => exact (by repeat (first | (with_reducible first | exact HB.out | apply below_alloc | apply pw_below_drewN | apply below_drew1 | refine below_set ?_ GE240.out | refine below_set ?_ GE242.out | refine below_set ?_ GE246.out) | exact HB.out))); (case aF => exact (fun k_ hk => ⟨(.inr (Nat.le_trans (below_size (by repeat (first | (with_reducible first | exact HB.out | apply below_alloc | apply pw_below_drewN | apply below_drew1 | refine below_set ?_ GE240.out | refine below_set ?_ GE242.out | refine below_set ?_ GE246.out) | exact HB.out))) hk)), Kd.freshB (g := gb240) (o := .cells #[.int .i64 a1_0, .slice A1_1 l1_1.length c1_1] 30 (0, 0)) (by (with_reducible repeat (first | refine blk_drewN ?_ _ | refine blk_drew ?_ | refine blk_alloc ?_ _)); exact BK240.out) k_ hk, Kd.freshB (g := gb242) (o := .cells #[.bool false, .slice A241_1 ((rd_T86 l0 x11_1).f1).length c241_1, .int .u8 ((rd_T86 l0 x11_1).f2)] 86 (0, 0)) (by (with_reducible repeat (first | refine blk_drewN ?_ _ | refine blk_drew ?_ | refine blk_alloc ?_ _)); exact BK242.out) k_ hk, Kd.freshB (g := gb246) (o := .cells #[.bool false, .slice Ao88 t243.length co88] 41 (0, 0)) (by (with_reducible repeat (first | refine blk_drewN ?_ _ | refine blk_drew ?_ | refine blk_alloc ?_ _)); exact BK246.out) k_ hk⟩)); (case aO => exact (by (with_reducible repeat (first | apply Kd.N_alloc | apply Kd.N_drewN | apply Kd.N_drew)); exact Kd.N_mono HO_5.out (fun _ hk => ⟨hk.1, ⟨hk.2.2.1, ⟨hk.2.2.2.1, hk.2.2.2.2⟩⟩⟩))); (case aS => exact (below_size (by repeat (first | (with_reducible first | exact HB.out | apply below_alloc | apply pw_below_drewN | apply below_drew1 | refine below_set ?_ GE240.out | refine below_set ?_ GE242.out | refine below_set ?_ GE246.out) | exact HB.out)))); (case aL => have := LMc78.out; omega); intro v258 w96 ho hb hg hat; rw [← Ny257.out] at ho; have n0_ := Aside0.mk (Kd.V_afterv (ok := (fun k_ => (P1_1_ k_ ∨ w.heap.size ≤ k_) ∧ some k_ ≠ (.slice Ao88 t243.length co88 : Value).ownBlock ∧ k_ ≠ gb240 ∧ k_ ≠ gb242 ∧ k_ ≠ gb246)) (by (with_reducible repeat (first | apply Kd.V_alloc | apply Kd.V_drewN | apply Kd.V_drew)); exact Kd.V_mono HO_241001.out (fun _ hk => ⟨⟨hk.1, ⟨hk.2.2.1, ⟨hk.2.2.2.1, ⟨hk.2.2.2.2.1, hk.2.2.2.2.2⟩⟩⟩⟩, hk.2.1⟩)) hg hat); have n1_ := Aside0.mk (blk_grown (g := gb240) (o := .cells #[.int .i64 a1_0, .slice A1_1 l1_1.length c1_1] 30 (0, 0)) (by (with_reducible repeat (first | refine blk_drewN ?_ _ | refine blk_drew ?_ | refine blk_alloc ?_ _)); exact BK240.out) hg (Kd.N_ne HO_5.out BK240.out (by decide))); have n2_ := Aside0.mk (blk_grown (g := gb242) (o := .cells #[.bool false, .slice A241_1 ((rd_T86 l0 x11_1).f1).length c241_1, .int .u8 ((rd_T86 l0 x11_1).f2)] 86 (0, 0)) (by (with_reducible repeat (first | refine blk_drewN ?_ _ | refine blk_drew ?_ | refine blk_alloc ?_ _)); exact BK242.out) hg (Kd.N_ne HO_5.out BK242.out (by decide))); have n3_ := Aside0.mk (blk_grown (g := gb246) (o := .cells #[.bool false, .slice Ao88 t243.length co88] 41 (0, 0)) (by (with_reducible repeat (first | refine blk_drewN ?_ _ | refine blk_drew ?_ | refine blk_alloc ?_ _)); exact BK246.out) hg (Kd.N_away HO_5.out (fun _ hk => hk.2.2.2.2))); have n4_ := Aside0.mk (hb); have n5_ := Aside0.mk (ho); clear HO_241001; clear BK240; clear BK242; clear BK246; clear HB; clear HO_5; clear HO245; have HO_241001 := n0_; have BK240 := n1_; have BK242 := n2_; have BK246 := n3_; have HB := n4_; have HO259 := n5_; clear n0_ n1_ n2_ n3_ n4_ n5_; clear ho hb hg hat))
                go_roundg k1
                case measure => have := HK1.out; omega
                case rel => exact ⟨(y257), (wrap64 (x11_1 + 1)), (by first | rfl | (simp; done) | (simp [*]; done)), H', ⟨by have := HK1.out; omega⟩, ⟨by (with_reducible repeat (first | apply Kd.N_alloc | apply Kd.N_drewN | apply Kd.N_drew)); exact Kd.N_mono HO259.out (fun _ hk => ⟨hk.1, hk.2.1⟩)⟩, ⟨by (with_reducible repeat (first | apply Kd.V_alloc | apply Kd.V_drewN | apply Kd.V_drew)); exact Kd.V_mono HO_241001.out (fun _ hk => ⟨hk.1.1, ⟨hk.2, hk.1.2.2.1⟩⟩)⟩, ⟨by (with_reducible repeat (first | refine blk_drewN ?_ _ | refine blk_drew ?_ | refine blk_alloc ?_ _)); exact BK240.out⟩, ⟨by repeat (first | (with_reducible first | exact HB.out | apply below_alloc | apply pw_below_drewN | apply below_drew1 | refine below_set ?_ GE240.out | refine below_set ?_ GE242.out | refine below_set ?_ GE246.out) | exact HB.out)⟩⟩
              · rw [if_neg c78] at H
                exact absurd H (by simp)
          · rw [if_neg c6] at H
            exact absurd H (by simp)
        · rw [if_neg c5] at H
          exact absurd H (by simp)
      · rw [if_neg c4] at H
        have c4b0 : decide (x11_1 < (l0.length : Int)) = false := decide_eq_false c4
        clear c4
        obtain rfl := Option.some.inj H
        go_wp2
        go_ret
        exact ⟨_, by first | rfl | (simp [errW_none, errW_some] <;> rfl) | (simp [*, errW_none, errW_some] <;> rfl), by (with_reducible repeat (first | apply Kd.N_alloc | apply Kd.N_drewN | apply Kd.N_drew)); exact Kd.N_mono HO_5.out (fun _ hk => hk.1), by repeat (first | (with_reducible first | exact HB.out | apply below_alloc | apply pw_below_drewN | apply below_drew1 | refine below_set ?_ GE240.out) | exact HB.out)⟩

end Go.Proofs.YtcblijcalhaffaaGreatDoor.PCheckSound
