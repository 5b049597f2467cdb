import Derived.Test.YtonipjaiaklpaaaFit12
import Derived.Test.YtonipjaiaklpaaaTrailW
import Derived.WalkArith
namespace Go.Proofs.Ytonipjaiaklpaaa
open Go.RowKit

theorem TrS.wf {γ : Tags} {w : World} {p : Tag} {b : Nat} {s : TrailS} (H : TrS p b s γ w) : TWf s := let ⟨_, _, _, _, A⟩ := H; A.wf

/-- The law's trail, and what is known of it. -/
structure Lv (W : World) (b : Nat) (s : TrailS) (n : Nat) (γ : Tags) (w : World) : Prop where
  st : St (fun _ => [1]) W [[0]] [0, 0] b s γ w
  n : s.n = n
  ph : PhaseOk s

theorem Lv.drewN {W : World} {b n : Nat} {s : TrailS} {γ : Tags} {w : World} (H : Lv W b s n γ w) (k : Nat) : Lv W b s n γ (w.drewN k) := ⟨H.st.drewN k, H.n, H.ph⟩

theorem Lv.turn {W : World} {b n : Nat} {s : TrailS} {γ γ' : Tags} {w w' : World} {ps : List Tag} (H : Lv W b s n γ w) (T : Turn γ γ' w w' ps) (hp : ∀ x, ¬ Under ps ([0, 0] ++ x)) (h0 : ∀ q ∈ ps, Under [[0]] q) : Lv W b s n γ' w' :=
  ⟨⟨H.st.tr.turn T hp, H.st.turn.trans (T.to h0)⟩, H.n, H.ph⟩

theorem Turn.below {γ : Tags} {W w : World} (T : Turn (fun _ => [1]) γ W w [[0]]) : Below W.heap.size W w := ⟨T.os, T.tape, T.output, T.size, fun k hk => T.block k hk (by simp)⟩

/-- An input's cell stays. -/
theorem Turn.old {γ : Tags} {W w : World} (T : Turn (fun _ => [1]) γ W w [[0]]) {a : Addr} {v : Value} (h : W.cell? a = some v) : w.cell? a = some v := by
  have hlt := World.block_lt_of_cell? W a h
  rw [World.cell?_of_block (w := W) (T.block a.block hlt (by simp))]
  exact h

/-- Behind the way back: the trail, what was kept, what went. -/
structure Ah (W : World) (b : Nat) (s : TrailS) (kp gl : List Int) (a : Option Addr) (cap : Nat) (ga : Option Addr) (gcap : Nat) (γ : Tags) (w : World) : Prop where
  st : St (fun _ => [1]) W [[0]] [0, 0] b s γ w
  kept : Row γ w [0, 2] 3 1 a kp.length cap (ints kp)
  gone : Row γ w [0, 3] 3 1 ga gl.length gcap (ints gl)

theorem Ah.drewN {W : World} {b : Nat} {s : TrailS} {kp gl : List Int} {a : Option Addr} {cap : Nat} {ga : Option Addr} {gcap : Nat} {γ : Tags} {w : World} (H : Ah W b s kp gl a cap ga gcap γ w) (k : Nat) : Ah W b s kp gl a cap ga gcap γ (w.drewN k) :=
  ⟨H.st.drewN k, H.kept.drewN k, H.gone.drewN k⟩

set_option maxRecDepth 100000 in
set_option maxHeartbeats 4000000 in
theorem levels_any (W : World) (vars : Nat) (hv : vars < 256) (a0 : Option Addr) (len cap : Nat) (to : Int) (hcap : len ≤ maxLen)
    (ha : 0 < len → ∃ bb off, a0 = some ⟨bb, off, none⟩ ∧ ∀ i, i < len → ∃ (K : Nat) (L R : Int), W.cell? ⟨bb, off + i * 3, none⟩ = some (.int .u8 K) ∧ W.cell? ⟨bb, off + i * 3 + 1, none⟩ = some (.int .i64 L) ∧ W.cell? ⟨bb, off + i * 3 + 2, none⟩ = some (.int .i64 R)) :
    Calls Try.prog 3 #[.int .u8 vars, .slice a0 len cap, .int .i64 to] W fun e w' => e = .returned (.bool true) ∧ Below W.heap.size W w' := by
  unfold maxLen at hcap
  have C0 := fit12 (fun _ => [1]) W [0]
  go_enter Try.func3, Try.ntmps3
  go_wp2_with fail
  refine C0.mono ?_
  clear C0
  rintro e w1 ⟨rfl, γ1, T1⟩
  by_cases hlen : 100 < len
  · go_wp2
    go_ret
    exact ⟨rfl, T1.below⟩
  · go_wp2_with fail
    have hn12 : ((vars : Int) % 12) = ((vars % 12 : Nat) : Int) := by omega
    have hn11 : vars % 12 ≤ 11 := by omega
    rw [hn12]
    clear hn12
    generalize vars % 12 = n at *
    refine (s_new γ1 w1 [0, 0] n (by omega)).mono ?_
    rintro e w2 ⟨v, γ2, rfl, ⟨b, rfl, H1, _⟩, T2⟩
    have H : Lv W b (TrailS.new n) n γ2 w2 := ⟨⟨H1, T1.trans (T2.to (by simp))⟩, rfl, PhaseOk.new n⟩
    clear H1 T1 T2
    go_wp2_with fail
    go_loopw [32] (fun v wr => ∃ (k : Nat) (s : TrailS) (γ : Tags), k ≤ len ∧ v = .int .i64 k ∧ Lv W b s n γ wr) (fun v _ => len - (intOf v).toNat)
    case atStart => exact ⟨0, _, γ2, Nat.zero_le _, rfl, H⟩
    case round =>
      obtain ⟨k, s, γ, hk, rfl, Hk⟩ := hrel
      clear H
      by_cases hkl : k < len
      · obtain ⟨bb, off, rfl, hc⟩ := ha (by omega)
        obtain ⟨K, L, R, c0, c1, c2⟩ := hc k hkl
        have d0 := Hk.st.turn.old c0
        have d1 := Hk.st.turn.old c1
        have d2 := Hk.st.turn.old c2
        clear c0 c1 c2 hc ha
        go_wp2_with (first | (go_at_call 10; refine (s_put (Hk.st.tr.alloc _) _ _).mono ?_; rintro e w3 ⟨rfl, γ3, H3, T3⟩) | (go_at_call 11; refine (s_decide (Hk.st.tr.alloc _) _).mono ?_; rintro e w3 ⟨rfl, γ3, H3, T3⟩))
        · go_roundw
          case rel => exact ⟨k + 1, _, γ3, by omega, by go_num, ⟨⟨H3, (Hk.st.turn.alloc _).trans (T3.to (by simp))⟩, by rw [put_n]; exact Hk.n, Hk.ph.put Hk.st.tr.wf _ _⟩⟩
          case measure => simp [intOf]; omega
        · go_roundw
          case rel => exact ⟨k + 1, _, γ3, by omega, by go_num, ⟨⟨H3, (Hk.st.turn.alloc _).trans (T3.to (by simp))⟩, by rw [decide_n]; exact Hk.n, Hk.ph.decides Hk.st.tr.wf _⟩⟩
          case measure => simp [intOf]; omega
      · obtain rfl : k = len := by omega
        clear ha
        have hst := Hk.st.tr.len
        have hlev := Hk.st.tr.lev
        rw [Hk.n] at hst
        go_wp2_with (go_at_call 12; refine (still (s_len Hk.st.tr) Hk.drewN).mono ?_; rintro e w4 ⟨rfl, H4⟩)
        clear Hk
        obtain ⟨i0, ii⟩ := Try.infoInt
        go_loopw [11, 53] (fun v11 v53 wr => ∃ (i : Nat) (γ : Tags) (a : Option Addr) (cap : Nat), i ≤ s.steps.length ∧ v53 = .int .i64 i ∧ v11 = .slice a (keptTo s to i).length cap ∧ Lv W b s n γ wr ∧ Row γ wr [0, 2] 3 1 a (keptTo s to i).length cap (ints (keptTo s to i))) (fun _ v _ => s.steps.length - (intOf v).toNat)
        case atStart => exact ⟨0, γ, none, 0, Nat.zero_le _, rfl, rfl, H4, Row.nil _ _ _ _ _⟩
        case round =>
          obtain ⟨i, γ, a, cap, hi, rfl, rfl, H, R⟩ := hrel
          clear H4
          by_cases hil : i < s.steps.length
          · have hx := List.getElem?_eq_getElem hil
            generalize s.steps[i] = x at hx
            have wf := H.st.tr.wf
            have hat := wf.at_ hx
            have hlv := wf.levelOf_ hx rfl
            have hks := keptTo_succ to hx
            have hkl := keptTo_len (s := s) to i
            have Hat := Lib.hid hat
            have Hlv := Lib.hid hlv
            have Hks := Lib.hid hks
            clear hat hlv hks hx
            go_wp2_with (first
              | (go_at_call 14; have C := still (s_at H.st.tr i) (R := fun w' => Lv W b s n γ w' ∧ Row γ w' [0, 2] 3 1 a (keptTo s to i).length cap (ints (keptTo s to i))) (fun m => ⟨H.drewN m, R.drewN m⟩); rw [Hat.out] at C; refine C.mono ?_; clear C H R; rintro e w5 ⟨rfl, H, R⟩)
              | (go_at_call 13; have C := still (s_levelOf H.st.tr x.l) (R := fun w' => Lv W b s n γ w' ∧ Row γ w' [0, 2] 3 1 a (keptTo s to i).length cap (ints (keptTo s to i))) (fun m => ⟨H.drewN m, R.drewN m⟩); rw [Hlv.out] at C; refine C.mono ?_; clear C H R; rintro e w5 ⟨rfl, H, R⟩)
              | (at_builtin; refine wpList_append_one _ rfl _ _ 30 rfl 3 i0 (.int .i64 0) 8 Try.underlying30 ii rfl a cap (keptTo s to i).length (ints (keptTo s to i)) rfl R (.int .i64 x.l) rfl rfl (by unfold maxLen; omega) (by omega) ?_; intro γ6 g6 cap6 w6 R6 T6))
            · have hle : x.level ≤ max to 0 := by omega
              have e := Hks.out
              rw [if_pos hle] at e
              have e1 : ints (keptTo s to i) ++ [Value.int .i64 x.l] = ints (keptTo s to (i + 1)) := by rw [e]; simp [ints]
              have e2 : (keptTo s to i).length + 1 = (keptTo s to (i + 1)).length := by rw [e]; simp
              rw [e1, e2] at R6
              rw [e2]
              go_roundw
              case rel => exact ⟨i + 1, γ6, _, cap6, by omega, by go_num, rfl, H.turn T6 (by simp) (by simp), R6⟩
              case measure => simp [intOf]; omega
            · have hle : ¬ x.level ≤ max to 0 := by omega
              have e := Hks.out
              rw [if_neg hle, List.append_nil] at e
              go_roundw
              case rel => exact ⟨i + 1, γ, a, cap, by omega, by go_num, by rw [e], H, by rw [e]; exact R⟩
              case measure => simp [intOf]; omega
          · obtain rfl : i = s.steps.length := by omega
            have wf := H.st.tr.wf
            have hall := keptTo_all wf to
            have hglen := wf.gone_len to
            have hblev := back_level (s := s) to
            have hbst : (keptTo s to s.steps.length).length = (s.back to).steps.length := by rw [hall]; simp
            generalize keptTo s to s.steps.length = kp at *
            generalize hsb : s.back to = sb at *
            have Hall := Lib.hid hall
            have Hglen := Lib.hid hglen
            have Hblev := Lib.hid hblev
            have Hbst := Lib.hid hbst
            have Hsb := Lib.hid hsb
            clear hall hglen hblev hbst hsb
            go_wp2_with (first
              | (go_at_call 12; have C := still (s_len H.st.tr) (R := fun w' => Lv W b s n γ w' ∧ Row γ w' [0, 2] 3 1 a kp.length cap (ints kp)) (fun m => ⟨H.drewN m, R.drewN m⟩); refine C.mono ?_; clear C H R; rintro e w5 ⟨rfl, H, R⟩)
              | (go_at_call 15; have C := still (s_level H.st.tr) (R := fun w' => Lv W b s n γ w' ∧ Row γ w' [0, 2] 3 1 a kp.length cap (ints kp)) (fun m => ⟨H.drewN m, R.drewN m⟩); refine C.mono ?_; clear C H R; rintro e w5 ⟨rfl, H, R⟩))
            refine (s_back (q := [0, 3]) H.st.tr (by simp) (by simp) to).mono ?_
            rintro e w6 ⟨_, γ6, rfl, ⟨ga, gcap, rfl, GR, H6⟩, T6⟩
            have hph := H.ph
            have hnn := H.n
            have wf := H.st.tr.wf
            have Q : Ah W b sb kp (s.gone to) a cap ga gcap γ6 w6 := ⟨⟨Hsb.out ▸ H6, H.st.turn.trans (T6.to (by simp))⟩, R.turn T6 (by simp), GR⟩
            have t1 : ((sb.steps.length : Int) != (kp.length : Int)) = false := by simp [Hbst.out]
            have t2 : (((s.gone to).length : Int) + (kp.length : Int) != (s.steps.length : Int)) = false := by
              have := Hglen.out; have := Hbst.out; rw [Hsb.out] at *; simp; omega
            have t3 : ((sb.level : Int) != if (s.level : Int) < if to < 0 then 0 else to then (s.level : Int) else if to < 0 then 0 else to) = false := by
              have := Hblev.out
              simp only [bne_eq_false_iff_eq]
              split <;> split at * <;> omega
            have hgl : (s.gone to).length ≤ 100 := by have := Hglen.out; omega
            have hkl2 : kp.length ≤ 100 := by have := Hglen.out; have := Hbst.out; rw [Hsb.out] at *; omega
            have hnph := hnn
            clear H R H6 T6 GR
            generalize hgl2 : s.gone to = gl at *
            have Hgl := Lib.hid hgl2
            clear hgl2
            go_wp2_with (first
              | (go_at_call 12; have C := still (s_len Q.st.tr) Q.drewN; refine C.mono ?_; clear C Q; rintro e w7 ⟨rfl, Q⟩)
              | (go_at_call 15; have C := still (s_level Q.st.tr) Q.drewN; refine C.mono ?_; clear C Q; rintro e w7 ⟨rfl, Q⟩))
            all_goals
              clear t1 t2 t3
              have hsl : sb.steps.length ≤ s.steps.length := by have := Hglen.out; omega
              go_loopw [103] (fun v wr => ∃ i : Nat, i ≤ kp.length ∧ v = .int .i64 i ∧ Ah W b sb kp gl a cap ga gcap γ6 wr) (fun v _ => kp.length - (intOf v).toNat)
              case atStart => exact ⟨0, Nat.zero_le _, rfl, Q⟩
              case round =>
                obtain ⟨i, hi, rfl, H⟩ := hrel
                clear Q
                by_cases hik : i < kp.length
                · obtain ⟨g, rfl⟩ := H.kept.pos (by omega)
                  have hcell := H.kept.cell (ints_get kp i hik)
                  have hsx := List.getElem?_eq_getElem (l := sb.steps) (i := i) (by have := Hbst.out; omega)
                  have hat := H.st.tr.wf.at_ hsx
                  have hxe : (sb.steps[i]'(by have := Hbst.out; omega)).l = kp[i] := by simp [Hall.out]
                  rw [hxe] at hat
                  have C := still (s_at H.st.tr i) H.drewN
                  rw [hat] at C
                  clear hsx hat hxe
                  generalize kp[i] = x at *
                  go_wp2_with (go_at_call 14; refine C.mono ?_; clear C; rintro e w7 ⟨rfl, H7⟩)
                  go_roundw
                  case rel => exact ⟨i + 1, by omega, by go_num, H7⟩
                  case measure => simp [intOf]; omega
                · obtain rfl : i = kp.length := by omega
                  clear hil
                  go_wp2_with fail
                  go_loopw [116] (fun v wr => ∃ j : Nat, j ≤ gl.length ∧ v = .int .i64 j ∧ Ah W b sb kp gl a cap ga gcap γ6 wr) (fun v _ => gl.length - (intOf v).toNat)
                  case atStart => exact ⟨0, Nat.zero_le _, rfl, H⟩
                  case round =>
                    obtain ⟨j, hj, rfl, H2⟩ := hrel
                    clear H
                    by_cases hjk : j < gl.length
                    · obtain ⟨g, rfl⟩ := H2.gone.pos (by omega)
                      have hcell := H2.gone.cell (ints_get gl j hjk)
                      have hxg : gl[j] ∈ s.gone to := Hgl.out ▸ List.getElem_mem hjk
                      generalize gl[j] = x at *
                      obtain ⟨hv0, y, hy, rfl⟩ := wf.gone_value to hxg
                      have hsm := wf.small hy
                      have hnz := wf.nz hy
                      have hphy := hph y hy
                      have hry := wf.right y hy
                      have hsbn : sb.n = s.n := by rw [← Hsb.out]; exact back_n to
                      have hsbp : sb.phase = s.phase := by rw [← Hsb.out]; exact back_phase to
                      have hp1 : sb.phaseOf (litVar y.l) = decide (0 < y.l) := by
                        have h1 := litVar_pos hry
                        have h2 : litVar (litVar y.l) = litVar y.l := litVar_idem y.l
                        have h3 : vix (litVar y.l) = vix y.l := by unfold vix; rw [h2]
                        have h4 : rightB (litVar y.l) s.n = true := rightB_of_litVar h2.symm hry
                        have h5 : 0 < litVar y.l := by omega
                        simp [TrailS.phaseOf, hsbn, hsbp, h3, h4, h5, hphy]
                      rw [Hsb.out] at hv0
                      have C1 := still (s_value H2.st.tr y.l) H2.drewN
                      rw [hv0] at C1
                      clear hv0 hphy hry hsbn hsbp
                      obtain ⟨hsm1, hsm2⟩ := hsm
                      have hnn' : s.n ≤ 11 := by omega
                      generalize hyl : y.l = x at *
                      by_cases hneg : x < 0
                      · have hp2 : sb.phaseOf (-x) = false := by
                          have e : litVar x = -x := by unfold litVar; rw [if_pos hneg]
                          rw [e] at hp1; rw [hp1]; simp; omega
                        have Hp2 := Lib.hid hp2
                        have hd : decide (0 < x) = false := by simp; omega
                        clear hp1 hp2 hyl
                        go_wp2_with (first
                          | (go_at_call 17; refine C1.mono ?_; clear C1; rintro e w8 ⟨rfl, H8⟩)
                          | (go_at_call 18; have C2 := still (s_phase H8.st.tr (-x)) H8.drewN; rw [Hp2.out] at C2; refine C2.mono ?_; clear C2 H8; rintro e w9 ⟨rfl, H9⟩))
                        go_roundw
                        case rel => exact ⟨j + 1, by omega, by go_num, H9⟩
                        case measure => simp [intOf]; omega
                      · have hp2 : sb.phaseOf x = true := by
                          have e : litVar x = x := by unfold litVar; rw [if_neg hneg]
                          rw [e] at hp1; rw [hp1]; simp; omega
                        have Hp2 := Lib.hid hp2
                        have hd : decide (0 < x) = true := by simp; omega
                        clear hp1 hp2 hyl
                        go_wp2_with (first
                          | (go_at_call 17; refine C1.mono ?_; clear C1; rintro e w8 ⟨rfl, H8⟩)
                          | (go_at_call 18; have C2 := still (s_phase H8.st.tr x) H8.drewN; rw [Hp2.out] at C2; refine C2.mono ?_; clear C2 H8; rintro e w9 ⟨rfl, H9⟩))
                        go_roundw
                        case rel => exact ⟨j + 1, by omega, by go_num, H9⟩
                        case measure => simp [intOf]; omega
                    · obtain rfl : j = gl.length := by omega
                      go_wp2_with (first
                          | (go_at_call 15; have C1 := still (s_level H2.st.tr) H2.drewN; refine C1.mono ?_; clear C1; rintro e w8 ⟨rfl, H8⟩)
                          | (go_at_call 16; have C2 := s_back (q := [0, 4]) H8.st.tr (by simp) (by simp) sb.level; rw [gone_level] at C2; refine C2.mono ?_; clear C2; rintro e w9 ⟨_, γ9, rfl, ⟨a9, cap9, rfl, R9, H9⟩, T9⟩))
                      go_ret
                      exact ⟨rfl, (H8.st.turn.trans (T9.to (by simp))).below⟩

end Go.Proofs.Ytonipjaiaklpaaa
