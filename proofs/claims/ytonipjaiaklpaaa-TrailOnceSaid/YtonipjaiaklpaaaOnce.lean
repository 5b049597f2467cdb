import Derived.Test.YtonipjaiaklpaaaLevels
import Derived.Test.YtonipjaiaklpaaaMap
import Derived.Deep.DeepCutAuto
import Derived.Deep.CutBlock
namespace Go.Proofs.Ytonipjaiaklpaaa
open Go.RowKit

theorem Try.mapII : MapTy Try.prog 35 3 3 (.int .i64 0) := ⟨Try.underlying35, Try.underlying3, fun _ => by kernel_rfl⟩

/-- The law's trail. -/
structure On (W : World) (b : Nat) (s : TrailS) (n : Nat) (γ : Tags) (w : World) : Prop where
  st : St (fun _ => [1]) W [[0]] [0, 0] b s γ w
  n : s.n = n

theorem On.drewN {W : World} {b n : Nat} {s : TrailS} {γ : Tags} {w : World} (H : On W b s n γ w) (k : Nat) : On W b s n γ (w.drewN k) := ⟨H.st.drewN k, H.n⟩
theorem On.turn {W : World} {b n : Nat} {s : TrailS} {γ γ' : Tags} {w w' : World} {ps : List Tag} (H : On W b s n γ w) (T : Turn γ γ' w w' ps) (hp : ∀ x, ¬ Under ps ([0, 0] ++ x)) (h0 : ∀ q ∈ ps, Under [[0]] q) : On W b s n γ' w' :=
  ⟨⟨H.st.tr.turn T hp, H.st.turn.trans (T.to h0)⟩, H.n⟩

/-- The trail, and what was seen. -/
structure Un (W : World) (b : Nat) (s : TrailS) (n mb : Nat) (γ : Tags) (f : Int → Option Value) (sz : Nat) (w : World) : Prop where
  st : On W b s n γ w
  map : MapAt Try.prog 3 γ w [0, 5] mb f sz

theorem Un.drewN {W : World} {b n mb : Nat} {s : TrailS} {γ : Tags} {f : Int → Option Value} {sz : Nat} {w : World} (H : Un W b s n mb γ f sz w) (k : Nat) : Un W b s n mb γ f sz (w.drewN k) := ⟨H.st.drewN k, H.map.drewN k⟩

set_option maxRecDepth 100000 in
set_option maxHeartbeats 4000000 in
theorem once_any (W : World) (vars : Nat) (hv : vars < 256) (a0 : Option Addr) (len cap : Nat) (hcap : len ≤ maxLen)
    (ha : 0 < len → ∃ bb off, a0 = some ⟨bb, off, none⟩ ∧ ∀ i, i < len → ∃ (K : Nat) (L R : Int), W.cell? ⟨bb, off + i * 3, none⟩ = some (.int .u8 K) ∧ W.cell? ⟨bb, off + i * 3 + 1, none⟩ = some (.int .i64 L) ∧ W.cell? ⟨bb, off + i * 3 + 2, none⟩ = some (.int .i64 R)) :
    Calls Try.prog 4 #[.int .u8 vars, .slice a0 len cap] W fun e w' => e = .returned (.bool true) ∧ Below W.heap.size W w' := by
  unfold maxLen at hcap
  have C0 := fit12 (fun _ => [1]) W [0]
  go_enter Try.func4, Try.ntmps4
  go_wp2_with fail
  refine C0.mono ?_
  clear C0
  rintro e w1 ⟨rfl, γ1, T1⟩
  by_cases hlen : 100 < len
  · go_wp2
    go_ret
    exact ⟨rfl, T1.below⟩
  · go_wp2_with fail
    have hn12 : ((vars : Int) % 12) = ((vars % 12 : Nat) : Int) := by omega
    have hn11 : vars % 12 ≤ 11 := by omega
    rw [hn12]
    clear hn12
    generalize vars % 12 = n at *
    refine (s_new γ1 w1 [0, 0] n (by omega)).mono ?_
    rintro e w2 ⟨v, γ2, rfl, ⟨b, rfl, H1, _⟩, T2⟩
    have H : On W b (TrailS.new n) n γ2 w2 := ⟨⟨H1, T1.trans (T2.to (by simp))⟩, rfl⟩
    clear H1 T1 T2
    go_wp2_with fail
    go_loopw [26] (fun v wr => ∃ (k : Nat) (s : TrailS) (γ : Tags), k ≤ len ∧ v = .int .i64 k ∧ On W b s n γ wr) (fun v _ => len - (intOf v).toNat)
    case atStart => exact ⟨0, _, γ2, Nat.zero_le _, rfl, H⟩
    case round =>
      obtain ⟨k, s, γ, hk, rfl, Hk⟩ := hrel
      clear H
      by_cases hkl : k < len
      · obtain ⟨bb, off, rfl, hc⟩ := ha (by omega)
        obtain ⟨K, L, R, c0, c1, c2⟩ := hc k hkl
        have d0 := Hk.st.turn.old c0
        have d1 := Hk.st.turn.old c1
        have d2 := Hk.st.turn.old c2
        clear c0 c1 c2 hc ha
        go_upto_block 2 with (fail)
        go_cut [] (fun wx => ∃ (s : TrailS) (γ : Tags), On W b s n γ wx)
        case first =>
          go_wp2_with (first
            | (go_at_call 10; refine (s_put (Hk.st.tr.alloc _) _ _).mono ?_; rintro e w3 ⟨rfl, γ3, H3, T3⟩)
            | (go_at_call 11; refine (s_decide (Hk.st.tr.alloc _) _).mono ?_; rintro e w3 ⟨rfl, γ3, H3, T3⟩)
            | (go_at_call 16; refine (s_back (q := [0, 1]) (Hk.st.tr.alloc _) (by simp) (by simp) _).mono ?_; rintro e w3 ⟨_, γ3, rfl, ⟨a3, c3, rfl, _, H3⟩, T3⟩))
          · go_meet; exact ⟨_, γ3, ⟨⟨H3, (Hk.st.turn.alloc _).trans (T3.to (by simp))⟩, by rw [put_n]; exact Hk.n⟩⟩
          · go_meet; exact ⟨_, γ3, ⟨⟨H3, (Hk.st.turn.alloc _).trans (T3.to (by simp))⟩, by rw [put_n]; exact Hk.n⟩⟩
          · go_meet; exact ⟨_, γ3, ⟨⟨H3, (Hk.st.turn.alloc _).trans (T3.to (by simp))⟩, by rw [decide_n]; exact Hk.n⟩⟩
          · go_meet; exact ⟨_, γ3, ⟨⟨H3, (Hk.st.turn.alloc _).trans (T3.to (by simp))⟩, by rw [back_n]; exact Hk.n⟩⟩
        case rest =>
          clear Hk d0 d1 d2
          obtain ⟨s', γ', H0⟩ := hcut
          generalize hs0 : s' = s1 at *
          clear hs0
          have wf := H0.st.tr.wf
          have hll := H0.st.tr.len
          have hnn := H0.n
          rw [hnn] at hll
          have hmm := fun t w => run_makeMap (P := Try.prog) t w
          have M1 := MapAt.new Try.prog 3 γ' wc [0, 5]
          have H1 := H0.turn (Turn.new_at γ' wc (.map #[] 0) [0, 5]) (by simp) (by simp)
          clear H0
          generalize Tags.set γ' _ _ = γ1 at *
          go_wp2_with (go_at_call 12; refine (still (s_len H1.st.tr) (R := Un W b s1 n wc.heap.size γ1 (fun _ => none) 0) (fun m => ⟨H1.drewN m, M1.drewN m⟩)).mono ?_; clear H1 M1; rintro e w5 ⟨rfl, U5⟩)
          generalize wc.heap.size = mb at *
          go_loopw [10, 55] (fun v10 v55 wr => ∃ (i : Nat) (last : Int) (γ : Tags) (f : Int → Option Value) (sz : Nat), i ≤ s1.steps.length ∧ v55 = .int .i64 i ∧ v10 = .int .i64 last ∧ Un W b s1 n mb γ f sz wr ∧ sz ≤ i ∧
            (∀ (j : Nat) (x : Step), i ≤ j → s1.steps[j]? = some x → last ≤ x.level ∧ f (litVar x.l) = none)) (fun _ v _ => s1.steps.length - (intOf v).toNat)
          case atStart => exact ⟨0, 0, γ1, _, 0, Nat.zero_le _, rfl, rfl, U5, Nat.le_refl _, fun j x _ hx => ⟨(wf.bounds x (List.mem_of_getElem? hx)).1, rfl⟩⟩
          case round =>
            obtain ⟨i, last, γ, f, sz, hi, rfl, rfl, U, hsz, hf⟩ := hrel
            clear U5 hmm
            by_cases hil : i < s1.steps.length
            · have hx := List.getElem?_eq_getElem hil
              generalize s1.steps[i] = x at hx
              obtain ⟨hl1, hf1⟩ := hf i x (Nat.le_refl _) hx
              have hxm := List.mem_of_getElem? hx
              have hat := wf.at_ hx
              have hpl := wf.place_ hx rfl
              have hpn := wf.place_ (l := -x.l) hx (litVar_neg x.l).symm
              have hva := wf.value_ hx
              have hvn := wf.value_neg hx
              have hle := wf.levelOf_ hx rfl
              obtain ⟨hs1, hs2⟩ := wf.small hxm
              rw [hnn] at hs1 hs2
              have hb2 := (wf.bounds x hxm).2
              have hnz := wf.nz hxm
              have hlv := (litVar_pos (wf.right x hxm)).1
              have Hat := Lib.hid hat
              have Hpl := Lib.hid hpl
              have Hpn := Lib.hid hpn
              have Hva := Lib.hid hva
              have Hvn := Lib.hid hvn
              have Hle := Lib.hid hle
              have Hf := Lib.hid hf
              have Hf1 := Lib.hid hf1
              clear hat hpl hpn hva hvn hle hf hf1 hlv
              by_cases hneg : x.l < 0
              · have hlx : litVar x.l = (-x.l) := by unfold litVar; rw [if_pos hneg]
                have hv0 : (f (-x.l)).getD (.int .i64 0) = .int .i64 0 := by rw [← hlx, Hf1.out]; rfl
                have hv1 : (mset f (-x.l) (.int .i64 1) (-x.l)).getD (.int .i64 0) = .int .i64 1 := by simp [mset]
                have hsz0 : (if (f (-x.l)).isSome then sz else sz + 1) = sz + 1 := by rw [← hlx, Hf1.out]; rfl
                have Hlx := Lib.hid hlx
                have Hv0 := Lib.hid hv0
                have Hv1 := Lib.hid hv1
                have Hs0 := Lib.hid hsz0
                clear hlx hv0 hv1 hsz0
                go_wp2_with (first
                  | (go_at_call 14; have C := still (s_at U.st.st.tr i) U.drewN; rw [Hat.out] at C; refine C.mono ?_; clear C U; rintro e w6 ⟨rfl, U⟩)
                  | (at_lookup; refine wpList_lookup_v rfl _ _ rfl Try.mapII rfl U.map (-x.l) rfl (I64.small (by omega) (by omega)) Hv0.out ?_)
                  | (at_lookup; refine wpList_lookup_v rfl _ _ rfl Try.mapII rfl V.map (-x.l) rfl (I64.small (by omega) (by omega)) Hv1.out ?_)
                  | (at_mapUpdate; refine wpList_update_m rfl _ _ _ rfl Try.mapII rfl U.map (by unfold maxLen; omega) (-x.l) rfl (I64.small (by omega) (by omega)) (.int .i64 1) rfl ?_; rw [Hs0.out]; intro w7 M7 T7; have V : Un W b s1 n mb γ _ _ w7 := ⟨U.st.turn T7 (by simp) (by simp), M7⟩; clear M7 T7 U))
                have C := still (s_place V.st.st.tr x.l) V.drewN
                rw [Hpl.out] at C
                go_wp2_with fail
                refine C.mono ?_
                clear C V
                rintro e w8 ⟨rfl, V⟩
                have C := still (s_place V.st.st.tr (-x.l)) V.drewN
                rw [Hpn.out] at C
                go_wp2_with fail
                refine C.mono ?_
                clear C V
                rintro e w8 ⟨rfl, V⟩
                have C := still (s_value V.st.st.tr x.l) V.drewN
                rw [Hva.out] at C
                go_wp2_with fail
                refine C.mono ?_
                clear C V
                rintro e w8 ⟨rfl, V⟩
                have C := still (s_value V.st.st.tr (-x.l)) V.drewN
                rw [Hvn.out] at C
                go_wp2_with fail
                refine C.mono ?_
                clear C V
                rintro e w8 ⟨rfl, V⟩
                have C := still (s_levelOf V.st.st.tr x.l) V.drewN
                rw [Hle.out] at C
                go_wp2_with fail
                refine C.mono ?_
                clear C V
                rintro e w8 ⟨rfl, V⟩
                have C := still (s_levelOf V.st.st.tr x.l) V.drewN
                rw [Hle.out] at C
                go_wp2_with fail
                refine C.mono ?_
                clear C V
                rintro e w8 ⟨rfl, V⟩
                have C := still (s_level V.st.st.tr) V.drewN
                go_wp2_with fail
                refine C.mono ?_
                clear C V
                rintro e w8 ⟨rfl, V⟩
                have C := still (s_levelOf V.st.st.tr x.l) V.drewN
                rw [Hle.out] at C
                go_wp2_with fail
                refine C.mono ?_
                clear C V
                rintro e w8 ⟨rfl, V⟩
                go_wp2_with fail
                go_roundw
                case rel =>
                  refine ⟨i + 1, x.level, γ, _, sz + 1, by omega, by go_num, rfl, V, by omega, fun j y hj hy => ⟨wf.mono hx hy (by omega), ?_⟩⟩
                  have hne : litVar y.l ≠ litVar x.l := fun e => by
                    have := wf.same _ _ _ _ hy hx e
                    omega
                  rw [Hlx.out] at hne
                  simp only [mset, hne, if_false]
                  exact (Hf.out j y (by omega) hy).2
                case measure => simp [intOf]; omega
              · have hlx : litVar x.l = x.l := by unfold litVar; rw [if_neg hneg]
                have hv0 : (f x.l).getD (.int .i64 0) = .int .i64 0 := by rw [← hlx, Hf1.out]; rfl
                have hv1 : (mset f x.l (.int .i64 1) x.l).getD (.int .i64 0) = .int .i64 1 := by simp [mset]
                have hsz0 : (if (f x.l).isSome then sz else sz + 1) = sz + 1 := by rw [← hlx, Hf1.out]; rfl
                have Hlx := Lib.hid hlx
                have Hv0 := Lib.hid hv0
                have Hv1 := Lib.hid hv1
                have Hs0 := Lib.hid hsz0
                clear hlx hv0 hv1 hsz0
                go_wp2_with (first
                  | (go_at_call 14; have C := still (s_at U.st.st.tr i) U.drewN; rw [Hat.out] at C; refine C.mono ?_; clear C U; rintro e w6 ⟨rfl, U⟩)
                  | (at_lookup; refine wpList_lookup_v rfl _ _ rfl Try.mapII rfl U.map x.l rfl (I64.small (by omega) (by omega)) Hv0.out ?_)
                  | (at_lookup; refine wpList_lookup_v rfl _ _ rfl Try.mapII rfl V.map x.l rfl (I64.small (by omega) (by omega)) Hv1.out ?_)
                  | (at_mapUpdate; refine wpList_update_m rfl _ _ _ rfl Try.mapII rfl U.map (by unfold maxLen; omega) x.l rfl (I64.small (by omega) (by omega)) (.int .i64 1) rfl ?_; rw [Hs0.out]; intro w7 M7 T7; have V : Un W b s1 n mb γ _ _ w7 := ⟨U.st.turn T7 (by simp) (by simp), M7⟩; clear M7 T7 U))
                have C := still (s_place V.st.st.tr x.l) V.drewN
                rw [Hpl.out] at C
                go_wp2_with fail
                refine C.mono ?_
                clear C V
                rintro e w8 ⟨rfl, V⟩
                have C := still (s_place V.st.st.tr (-x.l)) V.drewN
                rw [Hpn.out] at C
                go_wp2_with fail
                refine C.mono ?_
                clear C V
                rintro e w8 ⟨rfl, V⟩
                have C := still (s_value V.st.st.tr x.l) V.drewN
                rw [Hva.out] at C
                go_wp2_with fail
                refine C.mono ?_
                clear C V
                rintro e w8 ⟨rfl, V⟩
                have C := still (s_value V.st.st.tr (-x.l)) V.drewN
                rw [Hvn.out] at C
                go_wp2_with fail
                refine C.mono ?_
                clear C V
                rintro e w8 ⟨rfl, V⟩
                have C := still (s_levelOf V.st.st.tr x.l) V.drewN
                rw [Hle.out] at C
                go_wp2_with fail
                refine C.mono ?_
                clear C V
                rintro e w8 ⟨rfl, V⟩
                have C := still (s_levelOf V.st.st.tr x.l) V.drewN
                rw [Hle.out] at C
                go_wp2_with fail
                refine C.mono ?_
                clear C V
                rintro e w8 ⟨rfl, V⟩
                have C := still (s_level V.st.st.tr) V.drewN
                go_wp2_with fail
                refine C.mono ?_
                clear C V
                rintro e w8 ⟨rfl, V⟩
                have C := still (s_levelOf V.st.st.tr x.l) V.drewN
                rw [Hle.out] at C
                go_wp2_with fail
                refine C.mono ?_
                clear C V
                rintro e w8 ⟨rfl, V⟩
                go_wp2_with fail
                go_roundw
                case rel =>
                  refine ⟨i + 1, x.level, γ, _, sz + 1, by omega, by go_num, rfl, V, by omega, fun j y hj hy => ⟨wf.mono hx hy (by omega), ?_⟩⟩
                  have hne : litVar y.l ≠ litVar x.l := fun e => by
                    have := wf.same _ _ _ _ hy hx e
                    omega
                  rw [Hlx.out] at hne
                  simp only [mset, hne, if_false]
                  exact (Hf.out j y (by omega) hy).2
                case measure => simp [intOf]; omega
            · obtain rfl : i = s1.steps.length := by omega
              have t1 : (!(decide (s1.steps.length = n) == ((s1.steps.length : Int) == (n : Int)))) = false := by
                by_cases h : s1.steps.length = n
                · simp [h]
                · have h2 : ¬ ((s1.steps.length : Int) = n) := by omega
                  simp [h, h2]
              have Hnn := Lib.hid hnn
              clear hnn hf
              have t0 : ¬ n < s1.steps.length := by omega
              have t3 : decide (n < s1.steps.length) = false := by simpa using hll
              have C := still (s_len U.st.st.tr) U.drewN
              go_wp2_with fail
              refine C.mono ?_
              clear C U
              rintro e w8 ⟨rfl, U⟩
              have C := still (s_full U.st.st.tr) U.drewN
              rw [Hnn.out] at C
              go_wp2_with fail
              refine C.mono ?_
              clear C U
              rintro e w8 ⟨rfl, U⟩
              have C := still (s_len U.st.st.tr) U.drewN
              go_wp2_with fail
              refine C.mono ?_
              clear C U
              rintro e w8 ⟨rfl, U⟩
              go_wp2_with fail
              go_roundw
              case rel => exact ⟨k + 1, s1, γ, by omega, by go_num, U.st⟩
              case measure => simp [intOf]; omega
      · go_wp2
        go_ret
        exact ⟨rfl, Hk.st.turn.below⟩

end Go.Proofs.Ytonipjaiaklpaaa
