import Derived.Test.YtonipjaiaklpaaaFit12
import Derived.Test.YtonipjaiaklpaaaMap
import Derived.Deep.DeepCutAuto
import Derived.Deep.CutBlock
namespace Go.Proofs.Ytonipjaiaklpaaa
open Go.RowKit

/-- The law's trail, and the phases that were. -/
structure Ph (W : World) (b : Nat) (s : TrailS) (n g : Nat) (was : List Bool) (γ : Tags) (w : World) : Prop where
  st : St (fun _ => [1]) W [[0]] [0, 0] b s γ w
  hn : s.n = n
  row : Row γ w [0, 6] 4 1 (some ⟨g, 0, none⟩) n n (bools was)
  len : was.length = n

theorem Ph.drewN {W : World} {b n g : Nat} {s : TrailS} {was : List Bool} {γ : Tags} {w : World} (H : Ph W b s n g was γ w) (k : Nat) : Ph W b s n g was γ (w.drewN k) := ⟨H.st.drewN k, H.hn, H.row.drewN k, H.len⟩

theorem Ph.store {W : World} {b n g : Nat} {s : TrailS} {was : List Bool} {γ : Tags} {w : World} (H : Ph W b s n g was γ w) {m : Nat} (hm : m < n) (v : Bool) : Ph W b s n g (was.set m v) γ (w.setCell ⟨g, m, none⟩ (.bool v)) :=
  ⟨⟨H.st.tr.turn (H.row.turned m _) (by simp), H.st.turn.trans ((H.row.turned m _).to (by simp))⟩, H.hn, by rw [bools_set]; exact H.row.set (by simp [bools, H.len, hm]) _, by simp [H.len]⟩

theorem Ph.spot {W : World} {b n g : Nat} {s : TrailS} {was : List Bool} {γ : Tags} {w : World} (H : Ph W b s n g was γ w) {m : Nat} (hm : m < n) (v : Bool) : ∃ o, w.cell? ⟨g, m, none⟩ = some (.bool o) ∧ Ph W b s n g (was.set m v) γ (w.setCell ⟨g, m, none⟩ (.bool v)) :=
  ⟨_, H.row.cell (by rw [bools, List.getElem?_map, List.getElem?_eq_getElem (by rw [H.len]; exact hm)]; rfl), H.store hm v⟩

theorem Ph.own {W : World} {b n g : Nat} {s : TrailS} {was : List Bool} {γ : Tags} {w : World} (H : Ph W b s n g was γ w) {s' : TrailS} {γ' : Tags} {w' : World} (H' : TrS [0, 0] b s' γ' w') (T : Turn γ γ' w w' [[0, 0]]) (hn : s'.n = n) : Ph W b s' n g was γ' w' :=
  ⟨⟨H', H.st.turn.trans (T.to (by simp))⟩, hn, H.row.turn T (by simp), H.len⟩

theorem set_phase {n m : Nat} {s : TrailS} {was : List Bool} (hl : was.length = n) (hm : m < n) (v : Bool) (h : ∀ k, k < n → was[k]? = some (s.phase k)) : ∀ k, k < n → (was.set m v)[k]? = some (({ s with phase := fun k => if k = m then v else s.phase k } : TrailS).phase k) := by
  intro k hk
  by_cases hkm : k = m
  · subst hkm; simp [hl, hk]
  · simp only [hkm, if_false]
    rw [List.getElem?_set_ne (by omega)]
    exact h k hk

theorem neg_cases {x : Int} (h : -9223372036854775808 ≤ x ∧ x ≤ 9223372036854775807) : wrap64 (-x) = -x ∨ (x = -9223372036854775808 ∧ wrap64 (-x) = x) := by
  unfold wrap64
  omega

theorem phase_was {s : TrailS} (h : PhaseOk s) : s.assignment = (List.range s.n).map s.phase := by
  unfold TrailS.assignment
  apply List.map_congr_left
  intro k hk
  cases hl : s.look ((k : Int) + 1) with
  | none => rfl
  | some y =>
    obtain ⟨x, i⟩ := y
    obtain ⟨hx, hxl⟩ := look_some hl
    have h1 := h x (List.mem_of_getElem? hx)
    have h2 : litVar ((k : Int) + 1) = k + 1 := by unfold litVar; split <;> omega
    have h3 : vix x.l = k := vix_of (by rw [hxl, h2])
    rw [h3] at h1
    exact h1.symm

theorem phaseOf_of {s : TrailS} {k : Nat} (hk : k < s.n) : s.phaseOf ((k : Int) + 1) = s.phase k := by
  have h2 : litVar ((k : Int) + 1) = k + 1 := by unfold litVar; split <;> omega
  have h3 : vix ((k : Int) + 1) = k := vix_of h2
  have h4 : rightB ((k : Int) + 1) s.n = true := by simp [rightB]; omega
  have h5 : (0 : Int) < (k : Int) + 1 := by omega
  simp [TrailS.phaseOf, h3, h4, h5]

theorem vix_neg (k : Nat) : vix (-((k : Int) + 1)) = k := vix_of (by unfold litVar; split <;> omega)

theorem push_phaseOf {s : TrailS} {k : Nat} (r : Int) (hk : k < s.n) : (s.push (-((k : Int) + 1)) r).phaseOf ((k : Int) + 1) = false := by
  rw [phaseOf_of (by exact hk)]
  simp [TrailS.push, vix_neg]
  omega

theorem push_phase {s : TrailS} {k : Nat} (r : Int) {i : Nat} (h : i ≠ k) : (s.push (-((k : Int) + 1)) r).phase i = s.phase i := by
  simp [TrailS.push, vix_neg, h]

theorem s_setPhase_no {γ : Tags} {w : World} {p : Tag} {b : Nat} {s : TrailS} (H : TrS p b s γ w) (v : Int) (is : Bool) (hv : v ≤ 0 ∨ (s.n : Int) < v) :
    Calls Try.prog 22 #[.pointer (some ⟨b, 0, none⟩), .int .i64 v, .bool is] w (Turned γ w [p] (.bool false) (TrS p b s)) := by
  have C := s_setPhase H v is
  have h1 : (rightB v s.n && decide (0 ≤ v)) = false := by
    rw [Bool.and_eq_false_iff]
    by_cases h : 0 ≤ v
    · left
      simp only [rightB, decide_eq_false_iff_not]
      omega
    · right; simpa using h
  have h2 : s.setPhase v is = s := by simp only [TrailS.setPhase, h1]; simp
  rw [h1, h2] at C
  exact C

theorem s_setPhase_yes {γ : Tags} {w : World} {p : Tag} {b : Nat} {s : TrailS} (H : TrS p b s γ w) (i : Nat) (hi : i < s.n) (is : Bool) :
    Calls Try.prog 22 #[.pointer (some ⟨b, 0, none⟩), .int .i64 ((i : Int) + 1), .bool is] w (Turned γ w [p] (.bool true) (TrS p b { s with phase := fun k => if k = i then is else s.phase k })) := by
  have C := s_setPhase H ((i : Int) + 1) is
  have h1 : (rightB ((i : Int) + 1) s.n && decide (0 ≤ (i : Int) + 1)) = true := by simp [rightB]; omega
  have h3 : vix ((i : Int) + 1) = i := vix_of (by unfold litVar; split <;> omega)
  have h2 : s.setPhase ((i : Int) + 1) is = { s with phase := fun k => if k = i then is else s.phase k } := by simp only [TrailS.setPhase, h1, h3]; simp
  rw [h1, h2] at C
  exact C

theorem i64_bounds {x : Int} (h : I64 x) : -9223372036854775808 ≤ x ∧ x ≤ 9223372036854775807 := by
  simp [I64, Lit.wf, IntKind.min, IntKind.max, IntKind.signed, IntKind.bits] at h
  omega

set_option maxRecDepth 100000 in
set_option maxHeartbeats 4000000 in
theorem phases_any (W : World) (vars : Nat) (hv : vars < 256) (a0 : Option Addr) (len cap : Nat) (hcap : len ≤ maxLen)
    (ha : 0 < len → ∃ bb off, a0 = some ⟨bb, off, none⟩ ∧ ∀ i, i < len → ∃ (K : Nat) (L R : Int), W.cell? ⟨bb, off + i * 3, none⟩ = some (.int .u8 K) ∧ W.cell? ⟨bb, off + i * 3 + 1, none⟩ = some (.int .i64 L) ∧ W.cell? ⟨bb, off + i * 3 + 2, none⟩ = some (.int .i64 R))
    (a1 : Option Addr) (len1 cap1 : Nat) (hcap1 : len1 ≤ maxLen)
    (ha1 : 0 < len1 → ∃ bb off, a1 = some ⟨bb, off, none⟩ ∧ ∀ i, i < len1 → ∃ (x : Int), W.cell? ⟨bb, off + i, none⟩ = some (.int .i64 x) ∧ I64 x) :
    Calls Try.prog 5 #[.int .u8 vars, .slice a0 len cap, .slice a1 len1 cap1] W fun e w' => e = .returned (.bool true) ∧ Below W.heap.size W w' := by
  unfold maxLen at hcap hcap1
  have C0 := fit12 (fun _ => [1]) W [0]
  go_enter Try.func5, Try.ntmps5
  go_wp2_with fail
  refine C0.mono ?_
  clear C0
  rintro e w1 ⟨rfl, γ1, T1⟩
  by_cases hlen : 100 < len
  · go_wp2
    go_ret
    exact ⟨rfl, T1.below⟩
  by_cases hlen1 : 60 < len1
  · go_wp2
    go_ret
    exact ⟨rfl, T1.below⟩
  · go_wp2_with fail
    have hn12 : ((vars : Int) % 12) = ((vars % 12 : Nat) : Int) := by omega
    have hn11 : vars % 12 ≤ 11 := by omega
    rw [hn12]
    clear hn12
    generalize vars % 12 = n at *
    refine (s_new γ1 w1 [0, 0] n (by omega)).mono ?_
    rintro e w2 ⟨v, γ2, rfl, ⟨b, rfl, H1, _⟩, T2⟩
    have H : On W b (TrailS.new n) n γ2 w2 := ⟨⟨H1, T1.trans (T2.to (by simp))⟩, rfl⟩
    clear H1 T1 T2
    go_wp2_with fail
    go_loopw [34] (fun v wr => ∃ (k : Nat) (s : TrailS) (γ : Tags), k ≤ len ∧ v = .int .i64 k ∧ On W b s n γ wr ∧ PhaseOk s) (fun v _ => len - (intOf v).toNat)
    case atStart => exact ⟨0, _, γ2, Nat.zero_le _, rfl, H, PhaseOk.new n⟩
    case round =>
      obtain ⟨k, s, γ, hk, rfl, Hk, Pk⟩ := hrel
      clear H
      by_cases hkl : k < len
      · obtain ⟨bb, off, rfl, hc⟩ := ha (by omega)
        obtain ⟨K, L, R, c0, c1, c2⟩ := hc k hkl
        have d0 := Hk.st.turn.old c0
        have d1 := Hk.st.turn.old c1
        have d2 := Hk.st.turn.old c2
        clear c0 c1 c2 hc ha ha1
        go_wp2_with (first | (go_at_call 10; refine (s_put (Hk.st.tr.alloc _) _ _).mono ?_; rintro e w3 ⟨rfl, γ3, H3, T3⟩) | (go_at_call 11; refine (s_decide (Hk.st.tr.alloc _) _).mono ?_; rintro e w3 ⟨rfl, γ3, H3, T3⟩))
        · go_roundw
          case rel => exact ⟨k + 1, _, γ3, by omega, by go_num, ⟨⟨H3, (Hk.st.turn.alloc _).trans (T3.to (by simp))⟩, by rw [put_n]; exact Hk.n⟩, Pk.put Hk.st.tr.wf _ _⟩
          case measure => simp [intOf]; omega
        · go_roundw
          case rel => exact ⟨k + 1, _, γ3, by omega, by go_num, ⟨⟨H3, (Hk.st.turn.alloc _).trans (T3.to (by simp))⟩, by rw [decide_n]; exact Hk.n⟩, Pk.decides Hk.st.tr.wf _⟩
          case measure => simp [intOf]; omega
      · obtain rfl : k = len := by omega
        clear ha
        have C := s_assignment (q := [0, 6]) Hk.st.tr (by simp)
        rw [phase_was Pk, Hk.n] at C
        go_wp2_with fail
        refine C.mono ?_
        clear C
        rintro e w4 ⟨_, γ4, rfl, ⟨g, rfl, R4⟩, T4⟩
        have H4 := Hk.turn T4 (by simp) (by simp)
        clear Hk T4
        go_wp2_with fail
        refine (s_back (q := [0, 1]) H4.st.tr (by simp) (by simp) 0).mono ?_
        rintro e w5 ⟨_, γ5, rfl, ⟨a5, c5, rfl, _, H5⟩, T5⟩
        have P5 : Ph W b (s.back 0) n g ((List.range n).map s.phase) γ5 w5 := ⟨⟨H5, H4.st.turn.trans (T5.to (by simp))⟩, by rw [back_n]; exact H4.n, R4.turn T5 (by simp), by simp⟩
        have hp5 : ∀ k, k < n → ((List.range n).map s.phase)[k]? = some ((s.back 0).phase k) := by intro k hk; simp [hk, back_phase]
        clear H4 R4 H5 T5
        generalize s.back 0 = s5 at *
        generalize (List.range n).map s.phase = was at *
        have Hp5 := Lib.hid hp5
        clear hp5
        go_wp2_with fail
        go_loopw [12] (fun v wr => ∃ k : Nat, k ≤ n ∧ v = .int .i64 ((k : Int) + 1) ∧ Ph W b s5 n g was γ5 wr) (fun v _ => n + 1 - (intOf v).toNat)
        case atStart => exact ⟨0, Nat.zero_le _, rfl, P5⟩
        case round =>
          obtain ⟨j, hj, rfl, H⟩ := hrel
          clear P5
          by_cases hjn : j < n
          · have hc : wr.cell? ⟨g, j, none⟩ = some (.bool (s5.phase j)) := H.row.cell (by rw [bools, List.getElem?_map, Hp5.out j hjn]; rfl)
            have hw : IntKind.i64.wrap (j : Int) = j := IntWalk.i64_in _ (by omega)
            have Cq : ∀ m, Calls Try.prog 18 #[.pointer (some ⟨b, 0, none⟩), .int .i64 ((j : Int) + 1)] (wr.drewN m) (Quiet (wr.drewN m) (.bool (s5.phase j))) := fun m => by
              have := s_phase (H.drewN m).st.tr ((j : Int) + 1)
              rw [phaseOf_of (by rw [H.hn]; exact hjn)] at this
              exact this
            generalize s5.phase j = pv at *
            go_wp2_with fail
            go_quiet ((go_at_call 18; exact Calls.quiet_of (Cq _)))
            clear Cq hc hw
            go_wp2_with fail
            go_roundw
            case rel => exact ⟨j + 1, by omega, by go_num, H.drewN nq⟩
            case measure => simp [intOf]; omega
          · obtain rfl : j = n := by omega
            go_wp2_with fail
            go_loopw [73] (fun v wr => ∃ (i : Nat) (s : TrailS) (was : List Bool) (γ : Tags), i ≤ len1 ∧ v = .int .i64 i ∧ Ph W b s j g was γ wr ∧ ∀ k, k < j → was[k]? = some (s.phase k)) (fun v _ => len1 - (intOf v).toNat)
            case atStart => exact ⟨0, s5, was, γ5, Nat.zero_le _, rfl, H, Hp5.out⟩
            case round =>
              obtain ⟨i, s6, was6, γ6, hi, rfl, H6, hp6⟩ := hrel
              clear H
              by_cases hil : i < len1
              · obtain ⟨bb, off, rfl, hc⟩ := ha1 (by omega)
                obtain ⟨x, c0, hx⟩ := hc i hil
                have d0 := H6.st.turn.old c0
                have Hp6 := Lib.hid hp6
                have hxb := i64_bounds hx
                have Hxb := Lib.hid hxb
                have hln := H6.hn
                have Hln := Lib.hid hln
                clear c0 hx hxb hp6 hc ha1 hln
                by_cases hpos : 1 ≤ x ∧ x ≤ j
                · obtain ⟨m, rfl⟩ : ∃ m : Nat, x = (m : Int) + 1 := ⟨(x - 1).toNat, by omega⟩
                  have hm : m < j := by omega
                  go_wp2_with fail
                  refine (s_setPhase_yes H6.st.tr m (by rw [Hln.out]; exact hm) true).mono ?_
                  rintro e w7 ⟨rfl, γ7, H7, T7⟩
                  have P7 := H6.own H7 T7 Hln.out
                  have q7 := set_phase H6.len hm true Hp6.out
                  clear H6 H7 T7 Hp6
                  generalize hs7 : ({ s6 with phase := fun k => if k = m then true else s6.phase k } : TrailS) = s7 at *
                  obtain ⟨o7, c7, P8⟩ := P7.spot hm true
                  have f7 := P7.row.free m
                  have Q7 := Lib.hid q7
                  have P9 := Lib.hid P8
                  clear q7 hs7 P8
                  go_wp2_with fail
                  exact ⟨⟨i + 1, s7, _, γ7, by omega, rfl, P9.out, Q7.out⟩, by simp [intOf]; omega⟩
                · by_cases hneg : x ≤ -1 ∧ -j ≤ x
                  · obtain ⟨m, rfl⟩ : ∃ m : Nat, x = -((m : Int) + 1) := ⟨(-1 - x).toNat, by omega⟩
                    have hm : m < j := by omega
                    go_wp2_with fail
                    refine (s_setPhase_yes H6.st.tr m (by rw [Hln.out]; exact hm) false).mono ?_
                    rintro e w7 ⟨rfl, γ7, H7, T7⟩
                    have P7 := H6.own H7 T7 Hln.out
                    have q7 := set_phase H6.len hm false Hp6.out
                    clear H6 H7 T7 Hp6
                    generalize hs7 : ({ s6 with phase := fun k => if k = m then false else s6.phase k } : TrailS) = s7 at *
                    obtain ⟨o7, c7, P8⟩ := P7.spot hm false
                    have f7 := P7.row.free m
                    have Q7 := Lib.hid q7
                    have P9 := Lib.hid P8
                    clear q7 hs7 P8
                    go_wp2_with fail
                    exact ⟨⟨i + 1, s7, _, γ7, by omega, rfl, P9.out, Q7.out⟩, by simp [intOf]; omega⟩
                  · have hnc := neg_cases Hxb.out
                    have Hnc := Lib.hid hnc
                    clear hnc
                    by_cases hx0 : x ≤ 0
                    · go_wp2_with fail
                      all_goals
                        refine (s_setPhase_no H6.st.tr _ _ (by have := Hxb.out; have := Hnc.out; rw [Hln.out]; omega)).mono ?_
                        rintro e w7 ⟨rfl, γ7, H7, T7⟩
                        have P7 := H6.own H7 T7 Hln.out
                        clear H6 H7 T7
                        go_wp2_with fail
                        exact ⟨⟨i + 1, s6, _, γ7, by omega, rfl, P7, Hp6.out⟩, by simp [intOf]; omega⟩
                    · go_wp2_with fail
                      all_goals
                        refine (s_setPhase_no H6.st.tr _ _ (by have := Hxb.out; have := Hnc.out; rw [Hln.out]; omega)).mono ?_
                        rintro e w7 ⟨rfl, γ7, H7, T7⟩
                        have P7 := H6.own H7 T7 Hln.out
                        clear H6 H7 T7
                        go_wp2_with fail
                        exact ⟨⟨i + 1, s6, _, γ7, by omega, rfl, P7, Hp6.out⟩, by simp [intOf]; omega⟩
              · obtain rfl : i = len1 := by omega
                clear ha1
                have Hp6 := Lib.hid hp6
                clear hp6
                go_wp2_with fail
                go_loopw [16] (fun v wr => ∃ (k : Nat) (s : TrailS) (γ : Tags), k ≤ j ∧ v = .int .i64 ((k : Int) + 1) ∧ Ph W b s j g was6 γ wr ∧ ∀ i, k ≤ i → i < j → was6[i]? = some (s.phase i)) (fun v _ => j + 1 - (intOf v).toNat)
                case atStart => exact ⟨0, s6, γ6, Nat.zero_le _, rfl, H6, fun i _ hi => Hp6.out i hi⟩
                case round =>
                  obtain ⟨m, s7, γ7, hm, rfl, H7, hp7⟩ := hrel
                  clear H6 Hp6
                  have Hp7 := Lib.hid hp7
                  clear hp7
                  by_cases hmj : m < j
                  · have hc := H7.row.cell (j := m) (v := .bool (s7.phase m)) (by rw [bools, List.getElem?_map, Hp7.out m (Nat.le_refl _) hmj]; rfl)
                    have hw : IntKind.i64.wrap (m : Int) = m := IntWalk.i64_in _ (by omega)
                    have Cq : ∀ q, Calls Try.prog 18 #[.pointer (some ⟨b, 0, none⟩), .int .i64 ((m : Int) + 1)] (wr.drewN q) (Quiet (wr.drewN q) (.bool (s7.phase m))) := fun q => by
                      have := s_phase (H7.drewN q).st.tr ((m : Int) + 1)
                      rw [phaseOf_of (by rw [H7.hn]; exact hmj)] at this
                      exact this
                    generalize hpv : s7.phase m = pv at *
                    have Hpv := Lib.hid hpv
                    clear hpv
                    go_wp2_with fail
                    go_quiet ((go_at_call 18; exact Calls.quiet_of (Cq _)))
                    clear Cq hc hw
                    go_wp2_with fail
                    have C := s_put (H7.drewN nq).st.tr (-((m : Int) + 1)) 0
                    refine C.mono ?_
                    clear C
                    rintro e w8 ⟨rfl, γ8, H8, T8⟩
                    have P8 := (H7.drewN nq).own H8 T8 (by rw [put_n]; exact H7.hn)
                    cases hf : s7.free (-((m : Int) + 1)) with
                    | false =>
                      have e8 : s7.put (-((m : Int) + 1)) 0 = s7 := by simp [TrailS.put, hf]
                      rw [e8] at P8
                      clear H8 T8 H7 e8 hf
                      go_wp2_with fail
                      exact ⟨⟨m + 1, s7, γ8, by omega, by push_cast; rfl, P8, fun i h1 h2 => Hp7.out i (by omega) h2⟩, by simp [intOf]; omega⟩
                    | true =>
                      have e8 : s7.put (-((m : Int) + 1)) 0 = s7.push (-((m : Int) + 1)) 0 := by simp [TrailS.put, hf]
                      rw [e8] at P8
                      have hn7 := H7.hn
                      have Hn7 := Lib.hid hn7
                      clear H8 T8 H7 e8 hf hn7
                      have C := s_phase P8.st.tr ((m : Int) + 1)
                      rw [push_phaseOf _ (by rw [Hn7.out]; exact hmj)] at C
                      go_wp2_with fail
                      refine C.mono ?_
                      clear C
                      rintro e w9 ⟨rfl, n9, rfl⟩
                      have P9 := P8.drewN n9
                      clear P8
                      go_wp2_with fail
                      exact ⟨⟨m + 1, _, γ8, by omega, by push_cast; rfl, P9, fun i h1 h2 => by rw [push_phase _ (by omega)]; exact Hp7.out i (by omega) h2⟩, by simp [intOf]; omega⟩
                  · obtain rfl : m = j := by omega
                    go_wp2_with fail
                    go_ret
                    exact ⟨rfl, H7.st.turn.below⟩

end Go.Proofs.Ytonipjaiaklpaaa
