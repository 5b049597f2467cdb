import Derived.Test.YtlmmiobnbcanmaaFit19
import Derived.Test.YtlmmiobnbcanmaaFit12
namespace Go.Proofs.Ytlmmiobnbcanmaa
open Go.RowKit

section
variable {γ : Tags} {w : World}
theorem same19 {l : List Int} {pa pb : Tag} {a b : Option Addr} {ca cb : Nat} (Ra : Row γ w pa 3 1 a l.length ca (ints l)) (Rb : Row γ w pb 3 1 b l.length cb (ints l)) :
    Calls Try.prog 22 #[.slice a l.length ca, .slice b l.length cb] w (Quiet w (.bool true)) := by
  have hle := Ra.le
  unfold maxLen at hle
  go_enter Try.func22, Try.ntmps22
  go_wp2_with fail
  go_loopw [13] (fun v wr => ∃ (i m : Nat), i ≤ l.length ∧ v = .int .i64 i ∧ wr = w.drewN m) (fun v _ => l.length - (intOf v).toNat)
  case atStart => exact ⟨0, 0, Nat.zero_le _, rfl, rfl⟩
  case round =>
    obtain ⟨i, m, hi, rfl, rfl⟩ := hrel
    by_cases hil : i < l.length
    · obtain ⟨g5, rfl⟩ := Ra.pos (by omega)
      obtain ⟨g6, rfl⟩ := Rb.pos (by omega)
      have q5 := Ra.cell (j := i) (v := .int .i64 l[i]) (by simp [ints, hil])
      have q6 := Rb.cell (j := i) (v := .int .i64 l[i]) (by simp [ints, hil])
      generalize l[i] = gi at *
      have hw : IntKind.i64.wrap (i : Int) = i := IntWalk.i64_in _ (by omega)
      have hi' : (i : Int) < l.length := by omega
      clear Ra Rb
      go_wp2_with fail
      go_quiet (fail)
      go_wp2_with fail
      exact ⟨⟨i + 1, m + nq, by omega, rfl, rfl⟩, by simp [intOf]; omega⟩
    · obtain rfl : i = l.length := by omega
      clear Ra Rb
      go_wp2_with fail
      go_ret
      exact ⟨rfl, m, rfl⟩
end

theorem keptC_all (l : List Int) (k : Nat) : keptC (fun _ => false) l k = l.take k := by
  unfold keptC
  rw [List.filter_eq_self.2 (by simp)]
  generalize l.take k = m
  simp

/-- No literal has a reason. -/
def NoR (s : TrailS) : Prop := ∀ x ∈ s.steps, x.reason = -1 ∧ 1 ≤ x.level
theorem NoR.new (n : Nat) : NoR (TrailS.new n) := fun x hx => by simp [TrailS.new] at hx
theorem NoR.decides {s : TrailS} (h : NoR s) (l : Int) : NoR (s.decide' l) := by
  unfold TrailS.decide'
  split
  · intro x hx
    simp only [TrailS.push, List.mem_append, List.mem_singleton] at hx
    rcases hx with hx | rfl
    · exact h x hx
    · exact ⟨rfl, by dsimp only; omega⟩
  · exact h
theorem NoR.reason {s : TrailS} (h : NoR s) (v : Int) : s.reason v = -1 := by
  unfold TrailS.reason
  cases hk : s.look v with
  | none => rfl
  | some y => exact (h _ (List.mem_of_getElem? (look_some hk).1)).1

def noA : ArM := ⟨[], 0, 0, fun _ => false⟩
theorem NoR.rsns {s : TrailS} (h : NoR s) (ha : ArH) : Rsns ha noA s (fun _ => []) := by
  intro v hv
  rw [h.reason v]
  refine ⟨fun γ w H => ?_, by simp, by simp⟩
  refine (ar_lits_no H (I64.small (by decide) (by decide)) rfl).mono ?_
  rintro e w' ⟨he, rfl⟩
  exact ⟨_, γ, he, ⟨none, 0, rfl, Row.nil _ _ _ _ _⟩, Turn.refl _ _ _⟩

theorem NoR.carr {s : TrailS} (h : NoR s) (W : TWf s) {i : Nat} {x : Step} (hx : s.steps[i]? = some x) (inn : Int → Bool) : Carr inn s (fun _ => []) 1 (fun _ => 0) (litVar (-x.l)) false (fun _ => 0) := by
  have e : litVar x.l = litVar (litVar (-x.l)) := by unfold litVar; split <;> split <;> (try split) <;> omega
  have h1 := W.levelOf_ hx e
  have h2 := (h x (List.mem_of_getElem? hx)).2
  refine .inl ⟨2, ?_, by decide, rfl, rfl⟩
  unfold firstS
  rw [if_neg (by simp), if_neg (by omega), if_pos (by rw [h.reason]; decide)]

/-- The literals' negations. -/
def negs (s : TrailS) (k : Nat) : List Int := (s.steps.take k).map fun x => -x.l
theorem negs_len {s : TrailS} {k : Nat} (h : k ≤ s.steps.length) : (negs s k).length = k := by simp [negs]; omega
theorem negs_succ {s : TrailS} {k : Nat} {x : Step} (hx : s.steps[k]? = some x) : negs s (k + 1) = negs s k ++ [-x.l] := by
  obtain ⟨hk, rfl⟩ := List.getElem?_eq_some_iff.1 hx
  unfold negs
  rw [List.take_succ_eq_append_getElem hk, List.map_append]
  rfl
theorem negs_get {s : TrailS} {i : Nat} {y : Int} (h : (negs s s.steps.length)[i]? = some y) : ∃ x, s.steps[i]? = some x ∧ y = -x.l := by
  unfold negs at h
  rw [List.take_length, List.getElem?_map, Option.map_eq_some_iff] at h
  obtain ⟨x, hx, rfl⟩ := h
  exact ⟨x, hx, rfl⟩
theorem negs_bd {s : TrailS} (W : TWf s) (hn : s.n ≤ 100000) : ∀ y ∈ negs s s.steps.length, -1000000 ≤ y ∧ y ≤ 1000000 := by
  intro y hy
  obtain ⟨i, hi⟩ := List.getElem?_of_mem hy
  obtain ⟨x, hx, rfl⟩ := negs_get hi
  have := W.small (List.mem_of_getElem? hx)
  omega

/-- The law's trail and arena. -/
structure Ta (W : World) (tb : Nat) (ha : ArH) (s : TrailS) (n : Nat) (γ : Tags) (w : World) : Prop where
  tr : TrS [0, 0] tb s γ w
  ar : ArAt γ w [0, 1] ha noA
  turn : Turn (fun _ => [1]) γ W w [[0]]
  nor : NoR s
  n : s.n = n

theorem Ta.drewN {W : World} {tb n : Nat} {ha : ArH} {s : TrailS} {γ : Tags} {w : World} (H : Ta W tb ha s n γ w) (k : Nat) : Ta W tb ha s n γ (w.drewN k) := ⟨H.tr.drewN k, H.ar.drewN k, H.turn.drewN k, H.nor, H.n⟩

set_option maxRecDepth 100000 in
set_option maxHeartbeats 4000000 in
theorem none_any (W : World) (vars : Nat) (hv : vars < 256) (a0 : Option Addr) (len cap : Nat) (hcap : len ≤ maxLen)
    (ha : 0 < len → ∃ bb off, a0 = some ⟨bb, off, none⟩ ∧ ∀ i, i < len → ∃ (x : Int), W.cell? ⟨bb, off + i, none⟩ = some (.int .i16 x) ∧ -32768 ≤ x ∧ x ≤ 32767) :
    Calls Try.prog 4 #[.int .u8 vars, .slice a0 len cap] W fun e w' => e = .returned (.bool true) ∧ Below W.heap.size W w' := by
  unfold maxLen at hcap
  have C0 := fit19 (fun _ => [1]) W
  go_enter Try.func4, Try.ntmps4
  go_wp2_with fail
  refine C0.mono ?_
  clear C0
  rintro e w1 ⟨rfl, γ1, T1⟩
  by_cases hlen : 40 < len
  · go_wp2_with fail
    go_ret
    exact ⟨rfl, T1.below⟩
  · go_wp2_with fail
    have hn12 : ((vars : Int) % 15) = ((vars % 15 : Nat) : Int) := by omega
    have hn11 : vars % 15 ≤ 14 := by omega
    rw [hn12]
    clear hn12
    generalize vars % 15 = n at *
    refine (s_new γ1 w1 [0, 0] n (by omega)).mono ?_
    rintro e w2 ⟨v, γ2, rfl, ⟨tb, rfl, H1, _⟩, T2⟩
    have C := ar_new γ2 w2 [0, 1] 0
    go_wp2_with fail
    refine C.mono ?_
    clear C
    rintro e w3 ⟨_, γ3, rfl, ⟨har, rfl, A3, _⟩, T3⟩
    have X3 : Ta W tb har (TrailS.new n) n γ3 w3 := ⟨H1.turn T3 (by simp), A3, (T1.trans (T2.to (by simp))).trans (T3.to (by simp)), NoR.new n, rfl⟩
    have X3h := Lib.hid X3
    clear H1 T1 T2 A3 T3 X3
    go_wp2_with fail
    go_loopw [26] (fun v wr => ∃ (k : Nat) (s : TrailS) (γ : Tags), k ≤ len ∧ v = .int .i64 k ∧ Ta W tb har s n γ wr) (fun v _ => len - (intOf v).toNat)
    case atStart => exact ⟨0, _, γ3, Nat.zero_le _, rfl, X3h.out⟩
    case round =>
      obtain ⟨k, s, γ, hk, rfl, X⟩ := hrel
      clear X3h
      by_cases hkl : k < len
      · obtain ⟨bb, off, rfl, hc⟩ := ha (by omega)
        obtain ⟨x, c0, hx1, hx2⟩ := hc k hkl
        have d0 := X.turn.old c0
        have C := s_decide X.tr x
        have Xh := Lib.hid X
        clear c0 hc ha X
        go_wp2_with fail
        refine C.mono ?_
        clear C
        rintro e w4 ⟨rfl, γ4, S4, T4⟩
        have X4 : Ta W tb har (s.decide' x) n γ4 w4 := ⟨S4, Xh.out.ar.turn T4 (by simp), Xh.out.turn.trans (T4.to (by simp)), Xh.out.nor.decides x, (decide_n _).trans Xh.out.n⟩
        have X4h := Lib.hid X4
        clear S4 T4 X4
        go_wp2_with fail
        exact ⟨⟨k + 1, _, γ4, by omega, by go_num, X4h.out⟩, by simp [intOf]; omega⟩
      · obtain rfl : k = len := by omega
        clear ha
        have hnn := X.n
        have hl1 := X.tr.len
        have hl2 := X.tr.few
        have wf := X.tr.wf
        have C := s_len X.tr
        have nor := X.nor
        have Xh := Lib.hid X
        have wfh := Lib.hid wf
        have norh := Lib.hid nor
        have hbd := Lib.hid (negs_bd wf hl2)
        have hnnh := Lib.hid hnn
        have hl3 : s.steps.length ≤ 14 := by omega
        obtain ⟨i0, ii⟩ := Try.infoInt
        clear X wf nor hnn
        go_wp2_with fail
        refine C.mono ?_
        clear C
        rintro e w5 ⟨rfl, n5, rfl⟩
        go_wp2_with fail
        go_loopw [10, 37] (fun v10 v wr => ∃ (i : Nat) (γ2 : Tags) (a5 : Option Addr) (c5 : Nat), i ≤ s.steps.length ∧ v = .int .i64 i ∧ v10 = .slice a5 (negs s i).length c5 ∧ Row γ2 wr [0, 5] 3 1 a5 (negs s i).length c5 (ints (negs s i)) ∧ Ta W tb har s n γ2 wr) (fun _ v _ => s.steps.length - (intOf v).toNat)
        case atStart => exact ⟨0, γ, none, 0, Nat.zero_le _, rfl, rfl, Row.nil _ _ _ _ _, Xh.out.drewN n5⟩
        case round =>
          obtain ⟨i, γ2, a5, c5, hi, rfl, rfl, R5, X5⟩ := hrel
          clear Xh
          have hnl : (negs s i).length ≤ 14 := by rw [negs_len hi]; omega
          by_cases hil : i < s.steps.length
          · have hx := List.getElem?_eq_getElem hil
            generalize s.steps[i] = x at *
            have hxb := wfh.out.small (List.mem_of_getElem? hx)
            have hx1 : -14 ≤ x.l := by have := hnnh.out; omega
            have hx2 : x.l ≤ 14 := by have := hnnh.out; omega
            have hns := negs_succ hx
            have C := s_at X5.tr (i : Int)
            rw [wfh.out.at_ hx] at C
            have nsh := Lib.hid hns
            have X5h := Lib.hid X5
            clear hx hns X5
            go_wp2_with fail
            refine C.mono ?_
            clear C
            rintro e w6 ⟨rfl, n6, rfl⟩
            have R6 := R5.drewN n6
            go_wp2_with (at_builtin; refine wpList_append_one _ rfl _ _ 36 rfl 3 i0 (.int .i64 0) 8 Try.underlying36 ii rfl a5 c5 (negs s i).length (ints (negs s i)) rfl R6 (.int .i64 (-x.l)) rfl rfl (by unfold maxLen; omega) (by omega) ?_; intro γ7 g7 c7 w7 R7 T7)
            have e1 : ints (negs s i) ++ [Value.int .i64 (-x.l)] = ints (negs s (i + 1)) := by rw [nsh.out]; simp [ints]
            have e2 : (negs s i).length + 1 = (negs s (i + 1)).length := by rw [nsh.out]; simp
            rw [e1, e2] at R7
            rw [e2]
            have X6 := X5h.out.drewN n6
            go_roundw
            case rel => exact ⟨i + 1, γ7, _, c7, by omega, by go_num, rfl, R7, X6.tr.turn T7 (by simp), X6.ar.turn T7 (by simp), X6.turn.trans (T7.to (by simp)), X6.nor, X6.n⟩
            case measure => simp [intOf]; omega
          · obtain rfl : i = s.steps.length := by omega
            have Zt : Tal γ2 wr s tb har noA (negs s s.steps.length) a5 c5 := ⟨X5.tr, X5.ar, R5⟩
            have Zth := Lib.hid (And.intro Zt X5.turn)
            have hget := Lib.hid (fun i y => negs_get (s := s) (i := i) (y := y))
            clear X5 R5 Zt
            generalize negs s s.steps.length = l at *
            go_wp2_with fail
            go_loopw [50] (fun v wr => ∃ (j : Nat) (γ2 : Tags), j ≤ l.length ∧ v = .int .i64 j ∧ Tal γ2 wr s tb har noA l a5 c5 ∧ Turn (fun _ => [1]) γ2 W wr [[0]]) (fun v _ => l.length - (intOf v).toNat)
            case atStart => exact ⟨0, γ2, Nat.zero_le _, rfl, Zth.out.1, Zth.out.2⟩
            case round =>
              obtain ⟨j, γ8, hj, rfl, Z8, T8⟩ := hrel
              clear Zth
              by_cases hjl : j < l.length
              · obtain ⟨x, hx, hxy⟩ := hget.out j _ (List.getElem?_eq_getElem hjl)
                have hxl : l[j]? = some (-x.l) := by rw [← hxy]; exact List.getElem?_eq_getElem hjl
                have hca := norh.out.carr wfh.out hx (inS l)
                clear hxy
                by_cases hj0 : 0 < j
                · have C := needless_yes Z8 (norh.out.rsns har) hbd.out j (-x.l) hxl hj0 (N := 1) (by decide) hca
                  have Zh := Lib.hid (And.intro Z8 T8)
                  clear Z8 T8 hx hxl hca
                  go_wp2_with fail
                  refine C.mono ?_
                  clear C
                  rintro e w9 ⟨_, γ9, rfl, rfl, T9⟩
                  have Z9h := Lib.hid (And.intro (Zh.out.1.turn T9 (by simp) (by simp) (by simp)) (Zh.out.2.trans (T9.to (by simp))))
                  clear T9 Zh
                  go_wp2_with fail
                  exact ⟨⟨j + 1, γ9, by omega, by go_num, Z9h.out.1, Z9h.out.2⟩, by simp [intOf]; omega⟩
                · have C := needless_no Z8 (j : Int) (by omega)
                  have Zh := Lib.hid (And.intro Z8 T8)
                  clear Z8 T8 hx hxl hca
                  go_wp2_with fail
                  refine C.mono ?_
                  clear C
                  rintro e w9 ⟨rfl, n9, rfl⟩
                  go_wp2_with fail
                  exact ⟨⟨j + 1, γ8, by omega, by go_num, Zh.out.1.drewN n9, Zh.out.2.drewN n9⟩, by simp [intOf]; omega⟩
              · obtain rfl : j = l.length := by omega
                have C := minimise_any Z8 (norh.out.rsns har) hbd.out (by omega) (N := 1) (by decide) (fun _ => false) (fun _ _ => 0) rfl (fun k y _ hy => by
                  obtain ⟨x, hx, rfl⟩ := hget.out _ _ hy
                  exact norh.out.carr wfh.out hx _)
                rw [keptC_all, List.take_length] at C
                have Zh := Lib.hid (And.intro Z8.row T8)
                clear Z8 T8
                go_wp2_with fail
                refine C.mono ?_
                clear C
                rintro e w9 ⟨_, γ9, rfl, ⟨a6, c6, rfl, R9⟩, T9⟩
                have C2 := same19 R9 (Zh.out.1.turn T9 (by simp))
                have Wh := Lib.hid (Zh.out.2.trans (T9.to (by simp)))
                clear R9 T9 Zh
                go_wp2_with fail
                refine C2.mono ?_
                clear C2
                rintro e w10 ⟨rfl, n10, rfl⟩
                go_wp2_with fail
                go_ret
                exact ⟨rfl, (Wh.out.drewN n10).below⟩

end Go.Proofs.Ytlmmiobnbcanmaa
