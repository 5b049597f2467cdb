import Derived.Test.YtlmmiobnbcanmaaMinCar
namespace Go.Proofs.Ytlmmiobnbcanmaa
open Go.RowKit

section
variable {γ γ' : Tags} {w w' : World} {s : TrailS} {ha : ArH} {m : ArM} {Ls : Int → List Int}

/-- A trail, an arena and a list. -/
structure Tal (γ : Tags) (w : World) (s : TrailS) (tb : Nat) (ha : ArH) (m : ArM) (l : List Int) (a : Option Addr) (cap : Nat) : Prop where
  tr : TrS [0, 0] tb s γ w
  ar : ArAt γ w [0, 1] ha m
  row : Row γ w [0, 5] 3 1 a l.length cap (ints l)

variable {tb : Nat} {l : List Int} {a : Option Addr} {cap : Nat}
theorem Tal.drewN (Z : Tal γ w s tb ha m l a cap) (n : Nat) : Tal γ (w.drewN n) s tb ha m l a cap := ⟨Z.tr.drewN n, Z.ar.drewN n, Z.row.drewN n⟩
theorem Tal.turn {ps : List Tag} (Z : Tal γ w s tb ha m l a cap) (T : Turn γ γ' w w' ps) (h1 : ∀ x, ¬ Under ps ([0, 0] ++ x)) (h2 : ∀ x, ¬ Under ps ([0, 1] ++ x)) (h3 : ¬ Under ps [0, 5]) : Tal γ' w' s tb ha m l a cap :=
  ⟨Z.tr.turn T h1, Z.ar.turn T h2, Z.row.turn T h3⟩

theorem litVar_I64 {x : Int} (h : -1000000 ≤ x ∧ x ≤ 1000000) : I64 (litVar x) := I64.small (by unfold litVar; split <;> omega) (by unfold litVar; split <;> omega)

theorem needless_no (Z : Tal γ w s tb ha m l a cap) (i : Int) (hi : ¬ (0 < i ∧ i < l.length)) :
    Calls Try.prog 21 #[.pointer (some ⟨tb, 0, none⟩), .pointer (some ⟨ha.b, 0, none⟩), .slice a l.length cap, .int .i64 i] w (Quiet w (.bool false)) := by
  have hle := Z.row.le
  unfold maxLen at hle
  clear Z
  by_cases h1 : 0 < i
  · have h2 : ¬ i < l.length := fun h => hi ⟨h1, h⟩
    have d1 : decide (0 < i) = true := by simpa using h1
    have d2 : decide (i < (l.length : Int)) = false := by simpa using h2
    clear hi
    go_enter Try.func21, Try.ntmps21
    go_wp2_with fail
    go_quiet (fail)
    go_wp2_with fail
    go_ret
    exact ⟨rfl, _, rfl⟩
  · have d1 : decide (0 < i) = false := by simpa using h1
    clear hi
    go_enter Try.func21, Try.ntmps21
    go_wp2_with fail
    go_quiet (fail)
    go_wp2_with fail
    go_ret
    exact ⟨rfl, _, rfl⟩

set_option maxHeartbeats 2000000 in
theorem needless_yes (Z : Tal γ w s tb ha m l a cap) (hR : Rsns ha m s Ls) (hl : ∀ x ∈ l, -1000000 ≤ x ∧ x ≤ 1000000) (i : Nat) (x : Int) (hx : l[i]? = some x) (h0 : 0 < i) {N : Nat} (hN : N < 1000000) {b : Bool} {st' : Int → Int} (hC : Carr (inS l) s Ls N (fun _ => 0) (litVar x) b st') :
    Calls Try.prog 21 #[.pointer (some ⟨tb, 0, none⟩), .pointer (some ⟨ha.b, 0, none⟩), .slice a l.length cap, .int .i64 i] w (Gives γ w [[0, 2], [0, 3], [0, 4]] fun rv _ _ => rv = .bool b) := by
  have hle := Z.row.le
  unfold maxLen at hle
  have hil := (List.getElem?_eq_some_iff.1 hx).1
  have hxb := hl x (List.mem_of_getElem? hx)
  have d1 : decide (0 < (i : Int)) = true := by simpa using h0
  have d2 : decide ((i : Int) < (l.length : Int)) = true := by simpa using hil
  have hw : IntKind.i64.wrap (i : Int) = i := IntWalk.i64_in _ (by omega)
  obtain ⟨g, rfl⟩ := Z.row.pos (by omega)
  have c0 := Z.row.cell (j := i) (v := .int .i64 x) (by rw [ints, List.getElem?_map, hx]; rfl)
  have C1 := mn_begin γ (w.drewN 1) [0, 2] tb ha.b (Z.drewN 1).row (by simp) hl
  have Zh := Lib.hid (Z.drewN 1)
  have hh := Lib.hid (And.intro hR hC)
  have hxh := Lib.hid hx
  clear Z hR hC hx hl
  go_enter Try.func21, Try.ntmps21
  go_wp2_with fail
  go_region_held3 (fun w' => w'.cell? ⟨g, i, none⟩ = some (.int .i64 x)) (go_keep)
    (first
      | (go_at_call 33; refine C1.mono ?_; rintro e wa ⟨_, γa, rfl, ⟨h, rfl, htb, hab, hs0, Hm⟩, Ta⟩; have Za := Zh.out.turn Ta (by simp) (by simp) (by simp); have ca := Za.row.cell (j := i) (v := .int .i64 x) (by rw [ints, List.getElem?_map, hxh.out]; rfl))
      | (go_at_call 35; refine (var_any x _ (by omega) (by omega)).mono ?_; rintro e wb ⟨rfl, rfl⟩)
      | (go_at_call 34; refine (mn_carr ⟨by rw [htb]; exact Za.tr, Za.ar, hab, Hm⟩ hh.out.1 (litVar_I64 hxb) hh.out.2 (by omega)).mono ?_; rintro e wc ⟨_, γc, rfl, ⟨rfl, _, _, _, _, Mc⟩, Tc⟩; have cc := (Za.turn Tc (by simp) (by simp) (by simp)).row.cell (j := i) (v := .int .i64 x) (by rw [ints, List.getElem?_map, hxh.out]; rfl)))
  go_wp2_with fail
  go_ret
  exact ⟨_, γc, rfl, rfl, (Ta.of_drewN.to (by simp)).trans Tc⟩

/-- What stays of the first k. -/
def keptC (cb : Nat → Bool) (l : List Int) (k : Nat) : List Int := ((l.take k).zipIdx.filter fun x => x.2 == 0 || !cb x.2).map (·.1)
theorem keptC_zero (cb : Nat → Bool) (l : List Int) : keptC cb l 0 = [] := by simp [keptC]
theorem keptC_succ (cb : Nat → Bool) {l : List Int} {k : Nat} {x : Int} (hx : l[k]? = some x) : keptC cb l (k + 1) = keptC cb l k ++ (if k = 0 ∨ cb k = false then [x] else []) := by
  obtain ⟨hk, rfl⟩ := List.getElem?_eq_some_iff.1 hx
  unfold keptC
  rw [List.take_succ_eq_append_getElem hk, List.zipIdx_append, List.filter_append, List.map_append]
  congr 1
  simp only [List.zipIdx_singleton, List.length_take, Nat.min_eq_left (Nat.le_of_lt hk), Nat.zero_add]
  by_cases h : k = 0
  · simp [h]
  · cases hc : cb k <;> simp [h, hc]
theorem keptC_len (cb : Nat → Bool) (l : List Int) (k : Nat) : (keptC cb l k).length ≤ k := by
  unfold keptC
  rw [List.length_map]
  refine Nat.le_trans (List.length_filter_le _ _) ?_
  simp; omega

set_option maxRecDepth 100000 in
set_option maxHeartbeats 4000000 in
theorem minimise_any (Z : Tal γ w s tb ha m l a cap) (hR : Rsns ha m s Ls) (hl : ∀ x ∈ l, -1000000 ≤ x ∧ x ≤ 1000000) (hll : l.length ≤ 1000) {N : Nat} (hN : N ≤ 1000) (cb : Nat → Bool) (sts : Nat → Int → Int) (h1 : sts 1 = fun _ => 0)
    (hC : ∀ k x, 0 < k → l[k]? = some x → Carr (inS l) s Ls N (sts k) (litVar x) (cb k) (sts (k + 1))) :
    Calls Try.prog 23 #[.pointer (some ⟨tb, 0, none⟩), .pointer (some ⟨ha.b, 0, none⟩), .slice a l.length cap] w
      (Gives γ w [[0, 2], [0, 3], [0, 4], [0, 6]] fun rv γ' w' => ∃ a6 c6, rv = .slice a6 (keptC cb l l.length).length c6 ∧ Row γ' w' [0, 6] 3 1 a6 (keptC cb l l.length).length c6 (ints (keptC cb l l.length))) := by
  obtain ⟨i0, ii⟩ := Try.infoInt
  have C1 := mn_begin γ w [0, 2] tb ha.b Z.row (by simp) hl
  have Zh := Lib.hid Z
  have hh := Lib.hid (And.intro hR hC)
  have h1h := Lib.hid h1
  clear Z hR hC h1
  go_enter Try.func23, Try.ntmps23
  go_wp2_with fail
  refine C1.mono ?_
  clear C1
  rintro e w1 ⟨_, γ1, rfl, ⟨h, rfl, htb, hab, hs0, Hm⟩, T1⟩
  have Z1 := Zh.out.turn T1 (by simp) (by simp) (by simp)
  have M1 : Mini γ1 w1 [0, 0] [0, 1] [0, 2] s ha m h (inS l) (fun _ => 0) := ⟨by rw [htb]; exact Z1.tr, Z1.ar, hab, Hm⟩
  have Z1h := Lib.hid (And.intro Z1.row (And.intro M1 T1))
  clear Z1 M1 T1 Hm
  obtain ⟨bm, hbm⟩ : ∃ bm, h.b = bm := ⟨_, rfl⟩
  rw [hbm]
  have hbmh := Lib.hid hbm
  clear hbm
  go_wp2_with fail
  go_loopw [8, 17] (fun v8 v wr => ∃ (k : Nat) (γk : Tags) (h2 : MnH) (st : Int → Int) (a6 : Option Addr) (c6 : Nat), k ≤ l.length ∧ v = .int .i64 k ∧ v8 = .slice a6 (keptC cb l k).length c6 ∧ Row γk wr [0, 6] 3 1 a6 (keptC cb l k).length c6 (ints (keptC cb l k)) ∧ h2.b = bm ∧ h2.tb = h.tb ∧ h2.sz ≤ k * N ∧ Row γk wr [0, 5] 3 1 a l.length cap (ints l) ∧
    Mini γk wr [0, 0] [0, 1] [0, 2] s ha m h2 (inS l) st ∧ RowKit.Hid (k = 0 ∧ st = (fun _ => 0) ∨ 0 < k ∧ st = sts k) ∧ Turn γ γk w wr [[0, 2], [0, 3], [0, 4], [0, 6]]) (fun _ v _ => l.length - (intOf v).toNat)
  case atStart =>
    refine ⟨0, γ1, h, _, none, 0, Nat.zero_le _, rfl, by rw [keptC_zero]; rfl, by rw [keptC_zero]; exact Row.nil _ _ _ _ _, hbmh.out, rfl, by omega, Z1h.out.1, Z1h.out.2.1, Lib.hid (.inl ⟨rfl, rfl⟩), Z1h.out.2.2.to (by simp)⟩
  case round =>
    obtain ⟨k, γk, h2, st, a6, c6, hk, rfl, rfl, R6, hb, htb2, hz, Rl, Mk, Hst, Tk⟩ := hrel
    clear Z1h
    subst hb
    have hkl0 := keptC_len cb l k
    by_cases hkl : k < l.length
    · have hx := List.getElem?_eq_getElem hkl
      have hxb := hl _ (List.getElem_mem hkl)
      generalize l[k] = x at *
      have hks := keptC_succ cb hx
      obtain ⟨g, rfl⟩ := Rl.pos (by omega)
      have c0 := Rl.cell (j := k) (v := .int .i64 x) (by rw [ints, List.getElem?_map, hx]; rfl)
      have hNk : h2.sz + N < 10000000 := by
        have : k * N ≤ 1000 * 1000 := Nat.mul_le_mul (by omega) hN
        omega
      have hN2 : h2.sz + N ≤ (k + 1) * N := by rw [Nat.add_mul]; omega
      by_cases hk0 : k = 0
      · subst hk0
        rw [if_pos (.inl rfl)] at hks
        have hst : st = fun _ => 0 := by
          rcases Hst.out with ⟨_, h⟩ | ⟨h, _⟩
          · exact h
          · omega
        have Hst2 : RowKit.Hid (0 + 1 = 0 ∧ st = (fun _ => 0) ∨ 0 < 0 + 1 ∧ st = sts (0 + 1)) := Lib.hid (.inr ⟨by omega, by rw [hst]; exact h1h.out.symm⟩)
        have Hks := Lib.hid hks
        have Kh := Lib.hid (And.intro Rl (And.intro Mk Tk))
        clear hst Hst hks hx Rl Mk Tk
        go_wp2_with (at_builtin; refine wpList_append_one _ rfl _ _ 36 rfl 3 i0 (.int .i64 0) 8 Try.underlying36 ii rfl a6 c6 (keptC cb l 0).length (ints (keptC cb l 0)) rfl R6 (.int .i64 x) rfl rfl (by unfold maxLen; omega) (by omega) ?_; intro γ7 g7 c7 w7 R7 T7)
        have e1 : ints (keptC cb l 0) ++ [Value.int .i64 x] = ints (keptC cb l (0 + 1)) := by rw [Hks.out]; simp [ints]
        have e2 : (keptC cb l 0).length + 1 = (keptC cb l (0 + 1)).length := by rw [Hks.out]; simp
        rw [e1, e2] at R7
        rw [e2]
        go_roundw
        case rel => exact ⟨0 + 1, γ7, h2, st, _, c7, by omega, by go_num, rfl, R7, rfl, htb2, by omega, Kh.out.1.turn T7 (by simp), Kh.out.2.1.turn T7 (by simp) (by simp) (by simp), Hst2, Kh.out.2.2.trans (T7.to (by simp))⟩
        case measure => simp [intOf]; omega
      · have hb0 : ((k : Int) == 0) = false := by simpa using hk0
        have hst : st = sts k := by
          rcases Hst.out with ⟨h, _⟩ | ⟨_, h⟩
          · omega
          · exact h
        subst hst
        have Cc := hh.out.2 k x (by omega) hx
        have Cm := mn_carr Mk hh.out.1 (litVar_I64 hxb) Cc hNk
        have Hks := Lib.hid hks
        have Kh := Lib.hid (And.intro Rl Tk)
        have Cmh := Lib.hid Cm
        clear Hst hks hx Rl Mk Tk Cm Cc
        cases hcb : cb k with
        | true =>
          rw [hcb] at Cmh
          have Hcb := Lib.hid hcb
          clear hcb
          go_wp2_with (go_at_call 35; refine (var_any x _ (by omega) (by omega)).mono ?_; rintro e wb ⟨rfl, rfl⟩)
          refine Cmh.out.mono ?_
          rintro e w3 ⟨_, γ3, rfl, ⟨rfl, h3, hb3, htb3, hz3, M3⟩, T3⟩
          have K3h := Lib.hid (And.intro M3 T3)
          clear M3 T3 Cmh
          go_wp2_with fail
          have e : keptC cb l (k + 1) = keptC cb l k := by rw [Hks.out, if_neg (by rw [Hcb.out]; simp [hk0]), List.append_nil]
          go_roundw
          case rel => exact ⟨k + 1, γ3, h3, sts (k + 1), a6, c6, by omega, by go_num, by rw [e], by rw [e]; exact R6.turn K3h.out.2 (by simp), hb3, htb3.trans htb2, by omega, Kh.out.1.turn K3h.out.2 (by simp), K3h.out.1, Lib.hid (.inr ⟨by omega, rfl⟩), Kh.out.2.trans (K3h.out.2.to (by simp))⟩
          case measure => simp [intOf]; omega
        | false =>
          rw [hcb] at Cmh
          have Hcb := Lib.hid hcb
          clear hcb
          go_wp2_with (go_at_call 35; refine (var_any x _ (by omega) (by omega)).mono ?_; rintro e wb ⟨rfl, rfl⟩)
          refine Cmh.out.mono ?_
          rintro e w3 ⟨_, γ3, rfl, ⟨rfl, h3, hb3, htb3, hz3, M3⟩, T3⟩
          have K3h := Lib.hid (And.intro M3 T3)
          have R3 := R6.turn T3 (by simp)
          clear M3 T3 Cmh
          go_wp2_with (at_builtin; refine wpList_append_one _ rfl _ _ 36 rfl 3 i0 (.int .i64 0) 8 Try.underlying36 ii rfl a6 c6 (keptC cb l k).length (ints (keptC cb l k)) rfl R3 (.int .i64 x) rfl rfl (by unfold maxLen; omega) (by omega) ?_; intro γ7 g7 c7 w7 R7 T7)
          have ek : keptC cb l (k + 1) = keptC cb l k ++ [x] := by rw [Hks.out, if_pos (.inr Hcb.out)]
          have e1 : ints (keptC cb l k) ++ [Value.int .i64 x] = ints (keptC cb l (k + 1)) := by rw [ek]; simp [ints]
          have e2 : (keptC cb l k).length + 1 = (keptC cb l (k + 1)).length := by rw [ek]; simp
          rw [e1, e2] at R7
          rw [e2]
          go_roundw
          case rel => exact ⟨k + 1, γ7, h3, sts (k + 1), _, c7, by omega, by go_num, rfl, R7, hb3, htb3.trans htb2, by omega, (Kh.out.1.turn K3h.out.2 (by simp)).turn T7 (by simp), K3h.out.1.turn T7 (by simp) (by simp) (by simp), Lib.hid (.inr ⟨by omega, rfl⟩), (Kh.out.2.trans (K3h.out.2.to (by simp))).trans (T7.to (by simp))⟩
          case measure => simp [intOf]; omega
    · obtain rfl : k = l.length := by omega
      have Kh := Lib.hid (And.intro R6 Tk)
      clear R6 Rl Mk Tk Hst
      go_wp2_with fail
      go_ret
      exact ⟨_, γk, rfl, ⟨a6, c6, rfl, Kh.out.1⟩, Kh.out.2⟩

end

end Go.Proofs.Ytlmmiobnbcanmaa
