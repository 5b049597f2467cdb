import Derived.Test.YtlmmiobnbcanmaaTrailC
namespace Go.Proofs.Ytlmmiobnbcanmaa
open Go.RowKit

@[simp] theorem unset_length (cells : List TCell) (x : Int) : (unset cells x).length = cells.length := by simp [unset]
@[simp] theorem unsets_length (l : List Int) : ∀ cells : List TCell, (l.foldl unset cells).length = cells.length := by
  induction l with
  | nil => intro cells; rfl
  | cons x l ih => intro cells; simp [ih]

theorem back_step {t : TrailM} {k n : Nat} (hn : t.l.length = n + 1 + k) (hn1 : n < t.l.length) : t.l.reverse.take (k + 1) = t.l.reverse.take k ++ [t.l[n]] := by
  rw [List.take_succ_eq_append_getElem (by simp; omega)]
  have e : t.l.length - 1 - k = n := by omega
  simp [e]

theorem unset_eq {cells : List TCell} {x : Int} {i : Nat} {c : TCell} (hi : litVar x = i + 1) (hc : cells[i]? = some c) : cells.set i { c with value := 0 } = unset cells x := by
  have e : (litVar x - 1).toNat = i := by omega
  obtain ⟨hlt, hcc⟩ := List.getElem?_eq_some_iff.1 hc
  unfold unset
  rw [e]
  apply List.ext_getElem?
  intro j
  by_cases hj : j = i
  · subst hj; simp [hlt, hcc]
  · simp [Ne.symm hj]

theorem own_starts {γ : Tags} {w : World} {p : Tag} {h : TrailH} {t : TrailM} (H : TrailAt γ w p h t) {lv : Nat} (hlt : lv < t.starts.length) : ∃ g, h.sa = some ⟨g, 0, none⟩ ∧ w.cell? ⟨g, lv, none⟩ = some (.int .i64 t.starts[lv]) := by
  obtain ⟨g, hg, hc⟩ := own_ints H.starts.own (by omega)
  exact ⟨g, hg, hc lv hlt⟩
theorem own_lits {γ : Tags} {w : World} {p : Tag} {h : TrailH} {t : TrailM} (H : TrailAt γ w p h t) {i : Nat} (hlt : i < t.l.length) : ∃ g, h.la = some ⟨g, 0, none⟩ ∧ w.cell? ⟨g, i, none⟩ = some (.int .i64 t.l[i]) := by
  obtain ⟨g, hg, hc⟩ := own_ints H.lits.own (by omega)
  exact ⟨g, hg, hc i hlt⟩

set_option maxHeartbeats 2000000 in
theorem back_cut {γ : Tags} {w : World} {p q : Tag} {h : TrailH} {t : TrailM} (H : TrailAt γ w p h t) (hpq : ∀ x, ¬ Under [q] (p ++ x)) (hqp : ¬ Under [p] q) (level : Int) (lv : Nat) (hlv : max level 0 = lv) (hlt : lv < t.starts.length)
    (hst : ∃ s : Nat, t.starts[lv] = s ∧ s ≤ t.l.length) (hr : ∀ x ∈ t.l, rightB x t.cells.length = true) (hmax : t.l.length < 1000000) :
    Calls Try.prog 10 #[.pointer (some ⟨h.b, 0, none⟩), .int .i64 level] w (Gives γ w [p, q] fun v γ' w' => ∃ a cap, v = .slice a (t.l.length - t.start lv) cap ∧
      Row γ' w' q 3 1 a (t.l.length - t.start lv) cap (ints (t.l.drop (t.start lv)).reverse) ∧ TrailNow p h.b (t.cut lv) γ' w') := by
  obtain ⟨i0, ii⟩ := Try.infoInt
  obtain ⟨s, hs, hsl⟩ := hst
  have hstart : t.start lv = s := by simp [TrailM.start, hlt, hs]
  rw [hstart]
  have Hstart := Lib.hid hstart
  clear hstart
  have f2 := H.f2
  have f1 := H.f1
  have Hs := Lib.hid hs
  have Hlv := Lib.hid hlv
  clear hs
  by_cases h0 : level < 0
  · obtain rfl : lv = 0 := by omega
    clear hlv Hlv
    have hne : ¬ t.starts = [] := by intro e; simp [e] at hlt
    have hlt' : (0 : Int) < t.starts.length := by omega
    go_enter Try.func10, Try.ntmps10
    go_wp2
    go_loopw [5, 6] (fun v5 v6 wr => ∃ (k : Nat) (γk : Tags) (a : Option Addr) (cap : Nat), k + s ≤ t.l.length ∧ v5 = .slice a k cap ∧ v6 = .int .i64 ((t.l.length : Int) - 1 - k) ∧ Row γk wr q 3 1 a k cap (ints (t.l.reverse.take k)) ∧
      TrailAt γk wr p h { t with cells := (t.l.reverse.take k).foldl unset t.cells } ∧ Turn γ γk w wr [p, q]) (fun _ v6 _ => (intOf v6 + 1 - s).toNat)
    case atStart => exact ⟨0, γ, none, 0, by omega, rfl, by simp, Row.nil _ _ _ _ _, H, Turn.refl _ _ _⟩
    case round =>
      obtain ⟨k, γk, a, cap, hk, rfl, rfl, hrk, Hk, hTk⟩ := hrel
      obtain ⟨sg, hsg, hsc⟩ := own_starts Hk (lv := 0) hlt
      have f1 := Hk.f1
      have f2 := Hk.f2
      dsimp only at f1 f2 hsc
      rw [Hs.out] at hsc
      rw [hsg] at f2
      have Hsg := Lib.hid hsg
      clear hsg
      by_cases hks : k + s < t.l.length
      · obtain ⟨n, hn⟩ : ∃ n : Nat, t.l.length = n + 1 + k := ⟨t.l.length - 1 - k, by omega⟩
        have hn1 : n < t.l.length := by omega
        rw [show ((t.l.length : Int) - 1 - k) = (n : Int) from by omega]
        have hns : (s : Int) ≤ n := by omega
        have hn2 : (n : Int) < t.l.length := by omega
        obtain ⟨lg, hlg, hlc⟩ := own_lits Hk (i := n) hn1
        dsimp only at hlc
        rw [hlg] at f1
        have Hlg := Lib.hid hlg
        clear hlg
        have hrx := hr _ (List.getElem_mem hn1)
        have hbs := back_step hn hn1
        have Hn := Lib.hid hn
        clear hn
        generalize hx : t.l[n] = x at *
        obtain ⟨i, hi, hin⟩ := idx_of hrx
        have Hbs := Lib.hid hbs
        have Hx := Lib.hid hx
        have Hi := Lib.hid hi
        clear hbs hx hi
        go_wp2_with (at_builtin; go_must (refine wpList_append_one _ rfl _ _ 36 rfl 3 i0 (.int .i64 0) 8 Try.underlying36 ii rfl a cap k (ints (t.l.reverse.take k)) rfl hrk (.int .i64 x) rfl rfl (by unfold maxLen; omega) (by omega) ?_))
        intro γ1 g1 cap1 w1 hr1 hT1
        have H1 := Hk.turn hT1 hpq
        have f1' := H1.f1
        obtain ⟨lg', hlg', hlc'⟩ := own_lits H1 (i := n) hn1
        dsimp only at f1' hlc'
        rw [Hx.out] at hlc'
        rw [hlg'] at f1'
        clear hlg'
        have C := cell_yes H1 x i (by simpa using hrx) Hi.out
        obtain ⟨c, hc⟩ : ∃ c, ((t.l.reverse.take k).foldl unset t.cells)[i]? = some c := ⟨_, List.getElem?_eq_getElem (by simpa using hin)⟩
        obtain ⟨hlc2, hcc⟩ := List.getElem?_eq_some_iff.1 hc
        have k0 := (H1.cs hc).1
        have g0 := H1.vars.free (i * 5)
        have hsg2 := H1.signs c (List.mem_of_getElem? hc)
        have S1 := fun n w' => H1.set_one hlc2 n 0 (by omega) (.int .i64 0) { c with value := 0 } ⟨by dsimp only; omega, by dsimp only; omega⟩ (by rw [hcc]; rfl) w'
        dsimp only at S1
        rw [unset_eq Hi.out hc] at S1
        have e2 : unset ((t.l.reverse.take k).foldl unset t.cells) x = (t.l.reverse.take (k + 1)).foldl unset t.cells := by rw [Hbs.out, List.foldl_append]; rfl
        rw [e2] at S1
        have e3 : ints (t.l.reverse.take k) ++ [Value.int .i64 x] = ints (t.l.reverse.take (k + 1)) := by rw [Hbs.out]; simp [ints]
        rw [e3] at hr1
        clear f1 f2 hsc hlc hrk Hk hc hcc e2 e3 hsg2 hlc2
        go_wp2_with (go_at_call 28; refine C.mono ?_; rintro e w' ⟨rfl, m, rfl⟩)
        obtain ⟨S2, T2⟩ := S1 m _ rfl
        go_roundw
        case rel =>
          refine ⟨k + 1, γ1, some ⟨g1, 0, none⟩, cap1, by omega, rfl, ?_, ?_, S2, ?_⟩
          · have := Hn.out; congr 1; omega
          · exact hr1.turn T2 (by simpa using fun hh => hqp (by simpa using (List.prefix_append p [1]).trans hh))
          · exact (hTk.trans (hT1.to (by simp))).trans (T2.to (by simp))
        case measure => simp [intOf]; omega
      · have hks' : (t.l.length : Int) - 1 - k < s := by omega
        have g1 := Hk.head.free 1
        have g2 := Hk.head.free 2
        have hc1 : s ≤ h.lc := Nat.le_trans hsl Hk.lits.le_cap
        have hc2 : 0 ≤ h.sc := Nat.le_trans (Nat.le_of_lt hlt) Hk.starts.le_cap
        have hc1' : (s : Int) ≤ h.lc := by omega
        have hc2' : (0 : Int) ≤ h.sc := by omega
        go_wp2
        go_region
        obtain ⟨H5, T5⟩ := Hk.lits_turned (a := h.la) (cap := h.lc) (l := t.l.take s) (Turn.refl _ _ _) (by
          have := Hk.lits.take (m := s) hsl
          simpa [ints, Nat.min_eq_left hsl] using this) _ rfl
        obtain ⟨H6, T6⟩ := H5.starts_turned (a := some ⟨sg, 0, none⟩) (cap := h.sc) (l := t.starts.take 0) (Turn.refl _ _ _) (by
          have := H5.starts.take (m := 0) (Nat.le_of_lt hlt)
          rw [← Hsg.out]
          simpa [ints, Nat.min_eq_left (Nat.le_of_lt hlt)] using this) _ rfl
        have hks2 : k = t.l.length - s := by omega
        have hdr : t.l.reverse.take k = (t.l.drop s).reverse := by rw [List.reverse_drop, hks2]
        have e4 : (Value.slice h.la (t.l.take s).length h.lc) = Value.slice h.la s h.lc := by simp [Nat.min_eq_left hsl]
        have e5 : (Value.slice (some ⟨sg, 0, none⟩) (t.starts.take 0).length h.sc) = Value.slice (some ⟨sg, 0, none⟩) 0 h.sc := by simp
        rw [e4, e5] at H6 T6
        rw [e4] at T5
        clear H5 g1 g2 f1 f2 hsc e4 e5 H Hk
        have T7 := T5.trans T6
        have R7 := hrk.turn T7 (by simpa using hqp)
        generalize World.setCell (World.setCell wr _ _) _ _ = w7 at *
        go_wp2
        go_ret
        refine ⟨_, γk, rfl, ⟨a, cap, ?_, ?_, ⟨{ h with sa := some ⟨sg, 0, none⟩ }, rfl, ?_⟩⟩, (hTk.trans (T7.to (by simp))).drew⟩
        · rfl
        · rw [← hks2, ← hdr]; exact ⟨R7.own, R7.tag⟩
        · have := H6.drewN 1
          simp only [TrailM.cut, Hstart.out]
          rw [← hks2]
          exact this
  · have hl2 : level = lv := by omega
    subst hl2
    clear hlv Hlv
    have hlt' : ¬ ((t.starts.length : Int) ≤ lv) := by omega
    go_enter Try.func10, Try.ntmps10
    go_wp2
    go_loopw [5, 6] (fun v5 v6 wr => ∃ (k : Nat) (γk : Tags) (a : Option Addr) (cap : Nat), k + s ≤ t.l.length ∧ v5 = .slice a k cap ∧ v6 = .int .i64 ((t.l.length : Int) - 1 - k) ∧ Row γk wr q 3 1 a k cap (ints (t.l.reverse.take k)) ∧
      TrailAt γk wr p h { t with cells := (t.l.reverse.take k).foldl unset t.cells } ∧ Turn γ γk w wr [p, q]) (fun _ v6 _ => (intOf v6 + 1 - s).toNat)
    case atStart => exact ⟨0, γ, none, 0, by omega, rfl, by simp, Row.nil _ _ _ _ _, H, Turn.refl _ _ _⟩
    case round =>
      obtain ⟨k, γk, a, cap, hk, rfl, rfl, hrk, Hk, hTk⟩ := hrel
      obtain ⟨sg, hsg, hsc⟩ := own_starts Hk (lv := lv) hlt
      have f1 := Hk.f1
      have f2 := Hk.f2
      dsimp only at f1 f2 hsc
      rw [Hs.out] at hsc
      rw [hsg] at f2
      have Hsg := Lib.hid hsg
      clear hsg
      by_cases hks : k + s < t.l.length
      · obtain ⟨n, hn⟩ : ∃ n : Nat, t.l.length = n + 1 + k := ⟨t.l.length - 1 - k, by omega⟩
        have hn1 : n < t.l.length := by omega
        rw [show ((t.l.length : Int) - 1 - k) = (n : Int) from by omega]
        have hns : (s : Int) ≤ n := by omega
        have hn2 : (n : Int) < t.l.length := by omega
        obtain ⟨lg, hlg, hlc⟩ := own_lits Hk (i := n) hn1
        dsimp only at hlc
        rw [hlg] at f1
        have Hlg := Lib.hid hlg
        clear hlg
        have hrx := hr _ (List.getElem_mem hn1)
        have hbs := back_step hn hn1
        have Hn := Lib.hid hn
        clear hn
        generalize hx : t.l[n] = x at *
        obtain ⟨i, hi, hin⟩ := idx_of hrx
        have Hbs := Lib.hid hbs
        have Hx := Lib.hid hx
        have Hi := Lib.hid hi
        clear hbs hx hi
        go_wp2_with (at_builtin; go_must (refine wpList_append_one _ rfl _ _ 36 rfl 3 i0 (.int .i64 0) 8 Try.underlying36 ii rfl a cap k (ints (t.l.reverse.take k)) rfl hrk (.int .i64 x) rfl rfl (by unfold maxLen; omega) (by omega) ?_))
        intro γ1 g1 cap1 w1 hr1 hT1
        have H1 := Hk.turn hT1 hpq
        have f1' := H1.f1
        obtain ⟨lg', hlg', hlc'⟩ := own_lits H1 (i := n) hn1
        dsimp only at f1' hlc'
        rw [Hx.out] at hlc'
        rw [hlg'] at f1'
        clear hlg'
        have C := cell_yes H1 x i (by simpa using hrx) Hi.out
        obtain ⟨c, hc⟩ : ∃ c, ((t.l.reverse.take k).foldl unset t.cells)[i]? = some c := ⟨_, List.getElem?_eq_getElem (by simpa using hin)⟩
        obtain ⟨hlc2, hcc⟩ := List.getElem?_eq_some_iff.1 hc
        have k0 := (H1.cs hc).1
        have g0 := H1.vars.free (i * 5)
        have hsg2 := H1.signs c (List.mem_of_getElem? hc)
        have S1 := fun n w' => H1.set_one hlc2 n 0 (by omega) (.int .i64 0) { c with value := 0 } ⟨by dsimp only; omega, by dsimp only; omega⟩ (by rw [hcc]; rfl) w'
        dsimp only at S1
        rw [unset_eq Hi.out hc] at S1
        have e2 : unset ((t.l.reverse.take k).foldl unset t.cells) x = (t.l.reverse.take (k + 1)).foldl unset t.cells := by rw [Hbs.out, List.foldl_append]; rfl
        rw [e2] at S1
        have e3 : ints (t.l.reverse.take k) ++ [Value.int .i64 x] = ints (t.l.reverse.take (k + 1)) := by rw [Hbs.out]; simp [ints]
        rw [e3] at hr1
        clear f1 f2 hsc hlc hrk Hk hc hcc e2 e3 hsg2 hlc2
        go_wp2_with (go_at_call 28; refine C.mono ?_; rintro e w' ⟨rfl, m, rfl⟩)
        obtain ⟨S2, T2⟩ := S1 m _ rfl
        go_roundw
        case rel =>
          refine ⟨k + 1, γ1, some ⟨g1, 0, none⟩, cap1, by omega, rfl, ?_, ?_, S2, ?_⟩
          · have := Hn.out; congr 1; omega
          · exact hr1.turn T2 (by simpa using fun hh => hqp (by simpa using (List.prefix_append p [1]).trans hh))
          · exact (hTk.trans (hT1.to (by simp))).trans (T2.to (by simp))
        case measure => simp [intOf]; omega
      · have hks' : (t.l.length : Int) - 1 - k < s := by omega
        have g1 := Hk.head.free 1
        have g2 := Hk.head.free 2
        have hc1 : s ≤ h.lc := Nat.le_trans hsl Hk.lits.le_cap
        have hc2 : lv ≤ h.sc := Nat.le_trans (Nat.le_of_lt hlt) Hk.starts.le_cap
        have hc1' : (s : Int) ≤ h.lc := by omega
        have hc2' : (lv : Int) ≤ h.sc := by omega
        go_wp2
        go_region
        obtain ⟨H5, T5⟩ := Hk.lits_turned (a := h.la) (cap := h.lc) (l := t.l.take s) (Turn.refl _ _ _) (by
          have := Hk.lits.take (m := s) hsl
          simpa [ints, Nat.min_eq_left hsl] using this) _ rfl
        obtain ⟨H6, T6⟩ := H5.starts_turned (a := some ⟨sg, 0, none⟩) (cap := h.sc) (l := t.starts.take lv) (Turn.refl _ _ _) (by
          have := H5.starts.take (m := lv) (Nat.le_of_lt hlt)
          rw [← Hsg.out]
          simpa [ints, Nat.min_eq_left (Nat.le_of_lt hlt)] using this) _ rfl
        have hks2 : k = t.l.length - s := by omega
        have hdr : t.l.reverse.take k = (t.l.drop s).reverse := by rw [List.reverse_drop, hks2]
        have e4 : (Value.slice h.la (t.l.take s).length h.lc) = Value.slice h.la s h.lc := by simp [Nat.min_eq_left hsl]
        have e5 : (Value.slice (some ⟨sg, 0, none⟩) (t.starts.take lv).length h.sc) = Value.slice (some ⟨sg, 0, none⟩) lv h.sc := by simp [Nat.min_eq_left (Nat.le_of_lt hlt)]
        rw [e4, e5] at H6 T6
        rw [e4] at T5
        clear H5 g1 g2 f1 f2 hsc e4 e5 H Hk
        have T7 := T5.trans T6
        have R7 := hrk.turn T7 (by simpa using hqp)
        generalize World.setCell (World.setCell wr _ _) _ _ = w7 at *
        go_wp2
        go_ret
        refine ⟨_, γk, rfl, ⟨a, cap, ?_, ?_, ⟨{ h with sa := some ⟨sg, 0, none⟩ }, rfl, ?_⟩⟩, (hTk.trans (T7.to (by simp))).drew⟩
        · rfl
        · rw [← hks2, ← hdr]; exact ⟨R7.own, R7.tag⟩
        · have := H6.drewN 1
          simp only [TrailM.cut, Hstart.out]
          rw [← hks2]
          exact this


set_option maxHeartbeats 400000 in
theorem back_no {γ : Tags} {w : World} {p : Tag} {h : TrailH} {t : TrailM} (H : TrailAt γ w p h t) (level : Int) (hlv : (t.starts.length : Int) ≤ max level 0) :
    Calls Try.prog 10 #[.pointer (some ⟨h.b, 0, none⟩), .int .i64 level] w (fun e w' => e = .returned (.slice none 0 0) ∧ w = w') := by
  have f2 := H.f2
  by_cases h0 : level < 0
  · have hlv' : t.starts.length = 0 := by omega
    rw [hlv'] at f2
    clear hlv hlv'
    go_enter Try.func10, Try.ntmps10
    go_wp2
    go_ret
    exact ⟨rfl, rfl⟩
  · have hlv' : (t.starts.length : Int) ≤ level := by omega
    clear hlv
    go_enter Try.func10, Try.ntmps10
    go_wp2
    go_ret
    exact ⟨rfl, rfl⟩

end Go.Proofs.Ytlmmiobnbcanmaa
