import Derived.Test.YtlmmiobnbcanmaaTrailA
import Derived.BigRegion
import Derived.Deep.RegionLaw
import Derived.Deep.RegionHeld3
import Derived.Deep.AppendLies
namespace Go.Proofs.Ytlmmiobnbcanmaa
open Go.RowKit

theorem Try.infoInt : ∃ i, Try.prog.info? 3 = some i ∧ i.zero = some (.int .i64 0) ∧ i.size = 1 ∧ i.bytes = 8 := info_all (by kernel_rfl)

/-- A trail that was changed. -/
def TrailNow (p : Tag) (b : Nat) (t : TrailM) (γ : Tags) (w : World) : Prop := ∃ h : TrailH, h.b = b ∧ TrailAt γ w p h t

set_option maxHeartbeats 1000000 in
theorem put_yes {γ : Tags} {w : World} {p : Tag} {h : TrailH} {t : TrailM} (H : TrailAt γ w p h t) (l r : Int) (i : Nat) (c : TCell) (hr : rightB l t.cells.length = true) (hi : litVar l = i + 1) (hc : t.cells[i]? = some c) (hv : (c.value != 0) = false)
    (hmax : t.l.length < 1000000) :
    Calls Try.prog 7 #[.pointer (some ⟨h.b, 0, none⟩), .int .i64 l, .int .i64 r] w (Turned γ w [p] (.bool true) (TrailNow p h.b (t.put l r i))) := by
  obtain ⟨i0, ii⟩ := Try.infoInt
  obtain ⟨k0, k1, k2, k3, k4⟩ := H.cs hc
  have C := cell_yes H l i hr hi
  have f0 := H.f0
  have f1 := H.f1
  have f2 := H.f2
  have g0 := H.vars.free (i * 5)
  have g1 := H.vars.free (i * 5 + 1)
  have g2 := H.vars.free (i * 5 + 2)
  have g3 := H.vars.free (i * 5 + 3)
  have g4 := H.vars.free (i * 5 + 4)
  have v0 : c.value = 0 := by simpa using hv
  have hlt : i < t.cells.length := (List.getElem?_eq_some_iff.1 hc).1
  rw [v0] at k0
  clear hr hi hc hv v0
  by_cases hl : l < 0
  all_goals
    have HT : (if l < 0 then (-1 : Int) else 1) = (if l < 0 then (-1 : Int) else 1) := rfl
    first | rw (occs := .pos [1]) [if_pos hl] at HT | rw (occs := .pos [1]) [if_neg hl] at HT
    have HT' := Lib.hid HT
    clear HT
    go_enter Try.func7, Try.ntmps7
    go_wp2_with (go_at_call 28; refine C.mono ?_; rintro e w' ⟨rfl, n, rfl⟩)
    go_region
    have H2 := fun w' => H.set_all hlt (n + 1) ⟨if l < 0 then -1 else 1, t.starts.length, r, t.l.length, decide (0 < l)⟩ ⟨by dsimp only; split <;> decide, by dsimp only; split <;> decide⟩ w'
    dsimp only at H2
    rw [← HT'.out] at H2
    generalize hW : World.setCell (World.setCell (World.setCell (World.setCell (World.setCell _ _ _) _ _) _ _) _ _) _ _ = w2
    obtain ⟨H2, U⟩ := H2 w2 hW
    clear hW k0 k1 k2 k3 k4 f0 f1 f2 g0 g1 g2 g3 g4 C H
    have f1 := H2.f1
    have g1 := H2.head.free 1
    have hrow := H2.lits
    dsimp only at f1 hrow
    go_wp2_with (at_builtin; go_must (refine wpList_append_one _ rfl _ _ 36 rfl 3 i0 (.int .i64 0) 8 Try.underlying36 ii rfl h.la h.lc t.l.length (ints t.l) rfl hrow (.int .i64 l) rfl rfl (by unfold maxLen; omega) (by omega) ?_))
    clear f1 g1
    intro γ3 g cap w3 hr3 hT3
    have hb := H2.head.turn hT3 (by simp)
    have f1 := hb.cell (j := 1) rfl
    have g1 := hb.free 1
    go_wp2
    go_ret
    have e1 : ints t.l ++ [Value.int .i64 l] = ints (t.l ++ [l]) := by simp [ints]
    rw [e1] at hr3
    have H4 := fun w4 hw4 => H2.lits_turned (l := t.l ++ [l]) hT3 (by simpa using hr3) w4 hw4
    obtain ⟨H4, U4⟩ := H4 _ rfl
    refine ⟨rfl, γ3, ⟨{ h with la := some ⟨g, 0, none⟩, lc := cap }, rfl, ?_⟩, U.at.trans ?_⟩
    · rw [HT'.out] at H4
      simpa [TrailM.put] using H4
    · simpa using U4

theorem TrailM.free_cases (t : TrailM) (l : Int) : (t.free l = false ∧ (t.get l = none ∨ ∃ (i : Nat) (c : TCell), rightB l t.cells.length = true ∧ litVar l = i + 1 ∧ t.cells[i]? = some c ∧ (c.value == 0) = false)) ∨
    (t.free l = true ∧ ∃ (i : Nat) (c : TCell), rightB l t.cells.length = true ∧ litVar l = i + 1 ∧ (litVar l - 1).toNat = i ∧ t.cells[i]? = some c ∧ (c.value != 0) = false) := by
  unfold TrailM.free
  cases hg : t.get l with
  | none => exact .inl ⟨rfl, .inl rfl⟩
  | some c =>
    obtain ⟨hr, i, hi, hc⟩ := TrailM.get_some hg
    cases hv : (c.value == 0) with
    | false => exact .inl ⟨by simp [hv], .inr ⟨i, c, hr, hi, hc, hv⟩⟩
    | true => exact .inr ⟨by simp [hv], i, c, hr, hi, by omega, hc, by simpa using hv⟩

set_option maxHeartbeats 400000 in
theorem put_any {γ : Tags} {w : World} {p : Tag} {h : TrailH} {t : TrailM} (H : TrailAt γ w p h t) (l r : Int) (hmax : t.l.length < 1000000) :
    Calls Try.prog 7 #[.pointer (some ⟨h.b, 0, none⟩), .int .i64 l, .int .i64 r] w (Turned γ w [p] (.bool (t.free l)) (TrailNow p h.b (t.doPut l r))) := by
  rcases t.free_cases l with ⟨hf, hn⟩ | ⟨hf, i, c, hr, hi, hi', hc, hv⟩
  · have e : t.doPut l r = t := by simp [TrailM.doPut, hf]
    rw [hf, e]
    clear hf e
    rcases hn with hn | ⟨i, c, hr, hi, hc, hv⟩
    · have hr := TrailM.get_none hn
      clear hn
      go_enter Try.func7, Try.ntmps7
      go_wp2_with (go_at_call 28; refine (cell_no H _ hr).mono ?_; rintro e w' ⟨rfl, rfl⟩)
      go_ret
      exact ⟨rfl, γ, ⟨h, rfl, H⟩, Turn.refl _ _ _⟩
    · obtain ⟨k0, _⟩ := H.cs hc
      have C := cell_yes H l i hr hi
      have hv' : (c.value != 0) = true := by simpa using hv
      clear hr hi hc
      go_enter Try.func7, Try.ntmps7
      go_wp2_with (go_at_call 28; refine C.mono ?_; rintro e w' ⟨rfl, n, rfl⟩)
      go_ret
      exact ⟨rfl, γ, ⟨h, rfl, H.drewN n⟩, (Turn.refl _ _ _).drewN n⟩
  · have e : t.doPut l r = t.put l r i := by simp [TrailM.doPut, hf, hi']
    rw [hf, e]
    exact put_yes H l r i c hr hi hc hv hmax

set_option maxHeartbeats 1000000 in
theorem decide_any {γ : Tags} {w : World} {p : Tag} {h : TrailH} {t : TrailM} (H : TrailAt γ w p h t) (l : Int) (hmax : t.l.length < 1000000) (hmax2 : t.starts.length < 1000000) :
    Calls Try.prog 9 #[.pointer (some ⟨h.b, 0, none⟩), .int .i64 l] w (Turned γ w [p] (.bool (t.free l)) (TrailNow p h.b (t.doDecide l))) := by
  rcases t.free_cases l with ⟨hf, hn⟩ | ⟨hf, i, c, hr, hi, hi', hc, hv⟩
  · have e : t.doDecide l = t := by simp [TrailM.doDecide, hf]
    rw [hf, e]
    clear hf e
    rcases hn with hn | ⟨i, c, hr, hi, hc, hv⟩
    · have hr := TrailM.get_none hn
      clear hn
      go_enter Try.func9, Try.ntmps9
      go_wp2_with (go_at_call 28; refine (cell_no H _ hr).mono ?_; rintro e w' ⟨rfl, rfl⟩)
      go_ret
      exact ⟨rfl, γ, ⟨h, rfl, H⟩, Turn.refl _ _ _⟩
    · obtain ⟨k0, _⟩ := H.cs hc
      have C := cell_yes H l i hr hi
      have hv' : (c.value != 0) = true := by simpa using hv
      clear hr hi hc
      go_enter Try.func9, Try.ntmps9
      go_wp2_with (go_at_call 28; refine C.mono ?_; rintro e w' ⟨rfl, n, rfl⟩)
      go_ret
      exact ⟨rfl, γ, ⟨h, rfl, H.drewN n⟩, (Turn.refl _ _ _).drewN n⟩
  · have e : t.doDecide l = { t with starts := t.starts ++ [(t.l.length : Int)] }.put l (-1) i := by simp [TrailM.doDecide, hf, hi']
    rw [hf, e]
    clear hf e
    obtain ⟨i0, ii⟩ := Try.infoInt
    obtain ⟨k0, _⟩ := H.cs hc
    have C := cell_yes H l i hr hi
    have Hr := Lib.hid hr
    have Hi := Lib.hid hi
    have Hc := Lib.hid hc
    have Hv := Lib.hid hv
    have v0 : c.value = 0 := by simpa using hv
    rw [v0] at k0
    have f1 := H.f1
    have f2 := H.f2
    clear hr hi hc hv hi' v0
    go_enter Try.func9, Try.ntmps9
    go_wp2_with (go_at_call 28; refine C.mono ?_; rintro e w' ⟨rfl, n, rfl⟩)
    have q2 := fun o => H.head.cell_past (j := 2) rfl (n + 1) o
    have q1 := fun o => H.head.cell_past (j := 1) rfl (n + 1) o
    go_region_law ((refine step_append_one _ rfl _ _ 36 rfl 3 i0 (.int .i64 0) 1 8 Try.underlying36 ii rfl (by decide) w h.sa h.sc t.starts.length (ints t.starts) rfl H.starts (((Turn.refl γ w _).drewN _).alloc _) (World.ownsRow.alloc (show (w.drewN (n + 1)).ownsRow _ _ _ _ _ _ from H.starts.own) _) ⟨w.heap.size, 0, none⟩ 1 1 (by decide) [.int .i64 t.l.length] rfl rfl (cell_one_new (w.drewN (n + 1)) _ _) (by simp [Value.oneCell']) (by unfold maxLen; omega) (by omega) ?_; intro γ3 g cap w3 hr3 hT3; have hb := H.head.turn hT3 (by simp); have f3 := hb.cell (j := 2) rfl; have g3 := hb.free 2))
    all_goals
      have e1 : ints t.starts ++ [Value.int .i64 t.l.length] = ints (t.starts ++ [(t.l.length : Int)]) := by simp [ints]
      rw [e1] at hr3
      have H4 := fun w4 hw4 => H.starts_turned (l := t.starts ++ [(t.l.length : Int)]) hT3 (by simpa using hr3) w4 hw4
      simp only [List.length_append, List.length_singleton] at H4
      obtain ⟨H4, U4⟩ := H4 _ rfl
      generalize World.setCell w3 _ _ = w4 at *
      clear q1 q2 f1 f2 f3 g3 k0 C hb e1 hr3 hT3
      go_wp2_with (go_at_call 7; refine (put_yes H4 l (-1) i c Hr.out Hi.out Hc.out Hv.out hmax).mono ?_; rintro e w' ⟨rfl, γ5, R5, T5⟩)
      go_ret
      exact ⟨rfl, γ5, R5, U4.trans T5⟩

end Go.Proofs.Ytlmmiobnbcanmaa
