import Derived.Test.YtlmmiobnbcanmaaTrailB
namespace Go.Proofs.Ytlmmiobnbcanmaa
open Go.RowKit

theorem Try.infoCell : ∃ i, Try.prog.info? 62 = some i ∧ i.zero = some (.agg #[.int .i64 0, .int .i64 0, .int .i64 0, .int .i64 0, .bool false]) ∧ i.size = 5 ∧ i.bytes = 40 := info_all (by kernel_rfl)
theorem Try.infoBool : ∃ i, Try.prog.info? 4 = some i ∧ i.zero = some (.bool false) ∧ i.size = 1 ∧ i.bytes = 1 := info_all (by kernel_rfl)

set_option maxHeartbeats 1000000 in
theorem trail_new (γ : Tags) (w : World) (p : Tag) (n : Nat) (hn : n ≤ 100000) :
    Calls Try.prog 6 #[.int .i64 n] w (fun e w' => ∃ b γ', e = .returned (.pointer (some ⟨b, 0, none⟩)) ∧ TrailNow p b (TrailM.new n) γ' w' ∧ Turn γ γ' w w' [p] ∧ w.heap.size ≤ b) := by
  obtain ⟨i0, ii⟩ := Try.infoCell
  go_enter Try.func6, Try.ntmps6
  go_wp2_with (at_make; go_must (refine wpList_make_row _ rfl _ _ 56 rfl 62 i0 _ 5 40 Try.underlying56 ii rfl (by decide) .i64 .i64 n rfl rfl (by omega) (by unfold maxLen; omega) γ (p ++ [1]) ?_))
  intro γ1 g w1 hr hT hg hlt
  go_wp2
  go_ret
  have B := Blk.new γ1 w1 (p ++ [0]) 58 #[.slice (some ⟨g, 0, none⟩) n n, .slice none 0 0, .slice none 0 0]
  have hT3 := Turn.new_at γ1 w1 (.cells #[.slice (some ⟨g, 0, none⟩) n n, .slice none 0 0, .slice none 0 0] 58) (p ++ [0])
  refine ⟨_, _, rfl, ⟨⟨w1.heap.size, g, none, 0, none, 0⟩, rfl, ⟨?_, ?_, Row.nil _ _ _ _ _, Row.nil _ _ _ _ _, ?_, ?_⟩⟩, hT.at.trans hT3.at, hT.size⟩
  · simpa [TrailH.head, TrailM.new] using B
  · have h5 := hr.turn hT3 (by simp)
    have e : (List.replicate n (TCell.mk 0 0 0 0 false)).flatMap TCell.vals = (List.replicate n [Value.int .i64 0, .int .i64 0, .int .i64 0, .int .i64 0, .bool false]).flatMap id := by
      simp [List.flatMap_replicate, TCell.vals]
    simpa [TrailM.new, e, Value.cells] using h5
  · simpa [TrailM.new] using hn
  · intro c hc
    have := List.eq_of_mem_replicate hc
    subst this
    exact ⟨by decide, by decide⟩

set_option maxHeartbeats 1000000 in
theorem setPhase_any {γ : Tags} {w : World} {p : Tag} {h : TrailH} {t : TrailM} (H : TrailAt γ w p h t) (v : Int) (is : Bool) :
    Calls Try.prog 12 #[.pointer (some ⟨h.b, 0, none⟩), .int .i64 v, .bool is] w (Turned γ w [p] (.bool (t.mayPhase v)) (TrailNow p h.b (t.setPhase v is))) := by
  cases hg : t.get v with
  | none =>
    have hr := TrailM.get_none hg
    have e1 : t.setPhase v is = t := by simp [TrailM.setPhase, hg]
    have e2 : t.mayPhase v = false := by simp [TrailM.mayPhase, hr]
    rw [e1, e2]
    clear hg e1 e2
    go_enter Try.func12, Try.ntmps12
    go_wp2_with (go_at_call 28; refine (cell_no H _ hr).mono ?_; rintro e w' ⟨rfl, rfl⟩)
    go_ret
    exact ⟨rfl, γ, ⟨h, rfl, H⟩, Turn.refl _ _ _⟩
  | some c =>
    obtain ⟨hr, i, hi, hc⟩ := TrailM.get_some hg
    have C := cell_yes H v i hr hi
    by_cases hv : 0 ≤ v
    · have e1 : t.setPhase v is = { t with cells := t.cells.set i { c with phase := is } } := by simp [TrailM.setPhase, hg, hi, hv]
      have e2 : t.mayPhase v = true := by simp [TrailM.mayPhase, hr, hv]
      rw [e1, e2]
      obtain ⟨k0, k1, k2, k3, k4⟩ := H.cs hc
      have g4 := H.vars.free (i * 5 + 4)
      obtain ⟨hlt, hce⟩ := List.getElem?_eq_some_iff.1 hc
      have hs := H.signs c (List.mem_of_getElem? hc)
      have H2 := fun n w' => H.set_one hlt n 4 (by omega) (.bool is) { c with phase := is } hs (by rw [hce]; rfl) w'
      have hd : (decide (v < 0)) = false := by simpa using hv
      clear hg hr hi hc hce e1 e2 k0 k1 k2 k3 hs
      go_enter Try.func12, Try.ntmps12
      go_wp2_with (go_at_call 28; refine C.mono ?_; rintro e w' ⟨rfl, n, rfl⟩)
      go_ret
      obtain ⟨H3, T3⟩ := H2 n _ rfl
      exact ⟨rfl, γ, ⟨h, rfl, H3⟩, T3.at⟩
    · have e1 : t.setPhase v is = t := by simp [TrailM.setPhase, hg, hv]
      have e2 : t.mayPhase v = false := by simp [TrailM.mayPhase, hv]
      rw [e1, e2]
      have hv' : v < 0 := by omega
      clear hg hr hi hc e1 e2 hv
      go_enter Try.func12, Try.ntmps12
      go_wp2_with (go_at_call 28; refine C.mono ?_; rintro e w' ⟨rfl, n, rfl⟩)
      go_ret
      exact ⟨rfl, γ, ⟨h, rfl, H.drewN n⟩, (Turn.refl _ _ _).drewN n⟩


end Go.Proofs.Ytlmmiobnbcanmaa
