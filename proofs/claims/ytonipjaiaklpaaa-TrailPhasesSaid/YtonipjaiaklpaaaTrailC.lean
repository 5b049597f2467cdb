import Derived.Test.YtonipjaiaklpaaaTrailB
namespace Go.Proofs.Ytonipjaiaklpaaa
open Go.RowKit

theorem Try.infoCell : ∃ i, Try.prog.info? 66 = some i ∧ i.zero = some (.agg #[.int .i64 0, .int .i64 0, .int .i64 0, .int .i64 0, .bool false]) ∧ i.size = 5 ∧ i.bytes = 40 := info_all (by kernel_rfl)
theorem Try.infoBool : ∃ i, Try.prog.info? 4 = some i ∧ i.zero = some (.bool false) ∧ i.size = 1 ∧ i.bytes = 1 := info_all (by kernel_rfl)

set_option maxHeartbeats 1000000 in
theorem trail_new (γ : Tags) (w : World) (p : Tag) (n : Nat) (hn : n ≤ 100000) :
    Calls Try.prog 9 #[.int .i64 n] w (fun e w' => ∃ b γ', e = .returned (.pointer (some ⟨b, 0, none⟩)) ∧ TrailNow p b (TrailM.new n) γ' w' ∧ Turn γ γ' w w' [p] ∧ w.heap.size ≤ b) := by
  obtain ⟨i0, ii⟩ := Try.infoCell
  go_enter Try.func9, Try.ntmps9
  go_wp2_with (at_make; go_must (refine wpList_make_row _ rfl _ _ 60 rfl 66 i0 _ 5 40 Try.underlying60 ii rfl (by decide) .i64 .i64 n rfl rfl (by omega) (by unfold maxLen; omega) γ (p ++ [1]) ?_))
  intro γ1 g w1 hr hT hg hlt
  go_wp2
  go_ret
  have B := Blk.new γ1 w1 (p ++ [0]) 62 #[.slice (some ⟨g, 0, none⟩) n n, .slice none 0 0, .slice none 0 0]
  have hT3 := Turn.new_at γ1 w1 (.cells #[.slice (some ⟨g, 0, none⟩) n n, .slice none 0 0, .slice none 0 0] 62) (p ++ [0])
  refine ⟨_, _, rfl, ⟨⟨w1.heap.size, g, none, 0, none, 0⟩, rfl, ⟨?_, ?_, Row.nil _ _ _ _ _, Row.nil _ _ _ _ _, ?_, ?_⟩⟩, hT.at.trans hT3.at, hT.size⟩
  · simpa [TrailH.head, TrailM.new] using B
  · have h5 := hr.turn hT3 (by simp)
    have e : (List.replicate n (TCell.mk 0 0 0 0 false)).flatMap TCell.vals = (List.replicate n [Value.int .i64 0, .int .i64 0, .int .i64 0, .int .i64 0, .bool false]).flatMap id := by
      simp [List.flatMap_replicate, TCell.vals]
    simpa [TrailM.new, e, Value.cells] using h5
  · simpa [TrailM.new] using hn
  · intro c hc
    have := List.eq_of_mem_replicate hc
    subst this
    exact ⟨by decide, by decide⟩

set_option maxHeartbeats 1000000 in
theorem setPhase_any {γ : Tags} {w : World} {p : Tag} {h : TrailH} {t : TrailM} (H : TrailAt γ w p h t) (v : Int) (is : Bool) :
    Calls Try.prog 22 #[.pointer (some ⟨h.b, 0, none⟩), .int .i64 v, .bool is] w (Turned γ w [p] (.bool (t.mayPhase v)) (TrailNow p h.b (t.setPhase v is))) := by
  cases hg : t.get v with
  | none =>
    have hr := TrailM.get_none hg
    have e1 : t.setPhase v is = t := by simp [TrailM.setPhase, hg]
    have e2 : t.mayPhase v = false := by simp [TrailM.mayPhase, hr]
    rw [e1, e2]
    clear hg e1 e2
    go_enter Try.func22, Try.ntmps22
    go_wp2_with (go_at_call 33; refine (cell_no H _ hr).mono ?_; rintro e w' ⟨rfl, rfl⟩)
    go_ret
    exact ⟨rfl, γ, ⟨h, rfl, H⟩, Turn.refl _ _ _⟩
  | some c =>
    obtain ⟨hr, i, hi, hc⟩ := TrailM.get_some hg
    have C := cell_yes H v i hr hi
    by_cases hv : 0 ≤ v
    · have e1 : t.setPhase v is = { t with cells := t.cells.set i { c with phase := is } } := by simp [TrailM.setPhase, hg, hi, hv]
      have e2 : t.mayPhase v = true := by simp [TrailM.mayPhase, hr, hv]
      rw [e1, e2]
      obtain ⟨k0, k1, k2, k3, k4⟩ := H.cs hc
      have g4 := H.vars.free (i * 5 + 4)
      obtain ⟨hlt, hce⟩ := List.getElem?_eq_some_iff.1 hc
      have hs := H.signs c (List.mem_of_getElem? hc)
      have H2 := fun n w' => H.set_one hlt n 4 (by omega) (.bool is) { c with phase := is } hs (by rw [hce]; rfl) w'
      have hd : (decide (v < 0)) = false := by simpa using hv
      clear hg hr hi hc hce e1 e2 k0 k1 k2 k3 hs
      go_enter Try.func22, Try.ntmps22
      go_wp2_with (go_at_call 33; refine C.mono ?_; rintro e w' ⟨rfl, n, rfl⟩)
      go_ret
      obtain ⟨H3, T3⟩ := H2 n _ rfl
      exact ⟨rfl, γ, ⟨h, rfl, H3⟩, T3.at⟩
    · have e1 : t.setPhase v is = t := by simp [TrailM.setPhase, hg, hv]
      have e2 : t.mayPhase v = false := by simp [TrailM.mayPhase, hv]
      rw [e1, e2]
      have hv' : v < 0 := by omega
      clear hg hr hi hc e1 e2 hv
      go_enter Try.func22, Try.ntmps22
      go_wp2_with (go_at_call 33; refine C.mono ?_; rintro e w' ⟨rfl, n, rfl⟩)
      go_ret
      exact ⟨rfl, γ, ⟨h, rfl, H.drewN n⟩, (Turn.refl _ _ _).drewN n⟩

set_option maxHeartbeats 1000000 in
theorem assignment_any {γ : Tags} {w : World} {p q : Tag} {h : TrailH} {t : TrailM} (H : TrailAt γ w p h t) (hpq : ∀ x, ¬ Under [q] (p ++ x)) :
    Calls Try.prog 21 #[.pointer (some ⟨h.b, 0, none⟩)] w (fun e w' => ∃ g γ', e = .returned (.slice (some ⟨g, 0, none⟩) t.cells.length t.cells.length) ∧
      Row γ' w' q 4 1 (some ⟨g, 0, none⟩) t.cells.length t.cells.length (bools t.assignment) ∧ Turn γ γ' w w' [q] ∧ w.heap.size ≤ g) := by
  obtain ⟨i0, ii⟩ := Try.infoBool
  have hn := H.few
  have f0 := H.f0
  go_enter Try.func21, Try.ntmps21
  go_wp2_with (at_make; go_must (refine wpList_make_row _ rfl _ _ 37 rfl 4 i0 _ 1 1 Try.underlying37 ii rfl (by decide) .i64 .i64 t.cells.length rfl rfl (by omega) (by unfold maxLen; omega) γ q ?_))
  intro γ1 g w1 hr hT hg hlt
  have H1 := H.turn hT hpq
  have f1 := H1.f0
  clear f0
  go_wp2
  go_loopw [17] (fun v wr => ∃ (k : Nat) (γk : Tags), k ≤ t.cells.length ∧ v = .int .i64 k ∧ Row γk wr q 4 1 (some ⟨g, 0, none⟩) t.cells.length t.cells.length (bools ((t.cells.take k).map TCell.is ++ List.replicate (t.cells.length - k) false)) ∧ Turn γ γk w wr [q]) (fun v _ => t.cells.length - (intOf v).toNat)
  case atStart =>
    refine ⟨0, γ1, Nat.zero_le _, rfl, ?_, hT⟩
    simpa [bools, Value.cells, List.flatMap_replicate] using hr
  case round =>
    obtain ⟨k, γk, hk, rfl, hrk, hTk⟩ := hrel
    have Hk := H.turn hTk hpq
    by_cases hlt : k < t.cells.length
    · obtain ⟨k0, k1, k2, k3, k4⟩ := Hk.cs (List.getElem?_eq_getElem hlt)
      have gk := fun o => hrk.free_past k o
      have ck := fun o => hrk.cell_past (j := k) (v := .bool false) (by rw [bools_get _ k (by simp; omega)]; simp [List.getElem_append, List.length_take]; omega) o
      have T1 := fun o => (hTk.alloc o).trans ((hrk.alloc o).turned k (.bool (TCell.is t.cells[k])))
      have R1 := fun o => (hrk.alloc o).set (j := k) (by simp; omega) (.bool (TCell.is t.cells[k]))
      have e1 : (bools ((t.cells.take k).map TCell.is ++ List.replicate (t.cells.length - k) false)).set k (.bool (TCell.is t.cells[k])) = bools ((t.cells.take (k + 1)).map TCell.is ++ List.replicate (t.cells.length - (k + 1)) false) := by
        rw [← bools_set, List.set_append_right _ _ (by simp; omega)]
        simp only [List.length_map, List.length_take, Nat.min_eq_left hk, Nat.sub_self, List.take_succ_eq_append_getElem hlt, List.map_append, List.map_cons, List.map_nil, List.append_assoc]
        obtain ⟨m, hm⟩ : ∃ m, t.cells.length - k = m + 1 := ⟨t.cells.length - k - 1, by omega⟩
        have hm2 : t.cells.length - (k + 1) = m := by omega
        rw [hm, hm2, List.replicate_succ, List.set_cons_zero]
        rfl
      rw [e1] at R1
      clear H1 f1 hr hT hrk hTk Hk e1
      generalize hc : t.cells[k] = c at *
      have Hc := Lib.hid hc
      clear hc
      by_cases hv1 : c.value = 1
      · have hb1 : (c.value == 1) = true := by simpa using hv1
        have hc1 : c.is = true := by simp [TCell.is, hb1]
        rw [hc1] at R1 T1
        clear hv1 hc1
        go_wp2
        go_roundw
        case rel => exact ⟨k + 1, γk, by omega, by go_num, R1 _, T1 _⟩
        case measure => simp [intOf]; omega
      · have hb1 : (c.value == 1) = false := by simpa using hv1
        by_cases hv0 : c.value = 0
        · have hb0 : (c.value == 0) = true := by simpa using hv0
          have hc1 : c.is = c.phase := by simp [TCell.is, hv0]
          rw [hc1] at R1 T1
          clear hv1 hc1 hv0
          go_wp2
          go_roundw
          case rel => exact ⟨k + 1, γk, by omega, by go_num, R1 _, T1 _⟩
          case measure => simp [intOf]; omega
        · have hb0 : (c.value == 0) = false := by simpa using hv0
          have hc1 : c.is = false := by simp [TCell.is, hb1, hb0]
          rw [hc1] at R1 T1
          clear hv1 hc1 hv0
          go_wp2
          go_roundw
          case rel => exact ⟨k + 1, γk, by omega, by go_num, R1 _, T1 _⟩
          case measure => simp [intOf]; omega
    · obtain rfl : k = t.cells.length := by omega
      clear H1 f1 hr hT hlt
      go_wp2
      go_ret
      exact ⟨g, γk, rfl, by simpa [TrailM.assignment] using hrk, hTk, hg⟩

end Go.Proofs.Ytonipjaiaklpaaa
