import Derived.Test.YtlmmiobnbcanmaaRows
import Derived.Test.YtlmmiobnbcanmaaTrailS
import Derived.WalkKit
import Derived.WalkSpells
import Derived.WalkLawsBesides
import Derived.BigQuiet
import Derived.Deep.QuietTactic
import Derived.Lib.Hide
namespace Go.Proofs.Ytlmmiobnbcanmaa
open Go.RowKit

theorem ret_int {a b : Int} (h : a = b) : Ending.returned (.int .i64 a) = .returned (.int .i64 b) := by rw [h]
theorem ret_bool {a b : Bool} (h : a = b) : Ending.returned (.bool a) = .returned (.bool b) := by rw [h]

set_option maxHeartbeats 400000 in
theorem var_any (l : Int) (w : World) (h1 : -1000000 ≤ l) (h2 : l ≤ 1000000) :
    Calls Try.prog 35 #[.int .i64 l] w fun e w' => e = .returned (.int .i64 (litVar l)) ∧ w = w' := by
  go_enter Try.func35, Try.ntmps35
  go_wp2
  all_goals go_ret
  all_goals exact ⟨ret_int (by unfold litVar; split <;> omega), rfl⟩

set_option maxHeartbeats 400000 in
theorem right_any (l : Int) (n : Nat) (w : World) (hn : n ≤ 100000)  :
    Calls Try.prog 37 #[.int .i64 l, .int .i64 n] w fun e w' => e = .returned (.bool (rightB l n)) ∧ w = w' := by
  go_enter Try.func37, Try.ntmps37
  go_wp2
  all_goals go_ret
  · exact ⟨ret_bool (by unfold rightB; simp; omega), rfl⟩
  · exact ⟨ret_bool (by unfold rightB; simp [*]), rfl⟩
  · exact ⟨ret_bool (by unfold rightB; simp; omega), rfl⟩

set_option maxHeartbeats 400000 in
theorem cell_no {γ : Tags} {w : World} {p : Tag} {h : TrailH} {t : TrailM} (H : TrailAt γ w p h t) (l : Int) (hr : rightB l t.cells.length = false) :
    Calls Try.prog 28 #[.pointer (some ⟨h.b, 0, none⟩), .int .i64 l] w fun e w' => e = .returned (.pointer none) ∧ w = w' := by
  have h0 := H.f0
  have hn := H.few
  go_enter Try.func28, Try.ntmps28
  go_wp2_with (go_at_call 37; refine (right_any _ _ _ hn).mono ?_; rintro e w' ⟨rfl, rfl⟩)
  go_ret
  exact ⟨rfl, rfl⟩

set_option maxHeartbeats 400000 in
theorem cell_yes {γ : Tags} {w : World} {p : Tag} {h : TrailH} {t : TrailM} (H : TrailAt γ w p h t) (l : Int) (i : Nat) (hr : rightB l t.cells.length = true) (hi : litVar l = i + 1) :
    Calls Try.prog 28 #[.pointer (some ⟨h.b, 0, none⟩), .int .i64 l] w fun e w' => e = .returned (.pointer (some ⟨h.bv, i * 5, none⟩)) ∧ ∃ n, w' = w.drewN n := by
  have h0 := H.f0
  have hn := H.few
  have hb : l ≠ 0 ∧ l ≤ t.cells.length ∧ -t.cells.length ≤ l := by simpa [rightB] using hr
  have hlt : i < t.cells.length := by unfold litVar at hi; split at hi <;> omega
  have hlt' : (i : Int) < t.cells.length := by omega
  have hwi : IntKind.i64.wrap (i : Int) = i := IntWalk.i64_in _ (by omega)
  go_enter Try.func28, Try.ntmps28
  go_wp2_with (go_at_call 37; refine (right_any _ _ _ hn).mono ?_; rintro e w' ⟨rfl, rfl⟩)
  go_quiet ((go_at_call 35; exact Calls.quiet_of_same ((var_any l _ (by omega) (by omega)).mono fun _ _ ⟨h1, h2⟩ => ⟨h1, h2.symm⟩)))
  go_wp2
  go_ret
  exact ⟨rfl, _, rfl⟩

set_option maxHeartbeats 400000 in
theorem on_none {γ : Tags} {w : World} {p : Tag} {h : TrailH} {t : TrailM} (H : TrailAt γ w p h t) (l : Int) (ho : t.on l = none) :
    Calls Try.prog 36 #[.pointer (some ⟨h.b, 0, none⟩), .int .i64 l] w (Quiet w (.pointer none)) := by
  cases hg : t.get l with
  | none =>
    have hr := TrailM.get_none hg
    clear ho hg
    go_enter Try.func36, Try.ntmps36
    go_wp2_with (go_at_call 28; refine (cell_no H _ hr).mono ?_; rintro e w' ⟨rfl, rfl⟩)
    go_ret
    exact Quiet.mk (n := 0) rfl rfl
  | some c =>
    obtain ⟨hr, i, hi, hc⟩ := TrailM.get_some hg
    obtain ⟨k0, _⟩ := H.cs hc
    have hv : (c.value != 0) = false := by simpa [TrailM.on, hg, Option.filter] using ho
    have hv0 : c.value = 0 := by simpa using hv
    rw [hv0] at k0
    clear ho hg hv hv0 hc
    go_enter Try.func36, Try.ntmps36
    have Hi := Lib.hid hi
    clear hi
    go_wp2_with (go_at_call 28; refine (cell_yes H _ i hr Hi.out).mono ?_; rintro e w' ⟨rfl, n, rfl⟩)
    go_ret
    exact Quiet.mk rfl rfl

set_option maxHeartbeats 400000 in
theorem on_some {γ : Tags} {w : World} {p : Tag} {h : TrailH} {t : TrailM} (H : TrailAt γ w p h t) (l : Int) (i : Nat) (c : TCell) (hr : rightB l t.cells.length = true) (hi : litVar l = i + 1) (hc : t.cells[i]? = some c) (hv : (c.value == 0) = false) :
    Calls Try.prog 36 #[.pointer (some ⟨h.b, 0, none⟩), .int .i64 l] w (Quiet w (.pointer (some ⟨h.bv, i * 5, none⟩))) := by
  obtain ⟨k0, _⟩ := H.cs hc
  have Hi := Lib.hid hi
  clear hi hc
  go_enter Try.func36, Try.ntmps36
  go_wp2_with (go_at_call 28; refine (cell_yes H _ i hr Hi.out).mono ?_; rintro e w' ⟨rfl, n, rfl⟩)
  go_ret
  exact Quiet.mk rfl rfl

set_option maxHeartbeats 400000 in
theorem level_any {γ : Tags} {w : World} {p : Tag} {h : TrailH} {t : TrailM} (H : TrailAt γ w p h t) :
    Calls Try.prog 14 #[.pointer (some ⟨h.b, 0, none⟩)] w (Quiet w (.int .i64 t.starts.length)) := by
  have h0 := H.f2
  go_enter Try.func14, Try.ntmps14
  go_wp2
  go_ret
  exact Quiet.mk (n := 0) rfl rfl

set_option maxHeartbeats 400000 in
theorem len_any {γ : Tags} {w : World} {p : Tag} {h : TrailH} {t : TrailM} (H : TrailAt γ w p h t) :
    Calls Try.prog 15 #[.pointer (some ⟨h.b, 0, none⟩)] w (Quiet w (.int .i64 t.l.length)) := by
  have h0 := H.f1
  go_enter Try.func15, Try.ntmps15
  go_wp2
  go_ret
  exact Quiet.mk (n := 0) rfl rfl

set_option maxHeartbeats 400000 in
theorem full_any {γ : Tags} {w : World} {p : Tag} {h : TrailH} {t : TrailM} (H : TrailAt γ w p h t) :
    Calls Try.prog 16 #[.pointer (some ⟨h.b, 0, none⟩)] w (Quiet w (.bool (decide (t.l.length = t.cells.length)))) := by
  have h1 := H.f1
  have h0 := H.f0
  go_enter Try.func16, Try.ntmps16
  go_wp2
  go_quiet (fail)
  go_wp2
  go_ret
  exact Quiet.mk (by congr 1; rw [Bool.eq_iff_iff]; simp; omega) rfl

set_option maxHeartbeats 400000 in
theorem at_any {γ : Tags} {w : World} {p : Tag} {h : TrailH} {t : TrailM} (H : TrailAt γ w p h t) (i : Int) :
    Calls Try.prog 18 #[.pointer (some ⟨h.b, 0, none⟩), .int .i64 i] w (Quiet w (.int .i64 (t.at i))) := by
  have h1 := H.f1
  by_cases hi : 0 ≤ i ∧ i < t.l.length
  · obtain ⟨k, rfl⟩ : ∃ k : Nat, i = k := ⟨i.toNat, by omega⟩
    have hk : k < t.l.length := by omega
    obtain ⟨g, hg, hc⟩ := own_ints H.lits.own (by omega)
    have hcell := hc k hk
    have hfin : t.at k = t.l[k] := by simp [TrailM.at, hk]
    rw [← hfin] at hcell
    have Hf := Lib.hid hfin
    clear hc hi hfin
    rw [hg] at h1
    go_enter Try.func18, Try.ntmps18
    go_wp2
    go_ret
    exact Quiet.mk (n := 0) rfl rfl
  · have hfin : t.at i = 0 := by
      unfold TrailM.at
      split
      · rw [List.getD_eq_getElem?_getD, List.getElem?_eq_none (by omega)]; rfl
      · rfl
    rw [hfin]
    by_cases hi0 : i < 0
    · clear hi
      go_enter Try.func18, Try.ntmps18
      go_wp2
      go_ret
      exact Quiet.mk (n := 0) rfl rfl
    · have hi1 : (t.l.length : Int) ≤ i := by omega
      clear hi
      go_enter Try.func18, Try.ntmps18
      go_wp2
      go_ret
      exact Quiet.mk (n := 0) rfl rfl

set_option maxHeartbeats 400000 in
theorem place_any {γ : Tags} {w : World} {p : Tag} {h : TrailH} {t : TrailM} (H : TrailAt γ w p h t) (l : Int) :
    Calls Try.prog 26 #[.pointer (some ⟨h.b, 0, none⟩), .int .i64 l] w (Quiet w (.int .i64 (t.place l))) := by
  rcases t.on_none_or l with ho | ⟨i, c, ho, hr, hi, hc, hv⟩
  · have hfin : t.place l = -1 := by simp [TrailM.place, ho]
    rw [hfin]
    clear hfin
    have Ho := Lib.hid ho
    clear ho
    go_enter Try.func26, Try.ntmps26
    go_wp2_with (go_at_call 36; refine (on_none H _ Ho.out).mono ?_; rintro e w' ⟨rfl, n, rfl⟩)
    go_ret
    exact Quiet.mk rfl rfl
  · have hfin : t.place l = c.place := by simp [TrailM.place, ho]
    rw [hfin]
    obtain ⟨k0, k1, k2, k3, k4⟩ := H.cs hc
    have C := on_some H l i c hr hi hc hv
    clear hfin ho hr hi hc hv
    go_enter Try.func26, Try.ntmps26
    go_wp2_with (go_at_call 36; refine C.mono ?_; rintro e w' ⟨rfl, n, rfl⟩)
    go_ret
    exact Quiet.mk rfl rfl

set_option maxHeartbeats 400000 in
theorem levelOf_any {γ : Tags} {w : World} {p : Tag} {h : TrailH} {t : TrailM} (H : TrailAt γ w p h t) (l : Int) :
    Calls Try.prog 31 #[.pointer (some ⟨h.b, 0, none⟩), .int .i64 l] w (Quiet w (.int .i64 (t.levelOf l))) := by
  rcases t.on_none_or l with ho | ⟨i, c, ho, hr, hi, hc, hv⟩
  · have hfin : t.levelOf l = -1 := by simp [TrailM.levelOf, ho]
    rw [hfin]
    clear hfin
    have Ho := Lib.hid ho
    clear ho
    go_enter Try.func31, Try.ntmps31
    go_wp2_with (go_at_call 36; refine (on_none H _ Ho.out).mono ?_; rintro e w' ⟨rfl, n, rfl⟩)
    go_ret
    exact Quiet.mk rfl rfl
  · have hfin : t.levelOf l = c.level := by simp [TrailM.levelOf, ho]
    rw [hfin]
    obtain ⟨k0, k1, k2, k3, k4⟩ := H.cs hc
    have C := on_some H l i c hr hi hc hv
    clear hfin ho hr hi hc hv
    go_enter Try.func31, Try.ntmps31
    go_wp2_with (go_at_call 36; refine C.mono ?_; rintro e w' ⟨rfl, n, rfl⟩)
    go_ret
    exact Quiet.mk rfl rfl

set_option maxHeartbeats 400000 in
theorem reason_any {γ : Tags} {w : World} {p : Tag} {h : TrailH} {t : TrailM} (H : TrailAt γ w p h t) (l : Int) :
    Calls Try.prog 25 #[.pointer (some ⟨h.b, 0, none⟩), .int .i64 l] w (Quiet w (.int .i64 (t.reason l))) := by
  rcases t.on_none_or l with ho | ⟨i, c, ho, hr, hi, hc, hv⟩
  · have hfin : t.reason l = -1 := by simp [TrailM.reason, ho]
    rw [hfin]
    clear hfin
    have Ho := Lib.hid ho
    clear ho
    go_enter Try.func25, Try.ntmps25
    go_wp2_with (go_at_call 36; refine (on_none H _ Ho.out).mono ?_; rintro e w' ⟨rfl, n, rfl⟩)
    go_ret
    exact Quiet.mk rfl rfl
  · have hfin : t.reason l = c.reason := by simp [TrailM.reason, ho]
    rw [hfin]
    obtain ⟨k0, k1, k2, k3, k4⟩ := H.cs hc
    have C := on_some H l i c hr hi hc hv
    clear hfin ho hr hi hc hv
    go_enter Try.func25, Try.ntmps25
    go_wp2_with (go_at_call 36; refine C.mono ?_; rintro e w' ⟨rfl, n, rfl⟩)
    go_ret
    exact Quiet.mk rfl rfl

set_option maxHeartbeats 400000 in
theorem value_any {γ : Tags} {w : World} {p : Tag} {h : TrailH} {t : TrailM} (H : TrailAt γ w p h t) (l : Int) :
    Calls Try.prog 24 #[.pointer (some ⟨h.b, 0, none⟩), .int .i64 l] w (Quiet w (.int .i64 (t.value l))) := by
  rcases t.on_none_or l with ho | ⟨i, c, ho, hr, hi, hc, hv⟩
  · have hfin : t.value l = 0 := by simp [TrailM.value, ho]
    rw [hfin]
    clear hfin
    have Ho := Lib.hid ho
    clear ho
    go_enter Try.func24, Try.ntmps24
    go_wp2_with (go_at_call 36; refine (on_none H _ Ho.out).mono ?_; rintro e w' ⟨rfl, n, rfl⟩)
    go_ret
    exact Quiet.mk rfl rfl
  · have hfin : t.value l = if l < 0 then -c.value else c.value := by simp [TrailM.value, ho]
    have Hf := Lib.hid hfin
    obtain ⟨k0, k1, k2, k3, k4⟩ := H.cs hc
    have hs := H.signs c (List.mem_of_getElem? hc)
    have C := on_some H l i c hr hi hc hv
    clear hfin ho hr hi hc hv k1 k2 k3 k4
    obtain ⟨hs1, hs2⟩ := hs
    by_cases hl : l < 0
    · go_enter Try.func24, Try.ntmps24
      go_wp2_with (go_at_call 36; refine C.mono ?_; rintro e w' ⟨rfl, n, rfl⟩)
      go_ret
      exact Quiet.mk (by rw [Hf.out, if_pos hl]; rfl) rfl
    · go_enter Try.func24, Try.ntmps24
      go_wp2_with (go_at_call 36; refine C.mono ?_; rintro e w' ⟨rfl, n, rfl⟩)
      go_ret
      exact Quiet.mk (by rw [Hf.out, if_neg (by omega)]; rfl) rfl

set_option maxHeartbeats 400000 in
theorem phase_any {γ : Tags} {w : World} {p : Tag} {h : TrailH} {t : TrailM} (H : TrailAt γ w p h t) (l : Int) :
    Calls Try.prog 27 #[.pointer (some ⟨h.b, 0, none⟩), .int .i64 l] w (Quiet w (.bool (t.phase l))) := by
  cases hg : t.get l with
  | none =>
    have hr := TrailM.get_none hg
    have hfin : t.phase l = false := by simp [TrailM.phase, hg]
    rw [hfin]
    clear hg hfin
    go_enter Try.func27, Try.ntmps27
    go_wp2_with (go_at_call 28; refine (cell_no H _ hr).mono ?_; rintro e w' ⟨rfl, rfl⟩)
    go_ret
    exact Quiet.mk (n := 0) rfl rfl
  | some c =>
    obtain ⟨hr, i, hi, hc⟩ := TrailM.get_some hg
    have hfin : t.phase l = (decide (0 < l) && c.phase) := by simp [TrailM.phase, hg]
    obtain ⟨k0, k1, k2, k3, k4⟩ := H.cs hc
    have C := cell_yes H l i hr hi
    have Hf := Lib.hid hfin
    clear hg hfin hr hi hc k0 k1 k2 k3
    by_cases hl : 0 < l
    · go_enter Try.func27, Try.ntmps27
      go_wp2_with (go_at_call 28; refine C.mono ?_; rintro e w' ⟨rfl, n, rfl⟩)
      go_ret
      exact Quiet.mk (by rw [Hf.out]; simp [hl]) rfl
    · have hl' : decide (0 < l) = false := by simpa using hl
      go_enter Try.func27, Try.ntmps27
      go_wp2_with (go_at_call 28; refine C.mono ?_; rintro e w' ⟨rfl, n, rfl⟩)
      go_ret
      exact Quiet.mk (by rw [Hf.out]; simp [hl']) rfl

end Go.Proofs.Ytlmmiobnbcanmaa
