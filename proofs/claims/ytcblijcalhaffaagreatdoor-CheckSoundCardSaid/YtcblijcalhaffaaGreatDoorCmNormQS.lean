import Derived.Test.YtcblijcalhaffaaGreatDoorDcTwoQS
import Derived.Test.YtcblijcalhaffaaGreatDoorPCheckSoundx3QS
import Derived.Test.YtcblijcalhaffaaGreatDoorCmPlainQS
import Derived.Lib.RowBridge
import Derived.Shelf.SlSortCmp.Insertion
import Derived.Lib.SlicesCompact
import Derived.Test.YtcblijcalhaffaaGreatDoorShelfQS
namespace Go.Proofs.YtcblijcalhaffaaGreatDoor
open Go Go.RowKit Go.Proofs.YtcblijcalhaffaaGreatDoorW.PrintWords Go.Proofs.YtcblijcalhaffaaGreatDoorW.PrintLast Go.Proofs.YtcblijcalhaffaaGreatDoorW.PrintMore PCheckSound

/-! Literals of so many variables; what asks for them. -/
def rightV (V : Nat) (x : Int) : Bool := decide (x ≠ 0 ∧ x ≤ V ∧ -(V : Int) ≤ x)
theorem rightV_iff {V : Nat} {x : Int} : rightV V x = true ↔ x ≠ 0 ∧ x ≤ V ∧ -(V : Int) ≤ x := by unfold rightV; simp
theorem rightV_neg {V : Nat} {x : Int} (h : rightV V x = true) : rightV V (-x) = true := by rw [rightV_iff] at h ⊢; omega
theorem lit_right_v (x : Int) (V : Nat) (hV : V ≤ 100000) (w : World) : Calls Tryz.prog 42 #[.int .i64 x, .int .i64 V] w (Said w (.bool (rightV V x))) := by
  refine lit_Right.calls x V (rightV V x) w ?_
  have e : mn (mx (V : Int) 0) 100000 = V := by unfold mn mx; split <;> split <;> omega
  unfold lit_Right.f rightV
  rw [e]
  by_cases h0 : x = 0
  · simp [h0]
  · rw [if_neg h0]
    by_cases h1 : x ≤ (V : Int)
    · rw [if_pos h1]; simp [h0, h1]
    · rw [if_neg h1]; simp [h1]

/-- Where the first stands of which p holds; below 0: nowhere. -/
def idxI (p : Int → Bool) (xs : List Int) : Int := match xs.findIdx? p with
  | none => -1
  | some k => (k : Int)
theorem idxI_any (p : Int → Bool) (xs : List Int) : decide (0 ≤ idxI p xs) = xs.any p := by
  unfold idxI
  cases h : xs.findIdx? p with
  | none =>
    rw [List.findIdx?_eq_none_iff] at h
    have : xs.any p = false := by rw [List.any_eq_false]; intro x hx; simp [h x hx]
    rw [this]; rfl
  | some k =>
    obtain ⟨hk, hp, _⟩ := List.findIdx?_eq_some_iff_getElem.1 h
    have : xs.any p = true := List.any_eq_true.2 ⟨_, List.getElem_mem hk, hp⟩
    rw [this]; simp
theorem idxI_none (p : Int → Bool) (xs : List Int) (h : xs.any p = false) : idxI p xs = -1 := by
  unfold idxI
  have : xs.findIdx? p = none := by
    rw [List.findIdx?_eq_none_iff]
    intro x hx
    have := List.any_eq_false.1 h x hx
    simpa using this
  rw [this]
theorem idxI_at (p : Int → Bool) (xs : List Int) (j : Nat) (hj : j < xs.length) (h : (xs.take j).any p = false) (hp : p (nth xs 0 j) = true) : idxI p xs = j := by
  unfold idxI
  have e : nth xs 0 j = xs[j] := by unfold nth; rw [List.getD_eq_getElem?_getD, List.getElem?_eq_getElem hj]; rfl
  have : xs.findIdx? p = some j := by
    rw [List.findIdx?_eq_some_iff_getElem]
    refine ⟨hj, by rw [← e]; exact hp, fun k hk => ?_⟩
    have h1 := List.any_eq_false.1 h xs[k] (by rw [List.mem_take_iff_getElem]; exact ⟨k, by omega, rfl⟩)
    simpa using h1
  rw [this]

set_option maxRecDepth 100000 in
set_option maxHeartbeats 4000000 in
theorem add1_any (x : Int) (V b pb : Nat) (hV : V ≤ 100000) (w : World) (h1 : w.cell? ⟨pb, 0, none⟩ = some (.pointer (some ⟨b, 0, none⟩))) (h2 : w.cell? ⟨b, 0, none⟩ = some (.int .i64 V)) :
    Calls Tryz.prog 52 #[.int .i64 x, .pointer (some ⟨pb, 0, none⟩)] w (Said w (.bool (!rightV V x))) := by
  have C := lit_right_v x V hV w
  generalize rightV V x = r at *
  go_enter Tryz.func52, Tryz.ntmps52
  go_wp2_with (first | (go_at_call 42; refine C.mono ?_; rintro e w1 ⟨rfl, HB⟩))
  go_ret
  exact ⟨rfl, HB⟩
set_option maxRecDepth 100000 in
set_option maxHeartbeats 4000000 in
theorem find1_any (x : Int) (V b pb : Nat) (hV : V ≤ 100000) (w : World) (h1 : w.cell? ⟨pb, 0, none⟩ = some (.pointer (some ⟨b, 0, none⟩))) (h2 : w.cell? ⟨b, 0, none⟩ = some (.int .i64 V)) :
    Calls Tryz.prog 75 #[.int .i64 x, .pointer (some ⟨pb, 0, none⟩)] w (Said w (.bool (!rightV V x))) := by
  have C := lit_right_v x V hV w
  generalize rightV V x = r at *
  go_enter Tryz.func75, Tryz.ntmps75
  go_wp2_with (first | (go_at_call 42; refine C.mono ?_; rintro e w1 ⟨rfl, HB⟩))
  go_ret
  exact ⟨rfl, HB⟩
set_option maxRecDepth 100000 in
set_option maxHeartbeats 4000000 in
theorem check1_any (x : Int) (V pb : Nat) (hV : V ≤ 100000) (w : World) (h1 : w.cell? ⟨pb, 0, none⟩ = some (.int .i64 V)) :
    Calls Tryz.prog 41 #[.int .i64 x, .pointer (some ⟨pb, 0, none⟩)] w (Said w (.bool (!rightV V x))) := by
  have C := lit_right_v x V hV w
  generalize rightV V x = r at *
  go_enter Tryz.func41, Tryz.ntmps41
  go_wp2_with (first | (go_at_call 42; refine C.mono ?_; rintro e w1 ⟨rfl, HB⟩))
  go_ret
  exact ⟨rfl, HB⟩
set_option maxRecDepth 100000 in
set_option maxHeartbeats 4000000 in
theorem by1_quiet (x p : Int) (hp : -1000000 ≤ p ∧ p ≤ 1000000) (pb n c : Nat) (ad : Addr) (w : World) (h1 : w.cell? ⟨pb, 0, none⟩ = some (.slice (some ad) n c)) (hn : 0 < n) (h2 : w.cell? ad = some (.int .i64 p)) :
    Calls Tryz.prog 37 #[.int .i64 x, .pointer (some ⟨pb, 0, none⟩)] w (fun e w' => e = .returned (.bool (decide (x = -p))) ∧ ∃ q, w' = w.drewN q) := by
  obtain ⟨hp1, hp2⟩ := hp
  have q1 : ((0 : Int) < (n : Int)) = True := eq_true (by omega)
  have h3 : w.cell? (ad.add 0) = some (.int .i64 p) := by rw [show ad.add 0 = ad from by unfold Addr.add; simp]; exact h2
  go_enter Tryz.func37, Tryz.ntmps37
  go_wp2
  go_ret
  exact ⟨by first | rfl | (congr 1; congr 1; rw [Bool.eq_iff_iff]; simp), 0, rfl⟩

/-! slices.IndexFunc and ContainsFunc at Store.Add$1. -/
set_option maxRecDepth 100000 in
set_option maxHeartbeats 4000000 in
theorem idxF_add (p : Int → Bool) (pb : Nat) (A0 : Option Addr) (c0 : Nat) (xs : List Int) (w : World) (hp : ∀ x w', Below w.heap.size w w' → Calls Tryz.prog 52 #[.int .i64 x, .pointer (some ⟨pb, 0, none⟩)] w' (Said w' (.bool (p x)))) (hr : Kd.C (Kd.int .i64) w A0 xs.length xs) :
    Calls Tryz.prog 57 #[.slice A0 xs.length c0, .func (.func 52) #[] #[.pointer (some ⟨pb, 0, none⟩)]] w (Said w (.int .i64 (idxI p xs))) := by
  have hm := hr.2.1
  have HR := Aside0.mk hr
  have HP := Aside0.mk hp
  clear hr hp
  have HB := Aside0.mk (Below.refl w.heap.size w)
  go_enter Tryz.func57, Tryz.ntmps57
  go_wp2
  go_loopg [8] xs.length (fun gk v8 w' => ∃ j : Nat, v8 = .int .i64 j ∧ j + gk = xs.length ∧ Aside0 ((xs.take j).any p = false) ∧ Aside0 (Below w.heap.size w w'))
  case atStart => exact ⟨0, rfl, by omega, ⟨by simp⟩, ⟨(by repeat (first | (with_reducible first | exact HB.out | apply below_alloc | apply pw_below_drewN | apply below_drew1) | exact HB.out))⟩⟩
  case round =>
    clear HB
    obtain ⟨j, rfl, hj, HA, HB⟩ := hrel
    by_cases hjl : j < xs.length
    · obtain ⟨ad, e0, hx⟩ := at_num HR.out j hjl
      cases e0
      replace hx := (HB.out.cell (World.block_lt_of_cell? w _ hx)).trans hx
      have q1 : ((j : Int) < (xs.length : Int)) = True := eq_true (by omega)
      have q2 : (0 ≤ (j : Int)) = True := eq_true (by omega)
      have hT := Aside0.mk (take_snoc hjl (0 : Int))
      go_wp2_with (first | (go_at_call 52; refine (HP.out _ _ (by repeat (first | (with_reducible first | exact HB.out | apply below_alloc | apply pw_below_drewN | apply below_drew1) | exact HB.out))).mono ?_; rintro e w1 ⟨rfl, hb⟩; have HB2 := Aside0.mk (below_step (by repeat (first | (with_reducible first | exact HB.out | apply below_alloc | apply pw_below_drewN | apply below_drew1) | exact HB.out)) hb); clear HB; have HB := HB2; clear HB2 hb))
      · have hpx : p (nth xs 0 j) = true := by assumption
        have HF := Aside0.mk (idxI_at p xs j hjl HA.out hpx)
        go_ret
        exact ⟨by rw [HF.out]; rfl, (by repeat (first | (with_reducible first | exact HB.out | apply below_alloc | apply pw_below_drewN | apply below_drew1) | exact HB.out))⟩
      · have hpx : p (nth xs 0 j) = false := by assumption
        go_roundg (xs.length - (j + 1))
        case measure => omega
        case rel => exact ⟨j + 1, by go_num, by omega, ⟨by rw [hT.out, List.any_append, HA.out]; simpa using hpx⟩, ⟨(by repeat (first | (with_reducible first | exact HB.out | apply below_alloc | apply pw_below_drewN | apply below_drew1) | exact HB.out))⟩⟩
    · have q1 : ((j : Int) < (xs.length : Int)) = False := eq_false (by omega)
      have hT : xs.take j = xs := List.take_of_length_le (by omega)
      have HA2 := HA.out
      rw [hT] at HA2
      have HF := Aside0.mk (idxI_none p xs HA2)
      clear HA2 hT
      go_wp2
      go_ret
      exact ⟨by rw [HF.out]; rfl, (by repeat (first | (with_reducible first | exact HB.out | apply below_alloc | apply pw_below_drewN | apply below_drew1) | exact HB.out))⟩
theorem hasF_add (p : Int → Bool) (pb : Nat) (A0 : Option Addr) (c0 : Nat) (xs : List Int) (w : World) (hp : ∀ x w', Below w.heap.size w w' → Calls Tryz.prog 52 #[.int .i64 x, .pointer (some ⟨pb, 0, none⟩)] w' (Said w' (.bool (p x)))) (hr : Kd.C (Kd.int .i64) w A0 xs.length xs) :
    Calls Tryz.prog 40 #[.slice A0 xs.length c0, .func (.func 52) #[] #[.pointer (some ⟨pb, 0, none⟩)]] w (Said w (.bool (xs.any p))) := by
  have C := idxF_add p pb A0 c0 xs w hp hr
  have e := idxI_any p xs
  generalize xs.any p = r at *
  have E := Aside0.mk e
  clear hr hp e
  generalize idxI p xs = i at *
  go_enter Tryz.func40, Tryz.ntmps40
  go_wp2_with (first | (go_at_call 57; refine C.mono ?_; rintro e w1 ⟨rfl, HB⟩))
  go_ret
  exact ⟨by rw [← E.out]; rfl, HB⟩

/-! slices.IndexFunc and ContainsFunc at Store.find$1. -/
set_option maxRecDepth 100000 in
set_option maxHeartbeats 4000000 in
theorem idxF_find (p : Int → Bool) (pb : Nat) (A0 : Option Addr) (c0 : Nat) (xs : List Int) (w : World) (hp : ∀ x w', Below w.heap.size w w' → Calls Tryz.prog 75 #[.int .i64 x, .pointer (some ⟨pb, 0, none⟩)] w' (Said w' (.bool (p x)))) (hr : Kd.C (Kd.int .i64) w A0 xs.length xs) :
    Calls Tryz.prog 57 #[.slice A0 xs.length c0, .func (.func 75) #[] #[.pointer (some ⟨pb, 0, none⟩)]] w (Said w (.int .i64 (idxI p xs))) := by
  have hm := hr.2.1
  have HR := Aside0.mk hr
  have HP := Aside0.mk hp
  clear hr hp
  have HB := Aside0.mk (Below.refl w.heap.size w)
  go_enter Tryz.func57, Tryz.ntmps57
  go_wp2
  go_loopg [8] xs.length (fun gk v8 w' => ∃ j : Nat, v8 = .int .i64 j ∧ j + gk = xs.length ∧ Aside0 ((xs.take j).any p = false) ∧ Aside0 (Below w.heap.size w w'))
  case atStart => exact ⟨0, rfl, by omega, ⟨by simp⟩, ⟨(by repeat (first | (with_reducible first | exact HB.out | apply below_alloc | apply pw_below_drewN | apply below_drew1) | exact HB.out))⟩⟩
  case round =>
    clear HB
    obtain ⟨j, rfl, hj, HA, HB⟩ := hrel
    by_cases hjl : j < xs.length
    · obtain ⟨ad, e0, hx⟩ := at_num HR.out j hjl
      cases e0
      replace hx := (HB.out.cell (World.block_lt_of_cell? w _ hx)).trans hx
      have q1 : ((j : Int) < (xs.length : Int)) = True := eq_true (by omega)
      have q2 : (0 ≤ (j : Int)) = True := eq_true (by omega)
      have hT := Aside0.mk (take_snoc hjl (0 : Int))
      go_wp2_with (first | (go_at_call 75; refine (HP.out _ _ (by repeat (first | (with_reducible first | exact HB.out | apply below_alloc | apply pw_below_drewN | apply below_drew1) | exact HB.out))).mono ?_; rintro e w1 ⟨rfl, hb⟩; have HB2 := Aside0.mk (below_step (by repeat (first | (with_reducible first | exact HB.out | apply below_alloc | apply pw_below_drewN | apply below_drew1) | exact HB.out)) hb); clear HB; have HB := HB2; clear HB2 hb))
      · have hpx : p (nth xs 0 j) = true := by assumption
        have HF := Aside0.mk (idxI_at p xs j hjl HA.out hpx)
        go_ret
        exact ⟨by rw [HF.out]; rfl, (by repeat (first | (with_reducible first | exact HB.out | apply below_alloc | apply pw_below_drewN | apply below_drew1) | exact HB.out))⟩
      · have hpx : p (nth xs 0 j) = false := by assumption
        go_roundg (xs.length - (j + 1))
        case measure => omega
        case rel => exact ⟨j + 1, by go_num, by omega, ⟨by rw [hT.out, List.any_append, HA.out]; simpa using hpx⟩, ⟨(by repeat (first | (with_reducible first | exact HB.out | apply below_alloc | apply pw_below_drewN | apply below_drew1) | exact HB.out))⟩⟩
    · have q1 : ((j : Int) < (xs.length : Int)) = False := eq_false (by omega)
      have hT : xs.take j = xs := List.take_of_length_le (by omega)
      have HA2 := HA.out
      rw [hT] at HA2
      have HF := Aside0.mk (idxI_none p xs HA2)
      clear HA2 hT
      go_wp2
      go_ret
      exact ⟨by rw [HF.out]; rfl, (by repeat (first | (with_reducible first | exact HB.out | apply below_alloc | apply pw_below_drewN | apply below_drew1) | exact HB.out))⟩
theorem hasF_find (p : Int → Bool) (pb : Nat) (A0 : Option Addr) (c0 : Nat) (xs : List Int) (w : World) (hp : ∀ x w', Below w.heap.size w w' → Calls Tryz.prog 75 #[.int .i64 x, .pointer (some ⟨pb, 0, none⟩)] w' (Said w' (.bool (p x)))) (hr : Kd.C (Kd.int .i64) w A0 xs.length xs) :
    Calls Tryz.prog 40 #[.slice A0 xs.length c0, .func (.func 75) #[] #[.pointer (some ⟨pb, 0, none⟩)]] w (Said w (.bool (xs.any p))) := by
  have C := idxF_find p pb A0 c0 xs w hp hr
  have e := idxI_any p xs
  generalize xs.any p = r at *
  have E := Aside0.mk e
  clear hr hp e
  generalize idxI p xs = i at *
  go_enter Tryz.func40, Tryz.ntmps40
  go_wp2_with (first | (go_at_call 57; refine C.mono ?_; rintro e w1 ⟨rfl, HB⟩))
  go_ret
  exact ⟨by rw [← E.out]; rfl, HB⟩

/-! slices.IndexFunc and ContainsFunc at check.Check$1. -/
set_option maxRecDepth 100000 in
set_option maxHeartbeats 4000000 in
theorem idxF_check (p : Int → Bool) (pb : Nat) (A0 : Option Addr) (c0 : Nat) (xs : List Int) (w : World) (hp : ∀ x w', Below w.heap.size w w' → Calls Tryz.prog 41 #[.int .i64 x, .pointer (some ⟨pb, 0, none⟩)] w' (Said w' (.bool (p x)))) (hr : Kd.C (Kd.int .i64) w A0 xs.length xs) :
    Calls Tryz.prog 57 #[.slice A0 xs.length c0, .func (.func 41) #[] #[.pointer (some ⟨pb, 0, none⟩)]] w (Said w (.int .i64 (idxI p xs))) := by
  have hm := hr.2.1
  have HR := Aside0.mk hr
  have HP := Aside0.mk hp
  clear hr hp
  have HB := Aside0.mk (Below.refl w.heap.size w)
  go_enter Tryz.func57, Tryz.ntmps57
  go_wp2
  go_loopg [8] xs.length (fun gk v8 w' => ∃ j : Nat, v8 = .int .i64 j ∧ j + gk = xs.length ∧ Aside0 ((xs.take j).any p = false) ∧ Aside0 (Below w.heap.size w w'))
  case atStart => exact ⟨0, rfl, by omega, ⟨by simp⟩, ⟨(by repeat (first | (with_reducible first | exact HB.out | apply below_alloc | apply pw_below_drewN | apply below_drew1) | exact HB.out))⟩⟩
  case round =>
    clear HB
    obtain ⟨j, rfl, hj, HA, HB⟩ := hrel
    by_cases hjl : j < xs.length
    · obtain ⟨ad, e0, hx⟩ := at_num HR.out j hjl
      cases e0
      replace hx := (HB.out.cell (World.block_lt_of_cell? w _ hx)).trans hx
      have q1 : ((j : Int) < (xs.length : Int)) = True := eq_true (by omega)
      have q2 : (0 ≤ (j : Int)) = True := eq_true (by omega)
      have hT := Aside0.mk (take_snoc hjl (0 : Int))
      go_wp2_with (first | (go_at_call 41; refine (HP.out _ _ (by repeat (first | (with_reducible first | exact HB.out | apply below_alloc | apply pw_below_drewN | apply below_drew1) | exact HB.out))).mono ?_; rintro e w1 ⟨rfl, hb⟩; have HB2 := Aside0.mk (below_step (by repeat (first | (with_reducible first | exact HB.out | apply below_alloc | apply pw_below_drewN | apply below_drew1) | exact HB.out)) hb); clear HB; have HB := HB2; clear HB2 hb))
      · have hpx : p (nth xs 0 j) = true := by assumption
        have HF := Aside0.mk (idxI_at p xs j hjl HA.out hpx)
        go_ret
        exact ⟨by rw [HF.out]; rfl, (by repeat (first | (with_reducible first | exact HB.out | apply below_alloc | apply pw_below_drewN | apply below_drew1) | exact HB.out))⟩
      · have hpx : p (nth xs 0 j) = false := by assumption
        go_roundg (xs.length - (j + 1))
        case measure => omega
        case rel => exact ⟨j + 1, by go_num, by omega, ⟨by rw [hT.out, List.any_append, HA.out]; simpa using hpx⟩, ⟨(by repeat (first | (with_reducible first | exact HB.out | apply below_alloc | apply pw_below_drewN | apply below_drew1) | exact HB.out))⟩⟩
    · have q1 : ((j : Int) < (xs.length : Int)) = False := eq_false (by omega)
      have hT : xs.take j = xs := List.take_of_length_le (by omega)
      have HA2 := HA.out
      rw [hT] at HA2
      have HF := Aside0.mk (idxI_none p xs HA2)
      clear HA2 hT
      go_wp2
      go_ret
      exact ⟨by rw [HF.out]; rfl, (by repeat (first | (with_reducible first | exact HB.out | apply below_alloc | apply pw_below_drewN | apply below_drew1) | exact HB.out))⟩
theorem hasF_check (p : Int → Bool) (pb : Nat) (A0 : Option Addr) (c0 : Nat) (xs : List Int) (w : World) (hp : ∀ x w', Below w.heap.size w w' → Calls Tryz.prog 41 #[.int .i64 x, .pointer (some ⟨pb, 0, none⟩)] w' (Said w' (.bool (p x)))) (hr : Kd.C (Kd.int .i64) w A0 xs.length xs) :
    Calls Tryz.prog 40 #[.slice A0 xs.length c0, .func (.func 41) #[] #[.pointer (some ⟨pb, 0, none⟩)]] w (Said w (.bool (xs.any p))) := by
  have C := idxF_check p pb A0 c0 xs w hp hr
  have e := idxI_any p xs
  generalize xs.any p = r at *
  have E := Aside0.mk e
  clear hr hp e
  generalize idxI p xs = i at *
  go_enter Tryz.func40, Tryz.ntmps40
  go_wp2_with (first | (go_at_call 57; refine C.mono ?_; rintro e w1 ⟨rfl, HB⟩))
  go_ret
  exact ⟨by rw [← E.out]; rfl, HB⟩

/-! slices.IndexFunc and ContainsFunc at check.By$1. -/
end Go.Proofs.YtcblijcalhaffaaGreatDoor
namespace Go.Proofs.YtcblijcalhaffaaGreatDoor
open Go Go.RowKit Go.Proofs.YtcblijcalhaffaaGreatDoorW.PrintWords Go.Proofs.YtcblijcalhaffaaGreatDoorW.PrintLast Go.Proofs.YtcblijcalhaffaaGreatDoorW.PrintMore PCheckSound
open Go.Sort Go.Shelf

/-! norm.Clause. -/
/-- lit.Index, at whatever number. -/
def keyI (x : Int) : Int := if x < 0 then wrap64 (wrap64 (2 * wrap64 (wrap64 (-x) - 1)) + 1) else wrap64 (2 * wrap64 (x - 1))
theorem keyI_of {x : Int} (h0 : -1000000 ≤ x) (h1 : x ≤ 1000000) : keyI x = lidx x := by
  unfold keyI lidx wrap64
  split <;> omega
set_option maxRecDepth 100000 in
set_option maxHeartbeats 4000000 in
theorem lit_index_any (x : Int) (w : World) : Calls Tryz.prog 67 #[.int .i64 x] w (fun e w' => e = .returned (.int .i64 (keyI x)) ∧ w = w') := by
  by_cases h : x < 0
  · have e : keyI x = wrap64 (wrap64 (2 * wrap64 (wrap64 (-x) - 1)) + 1) := by unfold keyI; rw [if_pos h]
    rw [e]
    clear e
    go_enter Tryz.func67, Tryz.ntmps67
    go_wp2
    go_ret
    exact ⟨by first | rfl | simp, rfl⟩
  · have e : keyI x = wrap64 (2 * wrap64 (x - 1)) := by unfold keyI; rw [if_neg h]
    rw [e]
    clear e
    have h2 : 0 ≤ x := by omega
    clear h
    go_enter Tryz.func67, Tryz.ntmps67
    go_wp2
    go_ret
    exact ⟨by first | rfl | simp, rfl⟩
def cmpI (x y : Int) : Int := Lib.compareInt (keyI x) (keyI y)
set_option maxRecDepth 100000 in
set_option maxHeartbeats 4000000 in
theorem lit_compare_any (x y : Int) (w : World) : Calls Tryz.prog 69 #[.int .i64 x, .int .i64 y] w (fun e w' => e = .returned (.int .i64 (cmpI x y)) ∧ w = w') := by
  have C1 := lit_index_any x w
  have C2 := lit_index_any y w
  have C3 := Tryz.cmp_Compare_int (keyI x) (keyI y) w
  unfold cmpI
  generalize keyI x = a at *
  generalize keyI y = b at *
  generalize Lib.compareInt a b = r at *
  go_enter Tryz.func69, Tryz.ntmps69
  go_wp2_with fail
  with_reducible refine C1.mono ?_
  rintro e w1 ⟨rfl, rfl⟩
  go_wp2_with fail
  with_reducible refine C2.mono ?_
  rintro e w1 ⟨rfl, rfl⟩
  go_wp2_with fail
  with_reducible refine C3.mono ?_
  rintro e w1 ⟨rfl, rfl⟩
  go_wp2
  go_ret
  exact ⟨rfl, rfl⟩
theorem ltOf_cmpI (x y : Int) : ltOf cmpI x y = decide (keyI x < keyI y) := by
  unfold ltOf cmpI Lib.compareInt
  by_cases h1 : keyI x < keyI y
  · simp [h1]
  · by_cases h2 : keyI y < keyI x <;> simp [h1, h2]
theorem swoI : SWO (ltOf cmpI) where
  irrefl x := by rw [ltOf_cmpI]; simp
  trans x y z h1 h2 := by rw [ltOf_cmpI] at *; simp at *; omega
  ntrans x y z h1 h2 := by rw [ltOf_cmpI] at *; simp at *; omega

/-! Rows rewritten by the library. -/
theorem putRow_at (enc : Int → Value) (w : World) (g : Nat) (d : Array Int) {cur : Array Value} {e : TypeId} {fz : Nat × Nat} (h : w.heap[g]? = some (.cells cur e fz)) :
    (putRow enc w g 0 d).heap[g]? = some (.cells (putCells enc 0 d cur) e fz) := by
  unfold putRow mapBlock
  simp [Array.getElem?_modify, h, onCells]
theorem putRow_far (enc : Int → Value) (w : World) (g : Nat) (d : Array Int) (k : Nat) (hk : k ≠ g) : (putRow enc w g 0 d).heap[k]? = w.heap[k]? := by
  unfold putRow mapBlock
  simp [Array.getElem?_modify, Ne.symm hk]
theorem putCells_take (enc : Int → Value) (ys : List Int) (cur : Array Value) (h : ys.length ≤ cur.size) : (putCells enc 0 ys.toArray cur).toList.take ys.length = ys.map enc := by
  apply List.ext_getElem?
  intro i
  rw [List.getElem?_take]
  by_cases hi : i < ys.length
  · rw [if_pos hi]
    have : i < cur.size := by omega
    simp [putCells, this, hi]
  · rw [if_neg hi, List.getElem?_eq_none (by simp; omega)]
theorem own_put {w : World} {base : Nat} {e : TypeId} {n cap g : Nat} {xs : List Value} {ys : List Int} (h : w.ownsRow base e 1 (.slice (some ⟨g, 0, none⟩) n cap) n xs) (hl : ys.length = n) (k : Nat) (os : Array Obj) :
    (grow (putRow (Value.int .i64) (Sort.ahead w k) g 0 ys.toArray) os).ownsRow base e 1 (.slice (some ⟨g, 0, none⟩) n cap) n (ys.map (Value.int .i64)) ∧ Below base w (grow (putRow (Value.int .i64) (Sort.ahead w k) g 0 ys.toArray) os) := by
  rcases h.2 with ⟨h0, _⟩ | ⟨g', c', cur, hv, hb, hh, h1, h2, h3, h4⟩
  · simp at h0
  · simp only [Value.slice.injEq, Option.some.injEq, Addr.mk.injEq] at hv
    obtain ⟨⟨rfl, _⟩, _, rfl⟩ := hv
    have hh' : (Sort.ahead w k).heap[g]? = some (.cells cur e (0, 0)) := hh
    have hlt : g < w.heap.size := (Array.getElem?_eq_some_iff.1 hh).1
    have hsz : (putRow (Value.int .i64) (Sort.ahead w k) g 0 ys.toArray).heap.size = w.heap.size := by unfold putRow mapBlock; simp [Sort.ahead]
    have hlook : ∀ j, j < w.heap.size → (grow (putRow (Value.int .i64) (Sort.ahead w k) g 0 ys.toArray) os).heap[j]? = (putRow (Value.int .i64) (Sort.ahead w k) g 0 ys.toArray).heap[j]? := fun j hj => by
      unfold grow
      rw [Array.getElem?_append_left (by rw [hsz]; exact hj)]
    refine ⟨⟨by simp [hl], .inr ⟨g, cap, putCells (Value.int .i64) 0 ys.toArray cur, rfl, hb, ?_, h1, h2, ?_, ?_⟩⟩, ⟨rfl, rfl, rfl, ?_, fun j hj => ?_⟩⟩
    · rw [hlook g hlt]; exact putRow_at _ _ _ _ hh'
    · simp [putCells, h3]
    · rw [Nat.mul_one, ← hl]
      exact putCells_take _ _ _ (by omega)
    · rw [size_grow, hsz]; omega
    · rw [hlook j (by omega), putRow_far _ _ _ _ _ (by omega)]; rfl

/-! What the library's words say of lists. -/
theorem compact_norm {zs c : List Int} (hs : Asc0 zs) (hm : ∀ x, x ∈ zs ↔ x ∈ c) : Lib.compact zs = normC c := by
  have get : ∀ i (hi : i < zs.length), zs.toArray[i]! = zs[i] := fun i hi => by simp [hi]
  have key : ∀ m, m ≤ zs.length → Asc (Lib.compactUpTo zs.toArray m) ∧ ∀ x, x ∈ Lib.compactUpTo zs.toArray m ↔ x ∈ zs.take m := by
    intro m
    induction m with
    | zero => intro _; simp [Lib.compactUpTo, Asc]
    | succ m ih =>
      intro hml
      obtain ⟨ih1, ih2⟩ := ih (by omega)
      have hlt : m < zs.length := by omega
      rw [Lib.compactUpTo_succ, List.take_succ_eq_append_getElem hlt, get m hlt]
      by_cases hk : Lib.keeps zs.toArray m = true
      · rw [if_pos hk]
        refine ⟨List.pairwise_append.2 ⟨ih1, by simp, fun x hx y hy => ?_⟩, fun x => by rw [List.mem_append, List.mem_append, ih2]⟩
        simp only [List.mem_singleton] at hy
        subst hy
        obtain ⟨i, hi, rfl⟩ := List.mem_take_iff_getElem.1 ((ih2 x).1 hx)
        have hp := List.pairwise_iff_getElem.1 hs
        have h1 : lidx zs[i] ≤ lidx zs[m] := hp i m (by omega) hlt (by omega)
        rcases Int.lt_or_eq_of_le h1 with h2 | h2
        · exact h2
        · exfalso
          have hm0 : m ≠ 0 := by omega
          have h3 : zs[m] ≠ zs[m - 1]'(by omega) := by
            unfold Lib.keeps at hk
            simp only [decide_eq_true_eq] at hk
            rcases hk with hk | hk
            · exact absurd hk hm0
            · rw [get m hlt, get (m - 1) (by omega)] at hk; exact hk
          have h4 : lidx zs[i] ≤ lidx (zs[m - 1]'(by omega)) := by
            by_cases hi1 : i = m - 1
            · subst hi1; omega
            · exact hp i (m - 1) (by omega) (by omega) (by omega)
          have h5 : lidx (zs[m - 1]'(by omega)) ≤ lidx zs[m] := hp (m - 1) m (by omega) hlt (by omega)
          exact h3 (lidx_inj (by omega))
      · rw [if_neg hk, List.append_nil]
        refine ⟨ih1, fun x => ?_⟩
        rw [ih2]
        simp only [List.mem_append, List.mem_singleton]
        refine ⟨fun h => .inl h, fun h => ?_⟩
        rcases h with h | rfl
        · exact h
        · unfold Lib.keeps at hk
          simp only [decide_eq_true_eq, not_or, Decidable.not_not] at hk
          obtain ⟨hk1, hk2⟩ := hk
          rw [get m hlt, get (m - 1) (by omega)] at hk2
          rw [hk2]
          exact List.mem_take_iff_getElem.2 ⟨m - 1, by omega, rfl⟩
  obtain ⟨h1, h2⟩ := key zs.length (Nat.le_refl _)
  rw [List.take_length] at h2
  exact asc_eq h1 (normC_asc c) fun x => by
    have := h2 x
    unfold Lib.compact
    rw [normC_mem, ← hm, ← h2]
end Go.Proofs.YtcblijcalhaffaaGreatDoor
namespace Go.Proofs.YtcblijcalhaffaaGreatDoor
open Go Go.RowKit Go.Proofs.YtcblijcalhaffaaGreatDoorW.PrintWords Go.Proofs.YtcblijcalhaffaaGreatDoorW.PrintLast Go.Proofs.YtcblijcalhaffaaGreatDoorW.PrintMore PCheckSound
open Go.Sort Go.Shelf

/-! norm.Clause. -/
def i64s (xs : List Int) : List Value := xs.map (Value.int .i64)
/-- A row of whole numbers of the call's own. -/
def OwnI (w : World) (B : Nat) (A : Option Addr) (cap : Nat) (xs : List Int) : Prop := w.ownsRow B 3 1 (.slice A xs.length cap) xs.length (i64s xs)
theorem OwnI.cases {w : World} {B : Nat} {A : Option Addr} {cap : Nat} {xs : List Int} (h : OwnI w B A cap xs) : xs = [] ∨ ∃ g, A = some ⟨g, 0, none⟩ ∧ g < w.heap.size ∧ xs.length ≤ cap ∧ cap ≤ maxLen ∧ Holds (Value.int .i64) w g 0 xs.toArray := by
  rcases h.2 with ⟨h0, _⟩ | ⟨g, c, cur, hv, hb, hh, h1, h2, h3, h4⟩
  · simp only [Value.slice.injEq] at h0
    exact .inl (List.length_eq_zero_iff.1 h0.2.1)
  · simp only [Value.slice.injEq] at hv
    obtain ⟨rfl, _, rfl⟩ := hv
    refine .inr ⟨g, rfl, (Array.getElem?_eq_some_iff.1 hh).1, h1, h2, fun j hj => ⟨?_, blk_frozen hh _⟩⟩
    have hj' : j < xs.length := by simpa using hj
    rw [blk_cell hh, Nat.zero_add]
    have h5 : (i64s xs)[j]? = cur.toList[j]? := by
      rw [← h4, List.getElem?_take, if_pos (by omega)]
    rw [← Array.getElem?_toList, ← h5]
    simp [i64s, hj']
theorem clone_any (A : Option Addr) (c : Nat) (xs : List Int) (w : World) (hr : Kd.C (Kd.int .i64) w A xs.length xs) (hm : xs.length ≤ 1000000000000) :
    Calls Tryz.prog 38 #[.slice A xs.length c] w fun e w' => ∃ A' cap, e = .returned (.slice A' xs.length cap) ∧ OwnI w' w.heap.size A' cap xs ∧ Below w.heap.size w w' := by
  cases A with
  | none =>
    have h0 : xs.length = 0 := by
      rcases Nat.eq_zero_or_pos xs.length with h | h
      · exact h
      · obtain ⟨ad, h1, _⟩ := hr.2.2 h
        cases h1
    obtain rfl := List.length_eq_zero_iff.1 h0
    refine (Tryz.slices_Clone_int_nil 0 c w).mono ?_
    rintro e w1 ⟨rfl, rfl⟩
    exact ⟨none, 0, rfl, own_nil _ _ _ _, Below.refl _ _⟩
  | some ad =>
    rcases Nat.eq_zero_or_pos xs.length with h | h
    · obtain rfl := List.length_eq_zero_iff.1 h
      refine (Tryz.slices_Clone_int_zero ad c w).mono ?_
      rintro e w1 ⟨v, rfl, h1, _, h2⟩
      obtain ⟨A', cap, rfl⟩ := own_slice h1
      exact ⟨A', cap, rfl, h1, h2⟩
    · obtain ⟨ad', h1, hx⟩ := at_num hr 0 h
      cases h1
      rw [show ad.add 0 = ad from by unfold Addr.add; simp] at hx
      obtain ⟨b, off, sp⟩ := ad
      have hsp : sp = none := by simpa using World.cell?_spot hx
      subst hsp
      refine (Tryz.slices_Clone_int b off xs.length c xs w (Nat.le_refl _) (by omega) fun j hj => ?_).mono ?_
      · obtain ⟨ad', h1, hx⟩ := at_num hr j hj
        cases h1
        have e1 : (⟨b, off, none⟩ : Addr).add j = ⟨b, off + j, none⟩ := by
          unfold Addr.add
          split
          · rename_i h; subst h; rfl
          · rfl
        rw [e1] at hx
        exact hx
      · rintro e w1 ⟨v, rfl, h1, _, h2⟩
        rw [List.take_length] at h1
        obtain ⟨A', cap, rfl⟩ := own_slice h1
        exact ⟨A', cap, rfl, h1, h2⟩
theorem sort_any (A : Option Addr) (cap B : Nat) (xs : List Int) (w : World) (ho : OwnI w B A cap xs) (hm : xs.length ≤ 1000000000000) (hb : ∀ x ∈ xs, -1000000 ≤ x ∧ x ≤ 1000000) :
    Calls Tryz.prog 68 #[.slice A xs.length cap, .func (.func 69) #[] #[]] w fun e w' => e = .returned (.tuple #[]) ∧ ∃ ys, ys.length = xs.length ∧ (∀ x, x ∈ ys ↔ x ∈ xs) ∧ Asc0 ys ∧ OwnI w' B A cap ys ∧ Below B w w' := by
  rcases ho.cases with rfl | ⟨g, rfl, hg, h1, h2, hH⟩
  · refine (Tryz.slices_SortFunc_none (α := Int) A cap _ w).mono ?_
    rintro e w1 ⟨rfl, rfl⟩
    exact ⟨rfl, [], rfl, fun _ => Iff.rfl, by simp [Asc0], ho, Below.refl _ _⟩
  · have eg : ∀ args w, (callFunc 69 args).run Tryz.prog w = .ok (.enter 69 args) w := enters_of Tryz.func69 (by kernel_rfl) rfl
    have hc : CmpReads Tryz.prog 69 #[] (Value.int .i64) cmpI g 0 xs.toArray.size w := fun _ _ _ _ x y => (lit_compare_any x y _).mono fun e w' ⟨h1, h2⟩ => ⟨h1, 0, h2.symm⟩
    have hS := Tryz.slices_SortFunc (Value.int .i64) (fun _ => rfl) cmpI swoI 69 #[] g 0 cap xs.toArray w eg hc.lays hH hg (by simp; omega)
    rw [List.size_toArray] at hS
    refine hS.mono ?_
    rintro e w1 ⟨rfl, d, n, os, ⟨hp1, _, hp3⟩, hs, rfl⟩
    have hl : d.toList.length = xs.length := by simpa using hp1
    have hperm : d.toList.Perm xs := by
      have e1 : d.extract 0 xs.length = d := by
        rw [show xs.length = d.size by simpa using hl.symm]; simp
      have e2 : xs.toArray.extract 0 xs.length = xs.toArray := by
        rw [show xs.length = xs.toArray.size by simp]; simp
      rw [e1, e2] at hp3
      simpa using hp3
    have hmem : ∀ x, x ∈ d.toList ↔ x ∈ xs := fun x => hperm.mem_iff
    obtain ⟨o1, o2⟩ := own_put (ys := d.toList) ho hl n os
    refine ⟨rfl, d.toList, hl, hmem, ?_, ?_, ?_⟩
    · refine List.pairwise_iff_getElem.2 fun i j hi hj hij => ?_
      have h3 := hs i j (Nat.zero_le _) hij (by omega)
      rw [ltOf_cmpI] at h3
      have hi' : i < d.size := by simpa using hi
      have hj' : j < d.size := by simpa using hj
      have h4 := hb _ ((hmem _).1 (List.getElem_mem hi))
      have h5 := hb _ ((hmem _).1 (List.getElem_mem hj))
      have g1 : d[i]! = d.toList[i] := by simp [hi']
      have g2 : d[j]! = d.toList[j] := by simp [hj']
      rw [g1, g2, keyI_of h4.1 h4.2, keyI_of h5.1 h5.2] at h3
      simpa using h3
    · unfold OwnI
      rw [hl]
      exact o1
    · exact o2
theorem compact_any (A : Option Addr) (cap B : Nat) (xs : List Int) (w : World) (ho : OwnI w B A cap xs) (hm : xs.length ≤ 1000000000000) :
    Calls Tryz.prog 70 #[.slice A xs.length cap] w fun e w' => e = .returned (.slice A (Lib.compact xs).length cap) ∧ OwnI w' B A cap (Lib.compact xs) ∧ Below B w w' := by
  rcases ho.cases with rfl | ⟨g, rfl, hg, h1, h2, hH⟩
  · refine (Tryz.slices_Compact_int_empty A cap w).mono ?_
    rintro e w1 ⟨rfl, rfl⟩
    exact ⟨rfl, ho, Below.refl _ _⟩
  · refine (Tryz.slices_Compact_int g 0 cap xs w hH (by omega) h1).mono ?_
    rintro e w1 ⟨rfl, q, rfl⟩
    have hle := Lib.compact_length_le xs
    obtain ⟨o1, o2⟩ := own_put (ys := Lib.compact xs ++ List.replicate (xs.length - (Lib.compact xs).length) 0) ho (by simp; omega) q #[]
    rw [grow_empty] at o1 o2
    refine ⟨rfl, ?_, o2⟩
    have h3 := own_take o1 (m := (Lib.compact xs).length) (by omega)
    unfold OwnI
    have e1 : (List.map (Value.int .i64) (Lib.compact xs ++ List.replicate (xs.length - (Lib.compact xs).length) 0)).take ((Lib.compact xs).length * 1) = i64s (Lib.compact xs) := by
      rw [Nat.mul_one, List.map_append, List.take_left' (by simp)]; rfl
    rw [e1] at h3
    exact h3

/-- What norm.Clause leaves: a row of its own, in one form. -/
def Made (w : World) (xs : List Int) (e : Ending) (w' : World) : Prop := ∃ A cap, e = .returned (.slice A xs.length cap) ∧ OwnI w' w.heap.size A cap xs ∧ Below w.heap.size w w'
set_option maxRecDepth 100000 in
set_option maxHeartbeats 4000000 in
theorem clause_any (A : Option Addr) (c : Nat) (xs : List Int) (w : World) (hr : Kd.C (Kd.int .i64) w A xs.length xs) (hm : xs.length ≤ 1000000000000) (hb : ∀ x ∈ xs, -1000000 ≤ x ∧ x ≤ 1000000) :
    Calls Tryz.prog 53 #[.slice A xs.length c] w (Made w (normC xs)) := by
  have C1 := clone_any A c xs w hr hm
  have HM := Aside0.mk hm
  have HBD := Aside0.mk hb
  clear hr hm hb
  go_enter Tryz.func53, Tryz.ntmps53
  go_wp2_with fail
  with_reducible refine C1.mono ?_
  rintro e w1 ⟨A1, c1, rfl, ho, hb1⟩
  have C2 := sort_any A1 c1 _ xs w1 ho HM.out HBD.out
  have HB1 := Aside0.mk hb1
  clear ho C1 hb1
  go_wp2_with fail
  with_reducible refine C2.mono ?_
  rintro e w2 ⟨rfl, ys, hl, hmem, hasc, ho, hb2⟩
  have C3 := compact_any A1 c1 _ ys w2 ho (by rw [hl]; exact HM.out)
  rw [hl, compact_norm hasc hmem] at C3
  have HB2 := Aside0.mk hb2
  clear ho C2 hl hmem hasc hb2
  go_wp2_with fail
  with_reducible refine C3.mono ?_
  rintro e w3 ⟨rfl, ho, hb3⟩
  have HO := Aside0.mk ho
  have HB3 := Aside0.mk hb3
  clear ho C3 hb3
  generalize normC xs = z at *
  go_wp2
  go_ret
  exact ⟨A1, c1, rfl, HO.out, (HB1.out.trans HB2.out).trans HB3.out⟩
end Go.Proofs.YtcblijcalhaffaaGreatDoor
