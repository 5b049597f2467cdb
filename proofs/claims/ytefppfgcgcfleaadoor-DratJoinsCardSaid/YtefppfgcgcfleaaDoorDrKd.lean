import Derived.Test.YtefppfgcgcfleaaDoorPDratJoinsx6
import Derived.Test.YtefppfgcgcfleaaDoorDrExt
namespace Go.Proofs.YtefppfgcgcfleaaDoor
open Go Go.RowKit Go.Proofs.YtefppfgcgcfleaaDoorW.PrintWords Go.Proofs.YtefppfgcgcfleaaDoorW.PrintLast Go.Proofs.YtefppfgcgcfleaaDoorW.PrintMore PDratJoins

/-! Steps as the program lays them, and as plain data; what is read of a row. -/

/-- What a callee leaves: its value, and all that stood. -/
def Said (w : World) (v : Value) (e : Ending) (w' : World) : Prop := e = .returned v ∧ Below w.heap.size w w'

def toP (s : S36) : PStep := ⟨s.f0, s.f1⟩
def rightL (x : Int) : Bool := decide (x ≠ 0 ∧ x ≤ 100000 ∧ -100000 ≤ x)
theorem rightL_iff {x : Int} : rightL x = true ↔ RightL x := by unfold rightL RightL; simp
def rightB (l : List S36) : Bool := l.all fun s => s.f1.all rightL

/-- All literals are literals. -/
def RightS (l : List S36) : Prop := ∀ s ∈ l, ∀ x ∈ s.f1, RightL x
theorem RightS.p {l : List S36} (h : RightS l) : RightP (l.map toP) := by
  intro s hs x hx
  obtain ⟨y, hy, rfl⟩ := List.mem_map.1 hs
  exact h y hy x hx
/-- What stands at a place, under a name of its own. -/
def nth {α : Type} (xs : List α) (z : α) (j : Nat) : α := xs.getD j z
theorem take_snoc {α : Type} {xs : List α} {j : Nat} (h : j < xs.length) (z : α) : xs.take (j + 1) = xs.take j ++ [nth xs z j] := by
  unfold nth
  rw [List.take_succ_eq_append_getElem h, List.getD_eq_getElem?_getD, List.getElem?_eq_getElem h]; rfl
theorem nth_mem {α : Type} {xs : List α} {j : Nat} (h : j < xs.length) (z : α) : nth xs z j ∈ xs := by
  unfold nth
  rw [List.getD_eq_getElem?_getD, List.getElem?_eq_getElem h]; exact List.getElem_mem h

theorem at_num {w : World} {k : IntKind} {A : Option Addr} {n : Nat} {xs : List Int} (h : Kd.C (Kd.int k) w A n xs) (j : Nat) (hj : j < n) : ∃ ad, A = some ad ∧ w.cell? (ad.add j) = some (.int k (nth xs 0 j)) := by
  obtain ⟨ad, h1, h2⟩ := Kd.at_int h (j : Int) (by omega) (by omega)
  exact ⟨ad, h1, h2⟩
theorem at_step {w : World} {A : Option Addr} {n : Nat} {xs : List S36} (h : Kd.C k36 w A n xs) (j : Nat) (hj : j < n) : ∃ ad A1 c1, A = some ad ∧ w.cell? (ad.add (j * 2)) = some (.bool (nth xs z36 j).f0) ∧ w.cell? ⟨(ad.add (j * 2)).block, (ad.add (j * 2)).off + 1, none⟩ = some (.slice A1 (nth xs z36 j).f1.length c1) ∧ (nth xs z36 j).f1.length ≤ c1 ∧ (Kd.int .i64).C w A1 (nth xs z36 j).f1.length (nth xs z36 j).f1 := by
  obtain ⟨ad, A1, c1, h1, h2, h3, h4, h5⟩ := at_T36 h (j : Int) (by omega) (by omega)
  exact ⟨ad, A1, c1, h1, h2, h3, h4, h5⟩

/-! lit.Right -/
set_option maxRecDepth 100000 in
set_option maxHeartbeats 4000000 in
theorem lit_right_any (x : Int) (w : World) : Calls Tryd.prog 30 #[.int .i64 x, .int .i64 100000] w (Said w (.bool (rightL x))) := by
  by_cases h0 : x = 0
  · subst h0
    have e : rightL 0 = false := rfl
    rw [e]
    go_enter Tryd.func30, Tryd.ntmps30
    go_wp2
    go_ret
    exact ⟨rfl, Below.refl _ _⟩
  have q0 : (x != 0) = true := by simp; exact h0
  by_cases h1 : x ≤ 100000
  · by_cases h2 : -100000 ≤ x
    · have e : rightL x = true := by unfold rightL; simp; omega
      rw [e]
      have q1 : (x ≤ 100000) = True := eq_true h1
      have q2 : (-100000 ≤ x) = True := eq_true h2
      clear e
      go_enter Tryd.func30, Tryd.ntmps30
      go_wp2
      go_ret
      exact ⟨rfl, Below.refl _ _⟩
    · have e : rightL x = false := by unfold rightL; simp; omega
      rw [e]
      have q1 : (x ≤ 100000) = True := eq_true h1
      have q2 : (-100000 ≤ x) = False := eq_false h2
      clear e
      go_enter Tryd.func30, Tryd.ntmps30
      go_wp2
      go_ret
      exact ⟨rfl, Below.refl _ _⟩
  · have e : rightL x = false := by unfold rightL; simp; omega
    rw [e]
    have q1 : (x ≤ 100000) = False := eq_false h1
    clear e
    go_enter Tryd.func30, Tryd.ntmps30
    go_wp2
    go_ret
    exact ⟨rfl, Below.refl _ _⟩

/-! slices.ContainsFunc over whole numbers. -/
set_option maxRecDepth 100000 in
set_option maxHeartbeats 4000000 in
theorem not_right_any (x : Int) (w : World) : Calls Tryd.prog 29 #[.int .i64 x] w (Said w (.bool (!rightL x))) := by
  have C := lit_right_any x w
  generalize rightL x = r at *
  go_enter Tryd.func29, Tryd.ntmps29
  go_wp2_with (first | (go_at_call 30; refine C.mono ?_; rintro e w1 ⟨rfl, HB⟩))
  go_ret
  exact ⟨rfl, HB⟩

set_option maxRecDepth 100000 in
set_option maxHeartbeats 4000000 in
theorem indexFunc_any (p : Int → Bool) (hp : ∀ x w, Calls Tryd.prog 29 #[.int .i64 x] w (Said w (.bool (p x)))) (A0 : Option Addr) (c0 : Nat) (xs : List Int) (w : World) (hr : Kd.C (Kd.int .i64) w A0 xs.length xs) (_hc : xs.length ≤ c0) :
    Calls Tryd.prog 42 #[.slice A0 xs.length c0, .func (.func 29) #[] #[]] w fun e w' => ∃ i : Int, e = .returned (.int .i64 i) ∧ decide (0 ≤ i) = xs.any p ∧ Below w.heap.size w w' := by
  have hm := hr.2.1
  have HR := Aside0.mk hr
  clear hr
  have HB := Aside0.mk (Below.refl w.heap.size w)
  go_enter Tryd.func42, Tryd.ntmps42
  go_wp2
  go_loopg [8] xs.length (fun gk v8 w' => ∃ j : Nat, v8 = .int .i64 j ∧ j + gk = xs.length ∧ Aside0 ((xs.take j).any p = false) ∧ Aside0 (Below w.heap.size w w'))
  case atStart => exact ⟨0, rfl, by omega, ⟨by simp⟩, ⟨(by repeat (first | (with_reducible first | exact HB.out | apply below_alloc | apply pw_below_drewN | apply below_drew1) | exact HB.out))⟩⟩
  case round =>
    clear HB
    obtain ⟨j, rfl, hj, HA, HB⟩ := hrel
    by_cases hjl : j < xs.length
    · obtain ⟨ad, e0, hx⟩ := at_num HR.out j hjl
      cases e0
      replace hx := (HB.out.cell (World.block_lt_of_cell? w _ hx)).trans hx
      have q1 : ((j : Int) < (xs.length : Int)) = True := eq_true (by omega)
      have q2 : (0 ≤ (j : Int)) = True := eq_true (by omega)
      have hT := Aside0.mk (take_snoc hjl (0 : Int))
      go_wp2_with (first | (go_at_call 29; refine (hp _ _).mono ?_; rintro e w1 ⟨rfl, hb⟩; have HB2 := Aside0.mk (below_step (by repeat (first | (with_reducible first | exact HB.out | apply below_alloc | apply pw_below_drewN | apply below_drew1) | exact HB.out)) hb); clear HB; have HB := HB2; clear HB2 hb))
      · have hpx : p (nth xs 0 j) = true := by assumption
        go_ret
        refine ⟨_, rfl, ?_, (by repeat (first | (with_reducible first | exact HB.out | apply below_alloc | apply pw_below_drewN | apply below_drew1) | exact HB.out))⟩
        rw [show xs.any p = true from List.any_eq_true.2 ⟨_, nth_mem hjl 0, hpx⟩]
        simp
      · have hpx : p (nth xs 0 j) = false := by assumption
        go_roundg (xs.length - (j + 1))
        case measure => omega
        case rel => exact ⟨j + 1, by go_num, by omega, ⟨by rw [hT.out, List.any_append, HA.out]; simpa using hpx⟩, ⟨(by repeat (first | (with_reducible first | exact HB.out | apply below_alloc | apply pw_below_drewN | apply below_drew1) | exact HB.out))⟩⟩
    · have q1 : ((j : Int) < (xs.length : Int)) = False := eq_false (by omega)
      have hT : xs.take j = xs := List.take_of_length_le (by omega)
      have HA2 := HA.out
      rw [hT] at HA2
      go_wp2
      go_ret
      refine ⟨-1, rfl, by rw [HA2]; rfl, (by repeat (first | (with_reducible first | exact HB.out | apply below_alloc | apply pw_below_drewN | apply below_drew1) | exact HB.out))⟩

theorem contains_any (A0 : Option Addr) (c0 : Nat) (xs : List Int) (w : World) (hr : Kd.C (Kd.int .i64) w A0 xs.length xs) (hc : xs.length ≤ c0) :
    Calls Tryd.prog 28 #[.slice A0 xs.length c0, .func (.func 29) #[] #[]] w (Said w (.bool (!xs.all rightL))) := by
  have C := indexFunc_any _ not_right_any A0 c0 xs w hr hc
  have e : (xs.any fun x => !rightL x) = !xs.all rightL := by rw [List.not_all_eq_any_not]
  rw [e] at C
  generalize (!xs.all rightL) = r at *
  clear hr hc e
  go_enter Tryd.func28, Tryd.ntmps28
  go_wp2_with (first | (go_at_call 42; refine C.mono ?_; rintro e w1 ⟨i, rfl, hi, HB⟩))
  go_ret
  exact ⟨by rw [← hi]; rfl, HB⟩

set_option maxRecDepth 100000 in
set_option maxHeartbeats 4000000 in
theorem dr_right (A0 : Option Addr) (c0 : Nat) (l0 : List S36) (w : World) (hr : Kd.C k36 w A0 l0.length l0) (_hc : l0.length ≤ c0) :
    Calls Tryd.prog 16 #[.slice A0 l0.length c0] w (Said w (.bool (rightB l0))) := by
  have hm := hr.2.1
  have hu := Tryd.underlying36
  have HR := Aside0.mk hr
  clear hr
  have HB := Aside0.mk (Below.refl w.heap.size w)
  go_enter Tryd.func16, Tryd.ntmps16
  go_wp2
  go_loopg [7] l0.length (fun gk v7 w' => ∃ j : Nat, v7 = .int .i64 j ∧ j + gk = l0.length ∧ Aside0 (rightB (l0.take j) = true) ∧ Aside0 (Below w.heap.size w w'))
  case atStart => exact ⟨0, rfl, by omega, ⟨rfl⟩, ⟨(by repeat (first | (with_reducible first | exact HB.out | apply below_alloc | apply pw_below_drewN | apply below_drew1) | exact HB.out))⟩⟩
  case round =>
    clear HB
    obtain ⟨j, rfl, hj, HA, HB⟩ := hrel
    by_cases hjl : j < l0.length
    · obtain ⟨ad, A1, c1, e0, hx0, hx1, hl1, hi1⟩ := at_step HR.out j hjl
      cases e0
      replace hx0 := (HB.out.cell (World.block_lt_of_cell? w _ hx0)).trans hx0
      replace hx1 := (HB.out.cell (World.block_lt_of_cell? w _ hx1)).trans hx1
      have HI := Aside0.mk hi1
      have HL := Aside0.mk hl1
      have q1 : ((j : Int) < (l0.length : Int)) = True := eq_true (by omega)
      have q2 : (0 ≤ (j : Int)) = True := eq_true (by omega)
      have hT := Aside0.mk (take_snoc hjl z36)
      clear hi1 hl1
      go_wp2_with (first
        | ((with_reducible refine gate_dst (N := 4) rfl ?_); refine box_event ?hg (N := 4) ?hd (cs := #[.bool false, .slice none 0 0]) (t := 36) ?hr ?_; (case hd => rfl); (case hg => rfl); (case hr => first | (go_simp; done) | (go_simp; rfl)); intro gb hg w5 hbox hb; have GE := Aside0.mk ((by rw [hg]; exact (below_size (by repeat (first | (with_reducible first | exact HB.out | apply below_alloc | apply pw_below_drewN | apply below_drew1) | exact HB.out)))) : w.heap.size ≤ gb); have GN := Aside0.mk hg; have HW5 := Aside0.mk hb; have n0_ := Aside0.mk (below_step (by repeat (first | (with_reducible first | exact HB.out | apply below_alloc | apply pw_below_drewN | apply below_drew1) | exact HB.out)) hb); have BK := Aside0.mk hbox; clear HB; have HB := n0_; clear n0_ hb hbox hg; have hcz0 : w5.cell? ⟨gb, 0, none⟩ = some (.bool false) := (blk_cell BK.out 0).trans rfl; have hcz1 : w5.cell? ⟨gb, 1, none⟩ = some (.slice none 0 0) := (blk_cell BK.out 1).trans rfl; have hfz0 := blk_frozen BK.out 0; have hfz1 := blk_frozen BK.out 1)
        | (go_at_call 28; refine (contains_any _ _ _ _ (Kd.C_below HI.out (by repeat (first | (with_reducible first | exact HB.out | apply below_alloc | apply pw_below_drewN | apply below_drew1 | refine below_set ?_ GE.out) | exact HB.out))) HL.out).mono ?_; rintro e w1 ⟨rfl, hb⟩; have HB2 := Aside0.mk (below_step (by repeat (first | (with_reducible first | exact HB.out | apply below_alloc | apply pw_below_drewN | apply below_drew1 | refine below_set ?_ GE.out) | exact HB.out)) hb); clear HB; have HB := HB2; clear HB2 hb))
      · have hpx : (!(nth l0 z36 j).f1.all rightL) = true := by assumption
        have hr : rightB l0 = false := by
          unfold rightB
          rw [List.all_eq_false]
          exact ⟨_, nth_mem hjl z36, by rw [Bool.not_eq_true]; simpa using hpx⟩
        go_ret
        exact ⟨by rw [hr]; rfl, (by repeat (first | (with_reducible first | exact HB.out | apply below_alloc | apply pw_below_drewN | apply below_drew1 | refine below_set ?_ GE.out) | exact HB.out))⟩
      · have hpx : (!(nth l0 z36 j).f1.all rightL) = false := by assumption
        go_roundg (l0.length - (j + 1))
        case measure => omega
        case rel =>
          refine ⟨j + 1, by go_num, by omega, ⟨?_⟩, ⟨(by repeat (first | (with_reducible first | exact HB.out | apply below_alloc | apply pw_below_drewN | apply below_drew1 | refine below_set ?_ GE.out) | exact HB.out))⟩⟩
          have h1 := HA.out
          rw [hT.out]
          unfold rightB at h1 ⊢
          rw [List.all_append, h1, List.all_cons, List.all_nil]
          simpa using hpx
    · have q1 : ((j : Int) < (l0.length : Int)) = False := eq_false (by omega)
      have hT : l0.take j = l0 := List.take_of_length_le (by omega)
      have HA2 := HA.out
      rw [hT] at HA2
      go_wp2
      go_ret
      refine ⟨by rw [HA2]; rfl, (by repeat (first | (with_reducible first | exact HB.out | apply below_alloc | apply pw_below_drewN | apply below_drew1) | exact HB.out))⟩

end Go.Proofs.YtefppfgcgcfleaaDoor
