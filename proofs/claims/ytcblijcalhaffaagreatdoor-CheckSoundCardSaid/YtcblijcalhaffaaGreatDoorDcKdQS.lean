import Derived.Test.YtcblijcalhaffaaGreatDoorPCheckSoundx0QS
import Derived.Test.YtcblijcalhaffaaGreatDoorDcPlainQS
namespace Go.Proofs.YtcblijcalhaffaaGreatDoor
open Go Go.RowKit Go.Proofs.YtcblijcalhaffaaGreatDoorW.PrintWords Go.Proofs.YtcblijcalhaffaaGreatDoorW.PrintLast Go.Proofs.YtcblijcalhaffaaGreatDoorW.PrintMore PCheckSound

/-! Steps as the program lays them, and as plain data; what is read of a row. -/

/-- What a callee leaves: its value, and all that stood. -/
def Said (w : World) (v : Value) (e : Ending) (w' : World) : Prop := e = .returned v ∧ Below w.heap.size w w'

def toP (s : S41) : PStep := ⟨s.f0, s.f1⟩
def rightL (x : Int) : Bool := decide (x ≠ 0 ∧ x ≤ 100000 ∧ -100000 ≤ x)
theorem rightL_iff {x : Int} : rightL x = true ↔ RightL x := by unfold rightL RightL; simp
def rightB (l : List S41) : Bool := l.all fun s => s.f1.all rightL

/-- All literals are literals. -/
def RightS (l : List S41) : Prop := ∀ s ∈ l, ∀ x ∈ s.f1, RightL x
theorem RightS.p {l : List S41} (h : RightS l) : RightP (l.map toP) := by
  intro s hs x hx
  obtain ⟨y, hy, rfl⟩ := List.mem_map.1 hs
  exact h y hy x hx
/-- What stands at a place, under a name of its own. -/
def nth {α : Type} (xs : List α) (z : α) (j : Nat) : α := xs.getD j z
theorem take_snoc {α : Type} {xs : List α} {j : Nat} (h : j < xs.length) (z : α) : xs.take (j + 1) = xs.take j ++ [nth xs z j] := by
  unfold nth
  rw [List.take_succ_eq_append_getElem h, List.getD_eq_getElem?_getD, List.getElem?_eq_getElem h]; rfl
theorem nth_mem {α : Type} {xs : List α} {j : Nat} (h : j < xs.length) (z : α) : nth xs z j ∈ xs := by
  unfold nth
  rw [List.getD_eq_getElem?_getD, List.getElem?_eq_getElem h]; exact List.getElem_mem h

theorem at_num {w : World} {k : IntKind} {A : Option Addr} {n : Nat} {xs : List Int} (h : Kd.C (Kd.int k) w A n xs) (j : Nat) (hj : j < n) : ∃ ad, A = some ad ∧ w.cell? (ad.add j) = some (.int k (nth xs 0 j)) := by
  obtain ⟨ad, h1, h2⟩ := Kd.at_int h (j : Int) (by omega) (by omega)
  exact ⟨ad, h1, h2⟩
theorem at_step {w : World} {A : Option Addr} {n : Nat} {xs : List S41} (h : Kd.C k41 w A n xs) (j : Nat) (hj : j < n) : ∃ ad A1 c1, A = some ad ∧ w.cell? (ad.add (j * 2)) = some (.bool (nth xs z41 j).f0) ∧ w.cell? ⟨(ad.add (j * 2)).block, (ad.add (j * 2)).off + 1, none⟩ = some (.slice A1 (nth xs z41 j).f1.length c1) ∧ (nth xs z41 j).f1.length ≤ c1 ∧ (Kd.int .i64).C w A1 (nth xs z41 j).f1.length (nth xs z41 j).f1 := by
  obtain ⟨ad, A1, c1, h1, h2, h3, h4, h5⟩ := at_T41 h (j : Int) (by omega) (by omega)
  exact ⟨ad, A1, c1, h1, h2, h3, h4, h5⟩

/-! lit.Right -/
set_option maxRecDepth 100000 in
set_option maxHeartbeats 4000000 in
theorem lit_right_any (x : Int) (w : World) : Calls Tryz.prog 42 #[.int .i64 x, .int .i64 100000] w (Said w (.bool (rightL x))) := by
  by_cases h0 : x = 0
  · subst h0
    have e : rightL 0 = false := rfl
    rw [e]
    go_enter Tryz.func42, Tryz.ntmps42
    go_wp2
    go_ret
    exact ⟨rfl, Below.refl _ _⟩
  have q0 : (x != 0) = true := by simp; exact h0
  by_cases h1 : x ≤ 100000
  · by_cases h2 : -100000 ≤ x
    · have e : rightL x = true := by unfold rightL; simp; omega
      rw [e]
      have q1 : (x ≤ 100000) = True := eq_true h1
      have q2 : (-100000 ≤ x) = True := eq_true h2
      clear e
      go_enter Tryz.func42, Tryz.ntmps42
      go_wp2
      go_ret
      exact ⟨rfl, Below.refl _ _⟩
    · have e : rightL x = false := by unfold rightL; simp; omega
      rw [e]
      have q1 : (x ≤ 100000) = True := eq_true h1
      have q2 : (-100000 ≤ x) = False := eq_false h2
      clear e
      go_enter Tryz.func42, Tryz.ntmps42
      go_wp2
      go_ret
      exact ⟨rfl, Below.refl _ _⟩
  · have e : rightL x = false := by unfold rightL; simp; omega
    rw [e]
    have q1 : (x ≤ 100000) = False := eq_false h1
    clear e
    go_enter Tryz.func42, Tryz.ntmps42
    go_wp2
    go_ret
    exact ⟨rfl, Below.refl _ _⟩

end Go.Proofs.YtcblijcalhaffaaGreatDoor
