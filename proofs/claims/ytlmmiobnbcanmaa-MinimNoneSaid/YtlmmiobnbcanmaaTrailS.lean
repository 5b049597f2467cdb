import Derived.Test.YtlmmiobnbcanmaaTrailPlain
namespace Go.Proofs.Ytlmmiobnbcanmaa
open Go Go.RowKit

def litVar (l : Int) : Int := if l < 0 then -l else l
theorem litVar_max (l : Int) : max l (-l) = litVar l := by unfold litVar; split <;> omega
def rightB (l : Int) (n : Nat) : Bool := decide (l ≠ 0 ∧ l ≤ n ∧ -n ≤ l)

theorem idx_of {l : Int} {n : Nat} (hr : rightB l n = true) : ∃ i : Nat, litVar l = i + 1 ∧ i < n := by
  have hb : l ≠ 0 ∧ l ≤ n ∧ -n ≤ l := by simpa [rightB] using hr
  refine ⟨(litVar l - 1).toNat, ?_, ?_⟩ <;> (unfold litVar; split <;> omega)

/-- What is known of a literal's variable, if it is one. -/
def TrailM.get (t : TrailM) (l : Int) : Option TCell := if rightB l t.cells.length then t.cells[(litVar l - 1).toNat]? else none
/-- .. if it stands on the trail. -/
def TrailM.on (t : TrailM) (l : Int) : Option TCell := (t.get l).filter fun c => c.value != 0

theorem TrailM.get_some {t : TrailM} {l : Int} {c : TCell} (h : t.get l = some c) : rightB l t.cells.length = true ∧ ∃ i : Nat, litVar l = i + 1 ∧ t.cells[i]? = some c := by
  unfold TrailM.get at h
  split at h
  · rename_i hr
    obtain ⟨i, hi, _⟩ := idx_of hr
    refine ⟨hr, i, hi, ?_⟩
    rw [hi] at h
    simpa using h
  · cases h

theorem TrailM.get_none {t : TrailM} {l : Int} (h : t.get l = none) : rightB l t.cells.length = false := by
  unfold TrailM.get at h
  split at h
  · rename_i hr
    obtain ⟨i, hi, hlt⟩ := idx_of hr
    rw [hi] at h
    simp at h
    omega
  · rename_i hr; simpa using hr

theorem TrailM.get_of {t : TrailM} {l : Int} {i : Nat} {c : TCell} (hr : rightB l t.cells.length = true) (hi : litVar l = i + 1) (hc : t.cells[i]? = some c) : t.get l = some c := by
  have e : (litVar l - 1).toNat = i := by omega
  simp [TrailM.get, hr, e, hc]

theorem TrailM.on_none_or (t : TrailM) (l : Int) : t.on l = none ∨ ∃ (i : Nat) (c : TCell), t.on l = some c ∧ rightB l t.cells.length = true ∧ litVar l = i + 1 ∧ t.cells[i]? = some c ∧ (c.value == 0) = false := by
  cases ho : t.on l with
  | none => exact .inl rfl
  | some c =>
    right
    unfold TrailM.on at ho
    rw [Option.filter_eq_some_iff] at ho
    obtain ⟨hg, hv⟩ := ho
    obtain ⟨hr, i, hi, hc⟩ := TrailM.get_some hg
    exact ⟨i, c, rfl, hr, hi, hc, by simpa using hv⟩

/-- The literal at a place; 0: there is none. -/
def TrailM.at (t : TrailM) (i : Int) : Int := if 0 ≤ i then t.l.getD i.toNat 0 else 0
def TrailM.place (t : TrailM) (l : Int) : Int := match t.on l with | some c => c.place | none => -1
def TrailM.levelOf (t : TrailM) (l : Int) : Int := match t.on l with | some c => c.level | none => -1
def TrailM.reason (t : TrailM) (l : Int) : Int := match t.on l with | some c => c.reason | none => -1
def TrailM.value (t : TrailM) (l : Int) : Int := match t.on l with | some c => if l < 0 then -c.value else c.value | none => 0
def TrailM.phase (t : TrailM) (l : Int) : Bool := match t.get l with | some c => decide (0 < l) && c.phase | none => false
/-- The trail behind a literal that was put. -/
def TrailM.put (t : TrailM) (l r : Int) (i : Nat) : TrailM :=
  { t with cells := t.cells.set i ⟨if l < 0 then -1 else 1, t.starts.length, r, t.l.length, decide (0 < l)⟩, l := t.l ++ [l] }
/-- May a literal be put? -/
def TrailM.free (t : TrailM) (l : Int) : Bool := match t.get l with | some c => c.value == 0 | none => false
def TrailM.doPut (t : TrailM) (l r : Int) : TrailM := if t.free l then t.put l r (litVar l - 1).toNat else t
def TrailM.doDecide (t : TrailM) (l : Int) : TrailM := if t.free l then { t with starts := t.starts ++ [(t.l.length : Int)] }.put l (-1) (litVar l - 1).toNat else t
/-- Nothing is known, nothing stands. -/
def TrailM.new (n : Nat) : TrailM := ⟨List.replicate n ⟨0, 0, 0, 0, false⟩, [], []⟩
/-- How a variable is to be. -/
def TrailM.setPhase (t : TrailM) (v : Int) (is : Bool) : TrailM :=
  match t.get v with | some c => if 0 ≤ v then { t with cells := t.cells.set (litVar v - 1).toNat { c with phase := is } } else t | none => t
def TrailM.mayPhase (t : TrailM) (v : Int) : Bool := rightB v t.cells.length && decide (0 ≤ v)
def TCell.is (c : TCell) : Bool := c.value == 1 || c.value == 0 && c.phase
/-- Values, or phases. -/
def TrailM.assignment (t : TrailM) : List Bool := t.cells.map TCell.is
/-- A literal is taken away. -/
def unset (cells : List TCell) (x : Int) : List TCell := cells.modify (litVar x - 1).toNat fun c => { c with value := 0 }
/-- The place in the trail of a level's decision. -/
def TrailM.start (t : TrailM) (lv : Nat) : Nat := (t.starts.getD lv 0).toNat
def TrailM.cut (t : TrailM) (lv : Nat) : TrailM :=
  ⟨(t.l.reverse.take (t.l.length - t.start lv)).foldl unset t.cells, t.l.take (t.start lv), t.starts.take lv⟩

end Go.Proofs.Ytlmmiobnbcanmaa
