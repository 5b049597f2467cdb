import Derived.Test.YtlmmiobnbcanmaaMem
namespace Go.Proofs.Ytlmmiobnbcanmaa
open Go Go.RowKit

/-- What is known of a variable. -/
structure TCell where
  value : Int
  level : Int
  reason : Int
  place : Int
  phase : Bool

def TCell.vals (c : TCell) : List Value := [.int .i64 c.value, .int .i64 c.level, .int .i64 c.reason, .int .i64 c.place, .bool c.phase]
theorem TCell.vals_length (c : TCell) : c.vals.length = 5 := rfl

/-- The trail, as it is meant. -/
structure TrailM where
  cells : List TCell
  l : List Int
  starts : List Int

/-- Where it lies. -/
structure TrailH where
  b : Nat
  bv : Nat
  la : Option Addr
  lc : Nat
  sa : Option Addr
  sc : Nat

def TrailH.head (h : TrailH) (t : TrailM) : Array Value := #[.slice (some ⟨h.bv, 0, none⟩) t.cells.length t.cells.length, .slice h.la t.l.length h.lc, .slice h.sa t.starts.length h.sc]

structure TrailAt (γ : Tags) (w : World) (p : Tag) (h : TrailH) (t : TrailM) : Prop where
  head : Blk γ w (p ++ [0]) h.b 58 (h.head t)
  vars : Row γ w (p ++ [1]) 62 5 (some ⟨h.bv, 0, none⟩) t.cells.length t.cells.length (t.cells.flatMap TCell.vals)
  lits : Row γ w (p ++ [2]) 3 1 h.la t.l.length h.lc (ints t.l)
  starts : Row γ w (p ++ [3]) 3 1 h.sa t.starts.length h.sc (ints t.starts)
  few : t.cells.length ≤ 100000
  signs : ∀ c ∈ t.cells, -1 ≤ c.value ∧ c.value ≤ 1

section
variable {γ γ' : Tags} {w w' : World} {p q : Tag} {h : TrailH} {t : TrailM}

theorem TrailAt.drewN (H : TrailAt γ w p h t) (n : Nat) : TrailAt γ (w.drewN n) p h t := ⟨⟨H.head.heap, H.head.tag⟩, ⟨H.vars.own, H.vars.tag⟩, ⟨H.lits.own, H.lits.tag⟩, ⟨H.starts.own, H.starts.tag⟩, H.few, H.signs⟩

theorem TrailAt.turn (H : TrailAt γ w q h t) {ps : List Tag} (ht : Turn γ γ' w w' ps) (hp : ∀ x, ¬ Under ps (q ++ x)) : TrailAt γ' w' q h t :=
  ⟨H.head.turn ht (hp _), H.vars.turn ht (hp _), H.lits.turn ht (hp _), H.starts.turn ht (hp _), H.few, H.signs⟩

theorem TrailAt.f0 (H : TrailAt γ w p h t) : w.cell? ⟨h.b, 0, none⟩ = some (.slice (some ⟨h.bv, 0, none⟩) t.cells.length t.cells.length) := H.head.cell rfl
theorem TrailAt.f1 (H : TrailAt γ w p h t) : w.cell? ⟨h.b, 1, none⟩ = some (.slice h.la t.l.length h.lc) := H.head.cell rfl
theorem TrailAt.f2 (H : TrailAt γ w p h t) : w.cell? ⟨h.b, 2, none⟩ = some (.slice h.sa t.starts.length h.sc) := H.head.cell rfl

theorem TrailAt.cell (H : TrailAt γ w p h t) {i : Nat} (hi : i < t.cells.length) {j : Nat} {v : Value} (hj : (t.cells[i]).vals[j]? = some v) : w.cell? ⟨h.bv, i * 5 + j, none⟩ = some v := by
  have h5 : j < 5 := by
    have := (List.getElem?_eq_some_iff.1 hj).1
    simpa [TCell.vals_length] using this
  exact H.vars.cell (by rw [flatMap_get _ 5 TCell.vals_length _ _ _ hi h5]; exact hj)

theorem TrailAt.cs (H : TrailAt γ w p h t) {i : Nat} {c : TCell} (hi : t.cells[i]? = some c) :
    w.cell? ⟨h.bv, i * 5, none⟩ = some (.int .i64 c.value) ∧ w.cell? ⟨h.bv, i * 5 + 1, none⟩ = some (.int .i64 c.level) ∧ w.cell? ⟨h.bv, i * 5 + 2, none⟩ = some (.int .i64 c.reason) ∧
    w.cell? ⟨h.bv, i * 5 + 3, none⟩ = some (.int .i64 c.place) ∧ w.cell? ⟨h.bv, i * 5 + 4, none⟩ = some (.bool c.phase) := by
  obtain ⟨hl, rfl⟩ := List.getElem?_eq_some_iff.1 hi
  exact ⟨H.cell hl (j := 0) rfl, H.cell hl (j := 1) rfl, H.cell hl (j := 2) rfl, H.cell hl (j := 3) rfl, H.cell hl (j := 4) rfl⟩

theorem signs_set {cs : List TCell} (h : ∀ c ∈ cs, -1 ≤ c.value ∧ c.value ≤ 1) {i : Nat} {c : TCell} (hc : -1 ≤ c.value ∧ c.value ≤ 1) : ∀ x ∈ cs.set i c, -1 ≤ x.value ∧ x.value ≤ 1 := by
  intro x hx
  rcases List.mem_or_eq_of_mem_set hx with h1 | rfl
  · exact h x h1
  · exact hc

/-- The variables' row alone has turned. -/
theorem TrailAt.vars_turned (H : TrailAt γ w p h t) {cs : List TCell} (ht : Turn γ γ' w w' [p ++ [1]]) (hl : cs.length = t.cells.length)
    (hv : Row γ' w' (p ++ [1]) 62 5 (some ⟨h.bv, 0, none⟩) t.cells.length t.cells.length (cs.flatMap TCell.vals)) (hs : ∀ c ∈ cs, -1 ≤ c.value ∧ c.value ≤ 1) : TrailAt γ' w' p h { t with cells := cs } := by
  refine ⟨?_, by simpa [hl] using hv, H.lits.turn ht (by simp), H.starts.turn ht (by simp), by rw [hl]; exact H.few, hs⟩
  have := H.head.turn ht (by simp)
  simpa [TrailH.head, hl] using this

/-- A variable's cell is written as a whole. -/
theorem TrailAt.set_all (H : TrailAt γ w p h t) {i : Nat} (hi : i < t.cells.length) (n : Nat) (c : TCell) (hc : -1 ≤ c.value ∧ c.value ≤ 1) (w' : World)
    (hw : (((((w.drewN n).setCell ⟨h.bv, i * 5, none⟩ (.int .i64 c.value)).setCell ⟨h.bv, i * 5 + 1, none⟩ (.int .i64 c.level)).setCell ⟨h.bv, i * 5 + 2, none⟩ (.int .i64 c.reason)).setCell ⟨h.bv, i * 5 + 3, none⟩ (.int .i64 c.place)).setCell
      ⟨h.bv, i * 5 + 4, none⟩ (.bool c.phase) = w') : TrailAt γ w' p h { t with cells := t.cells.set i c } ∧ Turn γ γ w w' [p ++ [1]] := by
  subst hw
  have hlen : (t.cells.flatMap TCell.vals).length = t.cells.length * 5 := flatMap_length _ 5 TCell.vals_length _
  have h0 : Row γ (w.drewN n) (p ++ [1]) 62 5 (some ⟨h.bv, 0, none⟩) t.cells.length t.cells.length (t.cells.flatMap TCell.vals) := ⟨H.vars.own, H.vars.tag⟩
  have T : Turn γ γ w (w.drewN n) [p ++ [1]] := (Turn.refl γ w _).drewN n
  have e0 : (t.cells.flatMap TCell.vals).set (i * 5) (.int .i64 c.value) = (t.cells.set i { t.cells[i] with value := c.value }).flatMap TCell.vals := flatMap_set _ 5 TCell.vals_length _ i 0 _ _ hi (by omega) rfl
  have e1 : ((t.cells.set i { t.cells[i] with value := c.value }).flatMap TCell.vals).set (i * 5 + 1) (.int .i64 c.level) = (t.cells.set i { t.cells[i] with value := c.value, level := c.level }).flatMap TCell.vals := by
    rw [flatMap_set _ 5 TCell.vals_length _ i 1 _ { t.cells[i] with value := c.value, level := c.level } (by simpa using hi) (by omega) (by simp [TCell.vals]), List.set_set]
  have e2 : ((t.cells.set i { t.cells[i] with value := c.value, level := c.level }).flatMap TCell.vals).set (i * 5 + 2) (.int .i64 c.reason) = (t.cells.set i { t.cells[i] with value := c.value, level := c.level, reason := c.reason }).flatMap TCell.vals := by
    rw [flatMap_set _ 5 TCell.vals_length _ i 2 _ { t.cells[i] with value := c.value, level := c.level, reason := c.reason } (by simpa using hi) (by omega) (by simp [TCell.vals]), List.set_set]
  have e3 : ((t.cells.set i { t.cells[i] with value := c.value, level := c.level, reason := c.reason }).flatMap TCell.vals).set (i * 5 + 3) (.int .i64 c.place) = (t.cells.set i { t.cells[i] with value := c.value, level := c.level, reason := c.reason, place := c.place }).flatMap TCell.vals := by
    rw [flatMap_set _ 5 TCell.vals_length _ i 3 _ { t.cells[i] with value := c.value, level := c.level, reason := c.reason, place := c.place } (by simpa using hi) (by omega) (by simp [TCell.vals]), List.set_set]
  have e4 : ((t.cells.set i { t.cells[i] with value := c.value, level := c.level, reason := c.reason, place := c.place }).flatMap TCell.vals).set (i * 5 + 4) (.bool c.phase) = (t.cells.set i c).flatMap TCell.vals := by
    rw [flatMap_set _ 5 TCell.vals_length _ i 4 _ c (by simpa using hi) (by omega) (by simp [TCell.vals]), List.set_set]
  have r1 := h0.set (j := i * 5) (by omega) (.int .i64 c.value)
  have t1 := T.trans (h0.turned (i * 5) (.int .i64 c.value))
  have r2 := r1.set (j := i * 5 + 1) (by simp only [List.length_set]; omega) (.int .i64 c.level)
  have t2 := t1.trans (r1.turned (i * 5 + 1) (.int .i64 c.level))
  have r3 := r2.set (j := i * 5 + 2) (by simp only [List.length_set]; omega) (.int .i64 c.reason)
  have t3 := t2.trans (r2.turned (i * 5 + 2) (.int .i64 c.reason))
  have r4 := r3.set (j := i * 5 + 3) (by simp only [List.length_set]; omega) (.int .i64 c.place)
  have t4 := t3.trans (r3.turned (i * 5 + 3) (.int .i64 c.place))
  have r5 := r4.set (j := i * 5 + 4) (by simp only [List.length_set]; omega) (.bool c.phase)
  have t5 := t4.trans (r4.turned (i * 5 + 4) (.bool c.phase))
  rw [e0, e1, e2, e3, e4] at r5
  exact ⟨H.vars_turned t5 (by simp) r5 (signs_set H.signs hc), t5⟩

/-- One field alone. -/
theorem TrailAt.set_one (H : TrailAt γ w p h t) {i : Nat} (hi : i < t.cells.length) (n j : Nat) (hj : j < 5) (v : Value) (c : TCell) (hc : -1 ≤ c.value ∧ c.value ≤ 1) (hv : c.vals = (t.cells[i]).vals.set j v) (w' : World)
    (hw : (w.drewN n).setCell ⟨h.bv, i * 5 + j, none⟩ v = w') : TrailAt γ w' p h { t with cells := t.cells.set i c } ∧ Turn γ γ w w' [p ++ [1]] := by
  subst hw
  have hlen : (t.cells.flatMap TCell.vals).length = t.cells.length * 5 := flatMap_length _ 5 TCell.vals_length _
  have h0 : Row γ (w.drewN n) (p ++ [1]) 62 5 (some ⟨h.bv, 0, none⟩) t.cells.length t.cells.length (t.cells.flatMap TCell.vals) := ⟨H.vars.own, H.vars.tag⟩
  have h1 := h0.set (j := i * 5 + j) (by omega) v
  have T := ((Turn.refl γ w [p ++ [1]]).drewN n).trans (h0.turned (i * 5 + j) v)
  rw [flatMap_set _ 5 TCell.vals_length _ i j v c hi hj hv] at h1
  exact ⟨H.vars_turned T (by simp) h1 (signs_set H.signs hc), T⟩

/-- The literals' row has turned, and the trail tells so. -/
theorem TrailAt.lits_turned (H : TrailAt γ w p h t) {a : Option Addr} {cap : Nat} {l : List Int} (ht : Turn γ γ' w w' [p ++ [2]]) (hr : Row γ' w' (p ++ [2]) 3 1 a l.length cap (ints l)) (w2 : World)
    (hw : w'.setCell ⟨h.b, 1, none⟩ (.slice a l.length cap) = w2) : TrailAt γ' w2 p { h with la := a, lc := cap } { t with l := l } ∧ Turn γ γ' w w2 [p] := by
  subst hw
  have hb := H.head.turn ht (by simp)
  have T2 := hb.turned 1 (.slice a l.length cap)
  refine ⟨⟨?_, (H.vars.turn ht (by simp)).turn T2 (by simp), hr.turn T2 (by simp), (H.starts.turn ht (by simp)).turn T2 (by simp), H.few, H.signs⟩, ht.at.trans T2.at⟩
  have := hb.set 1 (.slice a l.length cap)
  simpa [TrailH.head] using this

theorem TrailAt.starts_turned (H : TrailAt γ w p h t) {a : Option Addr} {cap : Nat} {l : List Int} (ht : Turn γ γ' w w' [p ++ [3]]) (hr : Row γ' w' (p ++ [3]) 3 1 a l.length cap (ints l)) (w2 : World)
    (hw : w'.setCell ⟨h.b, 2, none⟩ (.slice a l.length cap) = w2) : TrailAt γ' w2 p { h with sa := a, sc := cap } { t with starts := l } ∧ Turn γ γ' w w2 [p] := by
  subst hw
  have hb := H.head.turn ht (by simp)
  have T2 := hb.turned 2 (.slice a l.length cap)
  refine ⟨⟨?_, (H.vars.turn ht (by simp)).turn T2 (by simp), (H.lits.turn ht (by simp)).turn T2 (by simp), hr.turn T2 (by simp), H.few, H.signs⟩, ht.at.trans T2.at⟩
  have := hb.set 2 (.slice a l.length cap)
  simpa [TrailH.head] using this

end

end Go.Proofs.Ytlmmiobnbcanmaa
