import Derived.Test.YtlmmiobnbcanmaaTrailT
namespace Go.Proofs.Ytlmmiobnbcanmaa
open Go Go.RowKit

/-- What holds of every trail. -/
structure TWf (s : TrailS) : Prop where
  right : ∀ x ∈ s.steps, rightB x.l s.n = true
  same : ∀ (i j : Nat) (x y : Step), s.steps[i]? = some x → s.steps[j]? = some y → litVar x.l = litVar y.l → i = j
  levels : s.steps.Pairwise fun x y => x.level ≤ y.level
  bounds : ∀ x ∈ s.steps, 0 ≤ x.level ∧ x.level ≤ s.level
  each : ∀ k : Nat, k < s.level → ∃ x ∈ s.steps, x.level = k + 1

theorem Abs.wf {t : TrailM} {s : TrailS} (A : Abs t s) : TWf s := ⟨A.right, fun _ _ _ _ h1 h2 h3 => A.same h1 h2 h3, A.levels, A.bounds, A.each⟩

theorem filter_len {α : Type} (f : α → Bool) (l : List α) : (l.filter fun x => !f x).length + (l.filter f).length = l.length := by
  induction l with
  | nil => rfl
  | cons a l ih => cases h : f a <;> simp [h] <;> omega

section
variable {s : TrailS}

theorem TWf.look_of (W : TWf s) {i : Nat} {x : Step} {l : Int} (hx : s.steps[i]? = some x) (h : litVar x.l = litVar l) : s.look l = some (x, i) := by
  cases hl : s.look l with
  | none => exact absurd h (look_none hl i x hx)
  | some y =>
    obtain ⟨y, j⟩ := y
    obtain ⟨hy, hyl⟩ := look_some hl
    have := W.same _ _ _ _ hx hy (h.trans hyl.symm)
    subst this
    rw [hx] at hy
    cases hy
    rfl

theorem TWf.mono (W : TWf s) {i j : Nat} {x y : Step} (hx : s.steps[i]? = some x) (hy : s.steps[j]? = some y) (h : i ≤ j) : x.level ≤ y.level := by
  obtain ⟨hi, rfl⟩ := List.getElem?_eq_some_iff.1 hx
  obtain ⟨hj, rfl⟩ := List.getElem?_eq_some_iff.1 hy
  rcases Nat.lt_or_eq_of_le h with h | rfl
  · exact List.pairwise_iff_getElem.1 W.levels i j hi hj h
  · exact Int.le_refl _

theorem TWf.nz (W : TWf s) {x : Step} (hx : x ∈ s.steps) : x.l ≠ 0 := by
  have := W.right x hx
  unfold rightB at this
  simp only [decide_eq_true_eq] at this
  exact this.1

theorem TWf.small (W : TWf s) {x : Step} (hx : x ∈ s.steps) : -(s.n : Int) ≤ x.l ∧ x.l ≤ s.n := by
  have := W.right x hx
  unfold rightB at this
  simp only [decide_eq_true_eq] at this
  omega

theorem TWf.at_ (_ : TWf s) {i : Nat} {x : Step} (hx : s.steps[i]? = some x) : s.at' i = x.l := by simp [TrailS.at', hx]
theorem TWf.levelOf_ (W : TWf s) {i : Nat} {x : Step} {l : Int} (hx : s.steps[i]? = some x) (h : litVar x.l = litVar l) : s.levelOf l = x.level := by simp [TrailS.levelOf, W.look_of hx h]
theorem TWf.place_ (W : TWf s) {i : Nat} {x : Step} {l : Int} (hx : s.steps[i]? = some x) (h : litVar x.l = litVar l) : s.place l = i := by simp [TrailS.place, W.look_of hx h]
theorem TWf.value_ (W : TWf s) {i : Nat} {x : Step} (hx : s.steps[i]? = some x) : s.value x.l = 1 := by simp [TrailS.value, W.look_of hx rfl]
theorem TWf.value_neg (W : TWf s) {i : Nat} {x : Step} (hx : s.steps[i]? = some x) : s.value (-x.l) = -1 := by
  have h0 := W.nz (List.mem_of_getElem? hx)
  have : x.l ≠ -x.l := by omega
  simp [TrailS.value, W.look_of hx (litVar_neg x.l).symm, this]

/-- All steps up to a level. -/
theorem TWf.back_steps (W : TWf s) (to : Int) : (s.back to).steps = s.steps.filter fun x => decide (x.level ≤ max to 0) := by
  unfold TrailS.back
  split
  · have e : ((max to 0).toNat : Int) = max to 0 := by omega
    simp only [TrailS.cut, e]
  · rename_i h
    symm
    rw [List.filter_eq_self]
    intro x hx
    have := (W.bounds x hx).2
    simp; omega

theorem back_n (to : Int) : (s.back to).n = s.n := by unfold TrailS.back; split <;> rfl
theorem back_phase (to : Int) : (s.back to).phase = s.phase := by unfold TrailS.back; split <;> rfl
theorem back_level (to : Int) : ((s.back to).level : Int) = min (max to 0) s.level := by
  unfold TrailS.back
  split
  · simp only [TrailS.cut]; omega
  · omega

theorem TWf.gone_eq (W : TWf s) (to : Int) : s.gone to = ((s.steps.filter fun x => !decide (x.level ≤ max to 0)).map (·.l)).reverse := by
  unfold TrailS.gone
  split
  · have e : ((max to 0).toNat : Int) = max to 0 := by omega
    rw [e]
  · rename_i h
    have : (s.steps.filter fun x => !decide (x.level ≤ max to 0)) = [] := by
      rw [List.filter_eq_nil_iff]
      intro x hx
      have := (W.bounds x hx).2
      simp; omega
    rw [this]; rfl

theorem TWf.gone_len (W : TWf s) (to : Int) : (s.gone to).length + (s.back to).steps.length = s.steps.length := by
  rw [W.gone_eq, W.back_steps]
  simp only [List.length_reverse, List.length_map]
  have := filter_len (fun x : Step => decide (x.level ≤ max to 0)) s.steps
  omega

/-- What is taken away is known no more. -/
theorem TWf.gone_value (W : TWf s) (to : Int) {x : Int} (hx : x ∈ s.gone to) : (s.back to).value x = 0 ∧ ∃ y ∈ s.steps, y.l = x := by
  rw [W.gone_eq] at hx
  simp only [List.mem_reverse, List.mem_map, List.mem_filter, Bool.not_eq_true', decide_eq_false_iff_not] at hx
  obtain ⟨y, ⟨hy, hyl⟩, rfl⟩ := hx
  refine ⟨?_, y, hy, rfl⟩
  unfold TrailS.value
  cases hl : (s.back to).look y.l with
  | none => rfl
  | some z =>
    exfalso
    obtain ⟨z, i⟩ := z
    obtain ⟨hz, hzl⟩ := look_some hl
    have hz' := List.mem_of_getElem? hz
    rw [W.back_steps] at hz'
    simp only [List.mem_filter, decide_eq_true_eq] at hz'
    obtain ⟨j, hj⟩ := List.getElem?_of_mem hz'.1
    obtain ⟨k, hk⟩ := List.getElem?_of_mem hy
    have := W.same j k z y hj hk hzl
    subst this
    rw [hj] at hk
    cases hk
    exact hyl hz'.2

theorem gone_level : s.gone s.level = [] := by
  unfold TrailS.gone
  rw [if_neg (by omega)]

/-- A variable that stands has the phase that it has. -/
def PhaseOk (s : TrailS) : Prop := ∀ x ∈ s.steps, s.phase (vix x.l) = decide (0 < x.l)

theorem free_new {l : Int} (h : s.free l = true) : rightB l s.n = true ∧ ∀ x ∈ s.steps, litVar x.l ≠ litVar l := by
  simp only [TrailS.free, Bool.and_eq_true, Option.isNone_iff_eq_none] at h
  refine ⟨h.1, fun x hx => ?_⟩
  obtain ⟨i, hi⟩ := List.getElem?_of_mem hx
  exact look_none h.2 i x hi

theorem PhaseOk.push (W : TWf s) (h : PhaseOk s) {l r : Int} (hf : s.free l = true) (lv : Nat) : PhaseOk ({ s with level := lv }.push l r) := by
  obtain ⟨hr, hn⟩ := free_new hf
  intro x hx
  simp only [TrailS.push, List.mem_append, List.mem_singleton] at hx ⊢
  rcases hx with hx | rfl
  · have : vix x.l ≠ vix l := fun e => hn x hx (vix_inj (W.right x hx) hr e)
    simp only [this, if_false]
    exact h x hx
  · simp

theorem PhaseOk.put (W : TWf s) (h : PhaseOk s) (l r : Int) : PhaseOk (s.put l r) := by
  unfold TrailS.put
  split
  · rename_i hf; exact h.push W hf s.level
  · exact h
theorem PhaseOk.decides (W : TWf s) (h : PhaseOk s) (l : Int) : PhaseOk (s.decide' l) := by
  unfold TrailS.decide'
  split
  · rename_i hf; exact h.push W hf (s.level + 1)
  · exact h
theorem PhaseOk.new (n : Nat) : PhaseOk (TrailS.new n) := fun x hx => by simp [TrailS.new] at hx

theorem put_n (l r : Int) : (s.put l r).n = s.n := by unfold TrailS.put; split <;> rfl
theorem decide_n (l : Int) : (s.decide' l).n = s.n := by unfold TrailS.decide'; split <;> rfl

end

/-- What the law keeps: what stands up to a level, among the first ones. -/
def keptTo (s : TrailS) (to : Int) (k : Nat) : List Int := ((s.steps.take k).filter fun x => decide (x.level ≤ max to 0)).map (·.l)

theorem keptTo_succ {s : TrailS} (to : Int) {k : Nat} {x : Step} (hx : s.steps[k]? = some x) : keptTo s to (k + 1) = keptTo s to k ++ if x.level ≤ max to 0 then [x.l] else [] := by
  obtain ⟨hk, rfl⟩ := List.getElem?_eq_some_iff.1 hx
  unfold keptTo
  rw [List.take_succ_eq_append_getElem hk, List.filter_append, List.map_append]
  congr 1
  by_cases h : (s.steps[k]).level ≤ max to 0 <;> simp [h]

theorem keptTo_all {s : TrailS} (W : TWf s) (to : Int) : keptTo s to s.steps.length = (s.back to).steps.map (·.l) := by
  rw [W.back_steps]; simp [keptTo]

theorem keptTo_len {s : TrailS} (to : Int) (k : Nat) : (keptTo s to k).length ≤ k := by
  unfold keptTo
  rw [List.length_map]
  exact Nat.le_trans (List.length_filter_le _ _) (List.length_take_le _ _)

end Go.Proofs.Ytlmmiobnbcanmaa
