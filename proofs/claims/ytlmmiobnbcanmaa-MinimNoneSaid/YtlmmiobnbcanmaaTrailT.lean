import Derived.Test.YtlmmiobnbcanmaaTrailS
namespace Go.Proofs.Ytlmmiobnbcanmaa
open Go Go.RowKit

/-- What stands on the trail: a literal, its level, its reason. -/
structure Step where
  l : Int
  level : Int
  reason : Int

/-- The trail, by the document. -/
structure TrailS where
  n : Nat
  steps : List Step
  level : Nat
  phase : Nat → Bool

def sgn (l : Int) : Int := if l < 0 then -1 else 1
/-- A literal's variable's place among the cells. -/
def vix (l : Int) : Nat := (litVar l - 1).toNat

structure Abs (t : TrailM) (s : TrailS) : Prop where
  n : t.cells.length = s.n
  l : t.l = s.steps.map (·.l)
  lv : t.starts.length = s.level
  starts : ∀ k (h : k < t.starts.length), t.starts[k] = ((s.steps.filter fun x => decide (x.level ≤ (k : Int))).length : Int)
  right : ∀ x ∈ s.steps, rightB x.l s.n = true
  on : ∀ (i : Nat) (x : Step), s.steps[i]? = some x → t.cells[vix x.l]? = some ⟨sgn x.l, x.level, x.reason, i, s.phase (vix x.l)⟩
  off : ∀ (j : Nat) (c : TCell), t.cells[j]? = some c → c.value ≠ 0 → ∃ (i : Nat) (x : Step), s.steps[i]? = some x ∧ litVar x.l = j + 1
  phase : ∀ (j : Nat) (c : TCell), t.cells[j]? = some c → c.phase = s.phase j
  levels : s.steps.Pairwise fun x y => x.level ≤ y.level
  bounds : ∀ x ∈ s.steps, 0 ≤ x.level ∧ x.level ≤ s.level
  each : ∀ k : Nat, k < s.level → ∃ x ∈ s.steps, x.level = k + 1

theorem vix_of {l : Int} {i : Nat} (h : litVar l = i + 1) : vix l = i := by unfold vix; omega
theorem litVar_neg (l : Int) : litVar (-l) = litVar l := by unfold litVar; split <;> split <;> omega
theorem litVar_idem (l : Int) : litVar (litVar l) = litVar l := by unfold litVar; by_cases h : l < 0 <;> simp [h] <;> omega
theorem litVar_eq {l m : Int} (h : litVar l = litVar m) : l = m ∨ l = -m := by unfold litVar at h; split at h <;> split at h <;> omega
theorem litVar_pos {l : Int} {n : Nat} (h : rightB l n = true) : litVar l = vix l + 1 ∧ vix l < n := by
  obtain ⟨i, hi, hn⟩ := idx_of h
  rw [vix_of hi]; exact ⟨hi, hn⟩
theorem vix_inj {l m : Int} {n k : Nat} (h : rightB l n = true) (h2 : rightB m k = true) (e : vix l = vix m) : litVar l = litVar m := by
  have := (litVar_pos h).1; have := (litVar_pos h2).1; omega

namespace TrailS

/-- Where a literal's variable stands. -/
def look (s : TrailS) (l : Int) : Option (Step × Nat) := s.steps.zipIdx.find? fun x => litVar x.1.l == litVar l
def free (s : TrailS) (l : Int) : Bool := rightB l s.n && (s.look l).isNone
def place (s : TrailS) (l : Int) : Int := match s.look l with | some (_, i) => i | none => -1
def levelOf (s : TrailS) (l : Int) : Int := match s.look l with | some (x, _) => x.level | none => -1
def reason (s : TrailS) (l : Int) : Int := match s.look l with | some (x, _) => x.reason | none => -1
def value (s : TrailS) (l : Int) : Int := match s.look l with | some (x, _) => if x.l = l then 1 else -1 | none => 0
def push (s : TrailS) (l r : Int) : TrailS := { s with steps := s.steps ++ [⟨l, s.level, r⟩], phase := fun k => if k = vix l then decide (0 < l) else s.phase k }
def put (s : TrailS) (l r : Int) : TrailS := if s.free l then s.push l r else s
def decide' (s : TrailS) (l : Int) : TrailS := if s.free l then { s with level := s.level + 1 }.push l (-1) else s
def cut (s : TrailS) (lv : Nat) : TrailS := { s with steps := s.steps.filter fun x => decide (x.level ≤ (lv : Int)), level := lv }
/-- Back to a level. -/
def back (s : TrailS) (level : Int) : TrailS := if max level 0 < s.level then s.cut (max level 0).toNat else s
/-- What is taken away then. -/
def gone (s : TrailS) (level : Int) : List Int := if max level 0 < s.level then ((s.steps.filter fun x => !decide (x.level ≤ ((max level 0).toNat : Int))).map (·.l)).reverse else []
def setPhase (s : TrailS) (v : Int) (is : Bool) : TrailS := if rightB v s.n && decide (0 ≤ v) then { s with phase := fun k => if k = vix v then is else s.phase k } else s
def new (n : Nat) : TrailS := ⟨n, [], 0, fun _ => false⟩
def at' (s : TrailS) (i : Int) : Int := if 0 ≤ i then ((s.steps[i.toNat]?).map (·.l)).getD 0 else 0
def phaseOf (s : TrailS) (v : Int) : Bool := rightB v s.n && decide (0 < v) && s.phase (vix v)

end TrailS

section
variable {t : TrailM} {s : TrailS}

theorem look_some {x : Step} {i : Nat} {l : Int} (h : s.look l = some (x, i)) : s.steps[i]? = some x ∧ litVar x.l = litVar l := by
  have h1 := List.find?_some h
  have h2 := List.mem_of_find?_eq_some h
  rw [List.mem_zipIdx_iff_getElem?] at h2
  exact ⟨h2, by simpa using h1⟩

theorem look_none {l : Int} (h : s.look l = none) : ∀ (i : Nat) (x : Step), s.steps[i]? = some x → litVar x.l ≠ litVar l := by
  intro i x hx
  have := List.find?_eq_none.1 h (x, i) (by rw [List.mem_zipIdx_iff_getElem?]; exact hx)
  simpa using this

theorem Abs.same (A : Abs t s) {i j : Nat} {x y : Step} (hx : s.steps[i]? = some x) (hy : s.steps[j]? = some y) (h : litVar x.l = litVar y.l) : i = j := by
  have h1 := A.on i x hx
  have h2 := A.on j y hy
  have e : vix x.l = vix y.l := by unfold vix; rw [h]
  rw [e] at h1
  rw [h1] at h2
  simp only [Option.some.injEq, TCell.mk.injEq] at h2
  omega

theorem Abs.look_of (A : Abs t s) {i : Nat} {x : Step} {l : Int} (hx : s.steps[i]? = some x) (h : litVar x.l = litVar l) : s.look l = some (x, i) := by
  cases hl : s.look l with
  | none => exact absurd h (look_none hl i x hx)
  | some y =>
    obtain ⟨y, j⟩ := y
    obtain ⟨hy, hyl⟩ := look_some hl
    have := A.same hx hy (h.trans hyl.symm)
    subst this
    rw [hx] at hy
    cases hy
    rfl

theorem rightB_of_litVar {l m : Int} {n : Nat} (h : litVar l = litVar m) (hr : rightB l n = true) : rightB m n = true := by
  have := litVar_eq h
  unfold rightB at *
  simp only [decide_eq_true_eq] at *
  omega

theorem Abs.on_eq (A : Abs t s) (l : Int) : t.on l = (s.look l).map fun x => ⟨sgn x.1.l, x.1.level, x.1.reason, x.2, s.phase (vix l)⟩ := by
  rcases t.on_none_or l with ho | ⟨i, c, ho, hr, hi, hc, hv⟩
  · rw [ho]
    cases hl : s.look l with
    | none => rfl
    | some y =>
      exfalso
      obtain ⟨x, i⟩ := y
      obtain ⟨hx, hxl⟩ := look_some hl
      have hc := A.on i x hx
      have hr := rightB_of_litVar hxl (A.right x (List.mem_of_getElem? hx))
      have e : vix x.l = vix l := by unfold vix; rw [hxl]
      rw [e] at hc
      have hg : t.get l = some _ := TrailM.get_of (by rw [A.n]; exact hr) (litVar_pos hr).1 hc
      rw [TrailM.on, hg] at ho
      simp [Option.filter, sgn] at ho
      split at ho <;> simp at ho
  · rw [ho]
    obtain ⟨k, x, hx, hxl⟩ := A.off i c hc (by simpa using hv)
    have hl := A.look_of (l := l) hx (by rw [hxl, hi])
    rw [hl]
    have h1 := A.on k x hx
    have e : vix x.l = vix l := by unfold vix; rw [hxl, hi]
    rw [e, vix_of hi, hc] at h1
    simp only [Option.map_some, vix_of hi]
    exact h1

theorem Abs.place_eq (A : Abs t s) (l : Int) : t.place l = s.place l := by
  unfold TrailM.place TrailS.place; rw [A.on_eq]; cases s.look l <;> rfl
theorem Abs.levelOf_eq (A : Abs t s) (l : Int) : t.levelOf l = s.levelOf l := by
  unfold TrailM.levelOf TrailS.levelOf; rw [A.on_eq]; cases s.look l <;> rfl
theorem Abs.reason_eq (A : Abs t s) (l : Int) : t.reason l = s.reason l := by
  unfold TrailM.reason TrailS.reason; rw [A.on_eq]; cases s.look l <;> rfl
theorem Abs.value_eq (A : Abs t s) (l : Int) : t.value l = s.value l := by
  unfold TrailM.value TrailS.value
  rw [A.on_eq]
  cases hl : s.look l with
  | none => rfl
  | some y =>
    obtain ⟨x, i⟩ := y
    obtain ⟨hx, hxl⟩ := look_some hl
    have hr := A.right x (List.mem_of_getElem? hx)
    have h0 : x.l ≠ 0 := by unfold rightB at hr; simp only [decide_eq_true_eq] at hr; exact hr.1
    simp only [Option.map_some, sgn]
    rcases litVar_eq hxl with h | h
    · subst h; simp; split <;> rfl
    · have : x.l ≠ l := by omega
      simp only [this, if_false]
      split <;> split <;> omega

theorem Abs.at_eq (A : Abs t s) (i : Int) : t.at i = s.at' i := by
  unfold TrailM.at TrailS.at'
  rw [A.l, List.getD_eq_getElem?_getD, List.getElem?_map]

theorem Abs.len_eq (A : Abs t s) : t.l.length = s.steps.length := by rw [A.l]; simp

theorem Abs.get_eq (A : Abs t s) (l : Int) (c : TCell) (h : t.get l = some c) : rightB l s.n = true ∧ t.cells[vix l]? = some c ∧ c.phase = s.phase (vix l) := by
  obtain ⟨hr, i, hi, hc⟩ := TrailM.get_some h
  rw [A.n] at hr
  rw [vix_of hi]
  exact ⟨hr, hc, A.phase i c hc⟩

theorem Abs.phase_eq (A : Abs t s) (v : Int) : t.phase v = s.phaseOf v := by
  unfold TrailM.phase TrailS.phaseOf
  cases hg : t.get v with
  | none =>
    have := TrailM.get_none hg
    rw [A.n] at this
    simp [this]
  | some c =>
    obtain ⟨hr, _, hp⟩ := A.get_eq v c hg
    simp [hr, hp]

theorem Abs.free_eq (A : Abs t s) (l : Int) : t.free l = s.free l := by
  unfold TrailM.free TrailS.free
  cases hg : t.get l with
  | none =>
    have := TrailM.get_none hg
    rw [A.n] at this
    simp [this]
  | some c =>
    obtain ⟨hr, hc, _⟩ := A.get_eq l c hg
    have h1 := A.on_eq l
    rw [TrailM.on, hg] at h1
    simp only [hr, Bool.true_and]
    cases hl : s.look l with
    | none => rw [hl] at h1; simpa [Option.filter] using h1
    | some y => rw [hl] at h1; simp only [Option.filter, Option.map_some] at h1; split at h1 <;> simp_all

theorem Abs.new (n : Nat) : Abs (TrailM.new n) (TrailS.new n) where
  n := by simp [TrailM.new, TrailS.new]
  l := rfl
  lv := rfl
  starts := fun k h => by simp [TrailM.new] at h
  right := fun x hx => by simp [TrailS.new] at hx
  on := fun i x hx => by simp [TrailS.new] at hx
  off := fun j c hc hv => by
    have := List.mem_of_getElem? hc
    have := List.eq_of_mem_replicate this
    subst this
    exact absurd rfl hv
  phase := fun j c hc => by
    have := List.mem_of_getElem? hc
    have := List.eq_of_mem_replicate this
    subst this
    rfl
  levels := List.Pairwise.nil
  bounds := fun x hx => by simp [TrailS.new] at hx
  each := fun k hk => by simp [TrailS.new] at hk

/-- A literal more, at a level that is there already, or is the next one. -/
theorem Abs.push (A : Abs t s) {l r : Int} (hf : t.free l = true) (st : List Int) (lv : Nat) (hl : st.length = lv) (hlv : s.level ≤ lv) (hst : ∀ k (h : k < st.length), st[k] = ((s.steps.filter fun x => decide (x.level ≤ (k : Int))).length : Int))
    (heach : ∀ k : Nat, k < lv → (∃ x ∈ s.steps, x.level = k + 1) ∨ k + 1 = lv) :
    Abs ({ t with starts := st }.put l r (vix l)) ({ s with level := lv }.push l r) := by
  have hf' := hf
  rw [A.free_eq] at hf
  simp only [TrailS.free, Bool.and_eq_true, Option.isNone_iff_eq_none] at hf
  obtain ⟨hr, hn⟩ := hf
  obtain ⟨hv, hvn⟩ := litVar_pos hr
  have hvc : vix l < t.cells.length := by rw [A.n]; exact hvn
  have hother : ∀ (i : Nat) (x : Step), s.steps[i]? = some x → vix x.l ≠ vix l := fun i x hx e =>
    look_none hn i x hx (vix_inj (A.right x (List.mem_of_getElem? hx)) hr e)
  refine ⟨by simp [TrailM.put, TrailS.push, A.n], by simp [TrailM.put, TrailS.push, A.l], hl, ?_, ?_, ?_, ?_, ?_, ?_, ?_, ?_⟩
  · intro k hk
    have hk' : k < st.length := hk
    show st[k] = _
    rw [hst k hk']
    simp only [TrailS.push, List.filter_append, List.length_append]
    have : ¬ ((lv : Int) ≤ k) := by omega
    simp [this]
  · intro x hx
    simp only [TrailS.push, List.mem_append, List.mem_singleton] at hx
    rcases hx with hx | rfl
    · exact A.right x hx
    · exact hr
  · intro i x hx
    simp only [TrailS.push] at hx
    rw [List.getElem?_append] at hx
    split at hx
    · have hne := hother i x hx
      simp only [TrailM.put, TrailS.push]
      rw [List.getElem?_set_ne (Ne.symm hne), A.on i x hx]
      simp [hne]
    · rename_i hi
      have hx0 : i - s.steps.length = 0 := by
        rcases Nat.eq_zero_or_pos (i - s.steps.length) with h | h
        · exact h
        · rw [List.getElem?_eq_none (by simp; omega)] at hx; cases hx
      rw [hx0] at hx
      simp at hx
      subst hx
      simp only [TrailM.put, TrailS.push]
      rw [List.getElem?_set_self hvc]
      have : i = s.steps.length := by omega
      simp [sgn, hl, this, A.len_eq]
  · intro j c hc hv0
    simp only [TrailM.put] at hc
    by_cases hj : j = vix l
    · exact ⟨s.steps.length, ⟨l, lv, r⟩, by simp [TrailS.push], by rw [hj]; exact hv⟩
    · rw [List.getElem?_set_ne (Ne.symm hj)] at hc
      obtain ⟨i, x, hx, hxl⟩ := A.off j c hc hv0
      refine ⟨i, x, ?_, hxl⟩
      simp only [TrailS.push]
      rw [List.getElem?_append_left (List.getElem?_eq_some_iff.1 hx).1]
      exact hx
  · intro j c hc
    simp only [TrailM.put] at hc
    simp only [TrailS.push]
    by_cases hj : j = vix l
    · subst hj
      rw [List.getElem?_set_self hvc] at hc
      cases hc
      simp
    · rw [List.getElem?_set_ne (Ne.symm hj)] at hc
      simp [hj, A.phase j c hc]
  · simp only [TrailS.push]
    rw [List.pairwise_append]
    refine ⟨A.levels, by simp, fun x hx y hy => ?_⟩
    simp only [List.mem_singleton] at hy
    subst hy
    have := (A.bounds x hx).2
    show x.level ≤ (lv : Int)
    omega
  · intro x hx
    simp only [TrailS.push, List.mem_append, List.mem_singleton] at hx ⊢
    rcases hx with hx | rfl
    · have := A.bounds x hx; exact ⟨this.1, by omega⟩
    · exact ⟨by simp, by simp⟩
  · intro k hk
    simp only [TrailS.push, List.mem_append, List.mem_singleton] at hk ⊢
    rcases heach k hk with ⟨x, hx, e⟩ | e
    · exact ⟨x, .inl hx, e⟩
    · exact ⟨_, .inr rfl, by show (lv : Int) = k + 1; omega⟩

theorem Abs.put (A : Abs t s) (l r : Int) : Abs (t.doPut l r) (s.put l r) := by
  unfold TrailM.doPut TrailS.put
  rw [← A.free_eq]
  split
  · rename_i hf
    exact A.push hf t.starts s.level A.lv (Nat.le_refl _) A.starts (fun k hk => .inl (A.each k hk))
  · exact A

theorem filter_all_le (A : Abs t s) {k : Nat} (hk : s.level ≤ k) : (s.steps.filter fun x => decide (x.level ≤ (k : Int))) = s.steps := by
  rw [List.filter_eq_self]
  intro x hx
  have := (A.bounds x hx).2
  simp; omega

theorem Abs.decides (A : Abs t s) (l : Int) : Abs (t.doDecide l) (s.decide' l) := by
  unfold TrailM.doDecide TrailS.decide'
  rw [← A.free_eq]
  split
  · rename_i hf
    refine A.push (r := -1) hf (t.starts ++ [(t.l.length : Int)]) (s.level + 1) (by simp [A.lv]) (by omega) (fun k hk => ?_) (fun k hk => ?_)
    · rw [List.getElem_append]
      split
      · rename_i h; exact A.starts k h
      · rename_i h
        have hk2 : k = s.level := by simp [A.lv] at hk h; omega
        rw [filter_all_le A (by omega)]
        simp [A.len_eq]
    · by_cases h : k < s.level
      · exact .inl (A.each k h)
      · right; omega
  · exact A

theorem filter_take {α : Type} (f : α → Int) (k : Int) : ∀ l : List α, (l.Pairwise fun x y => f x ≤ f y) → l.filter (fun x => decide (f x ≤ k)) = l.take (l.filter fun x => decide (f x ≤ k)).length ∧ l.filter (fun x => !decide (f x ≤ k)) = l.drop (l.filter fun x => decide (f x ≤ k)).length
  | [], _ => by simp
  | a :: l, h => by
    rw [List.pairwise_cons] at h
    by_cases ha : f a ≤ k
    · have := filter_take f k l h.2
      simp only [List.filter_cons, ha, decide_true, if_true, List.length_cons, List.take_succ_cons, List.drop_succ_cons, Bool.not_true, Bool.false_eq_true, if_false]
      exact ⟨by rw [← this.1], this.2⟩
    · have h0 : l.filter (fun x => decide (f x ≤ k)) = [] := by
        rw [List.filter_eq_nil_iff]
        intro x hx
        have := h.1 x hx
        simp; omega
      have h1 : l.filter (fun x => !decide (f x ≤ k)) = l := by
        rw [List.filter_eq_self]
        intro x hx
        have := h.1 x hx
        simp; omega
      simp [ha, h0, h1]

theorem unset_get (cells : List TCell) (x : Int) (j : Nat) : (unset cells x)[j]? = cells[j]?.map fun c => if vix x = j then { c with value := 0 } else c := by
  unfold unset
  rw [List.getElem?_modify]
  show _ <$> _ = _
  cases cells[j]? with
  | none => rfl
  | some c => simp [vix]

theorem unsets_get (l : List Int) : ∀ (cells : List TCell) (j : Nat), (l.foldl unset cells)[j]? = cells[j]?.map fun c => if ∃ x ∈ l, vix x = j then { c with value := 0 } else c := by
  induction l with
  | nil => intro cells j; simp
  | cons x l ih =>
    intro cells j
    rw [List.foldl_cons, ih, unset_get]
    cases cells[j]? with
    | none => rfl
    | some c =>
      simp only [Option.map_some, Option.some.injEq]
      by_cases h1 : vix x = j
      · simp only [h1, if_true]
        have hp : ∃ y ∈ x :: l, vix y = j := ⟨x, List.mem_cons_self, h1⟩
        rw [if_pos hp]
        split <;> rfl
      · simp only [h1, if_false]
        by_cases h2 : ∃ y ∈ l, vix y = j
        · obtain ⟨y, hy, e⟩ := h2
          rw [if_pos ⟨y, hy, e⟩, if_pos ⟨y, List.mem_cons_of_mem _ hy, e⟩]
        · rw [if_neg h2, if_neg]
          rintro ⟨y, hy, e⟩
          rcases List.mem_cons.1 hy with rfl | hy
          · exact h1 e
          · exact h2 ⟨y, hy, e⟩

theorem Abs.start_eq (A : Abs t s) {lv : Nat} (h : lv < s.level) : t.start lv = (s.steps.filter fun x => decide (x.level ≤ (lv : Int))).length ∧ t.start lv ≤ t.l.length ∧ t.starts[lv]'(by rw [A.lv]; exact h) = (t.start lv : Int) := by
  have hlt : lv < t.starts.length := by rw [A.lv]; exact h
  have e := A.starts lv hlt
  have e1 : t.start lv = (s.steps.filter fun x => decide (x.level ≤ (lv : Int))).length := by
    simp [TrailM.start, hlt, e]
  exact ⟨e1, by rw [e1, A.len_eq]; exact List.length_filter_le _ _, by rw [e, e1]⟩

theorem Abs.removed (A : Abs t s) {lv : Nat} (h : lv < s.level) : t.l.take (t.start lv) = (s.cut lv).steps.map (·.l) ∧ t.l.drop (t.start lv) = (s.steps.filter fun x => !decide (x.level ≤ (lv : Int))).map (·.l) ∧
    t.l.reverse.take (t.l.length - t.start lv) = ((s.steps.filter fun x => !decide (x.level ≤ (lv : Int))).map (·.l)).reverse := by
  have hf := filter_take (fun x : Step => x.level) lv s.steps A.levels
  have e1 := (A.start_eq h).1
  have h1 : t.l.take (t.start lv) = (s.cut lv).steps.map (·.l) := by
    rw [A.l, ← List.map_take, e1, ← hf.1]; rfl
  have h2 : t.l.drop (t.start lv) = (s.steps.filter fun x => !decide (x.level ≤ (lv : Int))).map (·.l) := by
    rw [A.l, ← List.map_drop, e1, ← hf.2]
  refine ⟨h1, h2, ?_⟩
  rw [← h2, List.reverse_drop]

theorem Abs.cut (A : Abs t s) {lv : Nat} (h : lv < s.level) : Abs (t.cut lv) (s.cut lv) := by
  obtain ⟨r1, _, r3⟩ := A.removed h
  have hf := filter_take (fun x : Step => x.level) lv s.steps A.levels
  have hmem : ∀ x : Int, x ∈ ((s.steps.filter fun x => !decide (x.level ≤ (lv : Int))).map (·.l)).reverse ↔ ∃ y ∈ s.steps, ¬ y.level ≤ lv ∧ y.l = x := by
    intro x; simp [and_assoc]
  have hcell : ∀ j, (t.cut lv).cells[j]? = t.cells[j]?.map fun c => if ∃ y ∈ s.steps, ¬ y.level ≤ lv ∧ vix y.l = j then { c with value := 0 } else c := by
    intro j
    simp only [TrailM.cut]
    rw [r3, unsets_get]
    congr 1
    funext c
    have : (∃ x ∈ ((s.steps.filter fun x => !decide (x.level ≤ (lv : Int))).map (·.l)).reverse, vix x = j) ↔ ∃ y ∈ s.steps, ¬ y.level ≤ lv ∧ vix y.l = j := by
      constructor
      · rintro ⟨x, hx, e⟩
        obtain ⟨y, hy, h1, rfl⟩ := (hmem x).1 hx
        exact ⟨y, hy, h1, e⟩
      · rintro ⟨y, hy, h1, e⟩
        exact ⟨y.l, (hmem _).2 ⟨y, hy, h1, rfl⟩, e⟩
    simp only [this]
  have hstep : ∀ (i : Nat) (x : Step), (s.cut lv).steps[i]? = some x → s.steps[i]? = some x ∧ x.level ≤ lv := by
    intro i x hx
    have h1 : x ∈ (s.cut lv).steps := List.mem_of_getElem? hx
    simp only [TrailS.cut, List.mem_filter, decide_eq_true_eq] at h1
    refine ⟨?_, h1.2⟩
    have h2 : (s.cut lv).steps = s.steps.take (s.steps.filter fun x => decide (x.level ≤ (lv : Int))).length := hf.1
    rw [h2, List.getElem?_take] at hx
    split at hx
    · exact hx
    · cases hx
  refine ⟨?_, r1, ?_, ?_, ?_, ?_, ?_, ?_, ?_, ?_, ?_⟩
  · simp only [TrailM.cut, TrailS.cut]
    have : ∀ (l : List Int) (cells : List TCell), (l.foldl unset cells).length = cells.length := by
      intro l
      induction l with
      | nil => intro cells; rfl
      | cons x l ih => intro cells; rw [List.foldl_cons, ih]; simp [unset]
    rw [this, A.n]
  · simp only [TrailM.cut, TrailS.cut, List.length_take, A.lv]; omega
  · intro k hk
    simp only [TrailM.cut, List.length_take] at hk ⊢
    rw [List.getElem_take, A.starts k (by omega)]
    simp only [TrailS.cut, List.filter_filter]
    congr 2
    apply List.filter_congr
    intro x _
    have hk2 : (k : Int) ≤ lv := by omega
    by_cases hx : x.level ≤ (k : Int)
    · simp [hx]; omega
    · simp [hx]
  · intro x hx
    simp only [TrailS.cut, List.mem_filter] at hx
    exact A.right x hx.1
  · intro i x hx
    obtain ⟨h1, h2⟩ := hstep i x hx
    rw [hcell, A.on i x h1]
    simp only [Option.map_some, Option.some.injEq]
    rw [if_neg]
    · rfl
    · rintro ⟨y, hy, h3, e⟩
      obtain ⟨j, hj⟩ := List.getElem?_of_mem hy
      have hxy := vix_inj (A.right y hy) (A.right x (List.mem_of_getElem? h1)) e
      have := A.same hj h1 hxy
      subst this
      rw [hj] at h1
      cases h1
      exact h3 h2
  · intro j c hc hv
    rw [hcell] at hc
    obtain ⟨c0, hc0, rfl⟩ := Option.map_eq_some_iff.1 hc
    by_cases hr : ∃ y ∈ s.steps, ¬ y.level ≤ lv ∧ vix y.l = j
    · rw [if_pos hr] at hv; exact absurd rfl hv
    · rw [if_neg hr] at hv
      obtain ⟨i, x, hx, hxl⟩ := A.off j c0 hc0 hv
      have hlx : x.level ≤ lv := by
        apply Classical.byContradiction
        intro h1
        exact hr ⟨x, List.mem_of_getElem? hx, h1, vix_of hxl⟩
      have hxm : x ∈ (s.cut lv).steps := by
        simp only [TrailS.cut, List.mem_filter, decide_eq_true_eq]; exact ⟨List.mem_of_getElem? hx, hlx⟩
      obtain ⟨k, hk⟩ := List.getElem?_of_mem hxm
      exact ⟨k, x, hk, hxl⟩
  · intro j c hc
    rw [hcell] at hc
    obtain ⟨c0, hc0, rfl⟩ := Option.map_eq_some_iff.1 hc
    have := A.phase j c0 hc0
    split <;> exact this
  · exact A.levels.filter _
  · intro x hx
    simp only [TrailS.cut, List.mem_filter, decide_eq_true_eq] at hx
    exact ⟨(A.bounds x hx.1).1, hx.2⟩
  · intro k hk
    obtain ⟨x, hx, e⟩ := A.each k (Nat.lt_trans hk h)
    refine ⟨x, ?_, e⟩
    have hk2 : k < lv := hk
    simp only [TrailS.cut, List.mem_filter, decide_eq_true_eq]
    exact ⟨hx, by omega⟩

theorem Abs.setPhase (A : Abs t s) (v : Int) (is : Bool) : Abs (t.setPhase v is) (s.setPhase v is) := by
  unfold TrailM.setPhase TrailS.setPhase
  cases hg : t.get v with
  | none =>
    have := TrailM.get_none hg
    rw [A.n] at this
    simp only [this, Bool.false_and, Bool.false_eq_true, if_false]
    exact A
  | some c =>
    obtain ⟨hr, hc, hp⟩ := A.get_eq v c hg
    simp only [hr, Bool.true_and, decide_eq_true_eq]
    split
    · have hvc : vix v < t.cells.length := (List.getElem?_eq_some_iff.1 hc).1
      have hset : ∀ j, (t.cells.set (litVar v - 1).toNat { c with phase := is })[j]? = if vix v = j then some { c with phase := is } else t.cells[j]? := by
        intro j
        show (t.cells.set (vix v) _)[j]? = _
        rw [List.getElem?_set]
        split
        · rename_i e; subst e; simp
        · rfl
      refine ⟨by simp [A.n], A.l, A.lv, A.starts, A.right, ?_, ?_, ?_, A.levels, A.bounds, A.each⟩
      · intro i x hx
        rw [hset]
        have h1 := A.on i x hx
        by_cases e : vix v = vix x.l
        · rw [if_pos e]
          rw [← e, hc] at h1
          simp only [Option.some.injEq] at h1
          simp only [e.symm, if_true]
          rw [h1]
        · rw [if_neg e, h1]
          simp [Ne.symm e]
      · intro j c' hc' hv'
        rw [hset] at hc'
        split at hc'
        · rename_i e
          subst e
          cases hc'
          exact A.off _ c hc hv'
        · exact A.off j c' hc' hv'
      · intro j c' hc'
        rw [hset] at hc'
        split at hc'
        · rename_i e
          subst e
          cases hc'
          simp
        · rename_i e
          simp only [Ne.symm e, if_false]
          exact A.phase j c' hc'
    · exact A

theorem Abs.mayPhase_eq (A : Abs t s) (v : Int) : t.mayPhase v = (rightB v s.n && decide (0 ≤ v)) := by simp [TrailM.mayPhase, A.n]

/-- No more numbers than there are below a bound. -/
theorem pigeon : ∀ (n : Nat) (l : List Nat), l.Nodup → (∀ x ∈ l, x < n) → l.length ≤ n := by
  intro n
  induction n with
  | zero => intro l _ h; cases l with | nil => simp | cons a l => exact absurd (h a (by simp)) (by omega)
  | succ n ih =>
    intro l hn h
    have h1 := ih (l.erase n) (hn.erase n) (fun x hx => by
      have := h x (List.mem_of_mem_erase hx)
      have hne : x ≠ n := by rintro rfl; exact (hn.not_mem_erase) hx
      omega)
    by_cases hm : n ∈ l
    · have := List.length_erase_of_mem hm; have := List.length_pos_of_mem hm; omega
    · rw [List.erase_of_not_mem hm] at h1; omega

theorem Abs.nodup (A : Abs t s) : (s.steps.map fun x => vix x.l).Nodup := by
  rw [List.nodup_iff_pairwise_ne, List.pairwise_iff_getElem]
  intro i j hi hj hij
  simp only [List.length_map] at hi hj
  simp only [List.getElem_map]
  intro e
  have h1 := vix_inj (A.right _ (List.getElem_mem hi)) (A.right _ (List.getElem_mem hj)) e
  have := A.same (List.getElem?_eq_getElem hi) (List.getElem?_eq_getElem hj) h1
  omega

theorem Abs.len_le (A : Abs t s) : s.steps.length ≤ s.n := by
  have := pigeon s.n (s.steps.map fun x => vix x.l) A.nodup (fun v hv => by
    obtain ⟨x, hx, rfl⟩ := List.mem_map.1 hv
    exact (litVar_pos (A.right x hx)).2)
  simpa using this

theorem Abs.level_le (A : Abs t s) : s.level ≤ s.steps.length := by
  have hex : ∀ k : Nat, ∃ i : Nat, k < s.level → ∃ x, s.steps[i]? = some x ∧ x.level = k + 1 := by
    intro k
    by_cases hk : k < s.level
    · obtain ⟨x, hx, e⟩ := A.each k hk
      obtain ⟨i, hi⟩ := List.getElem?_of_mem hx
      exact ⟨i, fun _ => ⟨x, hi, e⟩⟩
    · exact ⟨0, fun h => absurd h hk⟩
  obtain ⟨f, hf⟩ := Classical.axiomOfChoice hex
  have := pigeon s.steps.length ((List.range s.level).map f) (by
    rw [List.nodup_iff_pairwise_ne, List.pairwise_iff_getElem]
    intro i j hi hj hij
    simp only [List.length_map, List.length_range] at hi hj
    simp only [List.getElem_map, List.getElem_range]
    intro e
    obtain ⟨x, hx, hxe⟩ := hf i hi
    obtain ⟨y, hy, hye⟩ := hf j hj
    rw [e, hy] at hx
    cases hx
    omega) (fun v hv => by
    obtain ⟨k, hk, rfl⟩ := List.mem_map.1 hv
    obtain ⟨x, hx, _⟩ := hf k (List.mem_range.1 hk)
    exact (List.getElem?_eq_some_iff.1 hx).1)
  simpa using this

/-- Values, or phases. -/
def TrailS.assignment (s : TrailS) : List Bool := (List.range s.n).map fun (k : Nat) => match s.look ((k : Int) + 1) with | some (x, _) => decide (0 < x.l) | none => s.phase k

theorem Abs.assignment_eq (A : Abs t s) : t.assignment = s.assignment := by
  apply List.ext_getElem
  · simp [TrailM.assignment, TrailS.assignment, A.n]
  · intro k h1 h2
    simp only [TrailM.assignment, TrailS.assignment, List.getElem_map, List.getElem_range]
    simp only [TrailM.assignment, List.length_map] at h1
    have hc := List.getElem?_eq_getElem h1
    have hr : rightB ((k : Int) + 1) s.n = true := by
      have := A.n
      simp [rightB]; omega
    have hv : litVar ((k : Int) + 1) = k + 1 := by unfold litVar; split <;> omega
    have hg : t.get ((k : Int) + 1) = some t.cells[k] := TrailM.get_of (by rw [A.n]; exact hr) hv hc
    have ho := A.on_eq ((k : Int) + 1)
    rw [TrailM.on, hg] at ho
    cases hl : s.look ((k : Int) + 1) with
    | none =>
      rw [hl] at ho
      simp only [Option.filter, Option.map_none] at ho
      split at ho
      · cases ho
      · rename_i h0
        have hz : t.cells[k].value = 0 := by simpa using h0
        simp only [TCell.is, hz]
        have := A.phase k _ hc
        simp [this]
    | some y =>
      obtain ⟨x, i⟩ := y
      rw [hl] at ho
      simp only [Option.filter, Option.map_some] at ho
      split at ho
      · simp only [Option.some.injEq] at ho
        rw [ho]
        obtain ⟨hx, _⟩ := look_some hl
        have hr := A.right x (List.mem_of_getElem? hx)
        have h0 : x.l ≠ 0 := by unfold rightB at hr; simp only [decide_eq_true_eq] at hr; exact hr.1
        simp only [TCell.is, sgn]
        by_cases hneg : x.l < 0
        · simp [hneg]; omega
        · simp [hneg]; omega
      · cases ho

end

end Go.Proofs.Ytlmmiobnbcanmaa
