import Derived.Test.YtdbdilajjmijaaaDoorPDimacsBackx3
import Derived.Test.YtdbdilajjmijaaaDoorPDimacsBackx4
namespace Go.Proofs.YtdbdilajjmijaaaDoor
open Go Go.RowKit Go.Proofs.YtdbdilajjmijaaaDoorW.PrintWords Go.Proofs.YtdbdilajjmijaaaDoorW.PrintLast Go.Proofs.YtdbdilajjmijaaaDoorW.PrintMore PDimacsBack

/-! A formula out of raw numbers, and whether two are the same: numbers and lists alone. -/
def GoodC (V W : Nat) (d : List Int) : Prop := (∀ l ∈ d, l ≠ 0 ∧ max l (-l) ≤ (V : Int)) ∧ d.length ≤ W
theorem goodC_snoc {V W : Nat} {d : List Int} {l : Int} (h : GoodC V W d) (h1 : l ≠ 0) (h2 : max l (-l) ≤ (V : Int)) (h3 : d.length ≠ W) : GoodC V W (d ++ [l]) := by
  refine ⟨fun x hx => ?_, ?_⟩
  · rcases List.mem_append.1 hx with hx | hx
    · exact h.1 x hx
    · simp only [List.mem_singleton] at hx; subst hx; exact ⟨h1, h2⟩
  · have := h.2; simp; omega
theorem lit_val (x : Int) (V : Nat) (hV : 0 < V) (hV2 : V ≤ 100000) : 1 ≤ wrap64 (1 + Int.tmod (wrap64 (IntKind.u16.wrap x / 2)) V) ∧ wrap64 (1 + Int.tmod (wrap64 (IntKind.u16.wrap x / 2)) V) ≤ V := by
  have h0 : 0 ≤ IntKind.u16.wrap x ∧ IntKind.u16.wrap x ≤ 65535 := by rw [IntKind.wrap_u16]; omega
  generalize IntKind.u16.wrap x = y at *
  have e1 : wrap64 (y / 2) = y / 2 := by unfold wrap64; omega
  rw [e1]
  have h1 : 0 ≤ Int.tmod (y / 2) V := Int.tmod_nonneg _ (by omega)
  have h2 : Int.tmod (y / 2) V < V := Int.tmod_lt_of_pos _ (by omega)
  have e2 : wrap64 (1 + Int.tmod (y / 2) V) = 1 + Int.tmod (y / 2) V := by unfold wrap64; omega
  rw [e2]
  omega

section
variable (V W : Nat) (l : List (List Int)) (n x24 : Int) (row : List Int) (acc : List (List Int))
theorem rf_l1 (hV : V ≤ 100000) (hW : W ≤ 100000) (hr : row.length ≤ 140737488355328) (hacc : acc.length ≤ 100000) : ∀ (m i : Nat) (d : List Int), i + m = row.length → GoodC V W d →
    ∃ d', GoodC V W d' ∧ ∀ r, Ev (fun k => bradawllaw02_Raw_Formula.l0 k W l n (wrap64 (x24 + 1)) V (acc ++ [d'])) r → Ev (fun k => bradawllaw02_Raw_Formula.l1 k W d l n x24 row row.length i V acc) r
  | 0, i, d, hi, hd => ⟨d, hd, fun r h => Ev.step (fun k => by
      simp only [bradawllaw02_Raw_Formula.l1]
      rw [if_neg (by omega), if_pos (by omega)]) h⟩
  | m + 1, i, d, hi, hd => by
    have hlen := hd.2
    by_cases hb : V = 0 ∨ d.length = W
    · refine ⟨d, hd, fun r h => ?_⟩
      have h2 : Ev (fun k => bradawllaw02_Raw_Formula.j2 k W d (rd row i) l n x24 row row.length i true V acc) r := Ev.step (fun k => by
        simp only [bradawllaw02_Raw_Formula.j2]
        rw [if_pos trivial, if_pos (by omega)]) h
      refine Ev.step (fun k => ?_) h2
      simp only [bradawllaw02_Raw_Formula.l1]
      rw [if_pos (by omega), if_pos (by omega), if_pos (by omega)]
      by_cases h0 : V = 0
      · rw [if_pos (by omega)]
      · rw [if_neg (by omega)]
        have : ((d.length : Int) == (W : Int)) = true := by simp; omega
        rw [this]
    · have hv0 : 0 < V := by omega
      have hval := lit_val (rd row i) V hv0 hV
      have hwi : wrap64 ((i : Int) + 1) = ((i + 1 : Nat) : Int) := by unfold wrap64; omega
      have hf : ((d.length : Int) == (W : Int)) = false := by simp; omega
      by_cases hbit : Go.bits .and .i16 (rd row i) 1 = 1
      · generalize hx : wrap64 (1 + Int.tmod (wrap64 (IntKind.u16.wrap (rd row i) / 2)) V) = x at hval
        have hneg : wrap64 (-x) = -x := by unfold wrap64; omega
        obtain ⟨d', h1, h2⟩ := rf_l1 hV hW hr hacc m (i + 1) (d ++ [-x]) (by omega) (goodC_snoc hd (by omega) (by omega) (by omega))
        refine ⟨d', h1, fun r h => ?_⟩
        have h3 := h2 r h
        have h4 : Ev (fun k => bradawllaw02_Raw_Formula.j2 k W d (rd row i) l n x24 row row.length i false V acc) r := Ev.step (fun k => by
          simp only [bradawllaw02_Raw_Formula.j2]
          rw [if_neg (by simp), if_neg (by omega), if_pos hbit, if_pos (by omega), hx, hneg, hwi]) h3
        refine Ev.step (fun k => ?_) h4
        simp only [bradawllaw02_Raw_Formula.l1]
        rw [if_pos (by omega), if_pos (by omega), if_pos (by omega), if_neg (by omega), hf]
      · generalize hx : wrap64 (1 + Int.tmod (wrap64 (IntKind.u16.wrap (rd row i) / 2)) V) = x at hval
        obtain ⟨d', h1, h2⟩ := rf_l1 hV hW hr hacc m (i + 1) (d ++ [x]) (by omega) (goodC_snoc hd (by omega) (by omega) (by omega))
        refine ⟨d', h1, fun r h => ?_⟩
        have h3 := h2 r h
        have h4 : Ev (fun k => bradawllaw02_Raw_Formula.j2 k W d (rd row i) l n x24 row row.length i false V acc) r := Ev.step (fun k => by
          simp only [bradawllaw02_Raw_Formula.j2]
          rw [if_neg (by simp), if_neg (by omega), if_neg hbit, if_pos (by omega), hx, hwi]) h3
        refine Ev.step (fun k => ?_) h4
        simp only [bradawllaw02_Raw_Formula.l1]
        rw [if_pos (by omega), if_pos (by omega), if_pos (by omega), if_neg (by omega), hf]
end
theorem rf_l0 (V W : Nat) (l : List (List Int)) (hV : V ≤ 100000) (hW : W ≤ 100000) (hl : l.length ≤ 100000) (hr : ∀ r ∈ l, r.length ≤ 140737488355328) : ∀ (m i : Nat) (acc : List (List Int)), i + m = l.length → acc.length = i → (∀ d ∈ acc, GoodC V W d) →
    ∃ cs : List (List Int), cs.length = l.length ∧ (∀ d ∈ cs, GoodC V W d) ∧ Ev (fun k => bradawllaw02_Raw_Formula.l0 k W l l.length i V acc) ((V : Int), cs)
  | 0, i, acc, hi, ha, hg => ⟨acc, by omega, hg, Ev.step (fun k => by
      simp only [bradawllaw02_Raw_Formula.l0]
      rw [if_neg (by omega)]) (Ev.now _)⟩
  | m + 1, i, acc, hi, ha, hg => by
    have hrow : (rd_L4 l (i : Int)).length ≤ 140737488355328 := by
      unfold rd_L4
      rw [Int.toNat_natCast, List.getD_eq_getElem?_getD, List.getElem?_eq_getElem (by omega)]
      exact hr _ (List.getElem_mem _)
    obtain ⟨d', h1, h2⟩ := rf_l1 V W l l.length i (rd_L4 l i) acc hV hW hrow (by omega) (rd_L4 l i).length 0 [] (by omega) ⟨by simp, by simp⟩
    obtain ⟨cs, h3, h4, h5⟩ := rf_l0 V W l hV hW hl hr m (i + 1) (acc ++ [d']) (by omega) (by simp; omega) (fun d hd => by
      rcases List.mem_append.1 hd with hd | hd
      · exact hg d hd
      · simp only [List.mem_singleton] at hd; subst hd; exact h1)
    have hwi : wrap64 ((i : Int) + 1) = ((i + 1 : Nat) : Int) := by unfold wrap64; omega
    rw [hwi] at h2
    refine ⟨cs, h3, h4, Ev.step (fun k => ?_) (h2 _ h5)⟩
    simp only [bradawllaw02_Raw_Formula.l0]
    rw [if_pos (by omega), if_pos (by omega), if_pos (by omega)]
    rfl
/-- A formula of at most A variables, W literals a clause. -/
theorem raw_formula (u : Int) (hu : 0 ≤ u ∧ u ≤ 255) (l : List (List Int)) (A W : Nat) (hA : A ≤ 1000) (hW : W ≤ 1000) (hl : l.length ≤ 100000) (hr : ∀ r ∈ l, r.length ≤ 140737488355328) :
    ∃ (k V : Nat) (cs : List (List Int)), bradawllaw02_Raw_Formula.f k u l A W = some ((V : Int), cs) ∧ V ≤ A ∧ cs.length = l.length ∧ ∀ d ∈ cs, GoodC V W d := by
  have e1 : wrap64 ((A : Int) + 1) = (A : Int) + 1 := by unfold wrap64; omega
  have e2 : wrap64 u = u := by unfold wrap64; omega
  have h1 : 0 ≤ Int.tmod u ((A : Int) + 1) := Int.tmod_nonneg _ hu.1
  have h2 : Int.tmod u ((A : Int) + 1) < (A : Int) + 1 := Int.tmod_lt_of_pos _ (by omega)
  obtain ⟨V, hV⟩ : ∃ V : Nat, Int.tmod u ((A : Int) + 1) = V := ⟨(Int.tmod u ((A : Int) + 1)).toNat, by omega⟩
  obtain ⟨cs, h3, h4, h5⟩ := rf_l0 V W l (by omega) (by omega) hl hr l.length 0 [] (by omega) rfl (by simp)
  obtain ⟨k, h6⟩ := h5.rounds
  refine ⟨k, V, cs, ?_, by omega, h3, h4⟩
  unfold bradawllaw02_Raw_Formula.f
  rw [e1, e2, if_neg (by omega), hV]
  exact h6

section
variable (v v' : Int) (x y : List (List Int))
theorem rd_drop {a : List Int} {j : Nat} (h : j < a.length) : a.drop j = rd a (j : Int) :: a.drop (j + 1) := by
  unfold rd
  rw [Int.toNat_natCast, List.drop_eq_getElem_cons h, List.getD_eq_getElem?_getD, List.getElem?_eq_getElem h]; rfl
theorem rdL_drop {a : List (List Int)} {j : Nat} (h : j < a.length) : a.drop j = rd_L2 a (j : Int) :: a.drop (j + 1) := by
  unfold rd_L2
  rw [Int.toNat_natCast, List.drop_eq_getElem_cons h, List.getD_eq_getElem?_getD, List.getElem?_eq_getElem h]; rfl
theorem sm_l1 (i : Nat) (hi : i < x.length) (hxy : x.length = y.length) (n : Int) (hab : (rd_L2 x i).length = (rd_L2 y i).length) (hm : (rd_L2 x i).length ≤ 140737488355328) : ∀ (m j : Nat), j + m = (rd_L2 x i).length →
    ((rd_L2 x i).drop j = (rd_L2 y i).drop j → ∀ r, Ev (fun k => bradawllaw02_Same.l0 k n (wrap64 ((i : Int) + 1)) v x v' y) r → Ev (fun k => bradawllaw02_Same.l1 k i n i ((rd_L2 x i).length : Int) j v x v' y) r) ∧
    ((rd_L2 x i).drop j ≠ (rd_L2 y i).drop j → Ev (fun k => bradawllaw02_Same.l1 k i n i ((rd_L2 x i).length : Int) j v x v' y) false)
  | 0, j, hj => by
    constructor
    · intro _ r h
      refine Ev.step (fun k => ?_) h
      simp only [bradawllaw02_Same.l1]
      rw [if_neg (by omega)]
    · intro h
      exact absurd (by rw [List.drop_of_length_le (by omega), List.drop_of_length_le (by omega)]) h
  | m + 1, j, hj => by
    obtain ⟨h1, h2⟩ := sm_l1 i hi hxy n hab hm m (j + 1) (by omega)
    have hwj : wrap64 ((j : Int) + 1) = ((j + 1 : Nat) : Int) := by unfold wrap64; omega
    rw [rd_drop (a := rd_L2 x i) (j := j) (by omega), rd_drop (a := rd_L2 y i) (j := j) (by omega)]
    by_cases he : rd (rd_L2 x i) j = rd (rd_L2 y i) j
    · have step : ∀ k, bradawllaw02_Same.l1 (k + 1) i n i ((rd_L2 x i).length : Int) j v x v' y = bradawllaw02_Same.l1 k i n i ((rd_L2 x i).length : Int) ((j + 1 : Nat) : Int) v x v' y := fun k => by
        simp only [bradawllaw02_Same.l1]
        rw [if_pos (by omega), if_pos (by omega), if_pos (by omega), if_pos (by omega), if_pos (by omega), if_pos (by omega), if_pos (by omega), if_pos he, hwj]
      constructor
      · intro h r hr
        simp only [List.cons.injEq] at h
        exact Ev.step step (h1 h.2 r hr)
      · intro h
        refine Ev.step step (h2 fun h3 => h ?_)
        rw [he, h3]
    · constructor
      · intro h r hr
        simp only [List.cons.injEq] at h
        exact absurd h.1 he
      · intro _
        refine Ev.step (fun k => ?_) (Ev.now _)
        simp only [bradawllaw02_Same.l1]
        rw [if_pos (by omega), if_pos (by omega), if_pos (by omega), if_pos (by omega), if_pos (by omega), if_pos (by omega), if_pos (by omega), if_neg he]
theorem sm_l0 (hxy : x.length = y.length) (hl : x.length ≤ 140737488355328) (hr : ∀ r ∈ x, r.length ≤ 140737488355328) : ∀ (m i : Nat), i + m = x.length →
    Ev (fun k => bradawllaw02_Same.l0 k x.length i v x v' y) (decide (x.drop i = y.drop i))
  | 0, i, hi => Ev.step (fun k => by
      simp only [bradawllaw02_Same.l0]
      rw [if_neg (by omega), List.drop_of_length_le (by omega), List.drop_of_length_le (by omega)]
      simp) (Ev.now _)
  | m + 1, i, hi => by
    have h0 := sm_l0 hxy hl hr m (i + 1) (by omega)
    have hwi : wrap64 ((i : Int) + 1) = ((i + 1 : Nat) : Int) := by unfold wrap64; omega
    have hm : (rd_L2 x (i : Int)).length ≤ 140737488355328 := by
      unfold rd_L2
      rw [Int.toNat_natCast, List.getD_eq_getElem?_getD, List.getElem?_eq_getElem (by omega)]
      exact hr _ (List.getElem_mem _)
    rw [rdL_drop (a := x) (j := i) (by omega), rdL_drop (a := y) (j := i) (by omega)]
    by_cases hab : (rd_L2 x (i : Int)).length = (rd_L2 y (i : Int)).length
    · obtain ⟨h1, h2⟩ := sm_l1 v v' x y i (by omega) hxy x.length hab hm (rd_L2 x i).length 0 (by omega)
      rw [List.drop_zero, List.drop_zero] at h1 h2
      have step : ∀ k, bradawllaw02_Same.l0 (k + 1) x.length i v x v' y = bradawllaw02_Same.l1 k i x.length i ((rd_L2 x i).length : Int) ((0 : Nat) : Int) v x v' y := fun k => by
        simp only [bradawllaw02_Same.l0]
        rw [if_pos (by omega), if_pos (by omega), if_pos (by omega), if_pos (by omega), if_pos (by omega)]
        rfl
      by_cases he : rd_L2 x (i : Int) = rd_L2 y (i : Int)
      · refine Ev.step step (h1 he _ ?_)
        rw [hwi]
        simpa [he] using h0
      · refine Ev.step step ?_
        simpa [he] using h2 he
    · refine Ev.step (fun k => ?_) (Ev.now _)
      simp only [bradawllaw02_Same.l0]
      rw [if_pos (by omega), if_pos (by omega), if_pos (by omega), if_pos (by omega), if_neg (by omega)]
      have he : rd_L2 x (i : Int) ≠ rd_L2 y (i : Int) := fun h => hab (by rw [h])
      simp [he]
theorem same_ok (hl : x.length ≤ 140737488355328) (hr : ∀ r ∈ x, r.length ≤ 140737488355328) : ∃ k, bradawllaw02_Same.f k v x v' y = some (decide (v = v' ∧ x = y)) := by
  unfold bradawllaw02_Same.f
  by_cases hv : v = v'
  · simp only [if_pos hv]
    by_cases hxy : x.length = y.length
    · have h := sm_l0 v v' x y hxy hl hr x.length 0 (by omega)
      rw [List.drop_zero, List.drop_zero] at h
      have h2 : Ev (fun k => bradawllaw02_Same.j0 k ((x.length : Int) != (y.length : Int)) v x v' y) (decide (x = y)) := Ev.step (fun k => by
        simp only [bradawllaw02_Same.j0]
        rw [if_neg (by simp; omega)]
        rfl) h
      obtain ⟨k, h3⟩ := h2.rounds
      exact ⟨k, by rw [h3]; simp [hv]⟩
    · refine ⟨1, ?_⟩
      simp only [bradawllaw02_Same.j0]
      rw [if_pos (by simp; omega)]
      have : x ≠ y := fun h => hxy (by rw [h])
      simp [this]
  · simp only [if_neg hv]
    exact ⟨1, by simp [bradawllaw02_Same.j0, hv]⟩
end
end Go.Proofs.YtdbdilajjmijaaaDoor
