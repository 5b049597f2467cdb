import Derived.Test.YtdbdilajjmijaaaGreatDoorPDimacsCutsx3
import Derived.Test.YtdbdilajjmijaaaGreatDoorPDimacsCutsx6
import Derived.Test.YtdbdilajjmijaaaGreatDoorDnFit
namespace Go.Proofs.YtdbdilajjmijaaaGreatDoor
open Go Go.RowKit Go.Proofs.YtdbdilajjmijaaaGreatDoorW.PrintWords Go.Proofs.YtdbdilajjmijaaaGreatDoorW.PrintLast Go.Proofs.YtdbdilajjmijaaaGreatDoorW.PrintMore PDimacsCuts

/-! A formula out of raw numbers, and whether two are the same: numbers and lists alone. -/
def GoodC (V W : Nat) (d : List Int) : Prop := (∀ l ∈ d, l ≠ 0 ∧ max l (-l) ≤ (V : Int)) ∧ d.length ≤ W
theorem goodC_snoc {V W : Nat} {d : List Int} {l : Int} (h : GoodC V W d) (h1 : l ≠ 0) (h2 : max l (-l) ≤ (V : Int)) (h3 : d.length ≠ W) : GoodC V W (d ++ [l]) := by
  refine ⟨fun x hx => ?_, ?_⟩
  · rcases List.mem_append.1 hx with hx | hx
    · exact h.1 x hx
    · simp only [List.mem_singleton] at hx; subst hx; exact ⟨h1, h2⟩
  · have := h.2; simp; omega
theorem lit_val (x : Int) (V : Nat) (hV : 0 < V) (hV2 : V ≤ 100000) : 1 ≤ wrap64 (1 + Int.tmod (wrap64 (IntKind.u16.wrap x / 2)) V) ∧ wrap64 (1 + Int.tmod (wrap64 (IntKind.u16.wrap x / 2)) V) ≤ V := by
  have h0 : 0 ≤ IntKind.u16.wrap x ∧ IntKind.u16.wrap x ≤ 65535 := by rw [IntKind.wrap_u16]; omega
  generalize IntKind.u16.wrap x = y at *
  have e1 : wrap64 (y / 2) = y / 2 := by unfold wrap64; omega
  rw [e1]
  have h1 : 0 ≤ Int.tmod (y / 2) V := Int.tmod_nonneg _ (by omega)
  have h2 : Int.tmod (y / 2) V < V := Int.tmod_lt_of_pos _ (by omega)
  have e2 : wrap64 (1 + Int.tmod (y / 2) V) = 1 + Int.tmod (y / 2) V := by unfold wrap64; omega
  rw [e2]
  omega

section
variable (V W : Nat) (l : List (List Int)) (n x24 : Int) (row : List Int) (acc : List (List Int))
theorem rf_l1 (hV : V ≤ 100000) (hW : W ≤ 100000) (hr : row.length ≤ 140737488355328) (hacc : acc.length ≤ 100000) : ∀ (m i : Nat) (d : List Int), i + m = row.length → GoodC V W d →
    ∃ d', GoodC V W d' ∧ ∀ r, Ev (fun k => bradawllaw02_Raw_Formula.l0 k W l n (wrap64 (x24 + 1)) V (acc ++ [d'])) r → Ev (fun k => bradawllaw02_Raw_Formula.l1 k W d l n x24 row row.length i V acc) r
  | 0, i, d, hi, hd => ⟨d, hd, fun r h => Ev.step (fun k => by
      simp only [bradawllaw02_Raw_Formula.l1]
      rw [if_neg (by omega), if_pos (by omega)]) h⟩
  | m + 1, i, d, hi, hd => by
    have hlen := hd.2
    by_cases hb : V = 0 ∨ d.length = W
    · refine ⟨d, hd, fun r h => ?_⟩
      have h2 : Ev (fun k => bradawllaw02_Raw_Formula.j2 k W d (rd row i) l n x24 row row.length i true V acc) r := Ev.step (fun k => by
        simp only [bradawllaw02_Raw_Formula.j2]
        rw [if_pos trivial, if_pos (by omega)]) h
      refine Ev.step (fun k => ?_) h2
      simp only [bradawllaw02_Raw_Formula.l1]
      rw [if_pos (by omega), if_pos (by omega), if_pos (by omega)]
      by_cases h0 : V = 0
      · rw [if_pos (by omega)]
      · rw [if_neg (by omega)]
        have : ((d.length : Int) == (W : Int)) = true := by simp; omega
        rw [this]
    · have hv0 : 0 < V := by omega
      have hval := lit_val (rd row i) V hv0 hV
      have hwi : wrap64 ((i : Int) + 1) = ((i + 1 : Nat) : Int) := by unfold wrap64; omega
      have hf : ((d.length : Int) == (W : Int)) = false := by simp; omega
      by_cases hbit : Go.bits .and .i16 (rd row i) 1 = 1
      · generalize hx : wrap64 (1 + Int.tmod (wrap64 (IntKind.u16.wrap (rd row i) / 2)) V) = x at hval
        have hneg : wrap64 (-x) = -x := by unfold wrap64; omega
        obtain ⟨d', h1, h2⟩ := rf_l1 hV hW hr hacc m (i + 1) (d ++ [-x]) (by omega) (goodC_snoc hd (by omega) (by omega) (by omega))
        refine ⟨d', h1, fun r h => ?_⟩
        have h3 := h2 r h
        have h4 : Ev (fun k => bradawllaw02_Raw_Formula.j2 k W d (rd row i) l n x24 row row.length i false V acc) r := Ev.step (fun k => by
          simp only [bradawllaw02_Raw_Formula.j2]
          rw [if_neg (by simp), if_neg (by omega), if_pos hbit, if_pos (by omega), hx, hneg, hwi]) h3
        refine Ev.step (fun k => ?_) h4
        simp only [bradawllaw02_Raw_Formula.l1]
        rw [if_pos (by omega), if_pos (by omega), if_pos (by omega), if_neg (by omega), hf]
      · generalize hx : wrap64 (1 + Int.tmod (wrap64 (IntKind.u16.wrap (rd row i) / 2)) V) = x at hval
        obtain ⟨d', h1, h2⟩ := rf_l1 hV hW hr hacc m (i + 1) (d ++ [x]) (by omega) (goodC_snoc hd (by omega) (by omega) (by omega))
        refine ⟨d', h1, fun r h => ?_⟩
        have h3 := h2 r h
        have h4 : Ev (fun k => bradawllaw02_Raw_Formula.j2 k W d (rd row i) l n x24 row row.length i false V acc) r := Ev.step (fun k => by
          simp only [bradawllaw02_Raw_Formula.j2]
          rw [if_neg (by simp), if_neg (by omega), if_neg hbit, if_pos (by omega), hx, hwi]) h3
        refine Ev.step (fun k => ?_) h4
        simp only [bradawllaw02_Raw_Formula.l1]
        rw [if_pos (by omega), if_pos (by omega), if_pos (by omega), if_neg (by omega), hf]
end
theorem rf_l0 (V W : Nat) (l : List (List Int)) (hV : V ≤ 100000) (hW : W ≤ 100000) (hl : l.length ≤ 100000) (hr : ∀ r ∈ l, r.length ≤ 140737488355328) : ∀ (m i : Nat) (acc : List (List Int)), i + m = l.length → acc.length = i → (∀ d ∈ acc, GoodC V W d) →
    ∃ cs : List (List Int), cs.length = l.length ∧ (∀ d ∈ cs, GoodC V W d) ∧ Ev (fun k => bradawllaw02_Raw_Formula.l0 k W l l.length i V acc) ((V : Int), cs)
  | 0, i, acc, hi, ha, hg => ⟨acc, by omega, hg, Ev.step (fun k => by
      simp only [bradawllaw02_Raw_Formula.l0]
      rw [if_neg (by omega)]) (Ev.now _)⟩
  | m + 1, i, acc, hi, ha, hg => by
    have hrow : (rd_L4 l (i : Int)).length ≤ 140737488355328 := by
      unfold rd_L4
      rw [Int.toNat_natCast, List.getD_eq_getElem?_getD, List.getElem?_eq_getElem (by omega)]
      exact hr _ (List.getElem_mem _)
    obtain ⟨d', h1, h2⟩ := rf_l1 V W l l.length i (rd_L4 l i) acc hV hW hrow (by omega) (rd_L4 l i).length 0 [] (by omega) ⟨by simp, by simp⟩
    obtain ⟨cs, h3, h4, h5⟩ := rf_l0 V W l hV hW hl hr m (i + 1) (acc ++ [d']) (by omega) (by simp; omega) (fun d hd => by
      rcases List.mem_append.1 hd with hd | hd
      · exact hg d hd
      · simp only [List.mem_singleton] at hd; subst hd; exact h1)
    have hwi : wrap64 ((i : Int) + 1) = ((i + 1 : Nat) : Int) := by unfold wrap64; omega
    rw [hwi] at h2
    refine ⟨cs, h3, h4, Ev.step (fun k => ?_) (h2 _ h5)⟩
    simp only [bradawllaw02_Raw_Formula.l0]
    rw [if_pos (by omega), if_pos (by omega), if_pos (by omega)]
    rfl
/-- A formula of at most A variables, W literals a clause. -/
theorem raw_formula (u : Int) (hu : 0 ≤ u ∧ u ≤ 255) (l : List (List Int)) (A W : Nat) (hA : A ≤ 1000) (hW : W ≤ 1000) (hl : l.length ≤ 100000) (hr : ∀ r ∈ l, r.length ≤ 140737488355328) :
    ∃ (k V : Nat) (cs : List (List Int)), bradawllaw02_Raw_Formula.f k u l A W = some ((V : Int), cs) ∧ V ≤ A ∧ cs.length = l.length ∧ ∀ d ∈ cs, GoodC V W d := by
  have e1 : wrap64 ((A : Int) + 1) = (A : Int) + 1 := by unfold wrap64; omega
  have e2 : wrap64 u = u := by unfold wrap64; omega
  have h1 : 0 ≤ Int.tmod u ((A : Int) + 1) := Int.tmod_nonneg _ hu.1
  have h2 : Int.tmod u ((A : Int) + 1) < (A : Int) + 1 := Int.tmod_lt_of_pos _ (by omega)
  obtain ⟨V, hV⟩ : ∃ V : Nat, Int.tmod u ((A : Int) + 1) = V := ⟨(Int.tmod u ((A : Int) + 1)).toNat, by omega⟩
  obtain ⟨cs, h3, h4, h5⟩ := rf_l0 V W l (by omega) (by omega) hl hr l.length 0 [] (by omega) rfl (by simp)
  obtain ⟨k, h6⟩ := h5.rounds
  refine ⟨k, V, cs, ?_, by omega, h3, h4⟩
  unfold bradawllaw02_Raw_Formula.f
  rw [e1, e2, if_neg (by omega), hV]
  exact h6

section
variable (v v' : Int) (x y : List (List Int))
theorem rd_drop {a : List Int} {j : Nat} (h : j < a.length) : a.drop j = rd a (j : Int) :: a.drop (j + 1) := by
  unfold rd
  rw [Int.toNat_natCast, List.drop_eq_getElem_cons h, List.getD_eq_getElem?_getD, List.getElem?_eq_getElem h]; rfl
theorem rdL_drop {a : List (List Int)} {j : Nat} (h : j < a.length) : a.drop j = rd_L1 a (j : Int) :: a.drop (j + 1) := by
  unfold rd_L1
  rw [Int.toNat_natCast, List.drop_eq_getElem_cons h, List.getD_eq_getElem?_getD, List.getElem?_eq_getElem h]; rfl
theorem sm_l1 (i : Nat) (hi : i < x.length) (hxy : x.length = y.length) (n : Int) (hab : (rd_L1 x i).length = (rd_L1 y i).length) (hm : (rd_L1 x i).length ≤ 140737488355328) : ∀ (m j : Nat), j + m = (rd_L1 x i).length →
    ((rd_L1 x i).drop j = (rd_L1 y i).drop j → ∀ r, Ev (fun k => bradawllaw02_Same.l0 k n (wrap64 ((i : Int) + 1)) v x v' y) r → Ev (fun k => bradawllaw02_Same.l1 k i n i ((rd_L1 x i).length : Int) j v x v' y) r) ∧
    ((rd_L1 x i).drop j ≠ (rd_L1 y i).drop j → Ev (fun k => bradawllaw02_Same.l1 k i n i ((rd_L1 x i).length : Int) j v x v' y) false)
  | 0, j, hj => by
    constructor
    · intro _ r h
      refine Ev.step (fun k => ?_) h
      simp only [bradawllaw02_Same.l1]
      rw [if_neg (by omega)]
    · intro h
      exact absurd (by rw [List.drop_of_length_le (by omega), List.drop_of_length_le (by omega)]) h
  | m + 1, j, hj => by
    obtain ⟨h1, h2⟩ := sm_l1 i hi hxy n hab hm m (j + 1) (by omega)
    have hwj : wrap64 ((j : Int) + 1) = ((j + 1 : Nat) : Int) := by unfold wrap64; omega
    rw [rd_drop (a := rd_L1 x i) (j := j) (by omega), rd_drop (a := rd_L1 y i) (j := j) (by omega)]
    by_cases he : rd (rd_L1 x i) j = rd (rd_L1 y i) j
    · have step : ∀ k, bradawllaw02_Same.l1 (k + 1) i n i ((rd_L1 x i).length : Int) j v x v' y = bradawllaw02_Same.l1 k i n i ((rd_L1 x i).length : Int) ((j + 1 : Nat) : Int) v x v' y := fun k => by
        simp only [bradawllaw02_Same.l1]
        rw [if_pos (by omega), if_pos (by omega), if_pos (by omega), if_pos (by omega), if_pos (by omega), if_pos (by omega), if_pos (by omega), if_pos he, hwj]
      constructor
      · intro h r hr
        simp only [List.cons.injEq] at h
        exact Ev.step step (h1 h.2 r hr)
      · intro h
        refine Ev.step step (h2 fun h3 => h ?_)
        rw [he, h3]
    · constructor
      · intro h r hr
        simp only [List.cons.injEq] at h
        exact absurd h.1 he
      · intro _
        refine Ev.step (fun k => ?_) (Ev.now _)
        simp only [bradawllaw02_Same.l1]
        rw [if_pos (by omega), if_pos (by omega), if_pos (by omega), if_pos (by omega), if_pos (by omega), if_pos (by omega), if_pos (by omega), if_neg he]
theorem sm_l0 (hxy : x.length = y.length) (hl : x.length ≤ 140737488355328) (hr : ∀ r ∈ x, r.length ≤ 140737488355328) : ∀ (m i : Nat), i + m = x.length →
    Ev (fun k => bradawllaw02_Same.l0 k x.length i v x v' y) (decide (x.drop i = y.drop i))
  | 0, i, hi => Ev.step (fun k => by
      simp only [bradawllaw02_Same.l0]
      rw [if_neg (by omega), List.drop_of_length_le (by omega), List.drop_of_length_le (by omega)]
      simp) (Ev.now _)
  | m + 1, i, hi => by
    have h0 := sm_l0 hxy hl hr m (i + 1) (by omega)
    have hwi : wrap64 ((i : Int) + 1) = ((i + 1 : Nat) : Int) := by unfold wrap64; omega
    have hm : (rd_L1 x (i : Int)).length ≤ 140737488355328 := by
      unfold rd_L1
      rw [Int.toNat_natCast, List.getD_eq_getElem?_getD, List.getElem?_eq_getElem (by omega)]
      exact hr _ (List.getElem_mem _)
    rw [rdL_drop (a := x) (j := i) (by omega), rdL_drop (a := y) (j := i) (by omega)]
    by_cases hab : (rd_L1 x (i : Int)).length = (rd_L1 y (i : Int)).length
    · obtain ⟨h1, h2⟩ := sm_l1 v v' x y i (by omega) hxy x.length hab hm (rd_L1 x i).length 0 (by omega)
      rw [List.drop_zero, List.drop_zero] at h1 h2
      have step : ∀ k, bradawllaw02_Same.l0 (k + 1) x.length i v x v' y = bradawllaw02_Same.l1 k i x.length i ((rd_L1 x i).length : Int) ((0 : Nat) : Int) v x v' y := fun k => by
        simp only [bradawllaw02_Same.l0]
        rw [if_pos (by omega), if_pos (by omega), if_pos (by omega), if_pos (by omega), if_pos (by omega)]
        rfl
      by_cases he : rd_L1 x (i : Int) = rd_L1 y (i : Int)
      · refine Ev.step step (h1 he _ ?_)
        rw [hwi]
        simpa [he] using h0
      · refine Ev.step step ?_
        simpa [he] using h2 he
    · refine Ev.step (fun k => ?_) (Ev.now _)
      simp only [bradawllaw02_Same.l0]
      rw [if_pos (by omega), if_pos (by omega), if_pos (by omega), if_pos (by omega), if_neg (by omega)]
      have he : rd_L1 x (i : Int) ≠ rd_L1 y (i : Int) := fun h => hab (by rw [h])
      simp [he]
theorem same_ok (hl : x.length ≤ 140737488355328) (hr : ∀ r ∈ x, r.length ≤ 140737488355328) : ∃ k, bradawllaw02_Same.f k v x v' y = some (decide (v = v' ∧ x = y)) := by
  unfold bradawllaw02_Same.f
  by_cases hv : v = v'
  · simp only [if_pos hv]
    by_cases hxy : x.length = y.length
    · have h := sm_l0 v v' x y hxy hl hr x.length 0 (by omega)
      rw [List.drop_zero, List.drop_zero] at h
      have h2 : Ev (fun k => bradawllaw02_Same.j0 k ((x.length : Int) != (y.length : Int)) v x v' y) (decide (x = y)) := Ev.step (fun k => by
        simp only [bradawllaw02_Same.j0]
        rw [if_neg (by simp; omega)]
        rfl) h
      obtain ⟨k, h3⟩ := h2.rounds
      exact ⟨k, by rw [h3]; simp [hv]⟩
    · refine ⟨1, ?_⟩
      simp only [bradawllaw02_Same.j0]
      rw [if_pos (by simp; omega)]
      have : x ≠ y := fun h => hxy (by rw [h])
      simp [this]
  · simp only [if_neg hv]
    exact ⟨1, by simp [bradawllaw02_Same.j0, hv]⟩
end
end Go.Proofs.YtdbdilajjmijaaaGreatDoor
namespace Go.Proofs.YtdbdilajjmijaaaGreatDoor
open Go Go.RowKit Go.Proofs.YtdbdilajjmijaaaGreatDoorW.PrintWords Go.Proofs.YtdbdilajjmijaaaGreatDoorW.PrintLast Go.Proofs.YtdbdilajjmijaaaGreatDoorW.PrintMore PDimacsCuts

/-! Light, Formula, Same: contracts. -/
abbrev kRaw : Kd (List Int) := Kd.slice 49 (Kd.int .i16)
def lightN (K : Nat) : Nat → List (List Int) → Bool
  | _, [] => true
  | n, c :: r => if 10 * K < n + (1 + c.length) then false else lightN K (n + (1 + c.length)) r
def lightB (K : Nat) (l : List (List Int)) : Bool := lightN K 0 l && decide (l.length ≤ K)
theorem lightN_sum (K : Nat) : ∀ (l : List (List Int)) (n : Nat), n ≤ 10 * K → lightN K n l = true → n + (l.map fun c => 1 + c.length).sum ≤ 10 * K
  | [], n, h, _ => by simpa using h
  | c :: r, n, h, h2 => by
    simp only [lightN] at h2
    split at h2
    · cases h2
    · have := lightN_sum K r (n + (1 + c.length)) (by omega) h2
      simp only [List.map_cons, List.sum_cons]
      omega
theorem lightB_spec {K : Nat} {l : List (List Int)} (h : lightB K l = true) : l.length ≤ K ∧ (l.map fun c => 1 + c.length).sum ≤ 10 * K := by
  unfold lightB at h
  simp only [Bool.and_eq_true, decide_eq_true_eq] at h
  refine ⟨h.2, ?_⟩
  have := lightN_sum K l 0 (Nat.zero_le _) h.1
  omega
theorem at_raw {w : World} {A : Option Addr} {n : Nat} {cs : List (List Int)} (h : Kd.C kRaw w A n cs) (j : Nat) (hj : j < n) : ∃ ad A1 c1, A = some ad ∧ w.cell? (ad.add j) = some (.slice A1 (nth cs [] j).length c1) ∧ (nth cs [] j).length ≤ c1 ∧ Kd.C (Kd.int .i16) w A1 (nth cs [] j).length (nth cs [] j) := by
  obtain ⟨ad, A1, c1, h1, h2, h3, h4⟩ := at_L4 h (j : Int) (by omega) (by omega)
  exact ⟨ad, A1, c1, h1, h2, h3, h4⟩

set_option maxRecDepth 100000 in
set_option maxHeartbeats 4000000 in
theorem light_any (u : Int) (A : Option Addr) (c : Nat) (l : List (List Int)) (K : Nat) (w : World) (hr : Kd.C kRaw w A l.length l) (hK : K ≤ 1000) (hl : l.length ≤ 140737488355328) (hs : ∀ r ∈ l, r.length ≤ 140737488355328) :
    Calls Tryz.prog 5 #[.agg #[.int .u8 u, .slice A l.length c], .int .i64 (K : Int)] w (Said w (.bool (lightB K l))) := by
  have hu := Tryz.underlying24
  have HR := Aside0.mk hr
  have HS := Aside0.mk hs
  have HL := Aside0.mk (show lightN K 0 (l.drop 0) = lightN K 0 l from rfl)
  obtain ⟨B, hB⟩ : ∃ B, lightB K l = B := ⟨_, rfl⟩
  have HB1 := Aside0.mk (show (lightN K 0 l && decide (l.length ≤ K)) = B from hB)
  rw [hB]
  clear hr hs hB
  generalize lightN K 0 l = LN at *
  go_enter Tryz.func5, Tryz.ntmps5
  have HX := Aside0.mk (show (w.alloc (.cells #[.int .u8 u, .slice A l.length c] 24)).cell? ⟨w.heap.size, 1, none⟩ = some (.slice A l.length c) from (blk_cell (heap_alloc_new w _) 1).trans rfl)
  go_wp2
  have HB := Aside0.mk ((Below.refl w.heap.size w).alloc (Nat.le_refl _) (.cells #[.int .u8 u, .slice A l.length c] 24))
  go_loopg [11, 5] l.length (fun gk v11 v5 w' => ∃ (j n : Nat), v11 = .int .i64 (j : Int) ∧ j + gk = l.length ∧ v5 = .int .i64 (n : Int) ∧ n ≤ 10 * K ∧ Aside0 (lightN K n (l.drop j) = LN) ∧ Aside0 (Below w.heap.size w w') ∧ Aside0 (w'.cell? ⟨w.heap.size, 1, none⟩ = some (.slice A l.length c)))
  case atStart => exact ⟨0, 0, rfl, by omega, rfl, by omega, HL, HB, HX⟩
  case round =>
    clear HL HB HX
    obtain ⟨j, n, rfl, hj, rfl, hn, HL, HB, HX⟩ := hrel
    by_cases hjl : j < l.length
    · obtain ⟨ad, A1, c1, rfl, hx, hl1, hi1⟩ := at_raw HR.out j hjl
      replace hx := (HB.out.cell (World.block_lt_of_cell? w _ hx)).trans hx
      have hm := HS.out _ (nth_mem hjl [])
      have hd := HL.out
      rw [drop_nth hjl []] at hd
      simp only [lightN] at hd
      have HD := Aside0.mk hd
      have q1 : ((j : Int) < (l.length : Int)) = True := eq_true (by omega)
      have q2 : (0 ≤ (j : Int)) = True := eq_true (by omega)
      clear hi1 hd
      generalize (nth l [] j).length = m at *
      by_cases hbig : 10 * K < n + (1 + m)
      · have q3 : (10 * (K : Int) < (n : Int) + (1 + (m : Int))) = True := eq_true (by omega)
        have hb : B = false := by rw [← HB1.out, ← HD.out, if_pos hbig]; rfl
        subst hb
        clear HD HL HB1
        go_wp2
        go_ret
        exact ⟨rfl, HB.out⟩
      · have q3 : (10 * (K : Int) < (n : Int) + (1 + (m : Int))) = False := eq_false (by omega)
        have hd := HD.out
        rw [if_neg hbig] at hd
        have HD2 := Aside0.mk hd
        clear HD HL hd
        go_wp2
        go_roundg (l.length - (j + 1))
        case measure => omega
        case rel => exact ⟨j + 1, n + (1 + m), by go_num, by omega, by go_num, by omega, HD2, HB, HX⟩
    · have q1 : ((j : Int) < (l.length : Int)) = False := eq_false (by omega)
      have hd := HL.out
      rw [List.drop_of_length_le (by omega)] at hd
      have hb : B = decide (l.length ≤ K) := by rw [← HB1.out, ← hd]; simp [lightN]
      subst hb
      have hxx := HX.out
      clear HL HB1 hd
      by_cases hk : l.length ≤ K
      · go_wp2
        go_ret
        exact ⟨by simp [hk], HB.out⟩
      · have qk : ((l.length : Int) ≤ (K : Int)) = False := eq_false (by omega)
        go_wp2
        go_ret
        exact ⟨by simp [hk], HB.out⟩

/-- What a formula's call leaves: one that may be. -/
theorem formula_any (u : Int) (hu : 0 ≤ u ∧ u ≤ 255) (A : Option Addr) (c : Nat) (l : List (List Int)) (a b : Nat) (ha : a ≤ 1000) (hb : b ≤ 1000) (w : World) (hr : Kd.C kRaw w A l.length l) (hc : l.length ≤ c) (hl : l.length ≤ 100000) (hs : ∀ r ∈ l, r.length ≤ 140737488355328) :
    ∃ (V : Nat) (cs : List (List Int)), V ≤ a ∧ cs.length = l.length ∧ (∀ d ∈ cs, GoodC V b d) ∧ Calls Tryz.prog 6 #[.agg #[.int .u8 u, .slice A l.length c], .int .i64 (a : Int), .int .i64 (b : Int)] w fun e w' => Below w.heap.size w w' ∧ ∃ X c', e = .returned (.agg #[.int .i64 (V : Int), .slice X cs.length c']) ∧ cs.length ≤ c' ∧ Kd.C kForm w' X cs.length cs := by
  obtain ⟨k, V, cs, h1, h2, h3, h4⟩ := raw_formula u hu l a b ha hb hl hs
  refine ⟨V, cs, h2, h3, h4, (bradawllaw02_Raw_Formula.calls k u A c l a b V cs w hr hc h1).mono ?_⟩
  rintro e w' ⟨v, rfl, hS, hb⟩
  obtain ⟨X, c', rfl, h5, h6⟩ := Kd.S_reads hS
  exact ⟨hb, X, c', rfl, h5, h6⟩
theorem same_any (v v' : Int) (A B : Option Addr) (c d : Nat) (x y : List (List Int)) (w : World) (hx : Kd.C kForm w A x.length x) (hc : x.length ≤ c) (hy : Kd.C kForm w B y.length y) (hd : y.length ≤ d) (hl : x.length ≤ 140737488355328) (hs : ∀ r ∈ x, r.length ≤ 140737488355328) :
    Calls Tryz.prog 11 #[.agg #[.int .i64 v, .slice A x.length c], .agg #[.int .i64 v', .slice B y.length d]] w (Said w (.bool (decide (v = v' ∧ x = y)))) := by
  obtain ⟨k, h⟩ := same_ok v v' x y hl hs
  exact bradawllaw02_Same.calls k v A c x v' B d y _ w hx hc hy hd h
theorem good_formR {V a b : Nat} {cs : List (List Int)} (hV : V ≤ a) (ha : a ≤ 100000) (hn : cs.length ≤ 1000) (hb : b ≤ 1000) (h : ∀ d ∈ cs, GoodC V b d) : FormR V cs := by
  refine ⟨by omega, by omega, ?_, fun d hd => (h d hd).1⟩
  have : ∀ (xs : List (List Int)), (∀ d ∈ xs, d.length ≤ b) → (xs.map List.length).sum ≤ xs.length * b := by
    intro xs
    induction xs with
    | nil => intro _; simp
    | cons d r ih =>
      intro h2
      have h3 := ih (fun x hx => h2 x (by simp [hx]))
      have h4 := h2 d (by simp)
      simp only [List.map_cons, List.sum_cons, List.length_cons, Nat.add_mul, Nat.one_mul]
      omega
  have h1 := this cs (fun d hd => (h d hd).2)
  have h2 : cs.length * b ≤ 1000 * 1000 := Nat.mul_le_mul hn hb
  omega
end Go.Proofs.YtdbdilajjmijaaaGreatDoor
