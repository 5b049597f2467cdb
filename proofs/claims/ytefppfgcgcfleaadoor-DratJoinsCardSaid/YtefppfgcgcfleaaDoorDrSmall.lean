import Derived.Test.YtefppfgcgcfleaaDoorDrApp
import Derived.Test.YtefppfgcgcfleaaDoorDrArgs
import Derived.Test.YtefppfgcgcfleaaDoorPDratJoinsx6
namespace Go.Proofs.YtefppfgcgcfleaaDoor
open Go Go.RowKit Go.ChangeShapes Go.WideShapes Go.Deep Go.Proofs.YtefppfgcgcfleaaDoorW.PrintWords Go.Proofs.YtefppfgcgcfleaaDoorW.PrintLast Go.Proofs.YtefppfgcgcfleaaDoorW.PrintMore PDratJoins

/-! The proofs that the laws' arguments stand for: not too many steps; each number's literal. -/
def weight (l : List S57) : Nat := (l.map fun s => 1 + s.f1.length).sum
theorem weight_snoc {l : List S57} {j : Nat} (h : j < l.length) : weight (l.take (j + 1)) = weight (l.take j) + (1 + (nth l z57 j).f1.length) := by
  unfold weight
  rw [take_snoc h z57, List.map_append, List.sum_append]
  simp
theorem weight_mem {l : List S57} {s : S57} (h : s ∈ l) : 1 + s.f1.length ≤ weight l := by
  unfold weight
  induction l with
  | nil => simp at h
  | cons a l ih =>
    simp only [List.map_cons, List.sum_cons]
    rcases List.mem_cons.1 h with rfl | h
    · omega
    · have := ih h; omega
theorem weight_len (l : List S57) : l.length ≤ weight l := by
  unfold weight
  induction l with
  | nil => simp
  | cons a l ih => simp only [List.map_cons, List.sum_cons, List.length_cons]; omega

theorem small_loop (l : List S57) (hl : l.length ≤ 4611686018427387904) (hb : ∀ s ∈ l, s.f1.length ≤ 140737488351232) :
    ∀ (d i : Nat), i + d = l.length → weight (l.take i) ≤ 400 → ∃ K b, (∀ k, bradawllaw06_small.l0 (k + K) (weight (l.take i) : Int) l (l.length : Int) (i : Int) = some b) ∧ (b = true → weight l ≤ 400)
  | 0, i, hi, hw => ⟨1, true, fun k => by rw [bradawllaw06_small.l0, if_neg (by omega)], fun _ => by rwa [List.take_of_length_le (by omega)] at hw⟩
  | d + 1, i, hi, hw => by
    have hil : i < l.length := by omega
    have hn := hb _ (nth_mem hil z57)
    have e : wrap64 ((weight (l.take i) : Int) + wrap64 (1 + ((rd_T57 l (i : Int)).f1.length : Int))) = ((weight (l.take (i + 1)) : Nat) : Int) := by
      rw [weight_snoc hil, show rd_T57 l (i : Int) = nth l z57 i from rfl]
      unfold wrap64; omega
    by_cases h : weight (l.take (i + 1)) ≤ 400
    · obtain ⟨K, b, h1, h2⟩ := small_loop l hl hb d (i + 1) (by omega) h
      refine ⟨K + 1, b, fun k => ?_, h2⟩
      rw [show k + (K + 1) = (k + K) + 1 by omega, bradawllaw06_small.l0, if_pos (by omega), if_pos (by omega), if_pos (by omega), e, if_neg (by omega), wrap_one hil hl]
      exact h1 k
    · refine ⟨1, false, fun k => ?_, fun h => by simp at h⟩
      rw [bradawllaw06_small.l0, if_pos (by omega), if_pos (by omega), if_pos (by omega), e, if_pos (by omega)]

theorem small_any (l : List S57) (hl : l.length ≤ 4611686018427387904) (hb : ∀ s ∈ l, s.f1.length ≤ 140737488351232) :
    ∃ b, (b = true → weight l ≤ 400) ∧ ∀ A c w, Kd.C k57 w A l.length l → l.length ≤ c → Calls Tryd.prog 17 #[.slice A l.length c] w (Said w (.bool b)) := by
  obtain ⟨K, b, h1, h2⟩ := small_loop l hl hb l.length 0 (by omega) (by simp [weight])
  refine ⟨b, h2, fun A c w hr hc => ?_⟩
  exact bradawllaw06_small.calls K A c l b w hr hc (by have := h1 0; rw [Nat.zero_add] at this; exact this)

/-! proof -/
noncomputable def litN (n : Int) : Int := (PDratJoins.bradawllaw01_Lit.f (wrap64 n)).getD 0
theorem litN_some (n : Int) : PDratJoins.bradawllaw01_Lit.f (wrap64 n) = some (litN n) := by
  obtain ⟨l, e, _⟩ := lit_right (wrap64 n)
  unfold litN; rw [e]; rfl
theorem litN_right (n : Int) : RightL (litN n) := by
  obtain ⟨l, e, h⟩ := lit_right (wrap64 n)
  unfold litN; rw [e]; exact h
noncomputable def stepN (s : S57) : S36 := ⟨s.f0, s.f1.map litN⟩
theorem proof_inner (acc : List S36) (ha : acc.length < 4398046511104) (l : List S57) (i : Nat) (hil : i < l.length) (hl : l.length ≤ 4611686018427387904) (s : S57) (hs : s.f1.length ≤ 400) :
    ∀ (d j : Nat), j + d = s.f1.length → ∀ k, bradawllaw06_proof.l1 (k + d + 1) acc l (l.length : Int) (i : Int) s.f1 (s.f1.length : Int) (j : Int) s.f0 ((s.f1.take j).map litN) = bradawllaw06_proof.l0 k (acc ++ [stepN s]) l (l.length : Int) ((i + 1 : Nat) : Int)
  | 0, j, hj, k => by
    rw [Nat.add_zero, bradawllaw06_proof.l1, if_neg (by omega), if_pos ha, wrap_one hil hl, List.take_of_length_le (by omega)]
    rfl
  | d + 1, j, hj, k => by
    have hjl : j < s.f1.length := by omega
    rw [show k + (d + 1) + 1 = (k + d + 1) + 1 by omega, bradawllaw06_proof.l1, if_pos (by omega), if_pos (by omega), if_pos (by omega)]
    rw [show rd s.f1 (j : Int) = nth s.f1 0 j from rfl, litN_some, Option.bind_some, if_pos (by simp; omega), wrap_one hjl (by omega)]
    have := proof_inner acc ha l i hil hl s hs d (j + 1) (by omega) k
    rw [take_snoc hjl 0, List.map_append] at this
    exact this
theorem proof_outer (l : List S57) (hw : weight l ≤ 400) : ∀ (d i : Nat), i + d = l.length → ∃ K, ∀ k, bradawllaw06_proof.l0 (k + K) ((l.take i).map stepN) l (l.length : Int) (i : Int) = some (l.map stepN)
  | 0, i, hi => ⟨1, fun k => by rw [bradawllaw06_proof.l0, if_neg (by omega), List.take_of_length_le (by omega)]⟩
  | d + 1, i, hi => by
    have hil : i < l.length := by omega
    have hll := weight_len l
    have hs := weight_mem (nth_mem hil z57)
    obtain ⟨K, hK⟩ := proof_outer l hw d (i + 1) (by omega)
    refine ⟨K + (nth l z57 i).f1.length + 2, fun k => ?_⟩
    rw [show k + (K + (nth l z57 i).f1.length + 2) = ((k + K) + (nth l z57 i).f1.length + 1) + 1 by omega, bradawllaw06_proof.l0, if_pos (by omega), if_pos (by omega), if_pos (by omega)]
    have := proof_inner ((l.take i).map stepN) (by simp; omega) l i hil (by omega) (nth l z57 i) (by omega) (nth l z57 i).f1.length 0 (by omega) (k + K)
    rw [show rd_T57 l (i : Int) = nth l z57 i from rfl]
    refine this.trans ?_
    have h2 := hK k
    rw [take_snoc hil z57, List.map_append] at h2
    exact h2
noncomputable def proofP (l : List S57) : List PStep := (l.map stepN).map toP
theorem proofP_right (l : List S57) : RightP (proofP l) := by
  intro s hs x hx
  unfold proofP at hs
  rw [List.map_map] at hs
  obtain ⟨t, _, rfl⟩ := List.mem_map.1 hs
  simp only [Function.comp_apply, stepN, toP, List.mem_map] at hx
  obtain ⟨y, _, rfl⟩ := hx
  exact litN_right y
def wt (ps : List PStep) : Nat := (ps.map fun s => 1 + s.lits.length).sum
theorem proofP_wt (l : List S57) : wt (proofP l) = weight l := by
  unfold wt weight proofP
  rw [List.map_map, List.map_map]
  congr 1
  refine List.map_congr_left fun s _ => ?_
  simp [stepN, toP]
theorem proof_any (l : List S57) (hw : weight l ≤ 400) (A : Option Addr) (c : Nat) (w : World) (hr : Kd.C k57 w A l.length l) (hc : l.length ≤ c) :
    Calls Tryd.prog 18 #[.slice A l.length c] w (fun e w' => Below w.heap.size w w' ∧ ∃ A2 c2, e = .returned (.slice A2 (proofP l).length c2) ∧ (proofP l).length ≤ c2 ∧ PC w' A2 (proofP l)) := by
  obtain ⟨K, hK⟩ := proof_outer l hw l.length 0 (by omega)
  have h0 := hK 0
  rw [Nat.zero_add] at h0
  refine (bradawllaw06_proof.calls K A c l (l.map stepN) w hr hc h0).mono ?_
  rintro e w' ⟨v, rfl, hv, hb⟩
  obtain ⟨A2, c2, rfl, h2, h3⟩ := Kd.S_reads hv
  refine ⟨hb, A2, c2, ?_, ?_, PC.of h3⟩
  · unfold proofP; rw [List.length_map, List.length_map, List.length_map]
  · unfold proofP; rw [List.length_map]; exact h2

/-! Bounds of the texts. -/
theorem litsT_len8 {ls : List Int} (h : ∀ x ∈ ls, RightL x) : (litsT ls).length ≤ 8 * ls.length := by
  unfold litsT
  induction ls with
  | nil => simp
  | cons a ls ih =>
    have h1 := itoa_len (h a (by simp))
    have h2 := ih (fun x hx => h x (by simp [hx]))
    simp only [List.flatMap_cons, List.length_append, List.length_cons, List.length_nil] at h2 ⊢
    omega
theorem text_len {ps : List PStep} (h : RightP ps) : (textT ps).length ≤ 8 * wt ps := by
  unfold textT wt
  induction ps with
  | nil => simp
  | cons a ps ih =>
    have h1 : (lineT a ++ [10]).length ≤ 8 * (1 + a.lits.length) := by
      have := litsT_len8 (fun x hx => h a (by simp) x hx)
      unfold lineT
      split <;> (simp only [List.length_append, List.length_cons, List.length_nil] ; omega)
    have h2 := ih (fun s hs => h s (by simp [hs]))
    simp only [List.length_append, List.length_cons, List.length_nil] at h1
    simp only [List.flatMap_cons, List.length_append, List.map_cons, List.sum_cons, List.length_cons, List.length_nil]
    omega
theorem litB_len {ls : List Int} (h : ∀ x ∈ ls, RightL x) : (ls.flatMap fun l => encN (numL l)).length ≤ 3 * ls.length := by
  induction ls with
  | nil => simp
  | cons a ls ih =>
    have h1 : (encN (numL a)).length ≤ 3 := by
      rw [encN_length (numL_bd (h a (by simp))).2]
      split
      · omega
      · split <;> omega
    have h2 := ih (fun x hx => h x (by simp [hx]))
    simp only [List.flatMap_cons, List.length_append, List.length_cons]
    omega
theorem bin_len {ps : List PStep} (h : RightP ps) : (binT ps).length ≤ 3 * wt ps := by
  unfold binT wt
  induction ps with
  | nil => simp
  | cons a ps ih =>
    have h1 : (stepB a).length ≤ 3 * (1 + a.lits.length) := by
      have := litB_len (fun x hx => h a (by simp) x hx)
      unfold stepB
      simp only [List.length_append, List.length_cons, List.length_nil, List.cons_append]
      omega
    have h2 := ih (fun s hs => h s (by simp [hs]))
    simp only [List.flatMap_cons, List.length_append, List.map_cons, List.sum_cons]
    omega
theorem wt_append (p q : List PStep) : wt (p ++ q) = wt p + wt q := by unfold wt; rw [List.map_append, List.sum_append]
theorem wt_len (ps : List PStep) : ps.length ≤ wt ps := by
  unfold wt
  induction ps with
  | nil => simp
  | cons a l ih => simp only [List.map_cons, List.sum_cons, List.length_cons]; omega
theorem wt_mem {ps : List PStep} {s : PStep} (h : s ∈ ps) : 1 + s.lits.length ≤ wt ps := by
  unfold wt
  induction ps with
  | nil => simp at h
  | cons a l ih =>
    simp only [List.map_cons, List.sum_cons]
    rcases List.mem_cons.1 h with rfl | h
    · omega
    · have := ih h; omega
theorem few_of {ps : List PStep} (h : wt ps ≤ 1000) : Few ps := ⟨by have := wt_len ps; omega, fun s hs => by have := wt_mem hs; omega⟩

end Go.Proofs.YtefppfgcgcfleaaDoor
