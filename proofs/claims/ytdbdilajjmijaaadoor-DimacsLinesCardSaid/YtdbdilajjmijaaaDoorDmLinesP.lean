import Derived.Test.YtdbdilajjmijaaaDoorDmGood
namespace Go.Proofs.YtdbdilajjmijaaaDoor
open Go

/-! A wrong word behind a formula: no program in sight. -/
theorem linesR_append : ∀ (a b : List (List UInt8)) (i : Nat) (r : Rdr), linesR i r (a ++ b) = match linesR i r a with
    | .inl e => .inl e
    | .inr r' => linesR (i + a.length) r' b
  | [], b, i, r => by simp [linesR]
  | x :: a, b, i, r => by
    rw [List.cons_append, linesR, linesR]
    split
    · rw [linesR_append a b (i + 1) (lineR r x).2, List.length_cons, show i + 1 + a.length = i + (a.length + 1) by omega]
    · rfl
theorem lines_clauses (v : Nat) (hv : v ≤ 100000) (cs : List (List Int)) (i : Nat) (r : Rdr) (h1 : r.vars = v) (h2 : r.head = true) (h3 : r.opn = []) (h4 : r.cls.length + cs.length = r.n) (h5 : ∀ c ∈ cs, ∀ l ∈ c, l ≠ 0 ∧ max l (-l) ≤ v) (h6 : r.lits + (cs.map List.length).sum ≤ 1000000) :
    linesR i r (cs.map clauseT) = .inr { r with cls := r.cls ++ cs, lits := r.lits + (cs.map List.length).sum } := by
  have h := lines_form v hv cs i r h1 h2 h3 h4 h5 h6
  rw [linesR_append] at h
  cases hl : linesR i r (cs.map clauseT) with
  | inl e => rw [hl] at h; cases h
  | inr r' =>
    rw [hl] at h
    simp only [linesR, lineR, wordsB_nil, if_true] at h
    exact h
def remark : List UInt8 := [99, 32, 114, 101, 109, 97, 114, 107]
def remT (n : Nat) : List UInt8 := (List.replicate n (remark ++ [10])).flatten
theorem remT_succ (n : Nat) : remT (n + 1) = remT n ++ (remark ++ [10]) := by
  unfold remT
  rw [List.replicate_succ', List.flatten_append]; simp
theorem cut_rem (x : List UInt8) : ∀ n, cutC 10 (remT n ++ x) = List.replicate n remark ++ cutC 10 x
  | 0 => rfl
  | n + 1 => by
    unfold remT
    rw [List.replicate_succ, List.flatten_cons, List.append_assoc, List.append_assoc, List.singleton_append, cutC_append 10 _ _ (by decide), List.replicate_succ, List.cons_append]
    congr 1
    exact cut_rem x n
theorem lines_rem (r : Rdr) : ∀ (n i : Nat), linesR i r (List.replicate n remark) = .inr r
  | 0, _ => rfl
  | n + 1, i => by
    have h : lineR r remark = (0, r) := by
      have e : wordsB remark = [[99], [114, 101, 109, 97, 114, 107]] := by rfl
      unfold lineR
      rw [e]
      rfl
    rw [List.replicate_succ, linesR, h]
    simp only [if_true]
    exact lines_rem r n (i + 1)
theorem cut_clauses (cs : List (List Int)) (x : List UInt8) : cutC 10 ((cs.flatMap fun c => clauseT c ++ [10]) ++ x) = cs.map clauseT ++ cutC 10 x := by
  induction cs with
  | nil => rfl
  | cons c cs ih =>
    rw [List.flatMap_cons, List.append_assoc, List.append_assoc, List.singleton_append, cutC_append 10 _ _ (clauseT_nl c), ih]; rfl
def badW (q : Nat) : List UInt8 := match q with
  | 0 => [120]
  | 1 => [49, 32, 120]
  | 2 => [48, 48]
  | _ => [48]
def badC (q : Nat) : Nat := match q with
  | 0 => 3
  | 1 => 5
  | 2 => 3
  | _ => 5
theorem bad_line (r : Rdr) (h : r.cls.length = r.n) (hh : r.head = true) (q : Nat) (hq : q < 4) : (lineR r (badW q)).1 = badC q := by
  match q, hq with
  | 0, _ =>
    have e : wordsB (badW 0) = [[120]] := by rfl
    have e2 : litW [120] = none := by rfl
    unfold lineR
    rw [e]
    simp only
    rw [if_neg (by decide), if_pos hh]
    simp [wordsR, wordR, e2, badC]
  | 1, _ =>
    have e : wordsB (badW 1) = [[49], [120]] := by rfl
    have e2 : litW [49] = some 1 := by rfl
    unfold lineR
    rw [e]
    simp only
    rw [if_neg (by decide), if_pos hh]
    simp [wordsR, wordR, e2, badC, h]
  | 2, _ =>
    have e : wordsB (badW 2) = [[48, 48]] := by rfl
    have e2 : litW [48, 48] = none := by rfl
    unfold lineR
    rw [e]
    simp only
    rw [if_neg (by decide), if_pos hh]
    simp [wordsR, wordR, e2, badC]
  | 3, _ =>
    have e : wordsB (badW 3) = [[48]] := by rfl
    have e2 : litW [48] = some 0 := by rfl
    unfold lineR
    rw [e]
    simp only
    rw [if_neg (by decide), if_pos hh]
    simp [wordsR, wordR, e2, badC, h]
theorem parse_bad {V : Nat} {cs : List (List Int)} (h : FormR V cs) (n q : Nat) (hq : q < 4) : parseR (remT n ++ formT V cs ++ badW q ++ [10, 10]) = .inl (n + 1 + cs.length + 1, badC q) := by
  obtain ⟨h1, h2, h3, h4⟩ := h
  have hbn : (10 : UInt8) ∉ badW q := by
    match q, hq with
    | 0, _ => decide
    | 1, _ => decide
    | 2, _ => decide
    | 3, _ => decide
  have hc : cutC 10 (remT n ++ formT V cs ++ badW q ++ [10, 10]) = List.replicate n remark ++ ([headT V cs.length] ++ (cs.map clauseT ++ (badW q :: cutC 10 [10]))) := by
    rw [List.append_assoc, List.append_assoc, cut_rem]
    congr 1
    unfold formT
    rw [List.append_assoc, List.append_assoc, List.singleton_append, cutC_append 10 _ _ (headT_nl _ _), List.singleton_append]
    congr 1
    rw [cut_clauses]
    congr 1
    exact cutC_append 10 _ _ hbn
  unfold parseR
  rw [hc, linesR_append, lines_rem]
  simp only
  rw [linesR_append]
  have hhead : linesR (0 + (List.replicate n remark).length) rdr0 [headT V cs.length] = .inr { rdr0 with vars := V, n := cs.length, head := true } := by
    rw [linesR, line_head V cs.length h1 h2]
    simp [linesR]
  rw [hhead]
  simp only
  rw [linesR_append, lines_clauses V h1 cs _ _ rfl rfl rfl (by simp [rdr0]) h4 (by simp only [rdr0]; omega)]
  simp only
  have hb := bad_line { rdr0 with vars := V, n := cs.length, head := true, cls := rdr0.cls ++ cs, lits := rdr0.lits + (cs.map List.length).sum } (by simp [rdr0]) rfl q hq
  rw [linesR, if_neg (by rw [hb]; match q, hq with
    | 0, _ => decide
    | 1, _ => decide
    | 2, _ => decide
    | 3, _ => decide), hb]
  simp only [List.length_replicate, List.length_map, List.length_cons, List.length_nil, Nat.zero_add]
end Go.Proofs.YtdbdilajjmijaaaDoor
