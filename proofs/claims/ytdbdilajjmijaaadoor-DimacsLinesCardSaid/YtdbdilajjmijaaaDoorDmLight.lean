import Derived.Test.YtdbdilajjmijaaaDoorDmForm
import Derived.Test.YtdbdilajjmijaaaDoorDmFit
namespace Go.Proofs.YtdbdilajjmijaaaDoor
open Go Go.RowKit Go.Proofs.YtdbdilajjmijaaaDoorW.PrintWords Go.Proofs.YtdbdilajjmijaaaDoorW.PrintLast Go.Proofs.YtdbdilajjmijaaaDoorW.PrintMore PDimacsBack

/-! Light, Formula, Same: contracts. -/
abbrev kRaw : Kd (List Int) := Kd.slice 61 (Kd.int .i16)
def lightN (K : Nat) : Nat → List (List Int) → Bool
  | _, [] => true
  | n, c :: r => if 10 * K < n + (1 + c.length) then false else lightN K (n + (1 + c.length)) r
def lightB (K : Nat) (l : List (List Int)) : Bool := lightN K 0 l && decide (l.length ≤ K)
theorem lightN_sum (K : Nat) : ∀ (l : List (List Int)) (n : Nat), n ≤ 10 * K → lightN K n l = true → n + (l.map fun c => 1 + c.length).sum ≤ 10 * K
  | [], n, h, _ => by simpa using h
  | c :: r, n, h, h2 => by
    simp only [lightN] at h2
    split at h2
    · cases h2
    · have := lightN_sum K r (n + (1 + c.length)) (by omega) h2
      simp only [List.map_cons, List.sum_cons]
      omega
theorem lightB_spec {K : Nat} {l : List (List Int)} (h : lightB K l = true) : l.length ≤ K ∧ (l.map fun c => 1 + c.length).sum ≤ 10 * K := by
  unfold lightB at h
  simp only [Bool.and_eq_true, decide_eq_true_eq] at h
  refine ⟨h.2, ?_⟩
  have := lightN_sum K l 0 (Nat.zero_le _) h.1
  omega
theorem at_raw {w : World} {A : Option Addr} {n : Nat} {cs : List (List Int)} (h : Kd.C kRaw w A n cs) (j : Nat) (hj : j < n) : ∃ ad A1 c1, A = some ad ∧ w.cell? (ad.add j) = some (.slice A1 (nth cs [] j).length c1) ∧ (nth cs [] j).length ≤ c1 ∧ Kd.C (Kd.int .i16) w A1 (nth cs [] j).length (nth cs [] j) := by
  obtain ⟨ad, A1, c1, h1, h2, h3, h4⟩ := at_L4 h (j : Int) (by omega) (by omega)
  exact ⟨ad, A1, c1, h1, h2, h3, h4⟩

set_option maxRecDepth 100000 in
set_option maxHeartbeats 4000000 in
theorem light_any (u : Int) (A : Option Addr) (c : Nat) (l : List (List Int)) (K : Nat) (w : World) (hr : Kd.C kRaw w A l.length l) (hK : K ≤ 1000) (hl : l.length ≤ 140737488355328) (hs : ∀ r ∈ l, r.length ≤ 140737488355328) :
    Calls Tryd.prog 9 #[.agg #[.int .u8 u, .slice A l.length c], .int .i64 (K : Int)] w (Said w (.bool (lightB K l))) := by
  have hu := Tryd.underlying24
  have HR := Aside0.mk hr
  have HS := Aside0.mk hs
  have HL := Aside0.mk (show lightN K 0 (l.drop 0) = lightN K 0 l from rfl)
  obtain ⟨B, hB⟩ : ∃ B, lightB K l = B := ⟨_, rfl⟩
  have HB1 := Aside0.mk (show (lightN K 0 l && decide (l.length ≤ K)) = B from hB)
  rw [hB]
  clear hr hs hB
  generalize lightN K 0 l = LN at *
  go_enter Tryd.func9, Tryd.ntmps9
  have HX := Aside0.mk (show (w.alloc (.cells #[.int .u8 u, .slice A l.length c] 24)).cell? ⟨w.heap.size, 1, none⟩ = some (.slice A l.length c) from (blk_cell (heap_alloc_new w _) 1).trans rfl)
  go_wp2
  have HB := Aside0.mk ((Below.refl w.heap.size w).alloc (Nat.le_refl _) (.cells #[.int .u8 u, .slice A l.length c] 24))
  go_loopg [11, 5] l.length (fun gk v11 v5 w' => ∃ (j n : Nat), v11 = .int .i64 (j : Int) ∧ j + gk = l.length ∧ v5 = .int .i64 (n : Int) ∧ n ≤ 10 * K ∧ Aside0 (lightN K n (l.drop j) = LN) ∧ Aside0 (Below w.heap.size w w') ∧ Aside0 (w'.cell? ⟨w.heap.size, 1, none⟩ = some (.slice A l.length c)))
  case atStart => exact ⟨0, 0, rfl, by omega, rfl, by omega, HL, HB, HX⟩
  case round =>
    clear HL HB HX
    obtain ⟨j, n, rfl, hj, rfl, hn, HL, HB, HX⟩ := hrel
    by_cases hjl : j < l.length
    · obtain ⟨ad, A1, c1, rfl, hx, hl1, hi1⟩ := at_raw HR.out j hjl
      replace hx := (HB.out.cell (World.block_lt_of_cell? w _ hx)).trans hx
      have hm := HS.out _ (nth_mem hjl [])
      have hd := HL.out
      rw [drop_nth hjl []] at hd
      simp only [lightN] at hd
      have HD := Aside0.mk hd
      have q1 : ((j : Int) < (l.length : Int)) = True := eq_true (by omega)
      have q2 : (0 ≤ (j : Int)) = True := eq_true (by omega)
      clear hi1 hd
      generalize (nth l [] j).length = m at *
      by_cases hbig : 10 * K < n + (1 + m)
      · have q3 : (10 * (K : Int) < (n : Int) + (1 + (m : Int))) = True := eq_true (by omega)
        have hb : B = false := by rw [← HB1.out, ← HD.out, if_pos hbig]; rfl
        subst hb
        clear HD HL HB1
        go_wp2
        go_ret
        exact ⟨rfl, HB.out⟩
      · have q3 : (10 * (K : Int) < (n : Int) + (1 + (m : Int))) = False := eq_false (by omega)
        have hd := HD.out
        rw [if_neg hbig] at hd
        have HD2 := Aside0.mk hd
        clear HD HL hd
        go_wp2
        go_roundg (l.length - (j + 1))
        case measure => omega
        case rel => exact ⟨j + 1, n + (1 + m), by go_num, by omega, by go_num, by omega, HD2, HB, HX⟩
    · have q1 : ((j : Int) < (l.length : Int)) = False := eq_false (by omega)
      have hd := HL.out
      rw [List.drop_of_length_le (by omega)] at hd
      have hb : B = decide (l.length ≤ K) := by rw [← HB1.out, ← hd]; simp [lightN]
      subst hb
      have hxx := HX.out
      clear HL HB1 hd
      by_cases hk : l.length ≤ K
      · go_wp2
        go_ret
        exact ⟨by simp [hk], HB.out⟩
      · have qk : ((l.length : Int) ≤ (K : Int)) = False := eq_false (by omega)
        go_wp2
        go_ret
        exact ⟨by simp [hk], HB.out⟩

/-- What a formula's call leaves: one that may be. -/
theorem formula_any (u : Int) (hu : 0 ≤ u ∧ u ≤ 255) (A : Option Addr) (c : Nat) (l : List (List Int)) (a b : Nat) (ha : a ≤ 1000) (hb : b ≤ 1000) (w : World) (hr : Kd.C kRaw w A l.length l) (hc : l.length ≤ c) (hl : l.length ≤ 100000) (hs : ∀ r ∈ l, r.length ≤ 140737488355328) :
    ∃ (V : Nat) (cs : List (List Int)), V ≤ a ∧ cs.length = l.length ∧ (∀ d ∈ cs, GoodC V b d) ∧ Calls Tryd.prog 10 #[.agg #[.int .u8 u, .slice A l.length c], .int .i64 (a : Int), .int .i64 (b : Int)] w fun e w' => Below w.heap.size w w' ∧ ∃ X c', e = .returned (.agg #[.int .i64 (V : Int), .slice X cs.length c']) ∧ cs.length ≤ c' ∧ Kd.C kForm w' X cs.length cs := by
  obtain ⟨k, V, cs, h1, h2, h3, h4⟩ := raw_formula u hu l a b ha hb hl hs
  refine ⟨V, cs, h2, h3, h4, (bradawllaw02_Raw_Formula.calls k u A c l a b V cs w hr hc h1).mono ?_⟩
  rintro e w' ⟨v, rfl, hS, hb⟩
  obtain ⟨X, c', rfl, h5, h6⟩ := Kd.S_reads hS
  exact ⟨hb, X, c', rfl, h5, h6⟩
theorem same_any (v v' : Int) (A B : Option Addr) (c d : Nat) (x y : List (List Int)) (w : World) (hx : Kd.C kForm w A x.length x) (hc : x.length ≤ c) (hy : Kd.C kForm w B y.length y) (hd : y.length ≤ d) (hl : x.length ≤ 140737488355328) (hs : ∀ r ∈ x, r.length ≤ 140737488355328) :
    Calls Tryd.prog 14 #[.agg #[.int .i64 v, .slice A x.length c], .agg #[.int .i64 v', .slice B y.length d]] w (Said w (.bool (decide (v = v' ∧ x = y)))) := by
  obtain ⟨k, h⟩ := same_ok v v' x y hl hs
  exact bradawllaw02_Same.calls k v A c x v' B d y _ w hx hc hy hd h
theorem good_formR {V a b : Nat} {cs : List (List Int)} (hV : V ≤ a) (ha : a ≤ 100000) (hn : cs.length ≤ 1000) (hb : b ≤ 1000) (h : ∀ d ∈ cs, GoodC V b d) : FormR V cs := by
  refine ⟨by omega, by omega, ?_, fun d hd => (h d hd).1⟩
  have : ∀ (xs : List (List Int)), (∀ d ∈ xs, d.length ≤ b) → (xs.map List.length).sum ≤ xs.length * b := by
    intro xs
    induction xs with
    | nil => intro _; simp
    | cons d r ih =>
      intro h2
      have h3 := ih (fun x hx => h2 x (by simp [hx]))
      have h4 := h2 d (by simp)
      simp only [List.map_cons, List.sum_cons, List.length_cons, Nat.add_mul, Nat.one_mul]
      omega
  have h1 := this cs (fun d hd => (h d hd).2)
  have h2 : cs.length * b ≤ 1000 * 1000 := Nat.mul_le_mul hn hb
  omega
end Go.Proofs.YtdbdilajjmijaaaDoor
