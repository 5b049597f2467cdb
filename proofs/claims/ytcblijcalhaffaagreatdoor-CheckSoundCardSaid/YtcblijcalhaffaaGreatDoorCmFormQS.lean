import Derived.Test.YtcblijcalhaffaaGreatDoorPCheckSoundx5QS
import Derived.Test.YtcblijcalhaffaaGreatDoorCmCheckQS
import Derived.Test.YtcblijcalhaffaaGreatDoorWSizedQS
import Derived.Deep.SlicePairs
import Derived.OpenShut
import Derived.Test.YtcblijcalhaffaaGreatDoorRows
import Derived.Test.YtcblijcalhaffaaGreatDoorTie
import Derived.ProofKit
import Derived.ShutString
import Derived.LaidMore
import Derived.Lay
import Derived.Lib.LaidU8
import Derived.Stop.LaidErr
import Derived.Stop.Joined
import Derived.MakeChecks
import Derived.SevenTiedAt
import Derived.Shelf.Vars
import Derived.HandedShaped
import Derived.SizedLaws
namespace Go.Proofs.YtcblijcalhaffaaGreatDoor
open Go Go.RowKit Go.Proofs.YtcblijcalhaffaaGreatDoorW.PrintWords Go.Proofs.YtcblijcalhaffaaGreatDoorW.PrintLast Go.Proofs.YtcblijcalhaffaaGreatDoorW.PrintMore PCheckSound

/-! A formula out of raw numbers, numbers and lists alone. -/
def GoodC (V W : Nat) (d : List Int) : Prop := (∀ l ∈ d, l ≠ 0 ∧ max l (-l) ≤ (V : Int)) ∧ d.length ≤ W
theorem goodC_snoc {V W : Nat} {d : List Int} {l : Int} (h : GoodC V W d) (h1 : l ≠ 0) (h2 : max l (-l) ≤ (V : Int)) (h3 : d.length ≠ W) : GoodC V W (d ++ [l]) := by
  refine ⟨fun x hx => ?_, ?_⟩
  · rcases List.mem_append.1 hx with hx | hx
    · exact h.1 x hx
    · simp only [List.mem_singleton] at hx; subst hx; exact ⟨h1, h2⟩
  · have := h.2; simp; omega
theorem lit_val (x : Int) (V : Nat) (hV : 0 < V) (hV2 : V ≤ 100000) : 1 ≤ wrap64 (1 + Int.tmod (wrap64 (IntKind.u16.wrap x / 2)) V) ∧ wrap64 (1 + Int.tmod (wrap64 (IntKind.u16.wrap x / 2)) V) ≤ V := by
  have h0 : 0 ≤ IntKind.u16.wrap x ∧ IntKind.u16.wrap x ≤ 65535 := by rw [IntKind.wrap_u16]; omega
  generalize IntKind.u16.wrap x = y at *
  have e1 : wrap64 (y / 2) = y / 2 := by unfold wrap64; omega
  rw [e1]
  have h1 : 0 ≤ Int.tmod (y / 2) V := Int.tmod_nonneg _ (by omega)
  have h2 : Int.tmod (y / 2) V < V := Int.tmod_lt_of_pos _ (by omega)
  have e2 : wrap64 (1 + Int.tmod (y / 2) V) = 1 + Int.tmod (y / 2) V := by unfold wrap64; omega
  rw [e2]
  omega

section
variable (V W : Nat) (l : List (List Int)) (n x24 : Int) (row : List Int) (acc : List (List Int))
theorem rf_l1 (hV : V ≤ 100000) (hW : W ≤ 100000) (hr : row.length ≤ 140737488355328) (hacc : acc.length ≤ 100000) : ∀ (m i : Nat) (d : List Int), i + m = row.length → GoodC V W d →
    ∃ d', GoodC V W d' ∧ ∀ r, Ev (fun k => bradawllaw02_Raw_Formula.l0 k W l n (wrap64 (x24 + 1)) V (acc ++ [d'])) r → Ev (fun k => bradawllaw02_Raw_Formula.l1 k W d l n x24 row row.length i V acc) r
  | 0, i, d, hi, hd => ⟨d, hd, fun r h => Ev.step (fun k => by
      simp only [bradawllaw02_Raw_Formula.l1]
      rw [if_neg (by omega), if_pos (by omega)]) h⟩
  | m + 1, i, d, hi, hd => by
    have hlen := hd.2
    by_cases hb : V = 0 ∨ d.length = W
    · refine ⟨d, hd, fun r h => ?_⟩
      have h2 : Ev (fun k => bradawllaw02_Raw_Formula.j2 k W d (rd row i) l n x24 row row.length i true V acc) r := Ev.step (fun k => by
        simp only [bradawllaw02_Raw_Formula.j2]
        rw [if_pos trivial, if_pos (by omega)]) h
      refine Ev.step (fun k => ?_) h2
      simp only [bradawllaw02_Raw_Formula.l1]
      rw [if_pos (by omega), if_pos (by omega), if_pos (by omega)]
      by_cases h0 : V = 0
      · rw [if_pos (by omega)]
      · rw [if_neg (by omega)]
        have : ((d.length : Int) == (W : Int)) = true := by simp; omega
        rw [this]
    · have hv0 : 0 < V := by omega
      have hval := lit_val (rd row i) V hv0 hV
      have hwi : wrap64 ((i : Int) + 1) = ((i + 1 : Nat) : Int) := by unfold wrap64; omega
      have hf : ((d.length : Int) == (W : Int)) = false := by simp; omega
      by_cases hbit : Go.bits .and .i16 (rd row i) 1 = 1
      · generalize hx : wrap64 (1 + Int.tmod (wrap64 (IntKind.u16.wrap (rd row i) / 2)) V) = x at hval
        have hneg : wrap64 (-x) = -x := by unfold wrap64; omega
        obtain ⟨d', h1, h2⟩ := rf_l1 hV hW hr hacc m (i + 1) (d ++ [-x]) (by omega) (goodC_snoc hd (by omega) (by omega) (by omega))
        refine ⟨d', h1, fun r h => ?_⟩
        have h3 := h2 r h
        have h4 : Ev (fun k => bradawllaw02_Raw_Formula.j2 k W d (rd row i) l n x24 row row.length i false V acc) r := Ev.step (fun k => by
          simp only [bradawllaw02_Raw_Formula.j2]
          rw [if_neg (by simp), if_neg (by omega), if_pos hbit, if_pos (by omega), hx, hneg, hwi]) h3
        refine Ev.step (fun k => ?_) h4
        simp only [bradawllaw02_Raw_Formula.l1]
        rw [if_pos (by omega), if_pos (by omega), if_pos (by omega), if_neg (by omega), hf]
      · generalize hx : wrap64 (1 + Int.tmod (wrap64 (IntKind.u16.wrap (rd row i) / 2)) V) = x at hval
        obtain ⟨d', h1, h2⟩ := rf_l1 hV hW hr hacc m (i + 1) (d ++ [x]) (by omega) (goodC_snoc hd (by omega) (by omega) (by omega))
        refine ⟨d', h1, fun r h => ?_⟩
        have h3 := h2 r h
        have h4 : Ev (fun k => bradawllaw02_Raw_Formula.j2 k W d (rd row i) l n x24 row row.length i false V acc) r := Ev.step (fun k => by
          simp only [bradawllaw02_Raw_Formula.j2]
          rw [if_neg (by simp), if_neg (by omega), if_neg hbit, if_pos (by omega), hx, hwi]) h3
        refine Ev.step (fun k => ?_) h4
        simp only [bradawllaw02_Raw_Formula.l1]
        rw [if_pos (by omega), if_pos (by omega), if_pos (by omega), if_neg (by omega), hf]
end
theorem rf_l0 (V W : Nat) (l : List (List Int)) (hV : V ≤ 100000) (hW : W ≤ 100000) (hl : l.length ≤ 100000) (hr : ∀ r ∈ l, r.length ≤ 140737488355328) : ∀ (m i : Nat) (acc : List (List Int)), i + m = l.length → acc.length = i → (∀ d ∈ acc, GoodC V W d) →
    ∃ cs : List (List Int), cs.length = l.length ∧ (∀ d ∈ cs, GoodC V W d) ∧ Ev (fun k => bradawllaw02_Raw_Formula.l0 k W l l.length i V acc) ((V : Int), cs)
  | 0, i, acc, hi, ha, hg => ⟨acc, by omega, hg, Ev.step (fun k => by
      simp only [bradawllaw02_Raw_Formula.l0]
      rw [if_neg (by omega)]) (Ev.now _)⟩
  | m + 1, i, acc, hi, ha, hg => by
    have hrow : (rd_L6 l (i : Int)).length ≤ 140737488355328 := by
      unfold rd_L6
      rw [Int.toNat_natCast, List.getD_eq_getElem?_getD, List.getElem?_eq_getElem (by omega)]
      exact hr _ (List.getElem_mem _)
    obtain ⟨d', h1, h2⟩ := rf_l1 V W l l.length i (rd_L6 l i) acc hV hW hrow (by omega) (rd_L6 l i).length 0 [] (by omega) ⟨by simp, by simp⟩
    obtain ⟨cs, h3, h4, h5⟩ := rf_l0 V W l hV hW hl hr m (i + 1) (acc ++ [d']) (by omega) (by simp; omega) (fun d hd => by
      rcases List.mem_append.1 hd with hd | hd
      · exact hg d hd
      · simp only [List.mem_singleton] at hd; subst hd; exact h1)
    have hwi : wrap64 ((i : Int) + 1) = ((i + 1 : Nat) : Int) := by unfold wrap64; omega
    rw [hwi] at h2
    refine ⟨cs, h3, h4, Ev.step (fun k => ?_) (h2 _ h5)⟩
    simp only [bradawllaw02_Raw_Formula.l0]
    rw [if_pos (by omega), if_pos (by omega), if_pos (by omega)]
    rfl
/-- A formula of at most A variables, W literals a clause. -/
theorem raw_formula (u : Int) (hu : 0 ≤ u ∧ u ≤ 255) (l : List (List Int)) (A W : Nat) (hA : A ≤ 1000) (hW : W ≤ 1000) (hl : l.length ≤ 100000) (hr : ∀ r ∈ l, r.length ≤ 140737488355328) :
    ∃ (k V : Nat) (cs : List (List Int)), bradawllaw02_Raw_Formula.f k u l A W = some ((V : Int), cs) ∧ V ≤ A ∧ cs.length = l.length ∧ ∀ d ∈ cs, GoodC V W d := by
  have e1 : wrap64 ((A : Int) + 1) = (A : Int) + 1 := by unfold wrap64; omega
  have e2 : wrap64 u = u := by unfold wrap64; omega
  have h1 : 0 ≤ Int.tmod u ((A : Int) + 1) := Int.tmod_nonneg _ hu.1
  have h2 : Int.tmod u ((A : Int) + 1) < (A : Int) + 1 := Int.tmod_lt_of_pos _ (by omega)
  obtain ⟨V, hV⟩ : ∃ V : Nat, Int.tmod u ((A : Int) + 1) = V := ⟨(Int.tmod u ((A : Int) + 1)).toNat, by omega⟩
  obtain ⟨cs, h3, h4, h5⟩ := rf_l0 V W l (by omega) (by omega) hl hr l.length 0 [] (by omega) rfl (by simp)
  obtain ⟨k, h6⟩ := h5.rounds
  refine ⟨k, V, cs, ?_, by omega, h3, h4⟩
  unfold bradawllaw02_Raw_Formula.f
  rw [e1, e2, if_neg (by omega), hV]
  exact h6

abbrev kRaw : Kd (List Int) := Kd.slice 68 (Kd.int .i16)
def lightN (K : Nat) : Nat → List (List Int) → Bool
  | _, [] => true
  | n, c :: r => if 10 * K < n + (1 + c.length) then false else lightN K (n + (1 + c.length)) r
def lightB (K : Nat) (l : List (List Int)) : Bool := lightN K 0 l && decide (l.length ≤ K)
theorem lightN_sum (K : Nat) : ∀ (l : List (List Int)) (n : Nat), n ≤ 10 * K → lightN K n l = true → n + (l.map fun c => 1 + c.length).sum ≤ 10 * K
  | [], n, h, _ => by simpa using h
  | c :: r, n, h, h2 => by
    simp only [lightN] at h2
    split at h2
    · cases h2
    · have := lightN_sum K r (n + (1 + c.length)) (by omega) h2
      simp only [List.map_cons, List.sum_cons]
      omega
theorem lightB_spec {K : Nat} {l : List (List Int)} (h : lightB K l = true) : l.length ≤ K ∧ (l.map fun c => 1 + c.length).sum ≤ 10 * K := by
  unfold lightB at h
  simp only [Bool.and_eq_true, decide_eq_true_eq] at h
  refine ⟨h.2, ?_⟩
  have := lightN_sum K l 0 (Nat.zero_le _) h.1
  omega
theorem at_raw {w : World} {A : Option Addr} {n : Nat} {cs : List (List Int)} (h : Kd.C kRaw w A n cs) (j : Nat) (hj : j < n) : ∃ ad A1 c1, A = some ad ∧ w.cell? (ad.add j) = some (.slice A1 (nth cs [] j).length c1) ∧ (nth cs [] j).length ≤ c1 ∧ Kd.C (Kd.int .i16) w A1 (nth cs [] j).length (nth cs [] j) := by
  obtain ⟨ad, A1, c1, h1, h2, h3, h4⟩ := at_L6 h (j : Int) (by omega) (by omega)
  exact ⟨ad, A1, c1, h1, h2, h3, h4⟩

set_option maxRecDepth 100000 in
set_option maxHeartbeats 4000000 in
theorem light_any (u : Int) (A : Option Addr) (c : Nat) (l : List (List Int)) (K : Nat) (w : World) (hr : Kd.C kRaw w A l.length l) (hK : K ≤ 1000) (hl : l.length ≤ 140737488355328) (hs : ∀ r ∈ l, r.length ≤ 140737488355328) :
    Calls Tryz.prog 10 #[.agg #[.int .u8 u, .slice A l.length c], .int .i64 (K : Int)] w (Said w (.bool (lightB K l))) := by
  have hu := Tryz.underlying24
  have HR := Aside0.mk hr
  have HS := Aside0.mk hs
  have HL := Aside0.mk (show lightN K 0 (l.drop 0) = lightN K 0 l from rfl)
  obtain ⟨B, hB⟩ : ∃ B, lightB K l = B := ⟨_, rfl⟩
  have HB1 := Aside0.mk (show (lightN K 0 l && decide (l.length ≤ K)) = B from hB)
  rw [hB]
  clear hr hs hB
  generalize lightN K 0 l = LN at *
  go_enter Tryz.func10, Tryz.ntmps10
  have HX := Aside0.mk (show (w.alloc (.cells #[.int .u8 u, .slice A l.length c] 24)).cell? ⟨w.heap.size, 1, none⟩ = some (.slice A l.length c) from (blk_cell (heap_alloc_new w _) 1).trans rfl)
  go_wp2
  have HB := Aside0.mk ((Below.refl w.heap.size w).alloc (Nat.le_refl _) (.cells #[.int .u8 u, .slice A l.length c] 24))
  go_loopg [11, 5] l.length (fun gk v11 v5 w' => ∃ (j n : Nat), v11 = .int .i64 (j : Int) ∧ j + gk = l.length ∧ v5 = .int .i64 (n : Int) ∧ n ≤ 10 * K ∧ Aside0 (lightN K n (l.drop j) = LN) ∧ Aside0 (Below w.heap.size w w') ∧ Aside0 (w'.cell? ⟨w.heap.size, 1, none⟩ = some (.slice A l.length c)))
  case atStart => exact ⟨0, 0, rfl, by omega, rfl, by omega, HL, HB, HX⟩
  case round =>
    clear HL HB HX
    obtain ⟨j, n, rfl, hj, rfl, hn, HL, HB, HX⟩ := hrel
    by_cases hjl : j < l.length
    · obtain ⟨ad, A1, c1, rfl, hx, hl1, hi1⟩ := at_raw HR.out j hjl
      replace hx := (HB.out.cell (World.block_lt_of_cell? w _ hx)).trans hx
      have hm := HS.out _ (nth_mem hjl [])
      have hd := HL.out
      rw [drop_nth hjl []] at hd
      simp only [lightN] at hd
      have HD := Aside0.mk hd
      have q1 : ((j : Int) < (l.length : Int)) = True := eq_true (by omega)
      have q2 : (0 ≤ (j : Int)) = True := eq_true (by omega)
      clear hi1 hd
      generalize (nth l [] j).length = m at *
      by_cases hbig : 10 * K < n + (1 + m)
      · have q3 : (10 * (K : Int) < (n : Int) + (1 + (m : Int))) = True := eq_true (by omega)
        have hb : B = false := by rw [← HB1.out, ← HD.out, if_pos hbig]; rfl
        subst hb
        clear HD HL HB1
        go_wp2
        go_ret
        exact ⟨rfl, HB.out⟩
      · have q3 : (10 * (K : Int) < (n : Int) + (1 + (m : Int))) = False := eq_false (by omega)
        have hd := HD.out
        rw [if_neg hbig] at hd
        have HD2 := Aside0.mk hd
        clear HD HL hd
        go_wp2
        go_roundg (l.length - (j + 1))
        case measure => omega
        case rel => exact ⟨j + 1, n + (1 + m), by go_num, by omega, by go_num, by omega, HD2, HB, HX⟩
    · have q1 : ((j : Int) < (l.length : Int)) = False := eq_false (by omega)
      have hd := HL.out
      rw [List.drop_of_length_le (by omega)] at hd
      have hb : B = decide (l.length ≤ K) := by rw [← HB1.out, ← hd]; simp [lightN]
      subst hb
      have hxx := HX.out
      clear HL HB1 hd
      by_cases hk : l.length ≤ K
      · go_wp2
        go_ret
        exact ⟨by simp [hk], HB.out⟩
      · have qk : ((l.length : Int) ≤ (K : Int)) = False := eq_false (by omega)
        go_wp2
        go_ret
        exact ⟨by simp [hk], HB.out⟩

theorem good_right {V W : Nat} {d : List Int} (h : GoodC V W d) : ∀ x ∈ d, rightV V x = true := fun x hx => rightV_iff.2 (by have := h.1 x hx; omega)
/-- A law's formula. -/
theorem formula_made (u : Int) (hu : 0 ≤ u ∧ u ≤ 255) (A : Option Addr) (c : Nat) (l : List (List Int)) (a b : Nat) (ha : a ≤ 1000) (hb : b ≤ 1000) (hc : l.length ≤ c) (hl : l.length ≤ 100000) (hs : ∀ r ∈ l, r.length ≤ 140737488355328) :
    ∃ (V : Nat) (cs : List (List Int)), V ≤ a ∧ cs.length = l.length ∧ (∀ d ∈ cs, d.length ≤ b) ∧ AllR V cs ∧ ∀ w, Kd.C kRaw w A l.length l → Calls Tryz.prog 11 #[.agg #[.int .u8 u, .slice A l.length c], .int .i64 (a : Int), .int .i64 (b : Int)] w fun e w' => Below w.heap.size w w' ∧ ∃ X c', e = .returned (.agg #[.int .i64 (V : Int), .slice X cs.length c']) ∧ cs.length ≤ c' ∧ FormI w' V X cs := by
  obtain ⟨k, V, cs, h1, h2, h3, h4⟩ := raw_formula u hu l a b ha hb hl hs
  refine ⟨V, cs, h2, h3, fun d hd => (h4 d hd).2, fun d hd => good_right (h4 d hd), fun w hr => (bradawllaw02_Raw_Formula.calls k u A c l a b V cs w hr hc h1).mono ?_⟩
  rintro e w' ⟨v, rfl, hS, hb'⟩
  obtain ⟨X, c', rfl, h5, h6⟩ := Kd.S_reads hS
  exact ⟨hb', X, c', rfl, h5, ⟨by omega, h6, fun d hd => good_right (h4 d hd), fun d hd => by have := (h4 d hd).2; omega, by omega⟩⟩
end Go.Proofs.YtcblijcalhaffaaGreatDoor
namespace Go.Proofs.YtcblijcalhaffaaGreatDoor
open Go Go.RowKit Go.ChangeShapes Go.WideShapes Go.Deep Go.Proofs.YtcblijcalhaffaaGreatDoorW.PrintWords Go.Proofs.YtcblijcalhaffaaGreatDoorW.PrintLast Go.Proofs.YtcblijcalhaffaaGreatDoorW.PrintMore PCheckSound

/-! The laws' arguments, opened. -/
theorem list_of {α : Type} {p : Nat → α → Prop} : ∀ n : Nat, (∀ i, i < n → ∃ x, p i x) → ∃ l : List α, l.length = n ∧ ∀ i x, l[i]? = some x → p i x
  | 0, _ => ⟨[], rfl, fun i x h => by simp at h⟩
  | n + 1, h => by
    obtain ⟨l, hl, hp⟩ := list_of n (fun i hi => h i (by omega))
    obtain ⟨x, hx⟩ := h n (by omega)
    refine ⟨l ++ [x], by simp [hl], fun i y hy => ?_⟩
    rcases Nat.lt_trichotomy i n with hi | rfl | hi
    · rw [List.getElem?_append_left (by omega)] at hy
      exact hp i y hy
    · rw [List.getElem?_append_right (by omega)] at hy
      have e : y = x := by simpa [hl] using hy.symm
      rw [e]; exact hx
    · rw [List.getElem?_eq_none (by simp; omega)] at hy
      simp at hy

section
variable {H : Type} {enc : TypeId × Value → H} {P : Program} {W : World} {held : Bool}
theorem nums_of {t e : TypeId} {k : IntKind} {a : Option Addr} {len cap : Nat} {d : DataW H} {ps : List MemPlace} (ht : P.underlying t = some (.slice e)) (he : P.underlying e = some (.int k)) (hc : P.cellsOf e = 1)
    (h : DataW.Trod enc P W 0 (fun _ => true) held t (.slice a len cap) d ps) : ∃ l : List Int, len = l.length ∧ l.length ≤ cap ∧ Kd.C (Kd.int k) W a l.length l ∧ ∀ x ∈ l, (Lit.int k x).wf = true := by
  obtain ⟨fuel, hf⟩ := h
  have hrow : (a = none ∧ len = 0 ∧ cap = 0 ∧ ([] : List Int) = []) ∨ ∃ zs : List Int, ∃ x, a = some x ∧ len ≤ cap ∧ cap ≤ maxLen ∧ zs.length = cap ∧ (∀ i, i < zs.length → W.cell? (x.add i) = some (.int k (zs.getD i 0))) ∧ ∀ n ∈ zs, (Lit.int k n).wf = true := by
    rcases open_ints ht he hc hf with ⟨hcs, _⟩ | ⟨x, l, c, zs, hcs, _, hl, hm, hz, _, hcell, hwz⟩
    · simp [Value.cells] at hcs
      obtain ⟨rfl, rfl, rfl⟩ := hcs
      exact .inl ⟨rfl, rfl, rfl, rfl⟩
    · simp [Value.cells] at hcs
      obtain ⟨rfl, rfl, rfl⟩ := hcs
      exact .inr ⟨zs, _, rfl, hl, hm, by simpa using hz, hcell, hwz⟩
  rcases hrow with h0 | ⟨zs, x, h0⟩
  · obtain ⟨l, e, h1, h2, h3, h4⟩ := ReadsInt.ofRowC (k := k) (w := W) (.inl h0)
    exact ⟨l, e, h4, Kd.C_of_reads (d := (0 : Int)) (h1 := fun _ => rfl) h1, h3⟩
  · obtain ⟨l, e, h1, h2, h3, h4⟩ := ReadsInt.ofRowC (k := k) (w := W) (.inr ⟨x, h0⟩)
    exact ⟨l, e, h4, Kd.C_of_reads (d := (0 : Int)) (h1 := fun _ => rfl) h1, h3⟩
end

theorem u8_wf {x : Int} (h : (Lit.int .u8 x).wf = true) : 0 ≤ x ∧ x < 256 := by
  have := bounds_u8 h
  omega
theorem bytes_of {H : Type} {enc : TypeId × Value → H} {W : World} {held : Bool} {a : Option Addr} {len cap : Nat} {d : DataW H} {ps : List MemPlace} (ht : Tryz.prog.underlying 53 = some (.slice 5)) (he : Tryz.prog.underlying 5 = some (.int .u8)) (hc : Tryz.prog.cellsOf 5 = 1)
    (h : DataW.Trod enc Tryz.prog W 0 (fun _ => true) held 53 (.slice a len cap) d ps) : ∃ b : List UInt8, len = b.length ∧ b.length ≤ cap ∧ Rd W a b := by
  obtain ⟨l, e, h1, h2, h3⟩ := nums_of ht he hc h
  have e2 : bts (l.map fun x => UInt8.ofNat x.toNat) = l := by
    unfold bts
    rw [List.map_map]
    refine (List.map_congr_left fun x hx => ?_).trans (List.map_id l)
    have := u8_wf (h3 x hx)
    simp
    omega
  refine ⟨l.map fun x => UInt8.ofNat x.toNat, by simpa using e, by simpa using h1, ?_⟩
  unfold Rd
  rw [e2, List.length_map]
  exact h2

theorem weightsAll_mem {H : Type} {P : Program} {e : TypeId} {y : DataW H} {n : Nat} : ∀ {l : List (DataW H)}, y ∈ l → n ∈ y.weights P e → n ∈ DataW.weightsAll P e l
  | [], h, _ => by simp at h
  | a :: l, h, hn => by
    simp only [DataW.weightsAll, List.mem_append]
    rcases List.mem_cons.1 h with rfl | h
    · exact .inl hn
    · exact .inr (weightsAll_mem h hn)
theorem kRaw_mk {w : World} {r : List Int} {A : Option Addr} {c : Nat} (h1 : r.length ≤ c) (h2 : Kd.C (Kd.int .i16) w A r.length r) : kRaw.K w r [.slice A r.length c] := ⟨A, c, rfl, h1, h2⟩
/-- What a formula is made of. -/
theorem raws_of {H : Type} {enc : TypeId × Value → H} {W : World} {held : Bool} {a : Option Addr} {len cap : Nat} {d : DataW H} {ps : List MemPlace} {ts : List TypeId} {ds : List (DataW H)} {jj : Nat}
    (hsz : (DataW.weightsEach Tryz.prog ts ds).all (· ≤ reachBytes) = true) (ht : ts[jj]? = some 22) (hd : ds[jj]? = some d)
    (h : DataW.Trod enc Tryz.prog W 0 (fun _ => true) held 22 (.slice a len cap) d ps) :
    ∃ l : List (List Int), len = l.length ∧ l.length ≤ cap ∧ Kd.C kRaw W a l.length l ∧ l.length ≤ 140737488355328 ∧ ∀ r ∈ l, r.length ≤ 140737488355328 := by
  obtain ⟨fuel, hf⟩ := h
  rcases open_slice1 Tryz.underlying22 (by kernel_rfl) hf with ⟨hcs, _⟩ | ⟨x, l, c, m, n, V, D, Pl, hcs, _, hl, hm, hmm, hxd, hi⟩
  · simp [Value.cells] at hcs
    obtain ⟨rfl, rfl, rfl⟩ := hcs
    exact ⟨[], rfl, Nat.le_refl _, ⟨rfl, by simp, fun h => absurd h (by simp)⟩, by simp, fun s hs => by simp at hs⟩
  · simp [Value.cells] at hcs
    obtain ⟨rfl, rfl, rfl⟩ := hcs
    have hd0 := congrArg Prod.fst hxd
    simp only at hd0
    obtain ⟨q, hq, hp⟩ := list_of (p := fun i (r : List Int) => (∃ A1 c1, W.cell? (x.add i) = some (.slice A1 r.length c1) ∧ r.length ≤ c1 ∧ Kd.C (Kd.int .i16) W A1 r.length r) ∧ r.length ≤ 140737488355328) len (fun i hil => by
      obtain ⟨g1, t1⟩ := hi i (by simp at hmm; omega)
      have hs : ∃ A1 n1 c1, V i = .slice A1 n1 c1 := by
        rcases DataW.trod_slice Tryz.underlying25 t1 with ⟨h0, _⟩ | ⟨A1, n1, c1, _, _, _, _, h0, _⟩
        · exact ⟨none, 0, 0, by simpa using h0⟩
        · exact ⟨some A1, n1, c1, by simpa using h0⟩
      obtain ⟨A1, n1, c1, hs⟩ := hs
      rw [hs] at t1 g1
      have hin : (DataW.weightsEach Tryz.prog [25] [D i]).all (· ≤ reachBytes) = true := by
        refine List.all_eq_true.2 fun n hn => List.all_eq_true.1 hsz n (DataW.weights_mem_each ht hd n ?_)
        rw [hd0]
        have hw1 : n ∈ (D i).weights Tryz.prog 25 := by
          simpa [DataW.weightsEach] using hn
        simp only [DataW.weights, Tryz.underlying22, List.mem_cons, List.mem_append]
        exact .inr (.inl (weightsAll_mem (List.mem_map.2 ⟨i, List.mem_range.2 hil, rfl⟩) hw1))
      have hz4' := sized_ints hin (j := 0) rfl rfl Tryz.underlying25 Tryz.underlying68 (by kernel_rfl) (B := 2) (by kernel_rfl) ⟨_, t1⟩
      obtain ⟨z, e, z1, z2, z3⟩ := nums_of Tryz.underlying25 Tryz.underlying68 (by kernel_rfl) ⟨_, t1⟩
      subst e
      exact ⟨z, ⟨A1, c1, g1, z1, z2⟩, by omega⟩)
    have hq2 : len ≤ 140737488355328 := by
      rw [hd0] at hd
      have h9 := sized_slice hsz ht hd Tryz.underlying22
      rw [show Tryz.prog.bytesOf 25 = 24 by kernel_rfl, List.length_map, List.length_range, show reachBytes = 140737488351232 from rfl] at h9
      omega
    refine ⟨q, hq.symm, by omega, ⟨rfl, by rw [hq]; exact Nat.le_trans (Nat.le_trans hl hm) (by decide), fun _ => ⟨x, rfl, fun j s hj => ?_⟩⟩, by omega, fun s hs => ?_⟩
    · obtain ⟨⟨A1, c1, g1, z1, z2⟩, _⟩ := hp j s hj
      refine ⟨[.slice A1 s.length c1], rfl, kRaw_mk z1 z2, fun i u hu => ?_⟩
      match i, hu with
      | 0, hu => show W.cell? (x.add (j * 1 + 0)) = _; rw [Nat.mul_one, Nat.add_zero, g1]; simpa using hu
      | i + 1, hu => simp at hu
    · obtain ⟨j, hj⟩ := List.getElem?_of_mem hs
      exact (hp j s hj).2
theorem raw_of {H : Type} {enc : TypeId × Value → H} {W : World} {held : Bool} {cs : Array Value} {d : DataW H} {ps : List MemPlace} {ts : List TypeId} {ds : List (DataW H)} {jj : Nat}
    (hsz : (DataW.weightsEach Tryz.prog ts ds).all (· ≤ reachBytes) = true) (ht : ts[jj]? = some 24) (hd : ds[jj]? = some d)
    (h : DataW.Trod enc Tryz.prog W 0 (fun _ => true) held 24 (.agg cs) d ps) :
    ∃ (u : Int) (A : Option Addr) (c : Nat) (l : List (List Int)), cs = #[.int .u8 u, .slice A l.length c] ∧ (0 ≤ u ∧ u ≤ 255) ∧ l.length ≤ c ∧ Kd.C kRaw W A l.length l ∧ l.length ≤ 140737488355328 ∧ ∀ r ∈ l, r.length ≤ 140737488355328 := by
  obtain ⟨fuel, hf⟩ := h
  obtain ⟨y0, y1, n, hx, hlen, h0, h1⟩ := trod_struct2 Tryz.underlying24 hf
  have hc2 : Tryz.prog.cellsOf 24 = 2 := by kernel_rfl
  have hcu : Tryz.prog.cellsOf 5 = 1 := by kernel_rfl
  have hcr : Tryz.prog.cellsOf 22 = 1 := by kernel_rfl
  rw [hc2] at hlen
  obtain ⟨c0, c1, hcs⟩ : ∃ c0 c1, cs.toList = [c0, c1] := by
    have hl : cs.toList.length = 2 := by simpa [Value.cells] using hlen
    match hq : cs.toList, hl with
    | [c0, c1], _ => exact ⟨c0, c1, rfl⟩
  have hcs2 : (Value.agg cs).cells.toList = [c0, c1] := hcs
  rw [hcs2] at h0 h1
  simp only at h0 h1
  rw [hcu] at h0
  rw [hcr] at h1
  have h0 : DataW.trod enc Tryz.prog W 0 (fun _ => true) held n 5 [c0] = some y0 := h0
  have h1 : DataW.trod enc Tryz.prog W 0 (fun _ => true) held n 22 [c1] = some y1 := h1
  obtain ⟨u, hu, _, hwf⟩ := DataW.trod_int Tryz.underlying5 h0
  simp only [List.cons.injEq, and_true] at hu
  have hub := bounds_u8 hwf
  have hs : ∃ A1 n1 k1, c1 = .slice A1 n1 k1 := by
    rcases DataW.trod_slice Tryz.underlying22 h1 with ⟨h0, _⟩ | ⟨A1, n1, k1, _, _, _, _, h0, _⟩
    · exact ⟨none, 0, 0, by simpa using h0⟩
    · exact ⟨some A1, n1, k1, by simpa using h0⟩
  obtain ⟨A1, n1, k1, rfl⟩ := hs
  have hd0 := congrArg Prod.fst hx
  simp only at hd0
  have hin : (DataW.weightsEach Tryz.prog [5, 22] [y0.1, y1.1]).all (· ≤ reachBytes) = true := by
    refine List.all_eq_true.2 fun n hn => List.all_eq_true.1 hsz n (DataW.weights_mem_each ht hd n ?_)
    rw [hd0]
    simp only [DataW.weights, Tryz.underlying24]
    exact hn
  obtain ⟨l, e, h2, h3, h4, h5⟩ := raws_of hin (jj := 1) rfl rfl ⟨n, h1⟩
  subst e hu
  refine ⟨u, A1, k1, l, ?_, by omega, h2, h3, h4, h5⟩
  apply Array.ext'
  exact hcs
/-- A slice of structs of three one-cell fields, opened. -/
theorem open_slice_triples {H : Type} {enc : TypeId × Value → H} {P : Program} {w : World} {base : Nat} {spare : Nat → Bool} {held : Bool} {t e : TypeId} {f0 f1 f2 : Field} {fuel : Nat} {cs : List Value} {x : DataW H × List MemPlace} (ht : P.underlying t = some (.slice e)) (he : P.underlying e = some (.struct #[f0, f1, f2]))
    (ce : P.cellsOf e = 3) (o0 : f0.offset = 0) (o1 : f1.offset = 1) (o2 : f2.offset = 2) (c0 : P.cellsOf f0.type = 1) (c1 : P.cellsOf f1.type = 1) (c2 : P.cellsOf f2.type = 1)
    (h : DataW.trod enc P w base spare held fuel t cs = some x) :
    cs = [.slice none 0 0] ∨
    ∃ (a : Addr) (len cap m n : Nat) (V0 V1 V2 : Nat → Value) (D0 D1 D2 : Nat → DataW H) (P0 P1 P2 : Nat → List MemPlace), cs = [.slice (some a) len cap] ∧ len ≤ cap ∧ cap ≤ maxLen ∧ m = (if spare a.block then cap else len) ∧
      x.1 = .slice ((List.range len).map fun i => .agg [D0 i, D1 i, D2 i]) ((List.range (m - len)).map fun j => .agg [D0 (len + j), D1 (len + j), D2 (len + j)]) ∧
      ∀ i, i < m → w.cell? (a.add (i * 3)) = some (V0 i) ∧ w.cell? (a.add (i * 3 + 1)) = some (V1 i) ∧ w.cell? (a.add (i * 3 + 2)) = some (V2 i) ∧
        DataW.trod enc P w base spare held n f0.type [V0 i] = some (D0 i, P0 i) ∧ DataW.trod enc P w base spare held n f1.type [V1 i] = some (D1 i, P1 i) ∧ DataW.trod enc P w base spare held n f2.type [V2 i] = some (D2 i, P2 i) := by
  rcases open_slice ht h with h0 | ⟨a, len, cap, m, n, D, Pl, rfl, hb, hl, hm, hmm, rfl, hx⟩
  · exact Or.inl h0.1
  right
  have hlm : len ≤ m := by rw [hmm]; split <;> omega
  have each : ∀ i, i < m → ∃ q : (Value × Value × Value) × (DataW H × List MemPlace) × (DataW H × List MemPlace) × (DataW H × List MemPlace), w.cell? (a.add (i * 3)) = some q.1.1 ∧ w.cell? (a.add (i * 3 + 1)) = some q.1.2.1 ∧ w.cell? (a.add (i * 3 + 2)) = some q.1.2.2 ∧
      DataW.trod enc P w base spare held (n - 1) f0.type [q.1.1] = some q.2.1 ∧ DataW.trod enc P w base spare held (n - 1) f1.type [q.1.2.1] = some q.2.2.1 ∧ DataW.trod enc P w base spare held (n - 1) f2.type [q.1.2.2] = some q.2.2.2 ∧ D i = .agg [q.2.1.1, q.2.2.1.1, q.2.2.2.1] := by
    intro i hi
    obtain ⟨cs', h1, h2⟩ := hx i hi
    rw [ce] at h1
    obtain ⟨_, hlen, hcell⟩ := World.cells?_some h1
    obtain ⟨xs, k, hk, hxy, _, hxl, hf⟩ := DataW.trod_struct he h2
    have hk' : k = n - 1 := by omega
    subst hk'
    match xs, hxl, cs', hlen with
    | [y0, y1, y2], _, [v0, v1, v2], _ =>
      have g0 := hf 0 f0 rfl
      have g1 := hf 1 f1 rfl
      have g2 := hf 2 f2 rfl
      simp [o0, o1, o2, c0, c1, c2] at g0 g1 g2
      have e0 := hcell 0 (by omega)
      have e1 := hcell 1 (by omega)
      have e2 := hcell 2 (by omega)
      rw [Deep.add_add] at e0 e1 e2
      simp only [Prod.mk.injEq] at hxy
      exact ⟨((v0, v1, v2), y0, y1, y2), by simpa using e0, by simpa using e1, by simpa using e2, g0, g1, g2, by simpa using hxy.1⟩
  obtain ⟨q, hq⟩ := choose_lt each
  refine ⟨a, len, cap, m, n - 1, fun i => (q i).1.1, fun i => (q i).1.2.1, fun i => (q i).1.2.2, fun i => (q i).2.1.1, fun i => (q i).2.2.1.1, fun i => (q i).2.2.2.1, fun i => (q i).2.1.2, fun i => (q i).2.2.1.2, fun i => (q i).2.2.2.2, rfl, hl, hm, hmm, ?_,
    fun i hi => ⟨(hq i hi).1, (hq i hi).2.1, (hq i hi).2.2.1, (hq i hi).2.2.2.1, (hq i hi).2.2.2.2.1, (hq i hi).2.2.2.2.2.1⟩⟩
  show DataW.slice _ _ = _
  rw [List.map_congr_left (fun i hi => (hq i (by have := List.mem_range.1 hi; omega)).2.2.2.2.2.2), List.map_congr_left (fun j hj => (hq (len + j) (by have := List.mem_range.1 hj; omega)).2.2.2.2.2.2)]
/-- The steps that a law is given. -/
theorem steps_of {H : Type} {enc : TypeId × Value → H} {W : World} {held : Bool} {a : Option Addr} {len cap : Nat} {d : DataW H} {ps : List MemPlace} {ts : List TypeId} {ds : List (DataW H)} {jj : Nat}
    (hsz : (DataW.weightsEach Tryz.prog ts ds).all (· ≤ reachBytes) = true) (ht : ts[jj]? = some 48) (hd : ds[jj]? = some d)
    (h : DataW.Trod enc Tryz.prog W 0 (fun _ => true) held 48 (.slice a len cap) d ps) :
    ∃ l : List S86, len = l.length ∧ l.length ≤ cap ∧ Kd.C k86 W a l.length l ∧ l.length ≤ 140737488351232 ∧ (∀ s ∈ l, s.f1.length ≤ 140737488351232) ∧ ∀ s ∈ l, 0 ≤ s.f2 ∧ s.f2 ≤ 255 := by
  obtain ⟨fuel, hf⟩ := h
  rcases open_slice_triples Tryz.underlying48 Tryz.underlying86 (by kernel_rfl) rfl rfl rfl (by kernel_rfl) (by kernel_rfl) (by kernel_rfl) hf with hcs | ⟨x, l, c, m, n, V0, V1, V2, D0, D1, D2, P0, P1, P2, hcs, hl, hm, hmm, hxd, hi⟩
  · simp [Value.cells] at hcs
    obtain ⟨rfl, rfl, rfl⟩ := hcs
    exact ⟨[], rfl, Nat.le_refl _, ⟨rfl, by simp, fun h => absurd h (by simp)⟩, by simp, fun s hs => by simp at hs, fun s hs => by simp at hs⟩
  · simp [Value.cells] at hcs
    obtain ⟨rfl, rfl, rfl⟩ := hcs
    have hd0 := hxd
    simp only at hd0
    obtain ⟨q, hq, hp⟩ := list_of (p := fun i (s : S86) => (∃ A1 c1, W.cell? (x.add (i * 3)) = some (.bool s.f0) ∧ W.cell? (x.add (i * 3 + 1)) = some (.slice A1 s.f1.length c1) ∧ W.cell? (x.add (i * 3 + 2)) = some (.int .u8 s.f2) ∧ s.f1.length ≤ c1 ∧ Kd.C (Kd.int .i16) W A1 s.f1.length s.f1) ∧ s.f1.length ≤ 140737488351232 ∧ 0 ≤ s.f2 ∧ s.f2 ≤ 255) len (fun i hil => by
      obtain ⟨g0, g1, g2, t0, t1, t2⟩ := hi i (by simp at hmm; omega)
      obtain ⟨b, hb, _⟩ := DataW.trod_bool Tryz.underlying4 t0
      simp only [List.cons.injEq, and_true] at hb
      obtain ⟨u, hu, hwf⟩ := DataW.trod_int Tryz.underlying5 t2
      simp only [List.cons.injEq, and_true] at hu
      have hs : ∃ A1 n1 c1, V1 i = .slice A1 n1 c1 := by
        rcases DataW.trod_slice Tryz.underlying25 t1 with ⟨h0, _⟩ | ⟨A1, n1, c1, _, _, _, _, h0, _⟩
        · exact ⟨none, 0, 0, by simpa using h0⟩
        · exact ⟨some A1, n1, c1, by simpa using h0⟩
      obtain ⟨A1, n1, c1, hs⟩ := hs
      rw [hs] at t1 g1
      have hin : (DataW.weightsEach Tryz.prog [4, 25, 5] [D0 i, D1 i, D2 i]).all (· ≤ reachBytes) = true := by
        refine List.all_eq_true.2 fun n hn => List.all_eq_true.1 hsz n (DataW.weights_mem_each ht hd n ?_)
        rw [hd0]
        have hw1 : n ∈ (DataW.agg [D0 i, D1 i, D2 i]).weights Tryz.prog 86 := by
          simp only [DataW.weights, Tryz.underlying86]
          exact hn
        simp only [DataW.weights, Tryz.underlying48, List.mem_cons, List.mem_append]
        exact .inr (.inl (weightsAll_mem (List.mem_map.2 ⟨i, List.mem_range.2 hil, rfl⟩) hw1))
      have hz4' := sized_ints hin (j := 1) rfl rfl Tryz.underlying25 Tryz.underlying68 (by kernel_rfl) (B := 2) (by kernel_rfl) ⟨_, t1⟩
      obtain ⟨z, e, z1, z2, z3⟩ := nums_of Tryz.underlying25 Tryz.underlying68 (by kernel_rfl) ⟨_, t1⟩
      subst e
      rw [hb] at g0
      rw [hu] at g2
      have hz4 : z.length ≤ 140737488351232 := by omega
      exact ⟨⟨b, z, u⟩, ⟨A1, c1, g0, g1, g2, z1, z2⟩, hz4, by have := u8_wf (x := u) hwf.2; exact ⟨this.1, by dsimp only; omega⟩⟩)
    have hq2 : len ≤ 140737488351232 := by
      rw [hd0] at hd
      have h9 := sized_slice hsz ht hd Tryz.underlying48
      rw [show Tryz.prog.bytesOf 86 = 40 by kernel_rfl, List.length_map, List.length_range, show reachBytes = 140737488351232 from rfl] at h9
      omega
    refine ⟨q, hq.symm, by omega, ⟨rfl, by rw [hq]; exact Nat.le_trans (Nat.le_trans hl hm) (by decide), fun _ => ⟨x, rfl, fun j s hj => ?_⟩⟩, by omega, fun s hs => ?_, fun s hs => ?_⟩
    · obtain ⟨⟨A1, c1, g0, g1, g2, z1, z2⟩, _⟩ := hp j s hj
      refine ⟨[.bool s.f0, .slice A1 s.f1.length c1, .int .u8 s.f2], rfl, k86_mk W s z1 z2, fun i u hu => ?_⟩
      match i, hu with
      | 0, hu => show W.cell? (x.add (j * 3 + 0)) = _; rw [Nat.add_zero, g0]; simpa using hu
      | 1, hu => show W.cell? (x.add (j * 3 + 1)) = _; rw [g1]; simpa using hu
      | 2, hu => show W.cell? (x.add (j * 3 + 2)) = _; rw [g2]; simpa using hu
      | i + 3, hu => simp at hu
    · obtain ⟨j, hj⟩ := List.getElem?_of_mem hs
      exact (hp j s hj).2.1
    · obtain ⟨j, hj⟩ := List.getElem?_of_mem hs
      exact (hp j s hj).2.2
end Go.Proofs.YtcblijcalhaffaaGreatDoor
namespace Go.Proofs.YtcblijcalhaffaaGreatDoor
open Go.ChangeShapes Go.WideShapes Go.ChangeAt Go.RowKit

theorem Tryz.own : ownKnob Tryz.prog.godebug = none := by kernel_rfl
theorem Tryz.laidOut : laidOutB Tryz.prog = true := by kernel_rfl

/-- The wrap over a row that lists variables, the world's shape handed on. -/
theorem handed_shaped {H : Type} {enc : TypeId × Value → H} {a : Assume} {C : Checked} {os : Os} {f : FuncId} {fn : Func} {s : ChangeSpec} {conds : List PathCond} {apart fresh handsOn again : Bool} {X : World → Array Value → Prop}
    (hX : ∀ (w w' : World) (args : Array Value), w.heap = w'.heap → X w args → X w' args)
    (own : ownKnob C.prog.godebug = none) (started : os.Started) (noInit : C.prog.inits.idxOf? f = none) (hfn : C.prog.funcs[f]? = some fn)
    (witness : ∃ (w : World) (tape : Tape) (i : Input), w.os = os ∧ (w.forCall tape i).Shaped C.prog ∧ i.vars = [] ∧ Input.okWide C.prog (w.forCall tape i) .any w.heap.size f i ∧
      ((s.pre enc C.prog fn conds apart (w.forCall tape i).memory i.args ∧ X (w.forCall tape i).memory i.args) ∧ sizedMet enc C.prog fn (OpenSpec.ofChange s) apart (w.forCall tape i).memory i.args) ∧ a.holds C.prog (lone (Frame.enter C.prog f i.args .normal) [] (w.forCall tape i)))
    (contract : ∀ (W : World) (base : Nat) (args : Array Value) (ds gs : List (DataW H)) (before : List MemPlace),
      (∀ (j : Nat) t v, fn.params[j]? = some t → args[j]? = some v → Value.okWide C.prog W .any base t v) →
      DataW.Whole enc C.prog fn.params.toList s.vars apart W args.toList ds gs before →
      conds.all (PathCond.test C.prog ⟨fn.params.toList, ds, s.plain.varTypes C.prog, gs⟩) = true →
      (DataW.weightsEach C.prog (fn.params.toList ++ s.plain.varTypes C.prog) (ds ++ gs)).all (· ≤ reachBytes) = true → X W args → W.ShapedOpen C.prog →
      Calls C.prog f args W fun e W' => ∃ v, e = .returned v ∧ s.post enc C.prog fn apart fresh handsOn again W args v W') :
    ReturnsInHanded a C os f .any (fun w args => (s.pre enc C.prog fn conds apart w args ∧ X w args) ∧ sizedMet enc C.prog fn (OpenSpec.ofChange s) apart w args) (s.post enc C.prog fn apart fresh handsOn again) := by
  refine returnsInHanded_of_calls own started noInit witness ?_
  intro w tape i _ hsh _ hok hpre _
  obtain ⟨_, _, _, fn', hfn', _, _, _, _, hval⟩ := hok
  have e : fn' = fn := Option.some.inj (hfn'.symm.trans hfn)
  subst e
  obtain ⟨⟨⟨ds, gs, before, hw, hc⟩, hx⟩, hz⟩ := hpre
  have hw' := DataW.Whole.of_heap (w' := w.forCall tape i) (by rfl) hw
  refine (contract (w.forCall tape i) w.heap.size i.args ds gs before hval hw' hc (hz.weights hw) (hX _ _ _ (by rfl) hx) hsh).mono fun e W' ⟨v, he, hp⟩ => ?_
  subst he
  exact ChangeSpec.post_blind hp

/-- What the rows list. -/
def laidD : List (String × DataW Unit) := [("math/bits.deBruijn32tab", Rows.laid_math_bits_deBruijn32tab), ("math/bits.deBruijn64tab", Rows.laid_math_bits_deBruijn64tab), ("internal/strconv.uint64pow10", Rows.laid_internal_strconv_uint64pow10), ("unicode/utf8.acceptRanges", Rows.laid_unicode_utf8_acceptRanges), ("strconv.ErrRange", Rows.laid_strconv_ErrRange), ("strconv.ErrSyntax", Rows.laid_strconv_ErrSyntax), ("unicode/utf8.first", Rows.laid_unicode_utf8_first)]

theorem Tryz.gPow : Tryz.prog.globalNamed "internal/strconv.uint64pow10" = some 3 := by kernel_rfl
theorem Tryz.gPowType : (Tryz.prog.globals[3]?).map (·.type) = some 171 := by kernel_rfl
theorem Tryz.gSyn : Tryz.prog.globalNamed "strconv.ErrSyntax" = some 1 := by kernel_rfl
theorem Tryz.gSynType : (Tryz.prog.globals[1]?).map (·.type) = some 100 := by kernel_rfl
theorem Tryz.gRan : Tryz.prog.globalNamed "strconv.ErrRange" = some 2 := by kernel_rfl
theorem Tryz.gRanType : (Tryz.prog.globals[2]?).map (·.type) = some 100 := by kernel_rfl
theorem Tryz.cellsES : Tryz.prog.cellsOf 189 = 1 := by kernel_rfl
theorem Tryz.cellsStr : Tryz.prog.cellsOf 9 = 1 := by kernel_rfl
theorem Tryz.starES : "*" ++ "errors.errorString" = "*errors.errorString" := by decide
theorem Tryz.rowES (u : TypeId) (h : Tryz.prog.typeName? 3 u = some "*errors.errorString") : u = 187 :=
  typeName_ptr_named (nm := "errors.errorString") (by rw [Tryz.starES]; kernel_rfl) (by kernel_rfl) (by decide) u (by rw [Tryz.starES]; exact h)

theorem env_of {W : World} (h0 : laidMetH Tryz.prog laidD W) (hsh : W.ShapedOpen Tryz.prog) : Env W := by
  rw [MakeChecks.laidMetH_plain _ _ _ (by kernel_rfl)] at h0
  have h : laidMet Tryz.prog laidD W := h0
  clear h0
  refine ⟨?_, ?_, ?_, ?_⟩
  · exact Lib.tabIs_of_head (n := 20) (e := 150) (k := .u64) Tryz.gPow Tryz.gPowType Tryz.underlying171 Tryz.underlying150 (by kernel_rfl) (by kernel_rfl) h.tail.tail
  · obtain ⟨a0, s0, hv, _⟩ := laid_sentinel h.tail.tail.tail.tail.tail Tryz.gSyn Tryz.gSynType Tryz.underlying100 Tryz.rowES Tryz.underlying187 Tryz.underlying189 rfl rfl Tryz.underlying9 Tryz.cellsES Tryz.cellsStr
    exact ⟨_, _, hv⟩
  · obtain ⟨a0, s0, hv, _⟩ := laid_sentinel h.tail.tail.tail.tail Tryz.gRan Tryz.gRanType Tryz.underlying100 Tryz.rowES Tryz.underlying187 Tryz.underlying189 rfl rfl Tryz.underlying9 Tryz.cellsES Tryz.cellsStr
    exact ⟨_, _, hv⟩
  · exact cell_of_shapedOpen_int (t := 3) (zero := #[.int .i64 0]) hsh (of_decide_eq_true (by kernel_rfl)) (by kernel_rfl) (by kernel_rfl) (by kernel_rfl) (by kernel_rfl) Tryz.underlying3

end Go.Proofs.YtcblijcalhaffaaGreatDoor
