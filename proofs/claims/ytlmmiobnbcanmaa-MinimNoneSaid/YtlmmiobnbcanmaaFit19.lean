import Derived.Test.YtlmmiobnbcanmaaMinimise
import Derived.Test.YtlmmiobnbcanmaaTrailW
namespace Go.Proofs.Ytlmmiobnbcanmaa
open Go.RowKit

/-- The example's trail, arena and list. -/
def ex19S : TrailS := (((TrailS.new 3).decide' 1).put 2 0).decide' 3
def ex19A : ArM := (⟨[], 0, 0, fun _ => false⟩ : ArM).add [-1, 2] false 0
def ex19L (v : Int) : List Int := if ex19S.reason v = 0 then [-1, 2] else []
def ex19l : List Int := [-3, -1, -2]

theorem ex19_steps : ex19S.steps = [⟨1, 1, -1⟩, ⟨2, 1, 0⟩, ⟨3, 2, -1⟩] := by rfl
theorem ex19_reason (v : Int) : ex19S.reason v = 0 ∨ ex19S.reason v = -1 := by
  unfold TrailS.reason
  cases hk : ex19S.look v with
  | none => exact .inr rfl
  | some y =>
    obtain ⟨x, i⟩ := y
    have := List.mem_of_getElem? (look_some hk).1
    rw [ex19_steps] at this
    simp only [List.mem_cons, List.not_mem_nil, or_false] at this
    rcases this with rfl | rfl | rfl <;> simp

theorem ex19_rsns (ha : ArH) : Rsns ha ex19A ex19S ex19L := by
  intro v hv
  unfold ex19L
  rcases ex19_reason v with h | h
  · rw [if_pos h, h]
    refine ⟨fun γ w H => ?_, by decide, by decide⟩
    refine (ar_lits (q := [0, 4]) H (i := 0) (n := 2) (x := 2) rfl rfl ?_ (by decide) (by decide) (by simp)).mono ?_
    · exact mask_len 2 0 (by decide) (by decide)
    · rintro e w' ⟨v, γ', he, ⟨a, cap, hv, R, _⟩, T⟩
      exact ⟨v, γ', he, ⟨a, cap, hv, R⟩, T⟩
  · rw [if_neg (by omega), h]
    refine ⟨fun γ w H => ?_, by decide, by decide⟩
    refine (ar_lits_no H (I64.small (by decide) (by decide)) (by decide)).mono ?_
    rintro e w' ⟨he, rfl⟩
    exact ⟨_, γ, he, ⟨none, 0, rfl, Row.nil _ _ _ _ _⟩, Turn.refl _ _ _⟩

theorem ex19_first : firstS (fun _ => 0) ex19S 1 = 2 ∧ firstS (fun _ => 0) ex19S 2 = 0 := by decide
def ex19st : Int → Int := upd (fun _ => 0) 2 1
theorem ex19_run : mrun (inS ex19l) ex19S ex19L 1 ([(2, 0)], fun _ => 0) = ([], ex19st) := by rfl
theorem ex19_c1 : Carr (inS ex19l) ex19S ex19L 1 (fun _ => 0) (litVar (-1)) false (fun _ => 0) := .inl ⟨2, ex19_first.1, by decide, rfl, rfl⟩
theorem ex19_c2 : Carr (inS ex19l) ex19S ex19L 1 (fun _ => 0) (litVar (-2)) true ex19st := .inr ⟨ex19_first.2, ⟨1, Nat.le_refl _, ex19_run⟩, rfl⟩

theorem ex19_kept : keptC (fun k => k == 2) ex19l ex19l.length = [-3, -1] := by rfl
theorem ex19_bd : ∀ x ∈ ex19l, -1000000 ≤ x ∧ x ≤ 1000000 := by decide

theorem ex19_cs : ∀ k x, 0 < k → ex19l[k]? = some x → Carr (inS ex19l) ex19S ex19L 1 ((fun k => if k = 3 then ex19st else fun _ => 0 : Nat → Int → Int) k) (litVar x) (k == 2) ((fun k => if k = 3 then ex19st else fun _ => 0 : Nat → Int → Int) (k + 1)) := by
  intro k x h0 hx
  match k, hx with
  | 0, _ => omega
  | 1, hx => simp [ex19l] at hx; subst hx; exact ex19_c1
  | 2, hx => simp [ex19l] at hx; subst hx; exact ex19_c2
  | k + 3, hx => simp [ex19l] at hx

/-- The law's own example holds; what it makes lies below 0. -/
def Holds19 (γ : Tags) (w : World) (e : Ending) (w' : World) : Prop := e = .returned (.bool true) ∧ ∃ γ', Turn γ γ' w w' [[0]]

set_option maxHeartbeats 4000000 in
theorem fit19 (γ : Tags) (w : World) : Calls Try.prog 19 #[] w (Holds19 γ w) := by
  have C := ar_new γ w [0, 1] 0
  go_enter Try.func19, Try.ntmps19
  go_wp2_with fail
  refine C.mono ?_
  clear C
  rintro e w1 ⟨_, γ1, rfl, ⟨h1, rfl, A1, _⟩, T1⟩
  have C := s_new γ1 w1 [0, 0] 3 (by omega)
  go_wp2_with fail
  refine C.mono ?_
  clear C
  rintro e w2 ⟨_, γ2, rfl, ⟨tb, rfl, S2, _⟩, T2⟩
  have A2 := A1.turn T2 (by simp)
  have W2 := (T1.to (qs := [[0]]) (by simp)).trans (T2.to (qs := [[0]]) (by simp))
  have R3 := Row.lit γ2 w2 [0, 7] 3 1 2 #[.int .i64 (-1), .int .i64 2] (by decide) rfl
  have T3 := Turn.new_at γ2 w2 (.cells #[.int .i64 (-1), .int .i64 2] 3) [0, 7]
  have A3 := A2.turn T3 (by simp)
  have S3 := S2.turn T3 (by simp)
  have W3 := W2.trans (T3.to (qs := [[0]]) (by simp))
  have C : Calls Try.prog 32 #[.pointer (some ⟨h1.b, 0, none⟩), .slice (some ⟨w2.heap.size, 0, none⟩) 2 2, .bool false, .int .i64 0] (w2.alloc (.cells #[.int .i64 (-1), .int .i64 2] 3)) (Turned (γ2.set w2.heap.size [0, 7]) (w2.alloc (.cells #[.int .i64 (-1), .int .i64 2] 3)) [[0, 1]] (.tuple #[.int .i64 0, .bool true]) (Ar [0, 1] h1.b ex19A)) :=
    ar_add A3 (by decide) (c := [-1, 2]) R3 (by simp) (by decide) false 0 (by decide)
  clear A1 T1 S2 T2 A2 W2 R3 T3 A3
  go_wp2_with fail
  refine C.mono ?_
  clear C
  rintro e w4 ⟨rfl, γ4, ⟨ha, hab, A4⟩, T4⟩
  rw [← hab]
  clear hab
  have S4 := S3.turn T4 (by simp)
  have W4 := W3.trans (T4.to (qs := [[0]]) (by simp))
  clear S3 W3 T4
  have C := s_decide S4 1
  rw [show (TrailS.new 3).free 1 = true by decide] at C
  go_wp2_with fail
  refine C.mono ?_
  clear C
  rintro e w5 ⟨rfl, γ5, S5, T5⟩
  have A5 := A4.turn T5 (by simp)
  have W5 := W4.trans (T5.to (qs := [[0]]) (by simp))
  clear S4 A4 W4 T5
  have C := s_put S5 2 0
  rw [show ((TrailS.new 3).decide' 1).free 2 = true by decide] at C
  go_wp2_with fail
  refine C.mono ?_
  clear C
  rintro e w6 ⟨rfl, γ6, S6, T6⟩
  have A6 := A5.turn T6 (by simp)
  have W6 := W5.trans (T6.to (qs := [[0]]) (by simp))
  clear S5 A5 W5 T6
  have C := s_decide S6 3
  rw [show (((TrailS.new 3).decide' 1).put 2 0).free 3 = true by decide] at C
  go_wp2_with fail
  refine C.mono ?_
  clear C
  rintro e w7 ⟨rfl, γ7, S7, T7⟩
  have A7 := A6.turn T7 (by simp)
  have W7 := W6.trans (T7.to (qs := [[0]]) (by simp))
  clear S6 A6 W6 T7
  have R8 := Row.lit γ7 w7 [0, 5] 3 1 3 #[.int .i64 (-3), .int .i64 (-1), .int .i64 (-2)] (by decide) rfl
  have T8 := Turn.new_at γ7 w7 (.cells #[.int .i64 (-3), .int .i64 (-1), .int .i64 (-2)] 3) [0, 5]
  generalize γ7.set w7.heap.size [0, 5] = γ8 at *
  have Z8 : Tal γ8 (w7.alloc (.cells #[.int .i64 (-3), .int .i64 (-1), .int .i64 (-2)] 3)) ex19S tb ha ex19A ex19l (some ⟨w7.heap.size, 0, none⟩) 3 := ⟨S7.turn T8 (by simp), A7.turn T8 (by simp), R8⟩
  have W8 := W7.trans (T8.to (qs := [[0]]) (by simp))
  have C := minimise_any Z8 (ex19_rsns ha) ex19_bd (by decide) (N := 1) (by decide) (fun k => k == 2) (fun k => if k = 3 then ex19st else fun _ => 0) rfl ex19_cs
  rw [ex19_kept] at C
  have Z8h := Lib.hid (And.intro Z8 W8)
  clear S7 A7 W7 R8 T8 Z8 W8
  go_wp2_with fail
  refine C.mono ?_
  clear C
  rintro e w9 ⟨_, γ9, rfl, ⟨a6, c6, rfl, R9⟩, T9⟩
  have Z9 := Z8h.out.1.turn T9 (by simp) (by simp) (by simp)
  have W9 := Z8h.out.2.trans (T9.to (qs := [[0]]) (by simp))
  obtain ⟨g6, rfl⟩ := R9.pos (by decide)
  have c0 := R9.cell (j := 0) (v := .int .i64 (-3)) rfl
  have c1 := R9.cell (j := 1) (v := .int .i64 (-1)) rfl
  have C1 := needless_yes Z9 (ex19_rsns ha) ex19_bd 2 (-2) rfl (by decide) (N := 1) (by decide) ex19_c2
  have Z9h := Lib.hid (And.intro Z9 W9)
  clear Z8h T9 Z9 W9 R9
  go_wp2_with fail
  refine C1.mono ?_
  clear C1
  rintro e w10 ⟨_, γ10, rfl, rfl, T10⟩
  have Z10 := Z9h.out.1.turn T10 (by simp) (by simp) (by simp)
  have W10 := Z9h.out.2.trans (T10.to (qs := [[0]]) (by simp))
  have C2 := needless_yes Z10 (ex19_rsns ha) ex19_bd 1 (-1) rfl (by decide) (N := 1) (by decide) ex19_c1
  have Z10h := Lib.hid (And.intro Z10 W10)
  clear Z9h T10 Z10 W10 c0 c1
  go_wp2_with fail
  refine C2.mono ?_
  clear C2
  rintro e w11 ⟨_, γ11, rfl, rfl, T11⟩
  have Z11 := Z10h.out.1.turn T11 (by simp) (by simp) (by simp)
  have W11 := Z10h.out.2.trans (T11.to (qs := [[0]]) (by simp))
  have C3 := needless_no Z11 3 (by decide)
  have Z11h := Lib.hid W11
  clear Z10h T11 Z11 W11
  go_wp2_with fail
  refine C3.mono ?_
  clear C3
  rintro e w12 ⟨rfl, n, rfl⟩
  go_wp2_with fail
  go_ret
  exact ⟨rfl, γ11, Z11h.out.drewN n⟩

end Go.Proofs.Ytlmmiobnbcanmaa
