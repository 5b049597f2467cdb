import Derived.Test.YtdbdilajjmijaaaGreatDoorDnNumber
import Derived.Test.YtdbdilajjmijaaaGreatDoorShelf
namespace Go.Proofs.YtdbdilajjmijaaaGreatDoor
open Go Go.RowKit Go.Proofs.YtdbdilajjmijaaaGreatDoorW.PrintWords Go.Proofs.YtdbdilajjmijaaaGreatDoorW.PrintLast Go.Proofs.YtdbdilajjmijaaaGreatDoorW.PrintMore PDimacsCuts

/-! literal -/
def LitSaid (w : World) (g : Option Int) (e : Ending) (w' : World) : Prop := Below w.heap.size w w' ∧ match g with
  | some l => e = .returned (.tuple #[.int .i64 l, .bool true])
  | none => e = .returned (.tuple #[.int .i64 0, .bool false])

theorem cutPrefix_any (x p : List UInt8) (w : World) :
    Calls Tryz.prog 56 #[strV x, strV p] w fun e w' => e = .returned (.tuple #[strV (if Lib.hasPrefix x p then x.drop p.length else x), .bool (Lib.hasPrefix x p)]) ∧ w' = w :=
  Tryz.strings_CutPrefix ⟨x.toArray⟩ ⟨p.toArray⟩ w
theorem hasPrefix_any (x p : List UInt8) (w : World) :
    Calls Tryz.prog 31 #[strV x, strV p] w fun e w' => e = .returned (.bool (Lib.hasPrefix x p)) ∧ w' = w :=
  Tryz.strings_HasPrefix ⟨x.toArray⟩ ⟨p.toArray⟩ w
theorem litW_neg {x : List UInt8} (h : Lib.hasPrefix x [45] = true) : litW x = (numW (x.drop 1)).bind fun n => if n = 0 then none else some (-(n : Int)) := by
  cases x with
  | nil => simp [Lib.hasPrefix] at h
  | cons c r =>
    have : 45 = c := by simpa [Lib.hasPrefix, List.isPrefixOf] using h
    subst this
    rfl
theorem litW_pos {x : List UInt8} (h : Lib.hasPrefix x [45] = false) : litW x = (numW x).map fun n => (n : Int) := by
  refine litW_plain ?_
  cases x with
  | nil => simp
  | cons c r =>
    intro hc
    simp only [List.getElem?_cons_zero, Option.some.injEq] at hc
    subst hc
    simp [Lib.hasPrefix, List.isPrefixOf] at h
theorem numW_lt {x : List UInt8} {n : Nat} (h : numW x = some n) : n < 1000000000 := by
  unfold numW at h
  split at h
  · cases h
  · rename_i hc
    have h9 : x.length ≤ 9 := by
      rcases Nat.lt_or_ge 9 x.length with h9 | h9
      · exact absurd (.inr (.inl h9)) hc
      · exact h9
    have := digitsV_bound x 0 n 0 (by decide) h
    have hp : 10 ^ (0 + x.length) ≤ 10 ^ 9 := Nat.pow_le_pow_right (by decide) (by omega)
    omega

set_option maxRecDepth 100000 in
set_option maxHeartbeats 4000000 in
theorem literal_any (x : List UInt8) (w : World) (hx : x.length ≤ 1099511627776) :
    Calls Tryz.prog 44 #[strV x] w (LitSaid w (litW x)) := by
  have C0 := fun w => cutPrefix_any x [45] w
  cases hp : Lib.hasPrefix x [45] with
  | true =>
    rw [litW_neg hp]
    rw [hp] at C0
    simp only [if_true, List.length_cons, List.length_nil] at C0
    have C1 := fun w => number_any (x.drop 1) w (by simp; omega)
    show Calls Tryz.prog 44 #[.string (bs x)] w _
    have hx0 : strV x = .string (bs x) := rfl
    have hx1 : strV (x.drop 1) = .string (bs (x.drop 1)) := rfl
    have hx2 : strV [45] = .string ⟨#[45]⟩ := rfl
    rw [hx1] at C1
    simp only [Nat.zero_add] at C0
    rw [hx0, hx1, hx2] at C0
    cases hn : numW (x.drop 1) with
    | none =>
      rw [hn] at C1
      clear hp hn
      clear hx0 hx1 hx2 hx
      generalize bs (x.drop 1) = Y at *
      generalize bs x = B at *
      go_enter Tryz.func44, Tryz.ntmps44
      go_wp2_with (first
        | (go_at_call 56; refine (C0 _).mono ?_; rintro e w1 ⟨rfl, rfl⟩)
        | (go_at_call 43; refine (C1 _).mono ?_; rintro e w2 ⟨HB, rfl⟩))
      go_ret2
      exact ⟨HB, rfl⟩
    | some n =>
      rw [hn] at C1
      have hlt := numW_lt hn
      rw [Option.bind_some]
      clear hp hn
      clear hx0 hx1 hx2 hx
      generalize bs (x.drop 1) = Y at *
      generalize bs x = B at *
      by_cases hn0 : n = 0
      · subst hn0
        rw [if_pos rfl]
        go_enter Tryz.func44, Tryz.ntmps44
        go_wp2_with (first
          | (go_at_call 56; refine (C0 _).mono ?_; rintro e w1 ⟨rfl, rfl⟩)
          | (go_at_call 43; refine (C1 _).mono ?_; rintro e w2 ⟨HB, rfl⟩))
        go_ret2
        exact ⟨HB, rfl⟩
      · rw [if_neg hn0]
        have q1 : ((n : Int) == 0) = false := by simp; omega
        go_enter Tryz.func44, Tryz.ntmps44
        go_wp2_with (first
          | (go_at_call 56; refine (C0 _).mono ?_; rintro e w1 ⟨rfl, rfl⟩)
          | (go_at_call 43; refine (C1 _).mono ?_; rintro e w2 ⟨HB, rfl⟩))
        go_ret2
        exact ⟨HB, rfl⟩
  | false =>
    rw [litW_pos hp]
    rw [hp] at C0
    simp only [Bool.false_eq_true, if_false] at C0
    have C1 := fun w => number_any x w hx
    show Calls Tryz.prog 44 #[.string (bs x)] w _
    have hx0 : strV x = .string (bs x) := rfl
    have hx2 : strV [45] = .string ⟨#[45]⟩ := rfl
    rw [hx0] at C1
    rw [hx0, hx2] at C0
    cases hn : numW x with
    | none =>
      rw [hn] at C1
      clear hp hn
      clear hx0 hx2 hx
      generalize bs x = B at *
      go_enter Tryz.func44, Tryz.ntmps44
      go_wp2_with (first
        | (go_at_call 56; refine (C0 _).mono ?_; rintro e w1 ⟨rfl, rfl⟩)
        | (go_at_call 43; refine (C1 _).mono ?_; rintro e w2 ⟨HB, rfl⟩))
      go_ret2
      exact ⟨HB, rfl⟩
    | some n =>
      rw [hn] at C1
      have hlt := numW_lt hn
      clear hp hn
      clear hx0 hx2 hx
      generalize bs x = B at *
      go_enter Tryz.func44, Tryz.ntmps44
      go_wp2_with (first
        | (go_at_call 56; refine (C0 _).mono ?_; rintro e w1 ⟨rfl, rfl⟩)
        | (go_at_call 43; refine (C1 _).mono ?_; rintro e w2 ⟨HB, rfl⟩))
      go_ret2
      exact ⟨HB, rfl⟩
end Go.Proofs.YtdbdilajjmijaaaGreatDoor
