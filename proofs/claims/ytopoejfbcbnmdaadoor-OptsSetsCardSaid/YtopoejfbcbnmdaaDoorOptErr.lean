import Derived.Test.YtopoejfbcbnmdaaDoorOptLaw
namespace Go.Proofs.YtopoejfbcbnmdaaDoor
open Go Go.RowKit

theorem unwrap_any (g : Nat) (a : Int) (w : World) (h1 : w.cell? ⟨g, 1, none⟩ = some (.iface 56 (.int .i64 a))) :
    Calls Tryd.prog 24 #[.pointer (some ⟨g, 0, none⟩)] w fun e w' => e = .returned (.iface 56 (.int .i64 a)) ∧ w' = w := by
  go_enter Tryd.func24, Tryd.ntmps24
  go_wp2
  go_ret
  exact ⟨rfl, rfl⟩

/-- "error 12" -/
def sError12 : ByteArray := ⟨#[101, 114, 114, 111, 114, 32, 49, 50]⟩
theorem errno_error (w : World) : Calls Tryd.prog 67 #[.int .i64 12] w fun e w' => e = .returned (.string sError12) ∧ w' = w := by
  have C := fun w => Tryd.strconv_Itoa_small 12 (by decide) w
  rw [show Lib.decDigits 12 = [49, 50] from by decide +kernel, show ((12 : Nat) : Int) = 12 from rfl] at C
  go_enter Tryd.func67, Tryd.ntmps67
  go_wp2_with (go_at_call 68; refine (C _).mono ?_; rintro e w' ⟨rfl, rfl⟩)
  go_ret
  exact ⟨rfl, rfl⟩

theorem em_error (v : Value) (w : World) : (Go.method 253 56 v "Error").run Tryd.prog w = .ok (67, v) w := by kernel_rfl
theorem fault_error (g : Nat) (nm : ByteArray) (hn : nm.size ≤ 1000) (w : World) (h0 : w.cell? ⟨g, 0, none⟩ = some (.string nm)) (h1 : w.cell? ⟨g, 1, none⟩ = some (.iface 56 (.int .i64 12))) :
    Calls Tryd.prog 25 #[.pointer (some ⟨g, 0, none⟩)] w fun e w' => e = .returned (.string ((⟨#[111, 112, 116, 105, 111, 110, 32]⟩ : ByteArray) ++ nm ++ ⟨#[58, 32]⟩ ++ ⟨#[101, 114, 114, 111, 114, 32, 49, 50]⟩)) ∧ ∃ n, w' = w.drewN n := by
  have mE := em_error
  have Ce := fun w => errno_error w
  unfold sError12 at Ce
  go_enter Tryd.func25, Tryd.ntmps25
  go_wp2_with fail
  go_quiet ((go_at_call 67; exact Calls.quiet_of_same (Ce _)))
  go_wp2_with fail
  go_ret
  exact ⟨rfl, _, rfl⟩

theorem error_text (nm : ByteArray) : (⟨#[111, 112, 116, 105, 111, 110, 32]⟩ : ByteArray) ++ nm ++ ⟨#[58, 32]⟩ ++ ⟨#[101, 114, 114, 111, 114, 32, 49, 50]⟩ = (⟨#[111, 112, 116, 105, 111, 110, 32]⟩ : ByteArray) ++ nm ++ ⟨#[58, 32, 101, 114, 114, 111, 114, 32, 49, 50]⟩ := by
  rw [ByteArray.append_assoc]; rfl

theorem inB_yes {n lo hi : Int} (h1 : lo ≤ n) (h2 : n ≤ hi) : (!inB n lo hi) = false := by unfold inB; simp [h1, h2]

/-- Options that are made may be. -/
theorem made_fine (x0 x1 x2 x3 x4 x5 x6 x7 x8 x9 x10 x11 : Nat) : badS (madeO x0 x1 x2 x3 x4 x5 x6 x7 x8 x9 x10 x11) = ⟨#[]⟩ := by
  unfold badS
  rw [find_no (fun j hj x hx => ?_)]
  unfold madeO rowsO at hx
  dsimp only at hx
  match j, hx with
  | 0, hx => obtain rfl : _ = x := by simpa using hx
             dsimp only; refine inB_yes ?_ ?_ <;> decide
  | 1, hx => obtain rfl : _ = x := by simpa using hx
             dsimp only; refine inB_yes ?_ ?_ <;> decide
  | 2, hx => obtain rfl : _ = x := by simpa using hx
             dsimp only; refine inB_yes ?_ ?_ <;> omega
  | 3, hx => obtain rfl : _ = x := by simpa using hx
             dsimp only; refine inB_yes ?_ ?_ <;> omega
  | 4, hx => obtain rfl : _ = x := by simpa using hx
             dsimp only; refine inB_yes ?_ ?_ <;> omega
  | 5, hx => obtain rfl : _ = x := by simpa using hx
             dsimp only; refine inB_yes ?_ ?_ <;> omega
  | 6, hx => obtain rfl : _ = x := by simpa using hx
             dsimp only; refine inB_yes ?_ ?_ <;> omega
  | 7, hx =>
    obtain rfl : _ = x := by simpa using hx
    dsimp only
    by_cases h : x4 % 3 = 2
    · rw [if_pos h]; unfold inB; simp; omega
    · rw [if_neg h]; unfold inB; simp
  | 8, hx =>
    obtain rfl : _ = x := by simpa using hx
    dsimp only
    by_cases h : x4 % 3 = 2
    · rw [if_neg (by omega), if_neg (by omega), if_pos h]; unfold wayB inB; rw [if_pos (by omega)]; simp; omega
    · rw [if_neg (show ¬ x4 % 3 = 2 from h)]
      by_cases h0 : x4 % 3 = 0
      · rw [if_pos h0]; unfold wayB tblB inB; rw [if_neg (by omega), if_pos (by omega)]; simp; omega
      · rw [if_neg h0, if_pos (by omega)]; unfold wayB tblB inB; rw [if_neg (by omega), if_neg (by omega), if_pos (by omega)]; simp; omega
  | 9, hx => obtain rfl : _ = x := by simpa using hx
             dsimp only; refine inB_yes ?_ ?_ <;> omega
  | 10, hx => obtain rfl : _ = x := by simpa using hx
              dsimp only; refine inB_yes ?_ ?_ <;> omega
  | 11, hx => obtain rfl : _ = x := by simpa using hx
              dsimp only; refine inB_yes ?_ ?_ <;> omega
  | 12, hx => obtain rfl : _ = x := by simpa using hx
              dsimp only; refine inB_yes ?_ ?_ <;> omega
  | 13, hx => obtain rfl : _ = x := by simpa using hx
              dsimp only; refine inB_yes ?_ ?_ <;> omega
  | 14, hx => obtain rfl : _ = x := by simpa using hx
              dsimp only; refine inB_yes ?_ ?_ <;> omega
  | n + 15, hx => simp at hx

theorem bad_size (o : Opt) : (badS o).size ≤ 9 := by
  unfold badS
  split
  · rename_i r h
    have hm := List.mem_of_find?_eq_some h
    simp only [rowsO, List.mem_cons, List.not_mem_nil, or_false] at hm
    rcases hm with rfl | rfl | rfl | rfl | rfl | rfl | rfl | rfl | rfl | rfl | rfl | rfl | rfl | rfl | rfl <;> (dsimp only; decide)
  · decide

end Go.Proofs.YtopoejfbcbnmdaaDoor
