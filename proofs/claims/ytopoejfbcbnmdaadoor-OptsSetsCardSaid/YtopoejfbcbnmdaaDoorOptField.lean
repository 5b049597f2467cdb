import Derived.Test.YtopoejfbcbnmdaaDoorOptAt
import Derived.RegionTactic
namespace Go.Proofs.YtopoejfbcbnmdaaDoor
open Go Go.RowKit

def nameCells : Array Value := #[.string ⟨#[99, 111, 110, 102, 108, 105, 99, 116, 115]⟩, .string ⟨#[119, 111, 114, 100, 115]⟩, .string ⟨#[114, 101, 115, 116, 97, 114, 116]⟩, .string ⟨#[102, 105, 114, 115, 116]⟩, .string ⟨#[114, 105, 115, 101]⟩, .string ⟨#[119, 97, 108, 107]⟩, .string ⟨#[107, 105, 110, 100]⟩, .string ⟨#[98, 97, 115, 101]⟩, .string ⟨#[110, 111, 105, 115, 101]⟩, .string ⟨#[109, 111, 100, 101]⟩, .string ⟨#[112, 104, 97, 115, 101]⟩, .string ⟨#[108, 111, 119]⟩, .string ⟨#[109, 105, 100]⟩, .string ⟨#[109, 105, 110, 105, 109, 105, 115, 101]⟩, .string ⟨#[98, 105, 110, 97, 114, 121]⟩]
theorem nameCells_eq : nameCells.toList = optNames.map Value.string := rfl

theorem names_any (w : World) : Calls Tryd.prog 10 #[] w fun e w' => e = .returned (.slice (some ⟨w.heap.size, 0, none⟩) 15 15) ∧ w' = w.alloc (.cells nameCells 9) := by
  go_enter Tryd.func10, Tryd.ntmps10
  go_wp2
  go_ret
  exact ⟨rfl, rfl⟩

/-- The options at first. -/
def optDefault : Opt := ⟨-1, -1, 50, 300, 100, 1000, 0, 2, 0, 2, 1, 2, 6, 1, 0, 0⟩
theorem default_any (w : World) : Calls Tryd.prog 14 #[] w (Gave w (.agg optDefault.vals)) := by
  go_enter Tryd.func14, Tryd.ntmps14
  go_wp2
  exact bodyPost_ret (v := .agg optDefault.vals) (by simp [results, Tryd.results14, go_sem, optDefault, Opt.vals]) rfl ⟨rfl, (Below.refl _ _).alloc (Nat.le_refl _) _⟩

def ptrCells (b : Nat) : Array Value := #[.pointer (some ⟨b, 0, none⟩), .pointer (some ⟨b, 1, none⟩), .pointer (some ⟨b, 2, none⟩), .pointer (some ⟨b, 3, none⟩), .pointer (some ⟨b, 4, none⟩), .pointer (some ⟨b, 5, none⟩), .pointer (some ⟨b, 6, none⟩), .pointer (some ⟨b, 7, none⟩), .pointer (some ⟨b, 8, none⟩), .pointer (some ⟨b, 9, none⟩), .pointer (some ⟨b, 10, none⟩), .pointer (some ⟨b, 11, none⟩), .pointer (some ⟨b, 12, none⟩), .pointer (some ⟨b, 13, none⟩), .pointer (some ⟨b, 14, none⟩)]

set_option maxRecDepth 100000 in
set_option maxHeartbeats 4000000 in
theorem fields_any (b : Nat) (w : World) : Calls Tryd.prog 39 #[.pointer (some ⟨b, 0, none⟩)] w fun e w' => e = .returned (.slice (some ⟨w.heap.size, 0, none⟩) 15 15) ∧ ∃ n, w' = (w.drewN n).alloc (.cells (ptrCells b) 61) := by
  go_enter Tryd.func39, Tryd.ntmps39
  go_wp2_with fail
  go_region
  all_goals
    go_wp2_with fail
    go_ret
    exact ⟨rfl, 1, rfl⟩

end Go.Proofs.YtopoejfbcbnmdaaDoor
