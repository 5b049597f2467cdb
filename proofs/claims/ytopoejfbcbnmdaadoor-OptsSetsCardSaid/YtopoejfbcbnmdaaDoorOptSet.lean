import Derived.Test.YtopoejfbcbnmdaaDoorOptErr
import Derived.Test.YtopoejfbcbnmdaaDoorOptBad
namespace Go.Proofs.YtopoejfbcbnmdaaDoor
open Go Go.RowKit

/-- One option is set. -/
def Opt.setAt (o : Opt) (i : Nat) (n : Int) : Opt := match i with
  | 0 => { o with co := n }
  | 1 => { o with wo := n }
  | 2 => { o with re := n }
  | 3 => { o with fi := n }
  | 4 => { o with ri := n }
  | 5 => { o with wa := n }
  | 6 => { o with ki := n }
  | 7 => { o with ba := n }
  | 8 => { o with no := n }
  | 9 => { o with mo := n }
  | 10 => { o with ph := n }
  | 11 => { o with lo := n }
  | 12 => { o with mi := n }
  | 13 => { o with mn := n }
  | 14 => { o with bi := n }
  | _ => o
theorem setAt_vals (o : Opt) (n : Int) : ∀ i, i < 15 → (o.setAt i n).vals = o.vals.setIfInBounds i (.int .i64 n)
  | 0, _ => rfl
  | 1, _ => rfl
  | 2, _ => rfl
  | 3, _ => rfl
  | 4, _ => rfl
  | 5, _ => rfl
  | 6, _ => rfl
  | 7, _ => rfl
  | 8, _ => rfl
  | 9, _ => rfl
  | 10, _ => rfl
  | 11, _ => rfl
  | 12, _ => rfl
  | 13, _ => rfl
  | 14, _ => rfl
  | k + 15, h => by omega
theorem setAt_lst (o : Opt) (n : Int) : ∀ i, i < 15 → lst (o.setAt i n) = (lst o).set i n
  | 0, _ => rfl
  | 1, _ => rfl
  | 2, _ => rfl
  | 3, _ => rfl
  | 4, _ => rfl
  | 5, _ => rfl
  | 6, _ => rfl
  | 7, _ => rfl
  | 8, _ => rfl
  | 9, _ => rfl
  | 10, _ => rfl
  | 11, _ => rfl
  | 12, _ => rfl
  | 13, _ => rfl
  | 14, _ => rfl
  | k + 15, h => by omega
theorem setAt_se (o : Opt) (n : Int) : ∀ i, (o.setAt i n).se = o.se
  | 0 => rfl
  | 1 => rfl
  | 2 => rfl
  | 3 => rfl
  | 4 => rfl
  | 5 => rfl
  | 6 => rfl
  | 7 => rfl
  | 8 => rfl
  | 9 => rfl
  | 10 => rfl
  | 11 => rfl
  | 12 => rfl
  | 13 => rfl
  | 14 => rfl
  | k + 15 => rfl
theorem idx_name : ∀ k, k < 15 → Lib.idxOfS optNames (optNames.getD k ByteArray.empty) = k
  | 0, _ => by decide +kernel
  | 1, _ => by decide +kernel
  | 2, _ => by decide +kernel
  | 3, _ => by decide +kernel
  | 4, _ => by decide +kernel
  | 5, _ => by decide +kernel
  | 6, _ => by decide +kernel
  | 7, _ => by decide +kernel
  | 8, _ => by decide +kernel
  | 9, _ => by decide +kernel
  | 10, _ => by decide +kernel
  | 11, _ => by decide +kernel
  | 12, _ => by decide +kernel
  | 13, _ => by decide +kernel
  | 14, _ => by decide +kernel
  | k + 15, h => by omega
theorem vals_get (o : Opt) : ∀ i, i < 15 → o.vals[i]? = some (.int .i64 ((lst o).getD i 0))
  | 0, _ => rfl
  | 1, _ => rfl
  | 2, _ => rfl
  | 3, _ => rfl
  | 4, _ => rfl
  | 5, _ => rfl
  | 6, _ => rfl
  | 7, _ => rfl
  | 8, _ => rfl
  | 9, _ => rfl
  | 10, _ => rfl
  | 11, _ => rfl
  | 12, _ => rfl
  | 13, _ => rfl
  | 14, _ => rfl
  | k + 15, h => by omega

theorem OptAt.set {w : World} {b : Nat} {o : Opt} (h : OptAt w b o) {i : Nat} (hi : i < 15) (n : Int) : OptAt (w.setCell ⟨b, i, none⟩ (.int .i64 n)) b (o.setAt i n) := by
  unfold OptAt
  rw [setAt_vals o n i hi]
  simp [World.setCell, Array.getElem?_modify, OptAt.eq_1 w b o ▸ h]

end Go.Proofs.YtopoejfbcbnmdaaDoor
