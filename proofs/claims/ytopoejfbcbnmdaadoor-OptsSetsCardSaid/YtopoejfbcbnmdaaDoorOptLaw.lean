import Derived.Test.YtopoejfbcbnmdaaDoorOptBad
import Derived.Test.YtopoejfbcbnmdaaDoorMade
import Derived.Deep.RegionHeld3
namespace Go.Proofs.YtopoejfbcbnmdaaDoor
open Go Go.RowKit

/-- Options stand in a block, and nothing that stood ahead has turned. -/
def Good (w0 : World) (ob : Nat) (o : Opt) (w : World) : Prop := OptAt w ob o ∧ Below w0.heap.size w0 w
theorem Good.gave {w0 w w' : World} {ob : Nat} {o : Opt} (h : Good w0 ob o w) (B : Below w.heap.size w w') : Good w0 ob o w' := ⟨h.1.below B, h.2.trans (B.mono h.2.size)⟩
theorem Good.alloc {w0 w : World} {ob : Nat} {o : Opt} (h : Good w0 ob o w) (x : Obj) : Good w0 ob o (w.alloc x) := h.gave ((Below.refl _ _).alloc (Nat.le_refl _) _)
theorem Good.drewN {w0 w : World} {ob : Nat} {o : Opt} (h : Good w0 ob o w) (n : Nat) : Good w0 ob o (w.drewN n) := h.gave (Below.drewNO (Below.refl _ _) n)
theorem Good.drew {w0 w : World} {ob : Nat} {o : Opt} (h : Good w0 ob o w) : Good w0 ob o w.drew := h.gave ⟨rfl, rfl, rfl, Nat.le_refl _, fun _ _ => rfl⟩
theorem Good.cell {w0 w : World} {ob : Nat} {o : Opt} (h : Good w0 ob o w) {j : Nat} {v : Value} (hj : o.vals[j]? = some v) : w.cell? ⟨ob, j, none⟩ = some v := h.1.cell hj
theorem Good.free {w0 w : World} {ob : Nat} {o : Opt} (h : Good w0 ob o w) (j : Nat) : w.frozen? ⟨ob, j, none⟩ = false := frozen_of_block h.1

/-- The same, cell by cell. -/
def Held (w0 : World) (ob : Nat) (o : Opt) (w' : World) : Prop := (w'.cell? ⟨ob, 0, none⟩ = some (.int .i64 o.co) ∧ w'.cell? ⟨ob, 1, none⟩ = some (.int .i64 o.wo) ∧ w'.cell? ⟨ob, 2, none⟩ = some (.int .i64 o.re) ∧ w'.cell? ⟨ob, 3, none⟩ = some (.int .i64 o.fi) ∧ w'.cell? ⟨ob, 4, none⟩ = some (.int .i64 o.ri) ∧ w'.cell? ⟨ob, 5, none⟩ = some (.int .i64 o.wa) ∧ w'.cell? ⟨ob, 6, none⟩ = some (.int .i64 o.ki) ∧ w'.cell? ⟨ob, 7, none⟩ = some (.int .i64 o.ba) ∧ w'.cell? ⟨ob, 8, none⟩ = some (.int .i64 o.no) ∧ w'.cell? ⟨ob, 9, none⟩ = some (.int .i64 o.mo) ∧ w'.cell? ⟨ob, 10, none⟩ = some (.int .i64 o.ph) ∧ w'.cell? ⟨ob, 11, none⟩ = some (.int .i64 o.lo) ∧ w'.cell? ⟨ob, 12, none⟩ = some (.int .i64 o.mi) ∧ w'.cell? ⟨ob, 13, none⟩ = some (.int .i64 o.mn) ∧ w'.cell? ⟨ob, 14, none⟩ = some (.int .i64 o.bi) ∧ w'.cell? ⟨ob, 15, none⟩ = some (.int .u64 o.se)) ∧ Good w0 ob o w'
theorem Held.of {w0 w : World} {ob : Nat} {o : Opt} (h : Good w0 ob o w) : Held w0 ob o w := ⟨⟨h.cell rfl, h.cell rfl, h.cell rfl, h.cell rfl, h.cell rfl, h.cell rfl, h.cell rfl, h.cell rfl, h.cell rfl, h.cell rfl, h.cell rfl, h.cell rfl, h.cell rfl, h.cell rfl, h.cell rfl, h.cell rfl⟩, h⟩

/-- Options that a law makes. -/
structure MadeOk (o : Opt) (re fi ri : Nat) : Prop where
  ere : o.re = re
  efi : o.fi = fi
  eri : o.ri = ri
  re1 : 1 ≤ re
  fi1 : 1 ≤ fi
  ri1 : 1 ≤ ri
  re2 : re ≤ 200
  fi2 : fi ≤ 200
  ri2 : ri ≤ 100
theorem made_ok (x0 x1 x2 x3 x4 x5 x6 x7 x8 x9 x10 x11 : Nat) : ∃ re fi ri, MadeOk (madeO x0 x1 x2 x3 x4 x5 x6 x7 x8 x9 x10 x11) re fi ri :=
  ⟨1 + x0 % 200, 1 + x1 % 200, 1 + x2 % 100, ⟨by unfold madeO; dsimp only; omega, by unfold madeO; dsimp only; omega, by unfold madeO; dsimp only; omega, by omega, by omega, by omega, by omega, by omega, by omega⟩⟩

/-- Twelve numbers in a block. -/
def arr12 (x0 x1 x2 x3 x4 x5 x6 x7 x8 x9 x10 x11 : Nat) : Array Value := #[.int .u16 x0, .int .u16 x1, .int .u16 x2, .int .u16 x3, .int .u16 x4, .int .u16 x5, .int .u16 x6, .int .u16 x7, .int .u16 x8, .int .u16 x9, .int .u16 x10, .int .u16 x11]
def ArrAt (w : World) (b : Nat) (cs : Array Value) : Prop := w.heap[b]? = some (.cells cs 46 (0, 0))
theorem ArrAt.below {w w' : World} {b : Nat} {cs : Array Value} (h : ArrAt w b cs) (B : Below w.heap.size w w') : ArrAt w' b cs := (B.block b (Array.getElem?_eq_some_iff.1 h).1).trans h

end Go.Proofs.YtopoejfbcbnmdaaDoor
