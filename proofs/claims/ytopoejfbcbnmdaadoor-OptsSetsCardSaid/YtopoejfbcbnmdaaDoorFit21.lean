import Derived.Test.YtopoejfbcbnmdaaDoorFit21a
namespace Go.Proofs.YtopoejfbcbnmdaaDoor
open Go Go.RowKit

def optZero : Opt := ⟨0, 0, 0, 0, 0, 0, 0, 0, 0, 0, 0, 0, 0, 0, 0, 0⟩
def sRestart : ByteArray := ⟨#[114, 101, 115, 116, 97, 114, 116]⟩
theorem bad_default : badS optDefault = ⟨#[]⟩ := by decide
theorem bad_zero : badS optZero = sRestart := by decide

/-- The variable that errors.As reads. -/
def ErrVar (w : World) : Prop := w.cell? ⟨0, 0, none⟩ = some (.iface 88 (.agg #[.pointer (some ⟨4, 36, none⟩)]))
theorem ErrVar.below {w w' : World} (h : ErrVar w) (B : Below w.heap.size w w') : ErrVar w' := (B.cell (World.block_lt_of_cell? w _ h)).trans h

/-- Options lie in a block. -/
def OptAt (w : World) (ob : Nat) (o : Opt) : Prop := w.heap[ob]? = some (.cells o.vals 24 (0, 0))
theorem OptAt.below {w w' : World} {ob : Nat} {o : Opt} (h : OptAt w ob o) (B : Below w.heap.size w w') : OptAt w' ob o := (B.block ob (Array.getElem?_eq_some_iff.1 h).1).trans h
theorem OptAt.cell {w : World} {ob : Nat} {o : Opt} (h : OptAt w ob o) {j : Nat} {v : Value} (hj : o.vals[j]? = some v) : w.cell? ⟨ob, j, none⟩ = some v := cell_of_block h hj

set_option maxRecDepth 100000 in
set_option maxHeartbeats 4000000 in
theorem fit21 (w : World) (hE : ErrVar w) (H1 : BadOf optDefault) (H2 : BadOf optZero) : Calls Tryd.prog 8 #[] w (Gave w (.bool true)) := by
  have C1 := default_any w
  unfold optDefault Opt.vals at C1
  dsimp only at C1
  go_enter Tryd.func8, Tryd.ntmps8
  go_wp2_with fail
  refine C1.mono ?_
  clear C1
  rintro e w1 ⟨rfl, B1⟩
  have O2 : OptAt (w1.alloc (.cells #[.int .i64 (-1), .int .i64 (-1), .int .i64 50, .int .i64 300, .int .i64 100, .int .i64 1000, .int .i64 0, .int .i64 2, .int .i64 0, .int .i64 2, .int .i64 1, .int .i64 2, .int .i64 6, .int .i64 1, .int .i64 0, .int .u64 0] 24)) w1.heap.size optDefault := heap_alloc_new w1 _
  have B2 : Below w.heap.size w (w1.alloc (.cells #[.int .i64 (-1), .int .i64 (-1), .int .i64 50, .int .i64 300, .int .i64 100, .int .i64 1000, .int .i64 0, .int .i64 2, .int .i64 0, .int .i64 2, .int .i64 1, .int .i64 2, .int .i64 6, .int .i64 1, .int .i64 0, .int .u64 0] 24)) := B1.alloc B1.size _
  have C2 := get_hit w1.heap.size sRestart 2 (by decide) (by decide) 50 _ (O2.cell rfl)
  unfold sRestart at C2
  have h2 := Lib.hid (And.intro O2 B2)
  clear O2 B2 B1
  simp only [optDefault, Opt.vals]
  go_wp2_with fail
  generalize w1.alloc _ = w2 at *
  generalize w1.heap.size = ob at *
  refine C2.mono ?_
  clear C2
  rintro e w3 ⟨rfl, B3⟩
  have O3 := h2.out.1.below B3
  have T3 := h2.out.2.trans (B3.mono h2.out.2.size)
  have h3 := Lib.hid (And.intro O3 T3)
  clear h2 O3 T3 B3
  have C4 := check_fault optZero H2 bad_zero (by decide +kernel) (w3.alloc (.cells #[.pointer none] 39))
  unfold optZero Opt.vals at C4
  dsimp only at C4
  have O4 : OptAt (w3.alloc (.cells #[.pointer none] 39)) ob optDefault := h3.out.1.below ((Below.refl _ _).alloc (Nat.le_refl _) _)
  have T4 : Below w.heap.size w (w3.alloc (.cells #[.pointer none] 39)) := h3.out.2.alloc h3.out.2.size _
  have F4 : (w3.alloc (.cells #[.pointer none] 39)).heap[w3.heap.size]? = some (.cells #[.pointer none] 39 (0, 0)) := heap_alloc_new w3 _
  have L4 := h3.out.2.size
  have h4 := Lib.hid (And.intro O4 (And.intro T4 (And.intro F4 L4)))
  clear h3 O4 T4 F4 L4
  go_wp2_with fail
  generalize w3.alloc _ = w4 at *
  generalize w3.heap.size = fb at *
  refine C4.mono ?_
  clear C4
  rintro e w5 ⟨g, rfl, B5, hg5, G5⟩
  have O5 := h4.out.1.below B5
  have T5 := h4.out.2.1.trans (B5.mono h4.out.2.1.size)
  have hfb : fb < w4.heap.size := (Array.getElem?_eq_some_iff.1 h4.out.2.2.1).1
  have F5 := (B5.block fb hfb).trans h4.out.2.2.1
  have c0 : w5.cell? ⟨ob, 0, none⟩ = some (.int .i64 (-1)) := O5.cell (j := 0) rfl
  have c1 : w5.cell? ⟨ob, 1, none⟩ = some (.int .i64 (-1)) := O5.cell (j := 1) rfl
  have c2 : w5.cell? ⟨ob, 2, none⟩ = some (.int .i64 50) := O5.cell (j := 2) rfl
  have c3 : w5.cell? ⟨ob, 3, none⟩ = some (.int .i64 300) := O5.cell (j := 3) rfl
  have c4 : w5.cell? ⟨ob, 4, none⟩ = some (.int .i64 100) := O5.cell (j := 4) rfl
  have c5 : w5.cell? ⟨ob, 5, none⟩ = some (.int .i64 1000) := O5.cell (j := 5) rfl
  have c6 : w5.cell? ⟨ob, 6, none⟩ = some (.int .i64 0) := O5.cell (j := 6) rfl
  have c7 : w5.cell? ⟨ob, 7, none⟩ = some (.int .i64 2) := O5.cell (j := 7) rfl
  have c8 : w5.cell? ⟨ob, 8, none⟩ = some (.int .i64 0) := O5.cell (j := 8) rfl
  have c9 : w5.cell? ⟨ob, 9, none⟩ = some (.int .i64 2) := O5.cell (j := 9) rfl
  have c10 : w5.cell? ⟨ob, 10, none⟩ = some (.int .i64 1) := O5.cell (j := 10) rfl
  have c11 : w5.cell? ⟨ob, 11, none⟩ = some (.int .i64 2) := O5.cell (j := 11) rfl
  have c12 : w5.cell? ⟨ob, 12, none⟩ = some (.int .i64 6) := O5.cell (j := 12) rfl
  have c13 : w5.cell? ⟨ob, 13, none⟩ = some (.int .i64 1) := O5.cell (j := 13) rfl
  have c14 : w5.cell? ⟨ob, 14, none⟩ = some (.int .i64 0) := O5.cell (j := 14) rfl
  have c15 : w5.cell? ⟨ob, 15, none⟩ = some (.int .u64 0) := O5.cell (j := 15) rfl
  have C6 := check_nil optDefault H1 bad_default w5
  unfold optDefault Opt.vals at C6
  dsimp only at C6
  have h5 := Lib.hid (And.intro O5 (And.intro T5 (And.intro F5 (And.intro G5 (And.intro hg5 (And.intro hfb h4.out.2.2.2))))))
  clear h4 O5 T5 F5 B5 G5 hg5 hfb
  go_wp2_with fail
  refine C6.mono ?_
  clear C6
  rintro e w6 ⟨rfl, B6⟩
  have O6 := h5.out.1.below B6
  have T6 := h5.out.2.1.trans (B6.mono h5.out.2.1.size)
  have hfb5 : fb < w5.heap.size := (Array.getElem?_eq_some_iff.1 h5.out.2.2.1).1
  have hg5 : g < w5.heap.size := (Array.getElem?_eq_some_iff.1 h5.out.2.2.2.1).1
  have F6 := (B6.block fb hfb5).trans h5.out.2.2.1
  have G6 := (B6.block g hg5).trans h5.out.2.2.2.1
  have hne : fb < g := Nat.lt_of_lt_of_le h5.out.2.2.2.2.2.1 h5.out.2.2.2.2.1
  have hwf := h5.out.2.2.2.2.2.2
  have d0 : w6.cell? ⟨ob, 0, none⟩ = some (.int .i64 (-1)) := O6.cell (j := 0) rfl
  have d1 : w6.cell? ⟨ob, 1, none⟩ = some (.int .i64 (-1)) := O6.cell (j := 1) rfl
  have d2 : w6.cell? ⟨ob, 2, none⟩ = some (.int .i64 50) := O6.cell (j := 2) rfl
  have d3 : w6.cell? ⟨ob, 3, none⟩ = some (.int .i64 300) := O6.cell (j := 3) rfl
  have d4 : w6.cell? ⟨ob, 4, none⟩ = some (.int .i64 100) := O6.cell (j := 4) rfl
  have d5 : w6.cell? ⟨ob, 5, none⟩ = some (.int .i64 1000) := O6.cell (j := 5) rfl
  have d6 : w6.cell? ⟨ob, 6, none⟩ = some (.int .i64 0) := O6.cell (j := 6) rfl
  have d7 : w6.cell? ⟨ob, 7, none⟩ = some (.int .i64 2) := O6.cell (j := 7) rfl
  have d8 : w6.cell? ⟨ob, 8, none⟩ = some (.int .i64 0) := O6.cell (j := 8) rfl
  have d9 : w6.cell? ⟨ob, 9, none⟩ = some (.int .i64 2) := O6.cell (j := 9) rfl
  have d10 : w6.cell? ⟨ob, 10, none⟩ = some (.int .i64 1) := O6.cell (j := 10) rfl
  have d11 : w6.cell? ⟨ob, 11, none⟩ = some (.int .i64 2) := O6.cell (j := 11) rfl
  have d12 : w6.cell? ⟨ob, 12, none⟩ = some (.int .i64 6) := O6.cell (j := 12) rfl
  have d13 : w6.cell? ⟨ob, 13, none⟩ = some (.int .i64 1) := O6.cell (j := 13) rfl
  have d14 : w6.cell? ⟨ob, 14, none⟩ = some (.int .i64 0) := O6.cell (j := 14) rfl
  have d15 : w6.cell? ⟨ob, 15, none⟩ = some (.int .u64 0) := O6.cell (j := 15) rfl
  have C7 := reduce_any optDefault 2 300 100 rfl rfl (by decide) (by decide) (by decide) (by decide) w6
  rw [show 2 * 300 + tri 2 * 100 = 700 from by decide] at C7
  unfold optDefault Opt.vals at C7
  dsimp only at C7
  have h6 := Lib.hid (And.intro T6 (And.intro F6 (And.intro G6 (And.intro hne hwf))))
  clear h5 O6 T6 F6 G6 B6 hne hwf hfb5 hg5 c0 c1 c2 c3 c4 c5 c6 c7 c8 c9 c10 c11 c12 c13 c14 c15
  go_wp2_with fail
  refine C7.mono ?_
  clear C7
  rintro e w7 ⟨rfl, B7⟩
  have T7 := h6.out.1.trans (B7.mono h6.out.1.size)
  have hfb6 : fb < w6.heap.size := (Array.getElem?_eq_some_iff.1 h6.out.2.1).1
  have hg6 : g < w6.heap.size := (Array.getElem?_eq_some_iff.1 h6.out.2.2.1).1
  have F7 := (B7.block fb hfb6).trans h6.out.2.1
  have G7 := (B7.block g hg6).trans h6.out.2.2.1
  have C8 := as_made ⟨g, 0, none⟩ fb (.pointer none) w7 (hE.below T7) (cell_of_block F7 rfl) (frozen_of_block F7)
  have h7 := Lib.hid (And.intro T7 (And.intro G7 h6.out.2.2.2))
  clear h6 T7 F7 G7 B7 hfb6 hg6 d0 d1 d2 d3 d4 d5 d6 d7 d8 d9 d10 d11 d12 d13 d14 d15
  go_wp2_with fail
  refine C8.mono ?_
  clear C8
  rintro e w8 ⟨rfl, A8⟩
  have T8 : Below w.heap.size w w8 := h7.out.1.trans (A8.below.mono h7.out.2.2.2)
  have k0 := A8.hit
  have k1 : w8.cell? ⟨g, 0, none⟩ = some (.string sRestart) := A8.far _ _ (Nat.ne_of_gt h7.out.2.2.1) (cell_of_block h7.out.2.1 rfl)
  have k2 : w8.cell? ⟨g, 0 + 1, none⟩ = some (.iface 56 (.int .i64 12)) := A8.far _ _ (Nat.ne_of_gt h7.out.2.2.1) (cell_of_block h7.out.2.1 rfl)
  unfold sRestart at k1
  have C9 := is_fault g 0 12 w8 k2
  have C10 := names_any w8
  have h8 := Lib.hid T8
  clear h7 T8 A8 k2
  go_wp2_with fail
  refine C9.mono ?_
  clear C9
  rintro e w9 ⟨rfl, rfl⟩
  go_wp2_with fail
  refine C10.mono ?_
  clear C10
  rintro e w10 ⟨rfl, rfl⟩
  go_wp2_with fail
  go_ret
  exact ⟨rfl, h8.out.alloc h8.out.size _⟩

end Go.Proofs.YtopoejfbcbnmdaaDoor
