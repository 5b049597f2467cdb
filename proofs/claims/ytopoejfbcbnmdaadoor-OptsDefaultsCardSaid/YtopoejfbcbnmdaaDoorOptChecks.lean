import Derived.Test.YtopoejfbcbnmdaaDoorOptErr
namespace Go.Proofs.YtopoejfbcbnmdaaDoor
open Go Go.RowKit

/-- Options and twelve numbers stand, and nothing that stood ahead has turned. -/
structure Stand (w0 : World) (o : Opt) (cs : Array Value) (w : World) : Prop where
  opt : OptAt w w0.heap.size o
  arr : ArrAt w (w0.heap.size + 1) cs
  below : Below w0.heap.size w0 w
theorem Stand.gave {w0 w w' : World} {o : Opt} {cs : Array Value} (h : Stand w0 o cs w) (B : Below w.heap.size w w') : Stand w0 o cs w' := ⟨h.opt.below B, h.arr.below B, h.below.trans (B.mono h.below.size)⟩

theorem optNil {nm : ByteArray} (h : nm ≠ ⟨#[]⟩) : nm.toList ≠ [] := by
  intro h2
  apply h
  rw [ByteArray.toList_eq] at h2
  obtain ⟨d⟩ := nm
  have e : d = #[] := by simpa using h2
  rw [e]

set_option maxRecDepth 100000 in
set_option maxHeartbeats 4000000 in
theorem checks_any (o : Opt) (x0 x1 x2 x3 x4 x5 x6 x7 x8 x9 x10 x11 : Nat) (b0 : x0 < 65536) (b1 : x1 < 65536) (b2 : x2 < 65536) (b3 : x3 < 65536) (b4 : x4 < 65536) (b5 : x5 < 65536) (b6 : x6 < 65536) (b7 : x7 < 65536) (b8 : x8 < 65536) (b9 : x9 < 65536) (b10 : x10 < 65536) (b11 : x11 < 65536) (w : World) (hE : ErrVar w) (HB : ∀ o, BadOf o) :
    Calls Tryd.prog 7 #[.agg o.vals, .agg (arr12 x0 x1 x2 x3 x4 x5 x6 x7 x8 x9 x10 x11)] w (Gave w (.bool true)) := by
  have Cf := fun w hw => fit21 w hw (HB _) (HB _)
  have Cm := fun w => made_any x0 x1 x2 x3 x4 x5 x6 x7 x8 x9 x10 x11 b0 b1 b2 b3 b4 b5 b6 b7 b8 b9 b10 b11 w
  have Cn := fun w => check_nil _ (HB _) (made_fine x0 x1 x2 x3 x4 x5 x6 x7 x8 x9 x10 x11) w
  have Cb := fun w => lbad_any o w
  generalize madeO x0 x1 x2 x3 x4 x5 x6 x7 x8 x9 x10 x11 = m at *
  unfold arr12 Opt.vals
  have St1 : Stand w o #[.int .u16 x0, .int .u16 x1, .int .u16 x2, .int .u16 x3, .int .u16 x4, .int .u16 x5, .int .u16 x6, .int .u16 x7, .int .u16 x8, .int .u16 x9, .int .u16 x10, .int .u16 x11] ((w.alloc (.cells #[.int .i64 o.co, .int .i64 o.wo, .int .i64 o.re, .int .i64 o.fi, .int .i64 o.ri, .int .i64 o.wa, .int .i64 o.ki, .int .i64 o.ba, .int .i64 o.no, .int .i64 o.mo, .int .i64 o.ph, .int .i64 o.lo, .int .i64 o.mi, .int .i64 o.mn, .int .i64 o.bi, .int .u64 o.se] 24)).alloc (.cells #[.int .u16 x0, .int .u16 x1, .int .u16 x2, .int .u16 x3, .int .u16 x4, .int .u16 x5, .int .u16 x6, .int .u16 x7, .int .u16 x8, .int .u16 x9, .int .u16 x10, .int .u16 x11] 46)) :=
    ⟨(Below.heap_alloc _ _ _ (by simp)).trans (heap_alloc_new w _), by have := heap_alloc_new (w.alloc (.cells #[.int .i64 o.co, .int .i64 o.wo, .int .i64 o.re, .int .i64 o.fi, .int .i64 o.ri, .int .i64 o.wa, .int .i64 o.ki, .int .i64 o.ba, .int .i64 o.no, .int .i64 o.mo, .int .i64 o.ph, .int .i64 o.lo, .int .i64 o.mi, .int .i64 o.mn, .int .i64 o.bi, .int .u64 o.se] 24)) (.cells #[.int .u16 x0, .int .u16 x1, .int .u16 x2, .int .u16 x3, .int .u16 x4, .int .u16 x5, .int .u16 x6, .int .u16 x7, .int .u16 x8, .int .u16 x9, .int .u16 x10, .int .u16 x11] 46); unfold ArrAt; rwa [show (w.alloc (.cells #[.int .i64 o.co, .int .i64 o.wo, .int .i64 o.re, .int .i64 o.fi, .int .i64 o.ri, .int .i64 o.wa, .int .i64 o.ki, .int .i64 o.ba, .int .i64 o.no, .int .i64 o.mo, .int .i64 o.ph, .int .i64 o.lo, .int .i64 o.mi, .int .i64 o.mn, .int .i64 o.bi, .int .u64 o.se] 24)).heap.size = w.heap.size + 1 by simp] at this, ((Below.refl _ _).alloc (Nat.le_refl _) _).alloc (by simp) _⟩
  have C1 := Cf _ (hE.below St1.below)
  have h1 := Lib.hid St1
  have hEh := Lib.hid hE
  clear St1 Cf hE b0 b1 b2 b3 b4 b5 b6 b7 b8 b9 b10 b11
  go_enter Tryd.func7, Tryd.ntmps7
  go_wp2_with fail
  generalize (w.alloc _).alloc _ = w1 at *
  refine C1.mono ?_
  clear C1
  rintro e w2 ⟨rfl, B2⟩
  have h2 := h1.out.gave B2
  have O := h2.opt
  have f0 : w2.cell? ⟨w.heap.size, 0, none⟩ = some (.int .i64 o.co) := O.cell (j := 0) rfl
  have f1 : w2.cell? ⟨w.heap.size, 1, none⟩ = some (.int .i64 o.wo) := O.cell (j := 1) rfl
  have f2 : w2.cell? ⟨w.heap.size, 2, none⟩ = some (.int .i64 o.re) := O.cell (j := 2) rfl
  have f3 : w2.cell? ⟨w.heap.size, 3, none⟩ = some (.int .i64 o.fi) := O.cell (j := 3) rfl
  have f4 : w2.cell? ⟨w.heap.size, 4, none⟩ = some (.int .i64 o.ri) := O.cell (j := 4) rfl
  have f5 : w2.cell? ⟨w.heap.size, 5, none⟩ = some (.int .i64 o.wa) := O.cell (j := 5) rfl
  have f6 : w2.cell? ⟨w.heap.size, 6, none⟩ = some (.int .i64 o.ki) := O.cell (j := 6) rfl
  have f7 : w2.cell? ⟨w.heap.size, 7, none⟩ = some (.int .i64 o.ba) := O.cell (j := 7) rfl
  have f8 : w2.cell? ⟨w.heap.size, 8, none⟩ = some (.int .i64 o.no) := O.cell (j := 8) rfl
  have f9 : w2.cell? ⟨w.heap.size, 9, none⟩ = some (.int .i64 o.mo) := O.cell (j := 9) rfl
  have f10 : w2.cell? ⟨w.heap.size, 10, none⟩ = some (.int .i64 o.ph) := O.cell (j := 10) rfl
  have f11 : w2.cell? ⟨w.heap.size, 11, none⟩ = some (.int .i64 o.lo) := O.cell (j := 11) rfl
  have f12 : w2.cell? ⟨w.heap.size, 12, none⟩ = some (.int .i64 o.mi) := O.cell (j := 12) rfl
  have f13 : w2.cell? ⟨w.heap.size, 13, none⟩ = some (.int .i64 o.mn) := O.cell (j := 13) rfl
  have f14 : w2.cell? ⟨w.heap.size, 14, none⟩ = some (.int .i64 o.bi) := O.cell (j := 14) rfl
  have f15 : w2.cell? ⟨w.heap.size, 15, none⟩ = some (.int .u64 o.se) := O.cell (j := 15) rfl
  have h2h := Lib.hid h2
  clear h1 B2 h2 O
  by_cases hz : badS o = ⟨#[]⟩
  · have Cc := fun w => check_nil o (HB o) hz w
    unfold Opt.vals at Cc
    go_wp2_with fail
    refine (Cc _).mono ?_
    rintro e w3 ⟨rfl, B3⟩
    have h3 := h2h.out.gave B3
    have A := h3.arr
    have c0 : w3.cell? ⟨w.heap.size + 1, 0, none⟩ = some (.int .u16 x0) := cell_of_block A rfl
    have c1 : w3.cell? ⟨w.heap.size + 1, 1, none⟩ = some (.int .u16 x1) := cell_of_block A rfl
    have c2 : w3.cell? ⟨w.heap.size + 1, 2, none⟩ = some (.int .u16 x2) := cell_of_block A rfl
    have c3 : w3.cell? ⟨w.heap.size + 1, 3, none⟩ = some (.int .u16 x3) := cell_of_block A rfl
    have c4 : w3.cell? ⟨w.heap.size + 1, 4, none⟩ = some (.int .u16 x4) := cell_of_block A rfl
    have c5 : w3.cell? ⟨w.heap.size + 1, 5, none⟩ = some (.int .u16 x5) := cell_of_block A rfl
    have c6 : w3.cell? ⟨w.heap.size + 1, 6, none⟩ = some (.int .u16 x6) := cell_of_block A rfl
    have c7 : w3.cell? ⟨w.heap.size + 1, 7, none⟩ = some (.int .u16 x7) := cell_of_block A rfl
    have c8 : w3.cell? ⟨w.heap.size + 1, 8, none⟩ = some (.int .u16 x8) := cell_of_block A rfl
    have c9 : w3.cell? ⟨w.heap.size + 1, 9, none⟩ = some (.int .u16 x9) := cell_of_block A rfl
    have c10 : w3.cell? ⟨w.heap.size + 1, 10, none⟩ = some (.int .u16 x10) := cell_of_block A rfl
    have c11 : w3.cell? ⟨w.heap.size + 1, 11, none⟩ = some (.int .u16 x11) := cell_of_block A rfl
    have h3h := Lib.hid h3
    clear f0 f1 f2 f3 f4 f5 f6 f7 f8 f9 f10 f11 f12 f13 f14 f15 B3 h3 A Cc h2h
    go_wp2_with fail
    refine (Cm _).mono ?_
    rintro e w4 ⟨rfl, B4⟩
    have h4 := Lib.hid (h3h.out.gave B4)
    clear h3h B4 c0 c1 c2 c3 c4 c5 c6 c7 c8 c9 c10 c11
    go_wp2_with fail
    refine (Cn _).mono ?_
    rintro e w5 ⟨rfl, B5⟩
    have h5 := h4.out.gave B5
    have O := h5.opt
    have f0 : w5.cell? ⟨w.heap.size, 0, none⟩ = some (.int .i64 o.co) := O.cell (j := 0) rfl
    have f1 : w5.cell? ⟨w.heap.size, 1, none⟩ = some (.int .i64 o.wo) := O.cell (j := 1) rfl
    have f2 : w5.cell? ⟨w.heap.size, 2, none⟩ = some (.int .i64 o.re) := O.cell (j := 2) rfl
    have f3 : w5.cell? ⟨w.heap.size, 3, none⟩ = some (.int .i64 o.fi) := O.cell (j := 3) rfl
    have f4 : w5.cell? ⟨w.heap.size, 4, none⟩ = some (.int .i64 o.ri) := O.cell (j := 4) rfl
    have f5 : w5.cell? ⟨w.heap.size, 5, none⟩ = some (.int .i64 o.wa) := O.cell (j := 5) rfl
    have f6 : w5.cell? ⟨w.heap.size, 6, none⟩ = some (.int .i64 o.ki) := O.cell (j := 6) rfl
    have f7 : w5.cell? ⟨w.heap.size, 7, none⟩ = some (.int .i64 o.ba) := O.cell (j := 7) rfl
    have f8 : w5.cell? ⟨w.heap.size, 8, none⟩ = some (.int .i64 o.no) := O.cell (j := 8) rfl
    have f9 : w5.cell? ⟨w.heap.size, 9, none⟩ = some (.int .i64 o.mo) := O.cell (j := 9) rfl
    have f10 : w5.cell? ⟨w.heap.size, 10, none⟩ = some (.int .i64 o.ph) := O.cell (j := 10) rfl
    have f11 : w5.cell? ⟨w.heap.size, 11, none⟩ = some (.int .i64 o.lo) := O.cell (j := 11) rfl
    have f12 : w5.cell? ⟨w.heap.size, 12, none⟩ = some (.int .i64 o.mi) := O.cell (j := 12) rfl
    have f13 : w5.cell? ⟨w.heap.size, 13, none⟩ = some (.int .i64 o.mn) := O.cell (j := 13) rfl
    have f14 : w5.cell? ⟨w.heap.size, 14, none⟩ = some (.int .i64 o.bi) := O.cell (j := 14) rfl
    have f15 : w5.cell? ⟨w.heap.size, 15, none⟩ = some (.int .u64 o.se) := O.cell (j := 15) rfl
    unfold BadSaid at Cb
    rw [hz] at Cb
    unfold Opt.vals at Cb
    have h5h := Lib.hid h5
    clear h4 B5 h5 O hz
    go_wp2_with fail
    refine (Cb _).mono ?_
    rintro e w6 ⟨rfl, B6⟩
    have h6 := Lib.hid (h5h.out.gave B6)
    clear h5h B6 Cb f0 f1 f2 f3 f4 f5 f6 f7 f8 f9 f10 f11 f12 f13 f14 f15
    go_wp2_with fail
    go_ret
    exact ⟨rfl, h6.out.below⟩
  · have hne := optNil hz
    have Cc := fun w => check_fault o (HB o) rfl hne w
    have hsz := bad_size o
    unfold Opt.vals at Cc
    unfold BadSaid at Cb
    unfold Opt.vals at Cb
    have he0 : (badS o).toList.isEmpty = false := by simpa using hne
    have he1 : ((badS o).toList == []) = false := by simpa using hne
    clear hz hne
    generalize badS o = nm at *
    go_wp2_with fail
    refine (Cc _).mono ?_
    rintro e w3 ⟨g, rfl, B3, hg3, G3⟩
    have h3 := h2h.out.gave B3
    have A := h3.arr
    have c0 : w3.cell? ⟨w.heap.size + 1, 0, none⟩ = some (.int .u16 x0) := cell_of_block A rfl
    have c1 : w3.cell? ⟨w.heap.size + 1, 1, none⟩ = some (.int .u16 x1) := cell_of_block A rfl
    have c2 : w3.cell? ⟨w.heap.size + 1, 2, none⟩ = some (.int .u16 x2) := cell_of_block A rfl
    have c3 : w3.cell? ⟨w.heap.size + 1, 3, none⟩ = some (.int .u16 x3) := cell_of_block A rfl
    have c4 : w3.cell? ⟨w.heap.size + 1, 4, none⟩ = some (.int .u16 x4) := cell_of_block A rfl
    have c5 : w3.cell? ⟨w.heap.size + 1, 5, none⟩ = some (.int .u16 x5) := cell_of_block A rfl
    have c6 : w3.cell? ⟨w.heap.size + 1, 6, none⟩ = some (.int .u16 x6) := cell_of_block A rfl
    have c7 : w3.cell? ⟨w.heap.size + 1, 7, none⟩ = some (.int .u16 x7) := cell_of_block A rfl
    have c8 : w3.cell? ⟨w.heap.size + 1, 8, none⟩ = some (.int .u16 x8) := cell_of_block A rfl
    have c9 : w3.cell? ⟨w.heap.size + 1, 9, none⟩ = some (.int .u16 x9) := cell_of_block A rfl
    have c10 : w3.cell? ⟨w.heap.size + 1, 10, none⟩ = some (.int .u16 x10) := cell_of_block A rfl
    have c11 : w3.cell? ⟨w.heap.size + 1, 11, none⟩ = some (.int .u16 x11) := cell_of_block A rfl
    have h3h := Lib.hid (And.intro h3 (And.intro G3 (Nat.le_trans h2h.out.below.size hg3)))
    clear f0 f1 f2 f3 f4 f5 f6 f7 f8 f9 f10 f11 f12 f13 f14 f15 B3 h3 A Cc h2h hg3 G3
    go_wp2_with fail
    refine (Cm _).mono ?_
    rintro e w4 ⟨rfl, B4⟩
    have hgl := (Array.getElem?_eq_some_iff.1 h3h.out.2.1).1
    have h4 := Lib.hid (And.intro (h3h.out.1.gave B4) (And.intro ((B4.block g hgl).trans h3h.out.2.1) h3h.out.2.2))
    clear h3h B4 hgl c0 c1 c2 c3 c4 c5 c6 c7 c8 c9 c10 c11
    go_wp2_with fail
    refine (Cn _).mono ?_
    rintro e w5 ⟨rfl, B5⟩
    have h5 := h4.out.1.gave B5
    have O := h5.opt
    have f0 : w5.cell? ⟨w.heap.size, 0, none⟩ = some (.int .i64 o.co) := O.cell (j := 0) rfl
    have f1 : w5.cell? ⟨w.heap.size, 1, none⟩ = some (.int .i64 o.wo) := O.cell (j := 1) rfl
    have f2 : w5.cell? ⟨w.heap.size, 2, none⟩ = some (.int .i64 o.re) := O.cell (j := 2) rfl
    have f3 : w5.cell? ⟨w.heap.size, 3, none⟩ = some (.int .i64 o.fi) := O.cell (j := 3) rfl
    have f4 : w5.cell? ⟨w.heap.size, 4, none⟩ = some (.int .i64 o.ri) := O.cell (j := 4) rfl
    have f5 : w5.cell? ⟨w.heap.size, 5, none⟩ = some (.int .i64 o.wa) := O.cell (j := 5) rfl
    have f6 : w5.cell? ⟨w.heap.size, 6, none⟩ = some (.int .i64 o.ki) := O.cell (j := 6) rfl
    have f7 : w5.cell? ⟨w.heap.size, 7, none⟩ = some (.int .i64 o.ba) := O.cell (j := 7) rfl
    have f8 : w5.cell? ⟨w.heap.size, 8, none⟩ = some (.int .i64 o.no) := O.cell (j := 8) rfl
    have f9 : w5.cell? ⟨w.heap.size, 9, none⟩ = some (.int .i64 o.mo) := O.cell (j := 9) rfl
    have f10 : w5.cell? ⟨w.heap.size, 10, none⟩ = some (.int .i64 o.ph) := O.cell (j := 10) rfl
    have f11 : w5.cell? ⟨w.heap.size, 11, none⟩ = some (.int .i64 o.lo) := O.cell (j := 11) rfl
    have f12 : w5.cell? ⟨w.heap.size, 12, none⟩ = some (.int .i64 o.mi) := O.cell (j := 12) rfl
    have f13 : w5.cell? ⟨w.heap.size, 13, none⟩ = some (.int .i64 o.mn) := O.cell (j := 13) rfl
    have f14 : w5.cell? ⟨w.heap.size, 14, none⟩ = some (.int .i64 o.bi) := O.cell (j := 14) rfl
    have f15 : w5.cell? ⟨w.heap.size, 15, none⟩ = some (.int .u64 o.se) := O.cell (j := 15) rfl
    have hgl := (Array.getElem?_eq_some_iff.1 h4.out.2.1).1
    have h5h := Lib.hid (And.intro h5 (And.intro ((B5.block g hgl).trans h4.out.2.1) h4.out.2.2))
    clear h4 B5 h5 O hgl
    go_wp2_with fail
    refine (Cb _).mono ?_
    rintro e w6 ⟨rfl, B6⟩
    have hgl := (Array.getElem?_eq_some_iff.1 h5h.out.2.1).1
    have h6 := Lib.hid (And.intro (h5h.out.1.gave B6) (And.intro ((B6.block g hgl).trans h5h.out.2.1) h5h.out.2.2))
    clear h5h B6 Cb hgl f0 f1 f2 f3 f4 f5 f6 f7 f8 f9 f10 f11 f12 f13 f14 f15
    have T7 : Below w.heap.size w (w6.alloc (.cells #[.pointer none] 39)) := h6.out.1.below.alloc h6.out.1.below.size _
    have F7 : (w6.alloc (.cells #[.pointer none] 39)).heap[w6.heap.size]? = some (.cells #[.pointer none] 39 (0, 0)) := heap_alloc_new w6 _
    have hgl := (Array.getElem?_eq_some_iff.1 h6.out.2.1).1
    have G7 := (Below.heap_alloc w6 (.cells #[.pointer none] 39) g hgl).trans h6.out.2.1
    have C8 := as_made ⟨g, 0, none⟩ w6.heap.size (.pointer none) (w6.alloc (.cells #[.pointer none] 39)) (hEh.out.below T7) (cell_of_block F7 rfl) (frozen_of_block F7)
    have hfb := h6.out.1.below.size
    have h7 := Lib.hid (And.intro T7 (And.intro G7 (And.intro hgl hfb)))
    clear T7 F7 hgl G7 h6 hfb
    go_wp2_with fail
    generalize w6.alloc _ = w7 at *
    generalize w6.heap.size = fb at *
    refine C8.mono ?_
    clear C8
    rintro e w8 ⟨rfl, A8⟩
    have T8 : Below w.heap.size w w8 := h7.out.1.trans (A8.below.mono h7.out.2.2.2)
    have k0 := A8.hit
    have k1 : w8.cell? ⟨g, 0, none⟩ = some (.string nm) := A8.far _ _ (Nat.ne_of_lt h7.out.2.2.1) (cell_of_block h7.out.2.1 rfl)
    have k2 : w8.cell? ⟨g, 0 + 1, none⟩ = some (.iface 56 (.int .i64 12)) := A8.far _ _ (Nat.ne_of_lt h7.out.2.2.1) (cell_of_block h7.out.2.1 rfl)
    have C9 := is_fault g 0 12 w8 k2
    have C10 := unwrap_any g 12 w8 k2
    have C11 := is_errno 12 w8
    have C12 := fault_error g nm (by omega) w8 k1 k2
    rw [error_text] at C12
    have h8 := Lib.hid T8
    clear h7 T8 A8 k2
    go_wp2_with fail
    refine C9.mono ?_
    clear C9
    rintro e w9 ⟨rfl, rfl⟩
    go_wp2_with fail
    refine C10.mono ?_
    clear C10
    rintro e w9 ⟨rfl, rfl⟩
    go_wp2_with fail
    refine C11.mono ?_
    clear C11
    rintro e w9 ⟨rfl, rfl⟩
    go_wp2_with fail
    refine C12.mono ?_
    clear C12
    rintro e w9 ⟨rfl, n9, rfl⟩
    go_wp2_with fail
    go_ret
    exact ⟨by simp, Below.drewNO h8.out _⟩

end Go.Proofs.YtopoejfbcbnmdaaDoor
