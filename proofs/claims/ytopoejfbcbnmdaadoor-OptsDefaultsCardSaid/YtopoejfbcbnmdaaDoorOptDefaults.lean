import Derived.Test.YtopoejfbcbnmdaaDoorOptSet
import Derived.Test.YtopoejfbcbnmdaaDoorOptChecks
namespace Go.Proofs.YtopoejfbcbnmdaaDoor
open Go Go.RowKit

def defW (w2 : World) : World := (((w2.alloc (.cells optDefault.vals 24)).alloc (.cells (lstCells optDefault) 3)).alloc (.cells optDefault.vals 24)).alloc (.cells (lstCells optDefault) 3)
structure DefW (w0 : World) (ob : Nat) (w : World) : Prop where
  opt : OptAt w ob optDefault
  want : ∀ i, i < 15 → w.cell? ⟨ob + 1, i, none⟩ = some (.int .i64 ((lst optDefault).getD i 0))
  list : ∀ i, i < 15 → w.cell? ⟨ob + 1 + 1 + 1, i, none⟩ = some (.int .i64 ((lst optDefault).getD i 0))
  below : Below w0.heap.size w0 w
  ge : w0.heap.size ≤ ob
theorem defW_is {w0 w2 : World} (B : Below w0.heap.size w0 w2) : DefW w0 w2.heap.size (defW w2) := by
  have hB := B.size
  refine ⟨?_, fun i hi => ?_, fun i hi => ?_, ?_, hB⟩
  · unfold defW OptAt
    iterate 3 refine (Below.heap_alloc _ _ _ (by simp <;> omega)).trans ?_
    exact heap_alloc_new w2 _
  · unfold defW
    iterate 2 refine cell_more ?_ _
    rw [World.cell?_alloc_at _ _ _ _ (by simp)]; exact lstCells_get optDefault i hi
  · unfold defW
    rw [World.cell?_alloc_at _ _ _ _ (by simp)]; exact lstCells_get optDefault i hi
  · unfold defW
    exact (((B.alloc hB _).alloc (by simp; omega) _).alloc (by simp; omega) _).alloc (by simp; omega) _

set_option maxRecDepth 100000 in
set_option maxHeartbeats 4000000 in
theorem defaults_any (k : Nat) (n : Int) (hk : k < 256) (w : World) (hE : ErrVar w) (HB : ∀ o, BadOf o) :
    Calls Tryd.prog 4 #[.int .u8 k, .int .i64 n] w (Gave w (.bool true)) := by
  have C1 := fit21 w hE (HB _) (HB _)
  have Cd := fun w => default_any w
  have Cl := fun w => list_any optDefault w
  have hkm : k % 15 < 15 := Nat.mod_lt _ (by decide)
  unfold optDefault Opt.vals at Cd Cl
  dsimp only at Cd Cl
  have hEh := Lib.hid hE
  clear hE
  go_enter Tryd.func4, Tryd.ntmps4
  go_wp2_with fail
  refine C1.mono ?_
  clear C1
  rintro e w1 ⟨rfl, B1⟩
  have h1 := Lib.hid B1
  clear B1
  go_wp2_with fail
  refine (Cd _).mono ?_
  rintro e w2 ⟨rfl, B2⟩
  have T2 := h1.out.trans (B2.mono h1.out.size)
  have hB2 := Lib.hid T2
  clear h1 B2 T2 Cd
  have O3 : OptAt (w2.alloc (.cells #[.int .i64 (-1), .int .i64 (-1), .int .i64 50, .int .i64 300, .int .i64 100, .int .i64 1000, .int .i64 0, .int .i64 2, .int .i64 0, .int .i64 2, .int .i64 1, .int .i64 2, .int .i64 6, .int .i64 1, .int .i64 0, .int .u64 0] 24)) w2.heap.size optDefault := heap_alloc_new w2 _
  have f0 : (w2.alloc (.cells #[.int .i64 (-1), .int .i64 (-1), .int .i64 50, .int .i64 300, .int .i64 100, .int .i64 1000, .int .i64 0, .int .i64 2, .int .i64 0, .int .i64 2, .int .i64 1, .int .i64 2, .int .i64 6, .int .i64 1, .int .i64 0, .int .u64 0] 24)).cell? ⟨w2.heap.size, 0, none⟩ = some (.int .i64 (-1)) := O3.cell (j := 0) rfl
  have f1 : (w2.alloc (.cells #[.int .i64 (-1), .int .i64 (-1), .int .i64 50, .int .i64 300, .int .i64 100, .int .i64 1000, .int .i64 0, .int .i64 2, .int .i64 0, .int .i64 2, .int .i64 1, .int .i64 2, .int .i64 6, .int .i64 1, .int .i64 0, .int .u64 0] 24)).cell? ⟨w2.heap.size, 1, none⟩ = some (.int .i64 (-1)) := O3.cell (j := 1) rfl
  have f2 : (w2.alloc (.cells #[.int .i64 (-1), .int .i64 (-1), .int .i64 50, .int .i64 300, .int .i64 100, .int .i64 1000, .int .i64 0, .int .i64 2, .int .i64 0, .int .i64 2, .int .i64 1, .int .i64 2, .int .i64 6, .int .i64 1, .int .i64 0, .int .u64 0] 24)).cell? ⟨w2.heap.size, 2, none⟩ = some (.int .i64 50) := O3.cell (j := 2) rfl
  have f3 : (w2.alloc (.cells #[.int .i64 (-1), .int .i64 (-1), .int .i64 50, .int .i64 300, .int .i64 100, .int .i64 1000, .int .i64 0, .int .i64 2, .int .i64 0, .int .i64 2, .int .i64 1, .int .i64 2, .int .i64 6, .int .i64 1, .int .i64 0, .int .u64 0] 24)).cell? ⟨w2.heap.size, 3, none⟩ = some (.int .i64 300) := O3.cell (j := 3) rfl
  have f4 : (w2.alloc (.cells #[.int .i64 (-1), .int .i64 (-1), .int .i64 50, .int .i64 300, .int .i64 100, .int .i64 1000, .int .i64 0, .int .i64 2, .int .i64 0, .int .i64 2, .int .i64 1, .int .i64 2, .int .i64 6, .int .i64 1, .int .i64 0, .int .u64 0] 24)).cell? ⟨w2.heap.size, 4, none⟩ = some (.int .i64 100) := O3.cell (j := 4) rfl
  have f5 : (w2.alloc (.cells #[.int .i64 (-1), .int .i64 (-1), .int .i64 50, .int .i64 300, .int .i64 100, .int .i64 1000, .int .i64 0, .int .i64 2, .int .i64 0, .int .i64 2, .int .i64 1, .int .i64 2, .int .i64 6, .int .i64 1, .int .i64 0, .int .u64 0] 24)).cell? ⟨w2.heap.size, 5, none⟩ = some (.int .i64 1000) := O3.cell (j := 5) rfl
  have f6 : (w2.alloc (.cells #[.int .i64 (-1), .int .i64 (-1), .int .i64 50, .int .i64 300, .int .i64 100, .int .i64 1000, .int .i64 0, .int .i64 2, .int .i64 0, .int .i64 2, .int .i64 1, .int .i64 2, .int .i64 6, .int .i64 1, .int .i64 0, .int .u64 0] 24)).cell? ⟨w2.heap.size, 6, none⟩ = some (.int .i64 0) := O3.cell (j := 6) rfl
  have f7 : (w2.alloc (.cells #[.int .i64 (-1), .int .i64 (-1), .int .i64 50, .int .i64 300, .int .i64 100, .int .i64 1000, .int .i64 0, .int .i64 2, .int .i64 0, .int .i64 2, .int .i64 1, .int .i64 2, .int .i64 6, .int .i64 1, .int .i64 0, .int .u64 0] 24)).cell? ⟨w2.heap.size, 7, none⟩ = some (.int .i64 2) := O3.cell (j := 7) rfl
  have f8 : (w2.alloc (.cells #[.int .i64 (-1), .int .i64 (-1), .int .i64 50, .int .i64 300, .int .i64 100, .int .i64 1000, .int .i64 0, .int .i64 2, .int .i64 0, .int .i64 2, .int .i64 1, .int .i64 2, .int .i64 6, .int .i64 1, .int .i64 0, .int .u64 0] 24)).cell? ⟨w2.heap.size, 8, none⟩ = some (.int .i64 0) := O3.cell (j := 8) rfl
  have f9 : (w2.alloc (.cells #[.int .i64 (-1), .int .i64 (-1), .int .i64 50, .int .i64 300, .int .i64 100, .int .i64 1000, .int .i64 0, .int .i64 2, .int .i64 0, .int .i64 2, .int .i64 1, .int .i64 2, .int .i64 6, .int .i64 1, .int .i64 0, .int .u64 0] 24)).cell? ⟨w2.heap.size, 9, none⟩ = some (.int .i64 2) := O3.cell (j := 9) rfl
  have f10 : (w2.alloc (.cells #[.int .i64 (-1), .int .i64 (-1), .int .i64 50, .int .i64 300, .int .i64 100, .int .i64 1000, .int .i64 0, .int .i64 2, .int .i64 0, .int .i64 2, .int .i64 1, .int .i64 2, .int .i64 6, .int .i64 1, .int .i64 0, .int .u64 0] 24)).cell? ⟨w2.heap.size, 10, none⟩ = some (.int .i64 1) := O3.cell (j := 10) rfl
  have f11 : (w2.alloc (.cells #[.int .i64 (-1), .int .i64 (-1), .int .i64 50, .int .i64 300, .int .i64 100, .int .i64 1000, .int .i64 0, .int .i64 2, .int .i64 0, .int .i64 2, .int .i64 1, .int .i64 2, .int .i64 6, .int .i64 1, .int .i64 0, .int .u64 0] 24)).cell? ⟨w2.heap.size, 11, none⟩ = some (.int .i64 2) := O3.cell (j := 11) rfl
  have f12 : (w2.alloc (.cells #[.int .i64 (-1), .int .i64 (-1), .int .i64 50, .int .i64 300, .int .i64 100, .int .i64 1000, .int .i64 0, .int .i64 2, .int .i64 0, .int .i64 2, .int .i64 1, .int .i64 2, .int .i64 6, .int .i64 1, .int .i64 0, .int .u64 0] 24)).cell? ⟨w2.heap.size, 12, none⟩ = some (.int .i64 6) := O3.cell (j := 12) rfl
  have f13 : (w2.alloc (.cells #[.int .i64 (-1), .int .i64 (-1), .int .i64 50, .int .i64 300, .int .i64 100, .int .i64 1000, .int .i64 0, .int .i64 2, .int .i64 0, .int .i64 2, .int .i64 1, .int .i64 2, .int .i64 6, .int .i64 1, .int .i64 0, .int .u64 0] 24)).cell? ⟨w2.heap.size, 13, none⟩ = some (.int .i64 1) := O3.cell (j := 13) rfl
  have f14 : (w2.alloc (.cells #[.int .i64 (-1), .int .i64 (-1), .int .i64 50, .int .i64 300, .int .i64 100, .int .i64 1000, .int .i64 0, .int .i64 2, .int .i64 0, .int .i64 2, .int .i64 1, .int .i64 2, .int .i64 6, .int .i64 1, .int .i64 0, .int .u64 0] 24)).cell? ⟨w2.heap.size, 14, none⟩ = some (.int .i64 0) := O3.cell (j := 14) rfl
  have f15 : (w2.alloc (.cells #[.int .i64 (-1), .int .i64 (-1), .int .i64 50, .int .i64 300, .int .i64 100, .int .i64 1000, .int .i64 0, .int .i64 2, .int .i64 0, .int .i64 2, .int .i64 1, .int .i64 2, .int .i64 6, .int .i64 1, .int .i64 0, .int .u64 0] 24)).cell? ⟨w2.heap.size, 15, none⟩ = some (.int .u64 0) := O3.cell (j := 15) rfl
  clear O3
  go_wp2_with (go_at_call 9; refine (Cl _).mono ?_; rintro e w' ⟨rfl, rfl⟩)
  clear f0 f1 f2 f3 f4 f5 f6 f7 f8 f9 f10 f11 f12 f13 f14 f15 Cl
  change Code.wp _ _ _ _ (defW w2)
  have K := defW_is hB2.out
  generalize defW w2 = w3 at *
  generalize w2.heap.size = ob at *
  have Kh := Lib.hid K
  clear K hB2
  go_loop [20] (fun v => ∃ i : Nat, i ≤ 15 ∧ v = .int .i64 i) (fun v => 15 - (intOf v).toNat)
  case atStart => exact ⟨0, by omega, rfl⟩
  case round =>
    obtain ⟨i, hi, rfl⟩ := hrel
    by_cases hil : i < 15
    · have q1 := Kh.out.want i hil
      have q2 := Kh.out.list i hil
      generalize (lst optDefault).getD i 0 = x at *
      go_wp2_with fail
      exact ⟨⟨i + 1, by omega, by go_num⟩, by simp [intOf]; omega⟩
    · as_aux_lemma =>
        obtain rfl : i = 15 := by omega
        clear hil hi
        have Cn := fun w => lnames_any w
        have q1 : (w3.alloc (.cells nameCells 9)).cell? ⟨w3.heap.size, k % 15, none⟩ = some (.string (optNames.getD (k % 15) ByteArray.empty)) := by
          rw [World.cell?_alloc_at _ _ _ _ rfl]; exact nameCells_get _ hkm
        have hid := idx_name (k % 15) hkm
        have O4 : OptAt (w3.alloc (.cells nameCells 9)) ob optDefault := Kh.out.opt.below ((Below.refl _ _).alloc (Nat.le_refl _) _)
        have T4 := Kh.out.below.alloc Kh.out.below.size (.cells nameCells 9)
        have Cs := set_hit ob _ (k % 15) hid hkm _ n (w3.alloc (.cells nameCells 9)) (O4.cell (vals_get _ _ hkm)) (frozen_of_block O4)
        generalize optNames.getD (k % 15) ByteArray.empty = nm at *
        have h4 := Lib.hid (And.intro O4 T4)
        clear O4 T4 hid
        go_wp2_with (go_at_call 12; refine (Cn _).mono ?_; rintro e w' ⟨rfl, rfl⟩)
        refine Cs.mono ?_
        clear Cs q1 Cn
        rintro e w5 ⟨rfl, w4, B5, rfl⟩
        have O5 : OptAt (w4.setCell ⟨ob, k % 15, none⟩ (.int .i64 n)) ob (optDefault.setAt (k % 15) n) := (h4.out.1.below B5).set hkm n
        have T5 : Below w.heap.size w (w4.setCell ⟨ob, k % 15, none⟩ (.int .i64 n)) := (h4.out.2.trans (B5.mono h4.out.2.size)).setCell Kh.out.ge _
        have hse : (optDefault.setAt (k % 15) n).se = 0 := setAt_se optDefault n _
        generalize w4.setCell _ _ = w5 at *
        generalize optDefault.setAt (k % 15) n = o at *
        have Cb := fun w => lbad_any o w
        have hsz := bad_size o
        unfold BadSaid at Cb
        have C0 := fun w h => check_nil o (HB o) h w
        have C1 := fun w hne => check_fault o (HB o) rfl hne w
        unfold Opt.vals at Cb C0 C1
        have f0 : w5.cell? ⟨ob, 0, none⟩ = some (.int .i64 o.co) := O5.cell (j := 0) rfl
        have f1 : w5.cell? ⟨ob, 1, none⟩ = some (.int .i64 o.wo) := O5.cell (j := 1) rfl
        have f2 : w5.cell? ⟨ob, 2, none⟩ = some (.int .i64 o.re) := O5.cell (j := 2) rfl
        have f3 : w5.cell? ⟨ob, 3, none⟩ = some (.int .i64 o.fi) := O5.cell (j := 3) rfl
        have f4 : w5.cell? ⟨ob, 4, none⟩ = some (.int .i64 o.ri) := O5.cell (j := 4) rfl
        have f5 : w5.cell? ⟨ob, 5, none⟩ = some (.int .i64 o.wa) := O5.cell (j := 5) rfl
        have f6 : w5.cell? ⟨ob, 6, none⟩ = some (.int .i64 o.ki) := O5.cell (j := 6) rfl
        have f7 : w5.cell? ⟨ob, 7, none⟩ = some (.int .i64 o.ba) := O5.cell (j := 7) rfl
        have f8 : w5.cell? ⟨ob, 8, none⟩ = some (.int .i64 o.no) := O5.cell (j := 8) rfl
        have f9 : w5.cell? ⟨ob, 9, none⟩ = some (.int .i64 o.mo) := O5.cell (j := 9) rfl
        have f10 : w5.cell? ⟨ob, 10, none⟩ = some (.int .i64 o.ph) := O5.cell (j := 10) rfl
        have f11 : w5.cell? ⟨ob, 11, none⟩ = some (.int .i64 o.lo) := O5.cell (j := 11) rfl
        have f12 : w5.cell? ⟨ob, 12, none⟩ = some (.int .i64 o.mi) := O5.cell (j := 12) rfl
        have f13 : w5.cell? ⟨ob, 13, none⟩ = some (.int .i64 o.mn) := O5.cell (j := 13) rfl
        have f14 : w5.cell? ⟨ob, 14, none⟩ = some (.int .i64 o.bi) := O5.cell (j := 14) rfl
        have f15 : w5.cell? ⟨ob, 15, none⟩ = some (.int .u64 o.se) := O5.cell (j := 15) rfl
        have h5 := Lib.hid (And.intro O5 (And.intro T5 hse))
        clear O5 T5 hse h4 Kh B5 hkm
        by_cases hz : badS o = ⟨#[]⟩
        · as_aux_lemma =>
            have C2 := fun w => C0 w hz
            rw [hz] at Cb
            clear C0 C1 hz
            go_wp2_with fail
            refine (C2 _).mono ?_
            rintro e w6 ⟨rfl, B6⟩
            have O6 := h5.out.1.below B6
            have T6 := h5.out.2.1.trans (B6.mono h5.out.2.1.size)
            clear f0 f1 f2 f3 f4 f5 f6 f7 f8 f9 f10 f11 f12 f13 f14 f15 C2
            have f0 : w6.cell? ⟨ob, 0, none⟩ = some (.int .i64 o.co) := O6.cell (j := 0) rfl
            have f1 : w6.cell? ⟨ob, 1, none⟩ = some (.int .i64 o.wo) := O6.cell (j := 1) rfl
            have f2 : w6.cell? ⟨ob, 2, none⟩ = some (.int .i64 o.re) := O6.cell (j := 2) rfl
            have f3 : w6.cell? ⟨ob, 3, none⟩ = some (.int .i64 o.fi) := O6.cell (j := 3) rfl
            have f4 : w6.cell? ⟨ob, 4, none⟩ = some (.int .i64 o.ri) := O6.cell (j := 4) rfl
            have f5 : w6.cell? ⟨ob, 5, none⟩ = some (.int .i64 o.wa) := O6.cell (j := 5) rfl
            have f6 : w6.cell? ⟨ob, 6, none⟩ = some (.int .i64 o.ki) := O6.cell (j := 6) rfl
            have f7 : w6.cell? ⟨ob, 7, none⟩ = some (.int .i64 o.ba) := O6.cell (j := 7) rfl
            have f8 : w6.cell? ⟨ob, 8, none⟩ = some (.int .i64 o.no) := O6.cell (j := 8) rfl
            have f9 : w6.cell? ⟨ob, 9, none⟩ = some (.int .i64 o.mo) := O6.cell (j := 9) rfl
            have f10 : w6.cell? ⟨ob, 10, none⟩ = some (.int .i64 o.ph) := O6.cell (j := 10) rfl
            have f11 : w6.cell? ⟨ob, 11, none⟩ = some (.int .i64 o.lo) := O6.cell (j := 11) rfl
            have f12 : w6.cell? ⟨ob, 12, none⟩ = some (.int .i64 o.mi) := O6.cell (j := 12) rfl
            have f13 : w6.cell? ⟨ob, 13, none⟩ = some (.int .i64 o.mn) := O6.cell (j := 13) rfl
            have f14 : w6.cell? ⟨ob, 14, none⟩ = some (.int .i64 o.bi) := O6.cell (j := 14) rfl
            have f15 : w6.cell? ⟨ob, 15, none⟩ = some (.int .u64 o.se) := O6.cell (j := 15) rfl
            have h6 := Lib.hid (And.intro O6 (And.intro T6 h5.out.2.2))
            clear O6 T6 B6 h5
            go_wp2_with fail
            refine (Cb _).mono ?_
            rintro e w7 ⟨rfl, B7⟩
            have O7 := h6.out.1.below B7
            have T7 := Lib.hid (h6.out.2.1.trans (B7.mono h6.out.2.1.size))
            clear f0 f1 f2 f3 f4 f5 f6 f7 f8 f9 f10 f11 f12 f13 f14 f15 Cb
            have f15 : w7.cell? ⟨ob, 15, none⟩ = some (.int .u64 0) := by rw [← h6.out.2.2]; exact O7.cell (j := 15) rfl
            have hob : ob < w7.heap.size := (Array.getElem?_eq_some_iff.1 O7).1
            clear O7 B7 h6
            go_wp2_with fail
            go_ret
            exact ⟨rfl, T7.out.alloc T7.out.size _⟩
        · as_aux_lemma =>
            have hne := optNil hz
            have C2 := fun w => C1 w hne
            have he0 : (badS o).toList.isEmpty = false := by simpa using hne
            have he1 : ((badS o).toList == []) = false := by simpa using hne
            clear C0 C1 hz hne
            generalize badS o = bm at *
            go_wp2_with fail
            refine (C2 _).mono ?_
            rintro e w6 ⟨g, rfl, B6, hg6, G6⟩
            have O6 := h5.out.1.below B6
            have T6 := h5.out.2.1.trans (B6.mono h5.out.2.1.size)
            clear f0 f1 f2 f3 f4 f5 f6 f7 f8 f9 f10 f11 f12 f13 f14 f15 C2
            have f0 : w6.cell? ⟨ob, 0, none⟩ = some (.int .i64 o.co) := O6.cell (j := 0) rfl
            have f1 : w6.cell? ⟨ob, 1, none⟩ = some (.int .i64 o.wo) := O6.cell (j := 1) rfl
            have f2 : w6.cell? ⟨ob, 2, none⟩ = some (.int .i64 o.re) := O6.cell (j := 2) rfl
            have f3 : w6.cell? ⟨ob, 3, none⟩ = some (.int .i64 o.fi) := O6.cell (j := 3) rfl
            have f4 : w6.cell? ⟨ob, 4, none⟩ = some (.int .i64 o.ri) := O6.cell (j := 4) rfl
            have f5 : w6.cell? ⟨ob, 5, none⟩ = some (.int .i64 o.wa) := O6.cell (j := 5) rfl
            have f6 : w6.cell? ⟨ob, 6, none⟩ = some (.int .i64 o.ki) := O6.cell (j := 6) rfl
            have f7 : w6.cell? ⟨ob, 7, none⟩ = some (.int .i64 o.ba) := O6.cell (j := 7) rfl
            have f8 : w6.cell? ⟨ob, 8, none⟩ = some (.int .i64 o.no) := O6.cell (j := 8) rfl
            have f9 : w6.cell? ⟨ob, 9, none⟩ = some (.int .i64 o.mo) := O6.cell (j := 9) rfl
            have f10 : w6.cell? ⟨ob, 10, none⟩ = some (.int .i64 o.ph) := O6.cell (j := 10) rfl
            have f11 : w6.cell? ⟨ob, 11, none⟩ = some (.int .i64 o.lo) := O6.cell (j := 11) rfl
            have f12 : w6.cell? ⟨ob, 12, none⟩ = some (.int .i64 o.mi) := O6.cell (j := 12) rfl
            have f13 : w6.cell? ⟨ob, 13, none⟩ = some (.int .i64 o.mn) := O6.cell (j := 13) rfl
            have f14 : w6.cell? ⟨ob, 14, none⟩ = some (.int .i64 o.bi) := O6.cell (j := 14) rfl
            have f15 : w6.cell? ⟨ob, 15, none⟩ = some (.int .u64 o.se) := O6.cell (j := 15) rfl
            have h6 := Lib.hid (And.intro O6 (And.intro T6 (And.intro h5.out.2.2 (And.intro G6 (Nat.lt_of_lt_of_le (Array.getElem?_eq_some_iff.1 h5.out.1).1 hg6)))))
            clear O6 T6 B6 h5 G6 hg6
            go_wp2_with fail
            refine (Cb _).mono ?_
            rintro e w7 ⟨rfl, B7⟩
            have O7 := h6.out.1.below B7
            have T7 := h6.out.2.1.trans (B7.mono h6.out.2.1.size)
            have hg6 := (Array.getElem?_eq_some_iff.1 h6.out.2.2.2.1).1
            have G7 := (B7.block g hg6).trans h6.out.2.2.2.1
            clear f0 f1 f2 f3 f4 f5 f6 f7 f8 f9 f10 f11 f12 f13 f14 f15 Cb
            have f15 : w7.cell? ⟨ob, 15, none⟩ = some (.int .u64 0) := by rw [← h6.out.2.2.1]; exact O7.cell (j := 15) rfl
            have F8 : (w7.alloc (.cells #[.pointer none] 39)).heap[w7.heap.size]? = some (.cells #[.pointer none] 39 (0, 0)) := heap_alloc_new w7 _
            have T8 := T7.alloc T7.size (.cells #[.pointer none] 39)
            have C8 := as_made ⟨g, 0, none⟩ w7.heap.size (.pointer none) (w7.alloc (.cells #[.pointer none] 39)) (hEh.out.below T8) (cell_of_block F8 rfl) (frozen_of_block F8)
            have c15 : (w7.alloc (.cells #[.pointer none] 39)).cell? ⟨ob, 15, none⟩ = some (.int .u64 0) := cell_more f15 _
            have hob : ob < w7.heap.size := (Array.getElem?_eq_some_iff.1 O7).1
            have hgl : g < w7.heap.size := (Array.getElem?_eq_some_iff.1 G7).1
            have G8 := (Below.heap_alloc w7 (.cells #[.pointer none] 39) g hgl).trans G7
            have h8 := Lib.hid (And.intro T8 (And.intro G8 (And.intro hgl (And.intro hob T7.size))))
            have c15h := Lib.hid c15
            clear O7 B7 T7 G7 F8 T8 G8 hgl h6 hg6 f15 c15 hob
            go_wp2_with fail
            generalize w7.alloc _ = w8 at *
            generalize w7.heap.size = fb at *
            refine C8.mono ?_
            clear C8
            rintro e w9 ⟨rfl, A9⟩
            have T9 : Below w.heap.size w w9 := h8.out.1.trans (A9.below.mono h8.out.2.2.2.2)
            have k0 := A9.hit
            have k1 : w9.cell? ⟨g, 0, none⟩ = some (.string bm) := A9.far _ _ (Nat.ne_of_lt h8.out.2.2.1) (cell_of_block h8.out.2.1 rfl)
            have k3 : w9.cell? ⟨ob, 15, none⟩ = some (.int .u64 0) := A9.far _ _ (Nat.ne_of_lt h8.out.2.2.2.1) c15h.out
            have h9 := Lib.hid T9
            clear h8 T9 A9 c15h
            go_wp2_with fail
            go_ret
            exact ⟨by simp, h9.out⟩

end Go.Proofs.YtopoejfbcbnmdaaDoor
