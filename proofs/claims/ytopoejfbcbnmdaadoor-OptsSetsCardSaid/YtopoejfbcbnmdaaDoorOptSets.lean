import Derived.Test.YtopoejfbcbnmdaaDoorOptSet
import Derived.Deep.RegionHeld3
namespace Go.Proofs.YtopoejfbcbnmdaaDoor
open Go Go.RowKit

/-- What stands while options are set. -/
structure SetsB (w0 : World) (ob wb xb : Nat) (o o' : Opt) (i : Nat) (w : World) : Prop where
  opt : OptAt w ob o'
  was : ∀ j, j < 15 → w.cell? ⟨wb, j, none⟩ = some (.int .i64 ((lst o).getD j 0))
  x : ∀ j, i ≤ j → j < 15 → w.cell? ⟨xb, j, none⟩ = some (.string (optNames.getD j ByteArray.empty))
  free : ∀ j, w.frozen? ⟨xb, j, none⟩ = false
  xlt : xb < w.heap.size
  below : Below w0.heap.size w0 w
theorem SetsB.gave {w0 w w' : World} {ob wb xb : Nat} {o o' : Opt} {i : Nat} (h : SetsB w0 ob wb xb o o' i w) (B : Below w.heap.size w w') : SetsB w0 ob wb xb o o' i w' :=
  ⟨h.opt.below B, fun j hj => (B.cell (World.block_lt_of_cell? w _ (h.was j hj))).trans (h.was j hj),
    fun j hi hj => (B.cell (p := ⟨xb, j, none⟩) h.xlt).trans (h.x j hi hj), fun j => (B.frozen (p := ⟨xb, j, none⟩) h.xlt).trans (h.free j), Nat.lt_of_lt_of_le h.xlt B.size, h.below.trans (B.mono h.below.size)⟩
theorem SetsB.set {w0 w : World} {ob wb xb : Nat} {o o' : Opt} {i : Nat} (h : SetsB w0 ob wb xb o o' i w) (h0 : w0.heap.size ≤ ob) (h1 : wb ≠ ob) (h2 : xb ≠ ob) {k : Nat} (hk : k < 15) (n : Int) : SetsB w0 ob wb xb o (o'.setAt k n) i (w.setCell ⟨ob, k, none⟩ (.int .i64 n)) :=
  ⟨h.opt.set hk n, fun j hj => (World.cell?_setCell_other _ _ _ _ (fun e => h1 (by cases e; rfl))).trans (h.was j hj),
    fun j hi hj => (World.cell?_setCell_other _ _ _ _ (fun e => h2 (by cases e; rfl))).trans (h.x j hi hj), fun j => by have := h.free j; simpa using this, by simpa [World.setCell] using h.xlt, h.below.setCell h0 _⟩
def Listed (w : World) (lb : Nat) (o' : Opt) : Prop := ∀ j, j < 15 → w.cell? ⟨lb, j, none⟩ = some (.int .i64 ((lst o').getD j 0))
theorem Listed.gave {w w' : World} {lb : Nat} {o' : Opt} (h : Listed w lb o') (B : Below w.heap.size w w') : Listed w' lb o' := fun j hj => (B.cell (World.block_lt_of_cell? w _ (h j hj))).trans (h j hj)
theorem Listed.store {w : World} {lb xb i : Nat} {o' : Opt} (h : Listed w lb o') (hne : lb ≠ xb) (v : Value) : Listed (w.setCell ⟨xb, i, none⟩ v) lb o' := fun j hj => (World.cell?_setCell_other _ _ _ _ (fun e => hne (by cases e; rfl))).trans (h j hj)
theorem SetsB.store {w0 w : World} {ob wb xb : Nat} {o o' : Opt} {i : Nat} (h : SetsB w0 ob wb xb o o' i w) (h0 : w0.heap.size ≤ xb) (h1 : ob ≠ xb) (h2 : wb ≠ xb) (v : Value) : SetsB w0 ob wb xb o o' (i + 1) (w.setCell ⟨xb, i, none⟩ v) :=
  ⟨(Below.heap_setCell w ⟨xb, i, none⟩ v ob h1).trans h.opt, fun j hj => (World.cell?_setCell_other _ _ _ _ (fun e => h2 (by cases e; rfl))).trans (h.was j hj),
    fun j hi hj => (World.cell?_setCell_other _ _ _ _ (fun e => by cases e; omega)).trans (h.x j (by omega) hj), fun j => by have := h.free j; simpa using this, by simpa [World.setCell] using h.xlt, h.below.setCell h0 v⟩

/-- The world in which the first option is set. -/
def setW (o : Opt) (w2 : World) : World := ((w2.alloc (.cells o.vals 24)).alloc (.cells (lstCells o) 3)).alloc (.cells nameCells 9)
theorem setW_is {w0 w2 : World} {ob : Nat} {o : Opt} (O : OptAt w2 ob o) (T : Below w0.heap.size w0 w2) : SetsB w0 ob (w2.heap.size + 1) (w2.heap.size + 1 + 1) o o 0 (setW o w2) := by
  have hs := T.size
  have F : (setW o w2).heap[w2.heap.size + 1 + 1]? = some (.cells nameCells 9 (0, 0)) := by
    have := heap_alloc_new ((w2.alloc (.cells o.vals 24)).alloc (.cells (lstCells o) 3)) (.cells nameCells 9)
    rwa [show ((w2.alloc (.cells o.vals 24)).alloc (.cells (lstCells o) 3)).heap.size = w2.heap.size + 1 + 1 by simp] at this
  have B : Below w2.heap.size w2 (setW o w2) := by
    unfold setW
    exact (((Below.refl _ _).alloc (Nat.le_refl _) _).alloc (by simp) _).alloc (by simp <;> omega) _
  refine ⟨O.below B, fun j hj => ?_, fun j _ hj => cell_of_block F (nameCells_get j hj), fun j => frozen_of_block F, (Array.getElem?_eq_some_iff.1 F).1, T.trans (B.mono hs)⟩
  unfold setW
  refine cell_more ?_ _
  rw [World.cell?_alloc_at _ _ _ _ (by simp)]; exact lstCells_get o j hj

set_option maxRecDepth 100000 in
set_option maxHeartbeats 4000000 in
theorem sets_any (o : Opt) (k : Nat) (n : Int) (hk : k < 256) (w : World) (hE : ErrVar w) (HB : ∀ o, BadOf o) :
    Calls Tryd.prog 3 #[.agg o.vals, .int .u8 k, .int .i64 n] w (Gave w (.bool true)) := by
  have O1 : OptAt (w.alloc (.cells o.vals 24)) w.heap.size o := heap_alloc_new w _
  have T1 : Below w.heap.size w (w.alloc (.cells o.vals 24)) := (Below.refl _ _).alloc (Nat.le_refl _) _
  have C1 := fit21 _ (hE.below T1) (HB _) (HB _)
  have Cl := fun w => list_any o w
  have Cn := fun w => lnames_any w
  have CN := fun w => names_any w
  have hkm : k % 15 < 15 := Nat.mod_lt _ (by decide)
  unfold Opt.vals at Cl O1 T1 C1 ⊢
  have h1 := Lib.hid (And.intro O1 T1)
  clear O1 T1 hE HB
  go_enter Tryd.func3, Tryd.ntmps3
  go_wp2_with fail
  generalize w.alloc _ = w1 at *
  obtain ⟨ob, hob⟩ : ∃ ob, w.heap.size = ob := ⟨_, rfl⟩
  rw [hob] at h1 ⊢
  have hobh := Lib.hid hob
  refine C1.mono ?_
  clear C1 hob
  rintro e w2 ⟨rfl, B2⟩
  have O2 := h1.out.1.below B2
  have T2 : Below w.heap.size w w2 := (hobh.out ▸ h1.out.2).trans (B2.mono (hobh.out ▸ h1.out.2.size))
  have f0 : w2.cell? ⟨ob, 0, none⟩ = some (.int .i64 o.co) := O2.cell (j := 0) rfl
  have f1 : w2.cell? ⟨ob, 1, none⟩ = some (.int .i64 o.wo) := O2.cell (j := 1) rfl
  have f2 : w2.cell? ⟨ob, 2, none⟩ = some (.int .i64 o.re) := O2.cell (j := 2) rfl
  have f3 : w2.cell? ⟨ob, 3, none⟩ = some (.int .i64 o.fi) := O2.cell (j := 3) rfl
  have f4 : w2.cell? ⟨ob, 4, none⟩ = some (.int .i64 o.ri) := O2.cell (j := 4) rfl
  have f5 : w2.cell? ⟨ob, 5, none⟩ = some (.int .i64 o.wa) := O2.cell (j := 5) rfl
  have f6 : w2.cell? ⟨ob, 6, none⟩ = some (.int .i64 o.ki) := O2.cell (j := 6) rfl
  have f7 : w2.cell? ⟨ob, 7, none⟩ = some (.int .i64 o.ba) := O2.cell (j := 7) rfl
  have f8 : w2.cell? ⟨ob, 8, none⟩ = some (.int .i64 o.no) := O2.cell (j := 8) rfl
  have f9 : w2.cell? ⟨ob, 9, none⟩ = some (.int .i64 o.mo) := O2.cell (j := 9) rfl
  have f10 : w2.cell? ⟨ob, 10, none⟩ = some (.int .i64 o.ph) := O2.cell (j := 10) rfl
  have f11 : w2.cell? ⟨ob, 11, none⟩ = some (.int .i64 o.lo) := O2.cell (j := 11) rfl
  have f12 : w2.cell? ⟨ob, 12, none⟩ = some (.int .i64 o.mi) := O2.cell (j := 12) rfl
  have f13 : w2.cell? ⟨ob, 13, none⟩ = some (.int .i64 o.mn) := O2.cell (j := 13) rfl
  have f14 : w2.cell? ⟨ob, 14, none⟩ = some (.int .i64 o.bi) := O2.cell (j := 14) rfl
  have f15 : w2.cell? ⟨ob, 15, none⟩ = some (.int .u64 o.se) := O2.cell (j := 15) rfl
  have h2 := Lib.hid (And.intro O2 T2)
  clear O2 T2 B2 h1
  go_wp2_with (first
    | (go_at_call 9; refine (Cl _).mono ?_; rintro e w' ⟨rfl, rfl⟩)
    | (go_at_call 10; refine (CN _).mono ?_; rintro e w' ⟨rfl, rfl⟩))
  clear f0 f1 f2 f3 f4 f5 f6 f7 f8 f9 f10 f11 f12 f13 f14 f15 CN
  change Calls _ _ _ (setW o w2) _
  have K := setW_is h2.out.1 h2.out.2
  have hs2 := Nat.lt_of_lt_of_le (Array.getElem?_eq_some_iff.1 h2.out.1).1 (Nat.le_refl _)
  generalize setW o w2 = w3 at *
  generalize w2.heap.size = s at *
  refine (Cn _).mono ?_
  rintro e w4 ⟨rfl, rfl⟩
  have q1 : (w3.alloc (.cells nameCells 9)).cell? ⟨w3.heap.size, k % 15, none⟩ = some (.string (optNames.getD (k % 15) ByteArray.empty)) := by
    rw [World.cell?_alloc_at _ _ _ _ rfl]; exact nameCells_get _ hkm
  have hid := idx_name (k % 15) hkm
  have K4 := K.gave ((Below.refl _ _).alloc (Nat.le_refl _) (.cells nameCells 9))
  have Cs := set_hit ob _ (k % 15) hid hkm _ n (w3.alloc (.cells nameCells 9)) (K4.opt.cell (vals_get _ _ hkm)) (frozen_of_block K4.opt)
  generalize optNames.getD (k % 15) ByteArray.empty = nm at *
  have h4 := Lib.hid (And.intro K4 hs2)
  clear K4 K hid h2 hs2
  go_wp2_with fail
  refine Cs.mono ?_
  clear Cs q1
  rintro e w5 ⟨rfl, w4, B5, rfl⟩
  have K5 := (h4.out.1.gave B5).set (by rw [hobh.out]; exact Nat.le_refl _) (by have := h4.out.2; omega) (by have := h4.out.2; omega) hkm n
  have hlst := setAt_lst o n (k % 15) hkm
  generalize hw5 : w4.setCell _ _ = w5 at *
  clear hw5
  generalize o.setAt (k % 15) n = o' at *
  have h5 := Lib.hid (And.intro K5 h4.out.2)
  have hlsth := Lib.hid hlst
  clear K5 h4 B5 hlst
  have M1 := fun w => set_miss ob ⟨#[110, 111, 110, 101]⟩ (by decide +kernel) 5 w
  have M2 := fun w => set_miss ob ⟨#[]⟩ (by decide +kernel) 5 w
  have M3 := fun w => set_miss ob ⟨#[87, 97, 108, 107]⟩ (by decide +kernel) 5 w
  go_wp2_with fail
  refine (M1 _).mono ?_
  rintro e w6 ⟨rfl, B6⟩
  have h6 := Lib.hid (And.intro (h5.out.1.gave B6) h5.out.2)
  clear h5 B6 M1
  go_wp2_with fail
  refine (M2 _).mono ?_
  rintro e w7 ⟨rfl, B7⟩
  have h7 := Lib.hid (And.intro (h6.out.1.gave B7) h6.out.2)
  clear h6 B7 M2
  go_wp2_with fail
  refine (M3 _).mono ?_
  rintro e w8 ⟨rfl, B8⟩
  have K8 := h7.out.1.gave B8
  have O8 := K8.opt
  have f0 : w8.cell? ⟨ob, 0, none⟩ = some (.int .i64 o'.co) := O8.cell (j := 0) rfl
  have f1 : w8.cell? ⟨ob, 1, none⟩ = some (.int .i64 o'.wo) := O8.cell (j := 1) rfl
  have f2 : w8.cell? ⟨ob, 2, none⟩ = some (.int .i64 o'.re) := O8.cell (j := 2) rfl
  have f3 : w8.cell? ⟨ob, 3, none⟩ = some (.int .i64 o'.fi) := O8.cell (j := 3) rfl
  have f4 : w8.cell? ⟨ob, 4, none⟩ = some (.int .i64 o'.ri) := O8.cell (j := 4) rfl
  have f5 : w8.cell? ⟨ob, 5, none⟩ = some (.int .i64 o'.wa) := O8.cell (j := 5) rfl
  have f6 : w8.cell? ⟨ob, 6, none⟩ = some (.int .i64 o'.ki) := O8.cell (j := 6) rfl
  have f7 : w8.cell? ⟨ob, 7, none⟩ = some (.int .i64 o'.ba) := O8.cell (j := 7) rfl
  have f8 : w8.cell? ⟨ob, 8, none⟩ = some (.int .i64 o'.no) := O8.cell (j := 8) rfl
  have f9 : w8.cell? ⟨ob, 9, none⟩ = some (.int .i64 o'.mo) := O8.cell (j := 9) rfl
  have f10 : w8.cell? ⟨ob, 10, none⟩ = some (.int .i64 o'.ph) := O8.cell (j := 10) rfl
  have f11 : w8.cell? ⟨ob, 11, none⟩ = some (.int .i64 o'.lo) := O8.cell (j := 11) rfl
  have f12 : w8.cell? ⟨ob, 12, none⟩ = some (.int .i64 o'.mi) := O8.cell (j := 12) rfl
  have f13 : w8.cell? ⟨ob, 13, none⟩ = some (.int .i64 o'.mn) := O8.cell (j := 13) rfl
  have f14 : w8.cell? ⟨ob, 14, none⟩ = some (.int .i64 o'.bi) := O8.cell (j := 14) rfl
  have f15 : w8.cell? ⟨ob, 15, none⟩ = some (.int .u64 o'.se) := O8.cell (j := 15) rfl
  have h8 := Lib.hid (And.intro K8 h7.out.2)
  have Cl' := fun w => list_any o' w
  unfold Opt.vals at Cl'
  clear K8 O8 h7 B8 M3 Cl
  go_wp2_with (go_at_call 9; refine (Cl' _).mono ?_; rintro e w' ⟨rfl, rfl⟩)
  clear f0 f1 f2 f3 f4 f5 f6 f7 f8 f9 f10 f11 f12 f13 f14 f15 Cl'
  have hL : Listed ((w8.alloc (.cells o'.vals 24)).alloc (.cells (lstCells o') 3)) (w8.heap.size + 1) o' := fun j hj => by
    rw [World.cell?_alloc_at _ _ _ _ (by simp)]; exact lstCells_get o' j hj
  have K9 := h8.out.1.gave (((Below.refl _ _).alloc (Nat.le_refl _) (.cells o'.vals 24)).alloc (by simp) (.cells (lstCells o') 3))
  have hlx : w8.heap.size + 1 ≠ s + 1 + 1 := by have := h8.out.1.xlt; omega
  unfold Opt.vals at hL K9
  generalize (w8.alloc _).alloc _ = w9 at *
  generalize w8.heap.size + 1 = lb at *
  have h9 := Lib.hid (And.intro K9 hL)
  have hsep := Lib.hid (And.intro h8.out.2 hlx)
  clear K9 hL h8 hlx
  go_loopw [49] (fun v wr => ∃ i : Nat, i ≤ 15 ∧ v = .int .i64 i ∧ RowKit.Hid (SetsB w ob (s + 1) (s + 1 + 1) o o' i wr ∧ Listed wr lb o')) (fun v _ => 15 - (intOf v).toNat)
  case atStart => exact ⟨0, by omega, rfl, h9⟩
  case round =>
    clear h9
    obtain ⟨i, hi, rfl, Kh⟩ := hrel
    by_cases hil : i < 15
    · have cl := Kh.out.2 i hil
      have cw := Kh.out.1.was i hil
      have hgv : (lst o').getD i 0 = if i = k % 15 then n else (lst o).getD i 0 := by
        rw [hlsth.out]
        have hll : (lst o).length = 15 := rfl
        by_cases e : i = k % 15
        · rw [if_pos e, ← e]; simp [List.getD_eq_getElem?_getD, List.getElem?_set, hll, hil]
        · rw [if_neg e]; simp [List.getD_eq_getElem?_getD, List.getElem?_set, Ne.symm e]
      have hnm : nameCells[i]? = some (.string (optNames.getD i ByteArray.empty)) := nameCells_get i hil
      have hid := idx_name i hil
      have K10 := Kh.out.1.gave ((Below.refl _ _).alloc (Nat.le_refl _) (.cells nameCells 9))
      have L10 := Kh.out.2.gave ((Below.refl _ _).alloc (Nat.le_refl _) (.cells nameCells 9))
      have Cg := get_hit ob _ i hid hil ((lst o').getD i 0) (wr.alloc (.cells nameCells 9)) (K10.opt.cell (vals_get _ _ hil))
      have hkx : i = k % 15 ∨ ¬ i = k % 15 := Decidable.em _
      obtain ⟨nm', hne⟩ : ∃ x, optNames.getD i ByteArray.empty = x := ⟨_, rfl⟩
      rw [hne] at hnm Cg
      have hneh := Lib.hid hne
      have hnmh := Lib.hid hnm
      clear hne
      have h10 := Lib.hid (And.intro K10 L10)
      clear K10 L10 hid hlsth
      obtain ⟨y, hy⟩ : ∃ y, (lst o').getD i 0 = y := ⟨_, rfl⟩
      rw [hy] at hgv cl Cg
      obtain ⟨x0, hx0⟩ : ∃ x0, (lst o).getD i 0 = x0 := ⟨_, rfl⟩
      rw [hx0] at hgv cw
      clear hy hx0
      have hB : ((i : Int) == (k : Int) % 15) = decide (i = k % 15) := by
        by_cases e : i = k % 15
        · simp [e]
        · simp [e]; omega
      by_cases e : i = k % 15
      · rw [if_pos e] at hgv
        subst hgv
        simp only [e, decide_true] at hB
        rw [← e] at hB
        clear e
        clear hkx
        go_wp2_with (go_at_call 12; refine (Cn _).mono ?_; rintro e w' ⟨rfl, rfl⟩)
        refine Cg.mono ?_
        rintro e w10 ⟨rfl, B10⟩
        have K11 := h10.out.1.gave B10
        have L11 := h10.out.2.gave B10
        have hx := K11.x i (Nat.le_refl _) hil
        rw [hneh.out] at hx
        have h11 := Lib.hid (And.intro K11 L11)
        clear K11 L11 B10 h10 cl cw Kh
        go_wp2_with fail
        refine wp_region_held_drew (S := (fun w' => w'.cell? ⟨s + 1 + 1, i, none⟩ = some (.string nm'))) (by kernel_rfl) ?_ (fun hH0 => ?_)
        · exact hx
        refine wpAnyH_take (i := 0) (oi := { dst := some 70, op := Go.Op.move (Go.Operand.tmp 11), type := 3, pos := "law.go:105", after := #[], guard := none }) (v := ?v0) rfl (by kernel_rfl) (by kernel_rfl) (by kernel_rfl) (fun _ _ _ h => h) (Or.inl ⟨by rfl, ?y0⟩) hH0 ?_
        case y0 => (intro w hSw; (try dsimp only at hSw); go_simp; try (with_reducible rfl))
        try simp only [Act.put, List.setIfInBounds_toArray, List.set_cons_zero, List.set_cons_succ]
        refine wpAnyH_take (i := 1) (oi := { dst := some 71, op := Go.Op.move (Go.Operand.tmp 12), type := 3, pos := "law.go:105", after := #[], guard := none }) (v := ?v1) rfl (by kernel_rfl) (by kernel_rfl) (by kernel_rfl) (fun _ _ _ h => h) (Or.inl ⟨by rfl, ?y1⟩) hH0 ?_
        case y1 => (intro w hSw; (try dsimp only at hSw); go_simp; try (with_reducible rfl))
        try simp only [Act.put, List.setIfInBounds_toArray, List.set_cons_zero, List.set_cons_succ]
        refine wpAnyH_take (i := 2) (oi := { dst := some 72, op := Go.Op.binOp Go.BinOp.neq 3 (Go.Operand.tmp 70) (Go.Operand.tmp 71) 3, type := 4, pos := "law.go:105", after := #[{ on := 0, ground := Go.Ground.data }, { on := 1, ground := Go.Ground.data }], guard := none }) (v := ?v2) rfl (by kernel_rfl) (by kernel_rfl) (by kernel_rfl) (fun _ _ _ h => h) (Or.inl ⟨by rfl, ?y2⟩) hH0 ?_
        case y2 => (intro w hSw; (try dsimp only at hSw); go_simp; try (with_reducible rfl))
        try simp only [Act.put, List.setIfInBounds_toArray, List.set_cons_zero, List.set_cons_succ]
        refine wpAnyH_take (i := 3) (oi := { dst := some 73, op := Go.Op.move (Go.Operand.tmp 72), type := 4, pos := "law.go:105", after := #[{ on := 2, ground := Go.Ground.data }], guard := none }) (v := ?v3) rfl (by kernel_rfl) (by kernel_rfl) (by kernel_rfl) (fun _ _ _ h => h) (Or.inl ⟨by rfl, ?y3⟩) hH0 ?_
        case y3 => (intro w hSw; (try dsimp only at hSw); go_simp; try (with_reducible rfl))
        try simp only [Act.put, List.setIfInBounds_toArray, List.set_cons_zero, List.set_cons_succ]
        refine wpAnyH_take (i := 4) (oi := { dst := some 74, op := Go.Op.move (Go.Operand.tmp 13), type := 3, pos := "law.go:105", after := #[{ on := 3, ground := Go.Ground.guard }], guard := some (3, false) }) (v := ?v4) rfl (by kernel_rfl) (by kernel_rfl) (by kernel_rfl) (fun _ _ _ h => h) (Or.inl ⟨by rfl, ?y4⟩) hH0 ?_
        case y4 => (intro w hSw; (try dsimp only at hSw); go_simp; try (with_reducible rfl))
        try simp only [Act.put, List.setIfInBounds_toArray, List.set_cons_zero, List.set_cons_succ]
        refine wpAnyH_take (i := 5) (oi := { dst := some 75, op := Go.Op.move (Go.Operand.tmp 12), type := 3, pos := "law.go:105", after := #[{ on := 3, ground := Go.Ground.guard }], guard := some (3, false) }) (v := ?v5) rfl (by kernel_rfl) (by kernel_rfl) (by kernel_rfl) (fun _ _ _ h => h) (Or.inl ⟨by rfl, ?y5⟩) hH0 ?_
        case y5 => (intro w hSw; (try dsimp only at hSw); go_simp; try (with_reducible rfl))
        try simp only [Act.put, List.setIfInBounds_toArray, List.set_cons_zero, List.set_cons_succ]
        refine wpAnyH_take (i := 6) (oi := { dst := some 76, op := Go.Op.binOp Go.BinOp.neq 3 (Go.Operand.tmp 74) (Go.Operand.tmp 75) 3, type := 4, pos := "law.go:105", after := #[{ on := 4, ground := Go.Ground.data }, { on := 5, ground := Go.Ground.data }, { on := 3, ground := Go.Ground.guard }], guard := some (3, false) }) (v := ?v6) rfl (by kernel_rfl) (by kernel_rfl) (by kernel_rfl) (fun _ _ _ h => h) (Or.inl ⟨by rfl, ?y6⟩) hH0 ?_
        case y6 => (intro w hSw; (try dsimp only at hSw); go_simp; try (with_reducible rfl))
        try simp only [Act.put, List.setIfInBounds_toArray, List.set_cons_zero, List.set_cons_succ]
        refine wpAnyH_take (i := 7) (oi := { dst := some 77, op := Go.Op.pick (Go.Operand.tmp 73) (Go.Operand.const (Go.Value.bool true)) (Go.Operand.tmp 76), type := 4, pos := "law.go:105", after := #[{ on := 3, ground := Go.Ground.data }, { on := 6, ground := Go.Ground.data }], guard := none }) (v := ?v7) rfl (by kernel_rfl) (by kernel_rfl) (by kernel_rfl) (fun _ _ _ h => h) (Or.inl ⟨by rfl, ?y7⟩) hH0 ?_
        case y7 => (intro w hSw; (try dsimp only at hSw); go_simp; try (with_reducible rfl))
        try simp only [Act.put, List.setIfInBounds_toArray, List.set_cons_zero, List.set_cons_succ]
        refine wpAnyH_take (i := 8) (oi := { dst := some 78, op := Go.Op.move (Go.Operand.tmp 77), type := 4, pos := "law.go:105", after := #[{ on := 7, ground := Go.Ground.data }, { on := 3, ground := Go.Ground.chain }], guard := none }) (v := ?v8) rfl (by kernel_rfl) (by kernel_rfl) (by kernel_rfl) (fun _ _ _ h => h) (Or.inl ⟨by rfl, ?y8⟩) hH0 ?_
        case y8 => (intro w hSw; (try dsimp only at hSw); go_simp; try (with_reducible rfl))
        try simp only [Act.put, List.setIfInBounds_toArray, List.set_cons_zero, List.set_cons_succ]
        refine wpAnyH_take (i := 9) (oi := { dst := some 79, op := Go.Op.move (Go.Operand.tmp 14), type := 4, pos := "law.go:105", after := #[{ on := 8, ground := Go.Ground.guard }], guard := some (8, false) }) (v := ?v9) rfl (by kernel_rfl) (by kernel_rfl) (by kernel_rfl) (fun _ _ _ h => h) (Or.inl ⟨by rfl, ?y9⟩) hH0 ?_
        case y9 => (intro w hSw; (try dsimp only at hSw); go_simp; try (with_reducible rfl))
        try simp only [Act.put, List.setIfInBounds_toArray, List.set_cons_zero, List.set_cons_succ]
        refine wpAnyH_take (i := 10) (oi := { dst := some 80, op := Go.Op.unOp Go.UnOp.not 4 (Go.Operand.tmp 79), type := 4, pos := "law.go:105", after := #[{ on := 9, ground := Go.Ground.data }, { on := 8, ground := Go.Ground.guard }], guard := some (8, false) }) (v := ?v10) rfl (by kernel_rfl) (by kernel_rfl) (by kernel_rfl) (fun _ _ _ h => h) (Or.inl ⟨by rfl, ?y10⟩) hH0 ?_
        case y10 => (intro w hSw; (try dsimp only at hSw); go_simp; try (with_reducible rfl))
        try simp only [Act.put, List.setIfInBounds_toArray, List.set_cons_zero, List.set_cons_succ]
        refine wpAnyH_take (i := 11) (oi := { dst := some 81, op := Go.Op.pick (Go.Operand.tmp 78) (Go.Operand.const (Go.Value.bool true)) (Go.Operand.tmp 80), type := 4, pos := "law.go:105", after := #[{ on := 8, ground := Go.Ground.data }, { on := 10, ground := Go.Ground.data }], guard := none }) (v := ?v11) rfl (by kernel_rfl) (by kernel_rfl) (by kernel_rfl) (fun _ _ _ h => h) (Or.inl ⟨by rfl, ?y11⟩) hH0 ?_
        case y11 => (intro w hSw; (try dsimp only at hSw); go_simp; try (with_reducible rfl))
        try simp only [Act.put, List.setIfInBounds_toArray, List.set_cons_zero, List.set_cons_succ]
        refine wpAnyH_take (i := 12) (oi := { dst := some 82, op := Go.Op.move (Go.Operand.tmp 81), type := 4, pos := "law.go:105", after := #[{ on := 11, ground := Go.Ground.data }, { on := 8, ground := Go.Ground.chain }], guard := none }) (v := ?v12) rfl (by kernel_rfl) (by kernel_rfl) (by kernel_rfl) (fun _ _ _ h => h) (Or.inl ⟨by rfl, ?y12⟩) hH0 ?_
        case y12 => (intro w hSw; (try dsimp only at hSw); go_simp; try (with_reducible rfl))
        try simp only [Act.put, List.setIfInBounds_toArray, List.set_cons_zero, List.set_cons_succ]
        refine wpAnyH_take (i := 13) (oi := { dst := some 83, op := Go.Op.move (Go.Operand.tmp 9), type := 28, pos := "law.go:105", after := #[{ on := 12, ground := Go.Ground.guard }], guard := some (12, false) }) (v := ?v13) rfl (by kernel_rfl) (by kernel_rfl) (by kernel_rfl) (fun _ _ _ h => h) (Or.inl ⟨by rfl, ?y13⟩) hH0 ?_
        case y13 => (intro w hSw; (try dsimp only at hSw); go_simp; try (with_reducible rfl))
        try simp only [Act.put, List.setIfInBounds_toArray, List.set_cons_zero, List.set_cons_succ]
        refine wpAnyH_take (i := 14) (oi := { dst := some 84, op := Go.Op.move (Go.Operand.tmp 10), type := 3, pos := "law.go:105", after := #[{ on := 12, ground := Go.Ground.guard }], guard := some (12, false) }) (v := ?v14) rfl (by kernel_rfl) (by kernel_rfl) (by kernel_rfl) (fun _ _ _ h => h) (Or.inl ⟨by rfl, ?y14⟩) hH0 ?_
        case y14 => (intro w hSw; (try dsimp only at hSw); go_simp; try (with_reducible rfl))
        try simp only [Act.put, List.setIfInBounds_toArray, List.set_cons_zero, List.set_cons_succ]
        refine wpAnyH_take (i := 15) (oi := { dst := some 85, op := Go.Op.indexAddr 28 (Go.Operand.tmp 83) (Go.Operand.tmp 84), type := 0, pos := "law.go:105", after := #[{ on := 13, ground := Go.Ground.data }, { on := 14, ground := Go.Ground.data }, { on := 12, ground := Go.Ground.guard }], guard := some (12, false) }) (v := ?v15) rfl (by kernel_rfl) (by kernel_rfl) (by kernel_rfl) (fun _ _ _ h => h) (Or.inl ⟨by rfl, ?y15⟩) hH0 ?_
        case y15 => (intro w hSw; (try dsimp only at hSw); go_simp; try (with_reducible rfl))
        try simp only [Act.put, List.setIfInBounds_toArray, List.set_cons_zero, List.set_cons_succ]
        refine wpAnyH_take (i := 16) (oi := { dst := some 86, op := Go.Op.load 9 (Go.Operand.tmp 85), type := 9, pos := "law.go:105", after := #[{ on := 15, ground := Go.Ground.data }, { on := 12, ground := Go.Ground.guard }], guard := some (12, false) }) (v := ?v16) rfl (by kernel_rfl) (by kernel_rfl) (by kernel_rfl) (fun _ _ _ h => h) (Or.inl ⟨by rfl, ?y16⟩) hH0 ?_
        case y16 => (intro w hSw; (try dsimp only at hSw); go_simp; try (with_reducible rfl))
        try simp only [Act.put, List.setIfInBounds_toArray, List.set_cons_zero, List.set_cons_succ]
        refine wpAnyH_take (i := 18) (oi := { dst := some 88, op := Go.Op.move (Go.Operand.tmp 10), type := 3, pos := "law.go:105", after := #[{ on := 12, ground := Go.Ground.guard }], guard := some (12, false) }) (v := ?v18) rfl (by kernel_rfl) (by kernel_rfl) (by kernel_rfl) (fun _ _ _ h => h) (Or.inl ⟨by rfl, ?y18⟩) hH0 ?_
        case y18 => (intro w hSw; (try dsimp only at hSw); go_simp; try (with_reducible rfl))
        try simp only [Act.put, List.setIfInBounds_toArray, List.set_cons_zero, List.set_cons_succ]
        refine wpAnyH_ready (rs := [17]) (by kernel_rfl) (by simp) ?_
        refine AllReadyH.cons (o := { dst := some 87, op := Go.Op.call { callee := Go.Callee.value (Go.Operand.func 12), args := #[], argTypes := #[] }, type := 28, pos := "law.go:105", after := #[{ on := 12, ground := Go.Ground.chain }, { on := 12, ground := Go.Ground.guard }], guard := some (12, false) }) rfl (fun K hK => ?s17) ?n17
        case n17 => exact AllReadyH.nil
        rw [if_pos (by rfl)]
        go_simp
        (go_at_call 12; refine (Cn _).mono ?_; rintro e w' ⟨rfl, rfl⟩)
        first | (refine hK.out _ _ ?_ (fun hH1 => ?_)) | (go_wp2_with fail; refine hK.out _ _ ?_ (fun hH1 => ?_))
        · first | exact hH0 | exact cell_more hH0 _
        clear hK K hH0
        try simp only [Act.put, List.setIfInBounds_toArray, List.set_cons_zero, List.set_cons_succ]
        refine wpAnyH_take (i := 19) (oi := { dst := some 89, op := Go.Op.indexAddr 28 (Go.Operand.tmp 87) (Go.Operand.tmp 88), type := 0, pos := "law.go:105", after := #[{ on := 17, ground := Go.Ground.data }, { on := 18, ground := Go.Ground.data }, { on := 12, ground := Go.Ground.guard }], guard := some (12, false) }) (v := ?v19) rfl (by kernel_rfl) (by kernel_rfl) (by kernel_rfl) (fun _ _ _ h => h) (Or.inl ⟨by rfl, ?y19⟩) hH1 ?_
        case y19 => (intro w hSw; (try dsimp only at hSw); go_simp; try (with_reducible rfl))
        try simp only [Act.put, List.setIfInBounds_toArray, List.set_cons_zero, List.set_cons_succ]
        refine wpAnyH_ready (rs := [20]) (by kernel_rfl) (by simp) ?_
        refine AllReadyH.cons (o := { dst := some 90, op := Go.Op.load 9 (Go.Operand.tmp 89), type := 9, pos := "law.go:105", after := #[{ on := 19, ground := Go.Ground.data }, { on := 12, ground := Go.Ground.guard }], guard := some (12, false) }) rfl (fun K hK => ?s20) ?n20
        case n20 => exact AllReadyH.nil
        rw [if_pos (by rfl)]
        go_simp
        first | (refine hK.out _ _ ?_ (fun hH2 => ?_)) | (go_wp2_with fail; refine hK.out _ _ ?_ (fun hH2 => ?_))
        · first | exact hH1 | exact cell_more hH1 _
        clear hK K hH1
        try simp only [Act.put, List.setIfInBounds_toArray, List.set_cons_zero, List.set_cons_succ]
        refine wpAnyH_take (i := 21) (oi := { dst := some 91, op := Go.Op.binOp Go.BinOp.neq 9 (Go.Operand.tmp 86) (Go.Operand.tmp 90) 9, type := 4, pos := "law.go:105", after := #[{ on := 16, ground := Go.Ground.data }, { on := 20, ground := Go.Ground.data }, { on := 12, ground := Go.Ground.guard }], guard := some (12, false) }) (v := ?v21) rfl (by kernel_rfl) (by kernel_rfl) (by kernel_rfl) (fun _ _ _ h => h) (Or.inl ⟨by rfl, ?y21⟩) hH2 ?_
        case y21 => (intro w hSw; (try dsimp only at hSw); go_simp; try (with_reducible rfl))
        try simp only [Act.put, List.setIfInBounds_toArray, List.set_cons_zero, List.set_cons_succ]
        refine wpAnyH_take (i := 22) (oi := { dst := some 92, op := Go.Op.pick (Go.Operand.tmp 82) (Go.Operand.const (Go.Value.bool true)) (Go.Operand.tmp 91), type := 4, pos := "law.go:105", after := #[{ on := 12, ground := Go.Ground.data }, { on := 21, ground := Go.Ground.data }], guard := none }) (v := ?v22) rfl (by kernel_rfl) (by kernel_rfl) (by kernel_rfl) (fun _ _ _ h => h) (Or.inl ⟨by rfl, ?y22⟩) hH2 ?_
        case y22 => (intro w hSw; (try dsimp only at hSw); go_simp; try (with_reducible rfl))
        try simp only [Act.put, List.setIfInBounds_toArray, List.set_cons_zero, List.set_cons_succ]
        refine wpAnyH_done (by kernel_rfl) ?_ _
        have BB : Below w10.heap.size w10 (w10.alloc (.cells nameCells 9)).drew := by
          have := (Below.refl w10.heap.size w10).alloc (Nat.le_refl _) (.cells nameCells 9)
          exact ⟨this.os, this.tape, this.output, this.size, this.block⟩
        have K12 := h11.out.1.gave BB
        have L12 := h11.out.2.gave BB
        generalize (w10.alloc _).drew = w12 at *
        have hfz := K12.free (0 + i)
        have hxx : w12.cell? ⟨s + 1 + 1, i, none⟩ = some (.string nm') := by have := K12.x i (Nat.le_refl _) hil; rwa [hneh.out] at this
        rw [Nat.zero_add] at hfz
        have h12 := Lib.hid (And.intro K12 L12)
        clear K12 L12 h11 BB Cg hx hH2 hnm hnmh
        go_wp2_with fail
        refine ⟨⟨i + 1, by omega, by go_num, Lib.hid ⟨h12.out.1.store ?_ ?_ ?_ _, h12.out.2.store hsep.out.2 _⟩⟩, by simp [intOf]; omega⟩
        · have := hsep.out.1; rw [hobh.out]; omega
        · have := hsep.out.1; omega
        · omega
      · rw [if_neg e] at hgv
        simp only [e, decide_false] at hB
        subst hgv
        clear e
        clear hkx
        go_wp2_with (go_at_call 12; refine (Cn _).mono ?_; rintro e w' ⟨rfl, rfl⟩)
        refine Cg.mono ?_
        rintro e w10 ⟨rfl, B10⟩
        have K11 := h10.out.1.gave B10
        have L11 := h10.out.2.gave B10
        have hx := K11.x i (Nat.le_refl _) hil
        rw [hneh.out] at hx
        have h11 := Lib.hid (And.intro K11 L11)
        clear K11 L11 B10 h10 cl cw Kh
        go_wp2_with fail
        refine wp_region_held_drew (S := (fun w' => w'.cell? ⟨s + 1 + 1, i, none⟩ = some (.string nm'))) (by kernel_rfl) ?_ (fun hH0 => ?_)
        · exact hx
        refine wpAnyH_take (i := 0) (oi := { dst := some 70, op := Go.Op.move (Go.Operand.tmp 11), type := 3, pos := "law.go:105", after := #[], guard := none }) (v := ?v0b) rfl (by kernel_rfl) (by kernel_rfl) (by kernel_rfl) (fun _ _ _ h => h) (Or.inl ⟨by rfl, ?y0b⟩) hH0 ?_
        case y0b => (intro w hSw; (try dsimp only at hSw); go_simp; try (with_reducible rfl))
        try simp only [Act.put, List.setIfInBounds_toArray, List.set_cons_zero, List.set_cons_succ]
        refine wpAnyH_take (i := 1) (oi := { dst := some 71, op := Go.Op.move (Go.Operand.tmp 12), type := 3, pos := "law.go:105", after := #[], guard := none }) (v := ?v1b) rfl (by kernel_rfl) (by kernel_rfl) (by kernel_rfl) (fun _ _ _ h => h) (Or.inl ⟨by rfl, ?y1b⟩) hH0 ?_
        case y1b => (intro w hSw; (try dsimp only at hSw); go_simp; try (with_reducible rfl))
        try simp only [Act.put, List.setIfInBounds_toArray, List.set_cons_zero, List.set_cons_succ]
        refine wpAnyH_take (i := 2) (oi := { dst := some 72, op := Go.Op.binOp Go.BinOp.neq 3 (Go.Operand.tmp 70) (Go.Operand.tmp 71) 3, type := 4, pos := "law.go:105", after := #[{ on := 0, ground := Go.Ground.data }, { on := 1, ground := Go.Ground.data }], guard := none }) (v := ?v2b) rfl (by kernel_rfl) (by kernel_rfl) (by kernel_rfl) (fun _ _ _ h => h) (Or.inl ⟨by rfl, ?y2b⟩) hH0 ?_
        case y2b => (intro w hSw; (try dsimp only at hSw); go_simp; try (with_reducible rfl))
        try simp only [Act.put, List.setIfInBounds_toArray, List.set_cons_zero, List.set_cons_succ]
        refine wpAnyH_take (i := 3) (oi := { dst := some 73, op := Go.Op.move (Go.Operand.tmp 72), type := 4, pos := "law.go:105", after := #[{ on := 2, ground := Go.Ground.data }], guard := none }) (v := ?v3b) rfl (by kernel_rfl) (by kernel_rfl) (by kernel_rfl) (fun _ _ _ h => h) (Or.inl ⟨by rfl, ?y3b⟩) hH0 ?_
        case y3b => (intro w hSw; (try dsimp only at hSw); go_simp; try (with_reducible rfl))
        try simp only [Act.put, List.setIfInBounds_toArray, List.set_cons_zero, List.set_cons_succ]
        refine wpAnyH_take (i := 4) (oi := { dst := some 74, op := Go.Op.move (Go.Operand.tmp 13), type := 3, pos := "law.go:105", after := #[{ on := 3, ground := Go.Ground.guard }], guard := some (3, false) }) (v := ?v4b) rfl (by kernel_rfl) (by kernel_rfl) (by kernel_rfl) (fun _ _ _ h => h) (Or.inl ⟨by rfl, ?y4b⟩) hH0 ?_
        case y4b => (intro w hSw; (try dsimp only at hSw); go_simp; try (with_reducible rfl))
        try simp only [Act.put, List.setIfInBounds_toArray, List.set_cons_zero, List.set_cons_succ]
        refine wpAnyH_take (i := 5) (oi := { dst := some 75, op := Go.Op.move (Go.Operand.tmp 12), type := 3, pos := "law.go:105", after := #[{ on := 3, ground := Go.Ground.guard }], guard := some (3, false) }) (v := ?v5b) rfl (by kernel_rfl) (by kernel_rfl) (by kernel_rfl) (fun _ _ _ h => h) (Or.inl ⟨by rfl, ?y5b⟩) hH0 ?_
        case y5b => (intro w hSw; (try dsimp only at hSw); go_simp; try (with_reducible rfl))
        try simp only [Act.put, List.setIfInBounds_toArray, List.set_cons_zero, List.set_cons_succ]
        refine wpAnyH_take (i := 6) (oi := { dst := some 76, op := Go.Op.binOp Go.BinOp.neq 3 (Go.Operand.tmp 74) (Go.Operand.tmp 75) 3, type := 4, pos := "law.go:105", after := #[{ on := 4, ground := Go.Ground.data }, { on := 5, ground := Go.Ground.data }, { on := 3, ground := Go.Ground.guard }], guard := some (3, false) }) (v := ?v6b) rfl (by kernel_rfl) (by kernel_rfl) (by kernel_rfl) (fun _ _ _ h => h) (Or.inl ⟨by rfl, ?y6b⟩) hH0 ?_
        case y6b => (intro w hSw; (try dsimp only at hSw); go_simp; try (with_reducible rfl))
        try simp only [Act.put, List.setIfInBounds_toArray, List.set_cons_zero, List.set_cons_succ]
        refine wpAnyH_take (i := 7) (oi := { dst := some 77, op := Go.Op.pick (Go.Operand.tmp 73) (Go.Operand.const (Go.Value.bool true)) (Go.Operand.tmp 76), type := 4, pos := "law.go:105", after := #[{ on := 3, ground := Go.Ground.data }, { on := 6, ground := Go.Ground.data }], guard := none }) (v := ?v7b) rfl (by kernel_rfl) (by kernel_rfl) (by kernel_rfl) (fun _ _ _ h => h) (Or.inl ⟨by rfl, ?y7b⟩) hH0 ?_
        case y7b => (intro w hSw; (try dsimp only at hSw); go_simp; try (with_reducible rfl))
        try simp only [Act.put, List.setIfInBounds_toArray, List.set_cons_zero, List.set_cons_succ]
        refine wpAnyH_take (i := 8) (oi := { dst := some 78, op := Go.Op.move (Go.Operand.tmp 77), type := 4, pos := "law.go:105", after := #[{ on := 7, ground := Go.Ground.data }, { on := 3, ground := Go.Ground.chain }], guard := none }) (v := ?v8b) rfl (by kernel_rfl) (by kernel_rfl) (by kernel_rfl) (fun _ _ _ h => h) (Or.inl ⟨by rfl, ?y8b⟩) hH0 ?_
        case y8b => (intro w hSw; (try dsimp only at hSw); go_simp; try (with_reducible rfl))
        try simp only [Act.put, List.setIfInBounds_toArray, List.set_cons_zero, List.set_cons_succ]
        refine wpAnyH_take (i := 9) (oi := { dst := some 79, op := Go.Op.move (Go.Operand.tmp 14), type := 4, pos := "law.go:105", after := #[{ on := 8, ground := Go.Ground.guard }], guard := some (8, false) }) (v := ?v9b) rfl (by kernel_rfl) (by kernel_rfl) (by kernel_rfl) (fun _ _ _ h => h) (Or.inl ⟨by rfl, ?y9b⟩) hH0 ?_
        case y9b => (intro w hSw; (try dsimp only at hSw); go_simp; try (with_reducible rfl))
        try simp only [Act.put, List.setIfInBounds_toArray, List.set_cons_zero, List.set_cons_succ]
        refine wpAnyH_take (i := 10) (oi := { dst := some 80, op := Go.Op.unOp Go.UnOp.not 4 (Go.Operand.tmp 79), type := 4, pos := "law.go:105", after := #[{ on := 9, ground := Go.Ground.data }, { on := 8, ground := Go.Ground.guard }], guard := some (8, false) }) (v := ?v10b) rfl (by kernel_rfl) (by kernel_rfl) (by kernel_rfl) (fun _ _ _ h => h) (Or.inl ⟨by rfl, ?y10b⟩) hH0 ?_
        case y10b => (intro w hSw; (try dsimp only at hSw); go_simp; try (with_reducible rfl))
        try simp only [Act.put, List.setIfInBounds_toArray, List.set_cons_zero, List.set_cons_succ]
        refine wpAnyH_take (i := 11) (oi := { dst := some 81, op := Go.Op.pick (Go.Operand.tmp 78) (Go.Operand.const (Go.Value.bool true)) (Go.Operand.tmp 80), type := 4, pos := "law.go:105", after := #[{ on := 8, ground := Go.Ground.data }, { on := 10, ground := Go.Ground.data }], guard := none }) (v := ?v11b) rfl (by kernel_rfl) (by kernel_rfl) (by kernel_rfl) (fun _ _ _ h => h) (Or.inl ⟨by rfl, ?y11b⟩) hH0 ?_
        case y11b => (intro w hSw; (try dsimp only at hSw); go_simp; try (with_reducible rfl))
        try simp only [Act.put, List.setIfInBounds_toArray, List.set_cons_zero, List.set_cons_succ]
        refine wpAnyH_take (i := 12) (oi := { dst := some 82, op := Go.Op.move (Go.Operand.tmp 81), type := 4, pos := "law.go:105", after := #[{ on := 11, ground := Go.Ground.data }, { on := 8, ground := Go.Ground.chain }], guard := none }) (v := ?v12b) rfl (by kernel_rfl) (by kernel_rfl) (by kernel_rfl) (fun _ _ _ h => h) (Or.inl ⟨by rfl, ?y12b⟩) hH0 ?_
        case y12b => (intro w hSw; (try dsimp only at hSw); go_simp; try (with_reducible rfl))
        try simp only [Act.put, List.setIfInBounds_toArray, List.set_cons_zero, List.set_cons_succ]
        refine wpAnyH_take (i := 13) (oi := { dst := some 83, op := Go.Op.move (Go.Operand.tmp 9), type := 28, pos := "law.go:105", after := #[{ on := 12, ground := Go.Ground.guard }], guard := some (12, false) }) (v := ?v13b) rfl (by kernel_rfl) (by kernel_rfl) (by kernel_rfl) (fun _ _ _ h => h) (Or.inl ⟨by rfl, ?y13b⟩) hH0 ?_
        case y13b => (intro w hSw; (try dsimp only at hSw); go_simp; try (with_reducible rfl))
        try simp only [Act.put, List.setIfInBounds_toArray, List.set_cons_zero, List.set_cons_succ]
        refine wpAnyH_take (i := 14) (oi := { dst := some 84, op := Go.Op.move (Go.Operand.tmp 10), type := 3, pos := "law.go:105", after := #[{ on := 12, ground := Go.Ground.guard }], guard := some (12, false) }) (v := ?v14b) rfl (by kernel_rfl) (by kernel_rfl) (by kernel_rfl) (fun _ _ _ h => h) (Or.inl ⟨by rfl, ?y14b⟩) hH0 ?_
        case y14b => (intro w hSw; (try dsimp only at hSw); go_simp; try (with_reducible rfl))
        try simp only [Act.put, List.setIfInBounds_toArray, List.set_cons_zero, List.set_cons_succ]
        refine wpAnyH_take (i := 15) (oi := { dst := some 85, op := Go.Op.indexAddr 28 (Go.Operand.tmp 83) (Go.Operand.tmp 84), type := 0, pos := "law.go:105", after := #[{ on := 13, ground := Go.Ground.data }, { on := 14, ground := Go.Ground.data }, { on := 12, ground := Go.Ground.guard }], guard := some (12, false) }) (v := ?v15b) rfl (by kernel_rfl) (by kernel_rfl) (by kernel_rfl) (fun _ _ _ h => h) (Or.inl ⟨by rfl, ?y15b⟩) hH0 ?_
        case y15b => (intro w hSw; (try dsimp only at hSw); go_simp; try (with_reducible rfl))
        try simp only [Act.put, List.setIfInBounds_toArray, List.set_cons_zero, List.set_cons_succ]
        refine wpAnyH_take (i := 16) (oi := { dst := some 86, op := Go.Op.load 9 (Go.Operand.tmp 85), type := 9, pos := "law.go:105", after := #[{ on := 15, ground := Go.Ground.data }, { on := 12, ground := Go.Ground.guard }], guard := some (12, false) }) (v := ?v16b) rfl (by kernel_rfl) (by kernel_rfl) (by kernel_rfl) (fun _ _ _ h => h) (Or.inl ⟨by rfl, ?y16b⟩) hH0 ?_
        case y16b => (intro w hSw; (try dsimp only at hSw); go_simp; try (with_reducible rfl))
        try simp only [Act.put, List.setIfInBounds_toArray, List.set_cons_zero, List.set_cons_succ]
        refine wpAnyH_take (i := 18) (oi := { dst := some 88, op := Go.Op.move (Go.Operand.tmp 10), type := 3, pos := "law.go:105", after := #[{ on := 12, ground := Go.Ground.guard }], guard := some (12, false) }) (v := ?v18b) rfl (by kernel_rfl) (by kernel_rfl) (by kernel_rfl) (fun _ _ _ h => h) (Or.inl ⟨by rfl, ?y18b⟩) hH0 ?_
        case y18b => (intro w hSw; (try dsimp only at hSw); go_simp; try (with_reducible rfl))
        try simp only [Act.put, List.setIfInBounds_toArray, List.set_cons_zero, List.set_cons_succ]
        refine wpAnyH_ready (rs := [17]) (by kernel_rfl) (by simp) ?_
        refine AllReadyH.cons (o := { dst := some 87, op := Go.Op.call { callee := Go.Callee.value (Go.Operand.func 12), args := #[], argTypes := #[] }, type := 28, pos := "law.go:105", after := #[{ on := 12, ground := Go.Ground.chain }, { on := 12, ground := Go.Ground.guard }], guard := some (12, false) }) rfl (fun K hK => ?s17b) ?n17b
        case n17b => exact AllReadyH.nil
        rw [if_pos (by rfl)]
        go_simp
        (go_at_call 12; refine (Cn _).mono ?_; rintro e w' ⟨rfl, rfl⟩)
        first | (refine hK.out _ _ ?_ (fun hH1 => ?_)) | (go_wp2_with fail; refine hK.out _ _ ?_ (fun hH1 => ?_))
        · first | exact hH0 | exact cell_more hH0 _
        clear hK K hH0
        try simp only [Act.put, List.setIfInBounds_toArray, List.set_cons_zero, List.set_cons_succ]
        refine wpAnyH_take (i := 19) (oi := { dst := some 89, op := Go.Op.indexAddr 28 (Go.Operand.tmp 87) (Go.Operand.tmp 88), type := 0, pos := "law.go:105", after := #[{ on := 17, ground := Go.Ground.data }, { on := 18, ground := Go.Ground.data }, { on := 12, ground := Go.Ground.guard }], guard := some (12, false) }) (v := ?v19b) rfl (by kernel_rfl) (by kernel_rfl) (by kernel_rfl) (fun _ _ _ h => h) (Or.inl ⟨by rfl, ?y19b⟩) hH1 ?_
        case y19b => (intro w hSw; (try dsimp only at hSw); go_simp; try (with_reducible rfl))
        try simp only [Act.put, List.setIfInBounds_toArray, List.set_cons_zero, List.set_cons_succ]
        refine wpAnyH_ready (rs := [20]) (by kernel_rfl) (by simp) ?_
        refine AllReadyH.cons (o := { dst := some 90, op := Go.Op.load 9 (Go.Operand.tmp 89), type := 9, pos := "law.go:105", after := #[{ on := 19, ground := Go.Ground.data }, { on := 12, ground := Go.Ground.guard }], guard := some (12, false) }) rfl (fun K hK => ?s20b) ?n20b
        case n20b => exact AllReadyH.nil
        rw [if_pos (by rfl)]
        go_simp
        first | (refine hK.out _ _ ?_ (fun hH2 => ?_)) | (go_wp2_with fail; refine hK.out _ _ ?_ (fun hH2 => ?_))
        · first | exact hH1 | exact cell_more hH1 _
        clear hK K hH1
        try simp only [Act.put, List.setIfInBounds_toArray, List.set_cons_zero, List.set_cons_succ]
        refine wpAnyH_take (i := 21) (oi := { dst := some 91, op := Go.Op.binOp Go.BinOp.neq 9 (Go.Operand.tmp 86) (Go.Operand.tmp 90) 9, type := 4, pos := "law.go:105", after := #[{ on := 16, ground := Go.Ground.data }, { on := 20, ground := Go.Ground.data }, { on := 12, ground := Go.Ground.guard }], guard := some (12, false) }) (v := ?v21b) rfl (by kernel_rfl) (by kernel_rfl) (by kernel_rfl) (fun _ _ _ h => h) (Or.inl ⟨by rfl, ?y21b⟩) hH2 ?_
        case y21b => (intro w hSw; (try dsimp only at hSw); go_simp; try (with_reducible rfl))
        try simp only [Act.put, List.setIfInBounds_toArray, List.set_cons_zero, List.set_cons_succ]
        refine wpAnyH_take (i := 22) (oi := { dst := some 92, op := Go.Op.pick (Go.Operand.tmp 82) (Go.Operand.const (Go.Value.bool true)) (Go.Operand.tmp 91), type := 4, pos := "law.go:105", after := #[{ on := 12, ground := Go.Ground.data }, { on := 21, ground := Go.Ground.data }], guard := none }) (v := ?v22b) rfl (by kernel_rfl) (by kernel_rfl) (by kernel_rfl) (fun _ _ _ h => h) (Or.inl ⟨by rfl, ?y22b⟩) hH2 ?_
        case y22b => (intro w hSw; (try dsimp only at hSw); go_simp; try (with_reducible rfl))
        try simp only [Act.put, List.setIfInBounds_toArray, List.set_cons_zero, List.set_cons_succ]
        refine wpAnyH_done (by kernel_rfl) ?_ _
        have BB : Below w10.heap.size w10 (w10.alloc (.cells nameCells 9)).drew := by
          have := (Below.refl w10.heap.size w10).alloc (Nat.le_refl _) (.cells nameCells 9)
          exact ⟨this.os, this.tape, this.output, this.size, this.block⟩
        have K12 := h11.out.1.gave BB
        have L12 := h11.out.2.gave BB
        generalize (w10.alloc _).drew = w12 at *
        have hfz := K12.free (0 + i)
        have hxx : w12.cell? ⟨s + 1 + 1, i, none⟩ = some (.string nm') := by have := K12.x i (Nat.le_refl _) hil; rwa [hneh.out] at this
        rw [Nat.zero_add] at hfz
        have h12 := Lib.hid (And.intro K12 L12)
        clear K12 L12 h11 BB Cg hx hH2 hnm hnmh
        go_wp2_with fail
        refine ⟨⟨i + 1, by omega, by go_num, Lib.hid ⟨h12.out.1.store ?_ ?_ ?_ _, h12.out.2.store hsep.out.2 _⟩⟩, by simp [intOf]; omega⟩
        · have := hsep.out.1; rw [hobh.out]; omega
        · have := hsep.out.1; omega
        · omega
    · obtain rfl : i = 15 := by omega
      have Kf := Lib.hid Kh.out.1.below
      have hk0 : 0 ≤ (k : Int) % 15 := by omega
      have hk15 : (k : Int) % 15 < 15 := by omega
      have hkt : ((k : Int) % 15).toNat = k % 15 := by omega
      have Cm := get_miss ob ⟨#[115, 101, 101, 100]⟩ (by decide +kernel) wr
      have CN := fun w => names_any w
      have hnm : nameCells[k % 15]? = some (.string (optNames.getD (k % 15) ByteArray.empty)) := nameCells_get _ hkm
      generalize optNames.getD (k % 15) ByteArray.empty = nm' at *
      clear Kh hlsth hil hi
      go_wp2_with fail
      refine Cm.mono ?_
      rintro e w13 ⟨rfl, B13⟩
      have T13 := Lib.hid (Kf.out.trans (B13.mono Kf.out.size))
      have D13 := (T13.out.alloc T13.out.size (.cells nameCells 9)).alloc (by have := T13.out.size; simp; omega) (.cells nameCells 9)
      have D13h := Lib.hid D13
      clear B13 Cm Kf D13
      go_wp2_with fail
      refine wp_region_held_drew (S := (fun _ => True)) (by kernel_rfl) ?_ (fun hH0 => ?_)
      · trivial
      refine wpAnyH_take (i := 0) (oi := { dst := some 101, op := Go.Op.move (Go.Operand.tmp 16), type := 4, pos := "law.go:111", after := #[], guard := none }) (v := ?vz_1) rfl (by kernel_rfl) (by kernel_rfl) (by kernel_rfl) (fun _ _ _ h => h) (Or.inl ⟨by rfl, ?yz_1⟩) hH0 ?_
      case yz_1 => (intro w hSw; (try dsimp only at hSw); go_simp; try (with_reducible rfl))
      try simp only [Act.put, List.setIfInBounds_toArray, List.set_cons_zero, List.set_cons_succ]
      refine wpAnyH_take (i := 1) (oi := { dst := some 102, op := Go.Op.unOp Go.UnOp.not 4 (Go.Operand.tmp 101), type := 4, pos := "law.go:111", after := #[{ on := 0, ground := Go.Ground.data }], guard := none }) (v := ?vz_2) rfl (by kernel_rfl) (by kernel_rfl) (by kernel_rfl) (fun _ _ _ h => h) (Or.inl ⟨by rfl, ?yz_2⟩) hH0 ?_
      case yz_2 => (intro w hSw; (try dsimp only at hSw); go_simp; try (with_reducible rfl))
      try simp only [Act.put, List.setIfInBounds_toArray, List.set_cons_zero, List.set_cons_succ]
      refine wpAnyH_take (i := 2) (oi := { dst := some 103, op := Go.Op.move (Go.Operand.tmp 102), type := 4, pos := "law.go:111", after := #[{ on := 1, ground := Go.Ground.data }], guard := none }) (v := ?vz_3) rfl (by kernel_rfl) (by kernel_rfl) (by kernel_rfl) (fun _ _ _ h => h) (Or.inl ⟨by rfl, ?yz_3⟩) hH0 ?_
      case yz_3 => (intro w hSw; (try dsimp only at hSw); go_simp; try (with_reducible rfl))
      try simp only [Act.put, List.setIfInBounds_toArray, List.set_cons_zero, List.set_cons_succ]
      refine wpAnyH_take (i := 4) (oi := { dst := some 105, op := Go.Op.move (Go.Operand.tmp 8), type := 3, pos := "law.go:111", after := #[{ on := 2, ground := Go.Ground.guard }], guard := some (2, true) }) (v := ?vz_4) rfl (by kernel_rfl) (by kernel_rfl) (by kernel_rfl) (fun _ _ _ h => h) (Or.inl ⟨by rfl, ?yz_4⟩) hH0 ?_
      case yz_4 => (intro w hSw; (try dsimp only at hSw); go_simp; try (with_reducible rfl))
      try simp only [Act.put, List.setIfInBounds_toArray, List.set_cons_zero, List.set_cons_succ]
      refine wpAnyH_take (i := 8) (oi := { dst := some 109, op := Go.Op.move (Go.Operand.tmp 8), type := 3, pos := "law.go:111", after := #[{ on := 2, ground := Go.Ground.guard }], guard := some (2, true) }) (v := ?vz_5) rfl (by kernel_rfl) (by kernel_rfl) (by kernel_rfl) (fun _ _ _ h => h) (Or.inl ⟨by rfl, ?yz_5⟩) hH0 ?_
      case yz_5 => (intro w hSw; (try dsimp only at hSw); go_simp; try (with_reducible rfl))
      try simp only [Act.put, List.setIfInBounds_toArray, List.set_cons_zero, List.set_cons_succ]
      refine wpAnyH_ready (rs := [3]) (by kernel_rfl) (by simp) ?_
      refine AllReadyH.cons (o := { dst := some 104, op := Go.Op.call { callee := Go.Callee.value (Go.Operand.func 10), args := #[], argTypes := #[] }, type := 28, pos := "law.go:111", after := #[{ on := 2, ground := Go.Ground.chain }, { on := 2, ground := Go.Ground.guard }], guard := some (2, true) }) rfl (fun K hK => ?sz_6_3) ?nz_6_3
      case nz_6_3 => exact AllReadyH.nil
      rw [if_pos (by rfl)]
      go_simp
      ((first | (go_at_call 12; refine (Cn _).mono ?_; rintro e w' ⟨rfl, rfl⟩) | (go_at_call 10; refine (CN _).mono ?_; rintro e w' ⟨rfl, rfl⟩)))
      first | (refine hK.out _ _ ?_ (fun hH1 => ?_)) | (go_wp2_with fail; refine hK.out _ _ ?_ (fun hH1 => ?_))
      · first | exact hH0 | trivial
      clear hK K hH0
      try simp only [Act.put, List.setIfInBounds_toArray, List.set_cons_zero, List.set_cons_succ]
      refine wpAnyH_take (i := 5) (oi := { dst := some 106, op := Go.Op.indexAddr 28 (Go.Operand.tmp 104) (Go.Operand.tmp 105), type := 0, pos := "law.go:111", after := #[{ on := 3, ground := Go.Ground.data }, { on := 4, ground := Go.Ground.data }, { on := 2, ground := Go.Ground.guard }], guard := some (2, true) }) (v := ?vz_7) rfl (by kernel_rfl) (by kernel_rfl) (by kernel_rfl) (fun _ _ _ h => h) (Or.inl ⟨by rfl, ?yz_7⟩) hH1 ?_
      case yz_7 => (intro w hSw; (try dsimp only at hSw); go_simp; try (with_reducible rfl))
      try simp only [Act.put, List.setIfInBounds_toArray, List.set_cons_zero, List.set_cons_succ]
      refine wpAnyH_ready (rs := [6, 7]) (by kernel_rfl) (by simp) ?_
      refine AllReadyH.cons (o := { dst := some 107, op := Go.Op.load 9 (Go.Operand.tmp 106), type := 9, pos := "law.go:111", after := #[{ on := 5, ground := Go.Ground.data }, { on := 2, ground := Go.Ground.guard }], guard := some (2, true) }) rfl (fun K hK => ?sz_8_6) ?nz_8_6
      rotate_left
      refine AllReadyH.cons (o := { dst := some 108, op := Go.Op.call { callee := Go.Callee.value (Go.Operand.func 12), args := #[], argTypes := #[] }, type := 28, pos := "law.go:111", after := #[{ on := 3, ground := Go.Ground.chain }, { on := 2, ground := Go.Ground.guard }], guard := some (2, true) }) rfl (fun K hK => ?sz_8_7) ?nz_8_7
      rotate_left
      exact AllReadyH.nil
      case sz_8_6 =>
        rw [if_pos (by rfl)]
        go_simp
        first | (refine hK.out _ _ ?_ (fun hH2 => ?_)) | (go_wp2_with fail; refine hK.out _ _ ?_ (fun hH2 => ?_))
        · first | exact hH1 | trivial
        clear hK K hH1
        try simp only [Act.put, List.setIfInBounds_toArray, List.set_cons_zero, List.set_cons_succ]
        refine wpAnyH_ready (rs := [7]) (by kernel_rfl) (by simp) ?_
        refine AllReadyH.cons (o := { dst := some 108, op := Go.Op.call { callee := Go.Callee.value (Go.Operand.func 12), args := #[], argTypes := #[] }, type := 28, pos := "law.go:111", after := #[{ on := 3, ground := Go.Ground.chain }, { on := 2, ground := Go.Ground.guard }], guard := some (2, true) }) rfl (fun K hK => ?sz_9_7) ?nz_9_7
        case nz_9_7 => exact AllReadyH.nil
        rw [if_pos (by rfl)]
        go_simp
        ((first | (go_at_call 12; refine (Cn _).mono ?_; rintro e w' ⟨rfl, rfl⟩) | (go_at_call 10; refine (CN _).mono ?_; rintro e w' ⟨rfl, rfl⟩)))
        first | (refine hK.out _ _ ?_ (fun hH3 => ?_)) | (go_wp2_with fail; refine hK.out _ _ ?_ (fun hH3 => ?_))
        · first | exact hH2 | trivial
        clear hK K hH2
        try simp only [Act.put, List.setIfInBounds_toArray, List.set_cons_zero, List.set_cons_succ]
        refine wpAnyH_take (i := 9) (oi := { dst := some 110, op := Go.Op.indexAddr 28 (Go.Operand.tmp 108) (Go.Operand.tmp 109), type := 0, pos := "law.go:111", after := #[{ on := 7, ground := Go.Ground.data }, { on := 8, ground := Go.Ground.data }, { on := 2, ground := Go.Ground.guard }], guard := some (2, true) }) (v := ?vz_10) rfl (by kernel_rfl) (by kernel_rfl) (by kernel_rfl) (fun _ _ _ h => h) (Or.inl ⟨by rfl, ?yz_10⟩) hH3 ?_
        case yz_10 => (intro w hSw; (try dsimp only at hSw); go_simp; try (with_reducible rfl))
        try simp only [Act.put, List.setIfInBounds_toArray, List.set_cons_zero, List.set_cons_succ]
        refine wpAnyH_ready (rs := [10]) (by kernel_rfl) (by simp) ?_
        refine AllReadyH.cons (o := { dst := some 111, op := Go.Op.load 9 (Go.Operand.tmp 110), type := 9, pos := "law.go:111", after := #[{ on := 9, ground := Go.Ground.data }, { on := 2, ground := Go.Ground.guard }], guard := some (2, true) }) rfl (fun K hK => ?sz_11_10) ?nz_11_10
        case nz_11_10 => exact AllReadyH.nil
        rw [if_pos (by rfl)]
        go_simp
        first | (refine hK.out _ _ ?_ (fun hH4 => ?_)) | (go_wp2_with fail; refine hK.out _ _ ?_ (fun hH4 => ?_))
        · first | exact hH3 | trivial
        clear hK K hH3
        try simp only [Act.put, List.setIfInBounds_toArray, List.set_cons_zero, List.set_cons_succ]
        refine wpAnyH_take (i := 11) (oi := { dst := some 112, op := Go.Op.binOp Go.BinOp.eql 9 (Go.Operand.tmp 107) (Go.Operand.tmp 111) 9, type := 4, pos := "law.go:111", after := #[{ on := 6, ground := Go.Ground.data }, { on := 10, ground := Go.Ground.data }, { on := 2, ground := Go.Ground.guard }], guard := some (2, true) }) (v := ?vz_12) rfl (by kernel_rfl) (by kernel_rfl) (by kernel_rfl) (fun _ _ _ h => h) (Or.inl ⟨by rfl, ?yz_12⟩) hH4 ?_
        case yz_12 => (intro w hSw; (try dsimp only at hSw); go_simp; try (with_reducible rfl))
        try simp only [Act.put, List.setIfInBounds_toArray, List.set_cons_zero, List.set_cons_succ]
        refine wpAnyH_take (i := 12) (oi := { dst := some 113, op := Go.Op.pick (Go.Operand.tmp 103) (Go.Operand.tmp 112) (Go.Operand.const (Go.Value.bool false)), type := 4, pos := "law.go:111", after := #[{ on := 2, ground := Go.Ground.data }, { on := 11, ground := Go.Ground.data }], guard := none }) (v := ?vz_13) rfl (by kernel_rfl) (by kernel_rfl) (by kernel_rfl) (fun _ _ _ h => h) (Or.inl ⟨by rfl, ?yz_13⟩) hH4 ?_
        case yz_13 => (intro w hSw; (try dsimp only at hSw); go_simp; try (with_reducible rfl))
        try simp only [Act.put, List.setIfInBounds_toArray, List.set_cons_zero, List.set_cons_succ]
        refine wpAnyH_take (i := 13) (oi := { dst := some 6, op := Go.Op.assign (Go.Operand.tmp 113), type := 4, pos := "law.go:111", after := #[{ on := 12, ground := Go.Ground.data }, { on := 7, ground := Go.Ground.chain }, { on := 0, ground := Go.Ground.phase }, { on := 1, ground := Go.Ground.phase }, { on := 2, ground := Go.Ground.phase }, { on := 3, ground := Go.Ground.phase }, { on := 4, ground := Go.Ground.phase }, { on := 5, ground := Go.Ground.phase }, { on := 6, ground := Go.Ground.phase }, { on := 7, ground := Go.Ground.phase }, { on := 8, ground := Go.Ground.phase }, { on := 9, ground := Go.Ground.phase }, { on := 10, ground := Go.Ground.phase }, { on := 11, ground := Go.Ground.phase }, { on := 12, ground := Go.Ground.phase }], guard := none }) (v := ?vz_14) rfl (by kernel_rfl) (by kernel_rfl) (by kernel_rfl) (fun _ _ _ h => h) (Or.inl ⟨by rfl, ?yz_14⟩) hH4 ?_
        case yz_14 => (intro w hSw; (try dsimp only at hSw); go_simp; try (with_reducible rfl))
        try simp only [Act.put, List.setIfInBounds_toArray, List.set_cons_zero, List.set_cons_succ]
        refine wpAnyH_done (by kernel_rfl) ?_ _
        go_wp2_with fail
        go_ret
        exact ⟨rfl, D13h.out.os, D13h.out.tape, D13h.out.output, D13h.out.size, D13h.out.block⟩
      case sz_8_7 =>
        rw [if_pos (by rfl)]
        go_simp
        ((first | (go_at_call 12; refine (Cn _).mono ?_; rintro e w' ⟨rfl, rfl⟩) | (go_at_call 10; refine (CN _).mono ?_; rintro e w' ⟨rfl, rfl⟩)))
        first | (refine hK.out _ _ ?_ (fun hH2 => ?_)) | (go_wp2_with fail; refine hK.out _ _ ?_ (fun hH2 => ?_))
        · first | exact hH1 | trivial
        clear hK K hH1
        try simp only [Act.put, List.setIfInBounds_toArray, List.set_cons_zero, List.set_cons_succ]
        refine wpAnyH_take (i := 9) (oi := { dst := some 110, op := Go.Op.indexAddr 28 (Go.Operand.tmp 108) (Go.Operand.tmp 109), type := 0, pos := "law.go:111", after := #[{ on := 7, ground := Go.Ground.data }, { on := 8, ground := Go.Ground.data }, { on := 2, ground := Go.Ground.guard }], guard := some (2, true) }) (v := ?vz_15) rfl (by kernel_rfl) (by kernel_rfl) (by kernel_rfl) (fun _ _ _ h => h) (Or.inl ⟨by rfl, ?yz_15⟩) hH2 ?_
        case yz_15 => (intro w hSw; (try dsimp only at hSw); go_simp; try (with_reducible rfl))
        try simp only [Act.put, List.setIfInBounds_toArray, List.set_cons_zero, List.set_cons_succ]
        refine wpAnyH_ready (rs := [6, 10]) (by kernel_rfl) (by simp) ?_
        refine AllReadyH.cons (o := { dst := some 107, op := Go.Op.load 9 (Go.Operand.tmp 106), type := 9, pos := "law.go:111", after := #[{ on := 5, ground := Go.Ground.data }, { on := 2, ground := Go.Ground.guard }], guard := some (2, true) }) rfl (fun K hK => ?sz_16_6) ?nz_16_6
        rotate_left
        refine AllReadyH.cons (o := { dst := some 111, op := Go.Op.load 9 (Go.Operand.tmp 110), type := 9, pos := "law.go:111", after := #[{ on := 9, ground := Go.Ground.data }, { on := 2, ground := Go.Ground.guard }], guard := some (2, true) }) rfl (fun K hK => ?sz_16_10) ?nz_16_10
        rotate_left
        exact AllReadyH.nil
        case sz_16_6 =>
          rw [if_pos (by rfl)]
          go_simp
          first | (refine hK.out _ _ ?_ (fun hH3 => ?_)) | (go_wp2_with fail; refine hK.out _ _ ?_ (fun hH3 => ?_))
          · first | exact hH2 | trivial
          clear hK K hH2
          try simp only [Act.put, List.setIfInBounds_toArray, List.set_cons_zero, List.set_cons_succ]
          refine wpAnyH_ready (rs := [10]) (by kernel_rfl) (by simp) ?_
          refine AllReadyH.cons (o := { dst := some 111, op := Go.Op.load 9 (Go.Operand.tmp 110), type := 9, pos := "law.go:111", after := #[{ on := 9, ground := Go.Ground.data }, { on := 2, ground := Go.Ground.guard }], guard := some (2, true) }) rfl (fun K hK => ?sz_17_10) ?nz_17_10
          case nz_17_10 => exact AllReadyH.nil
          rw [if_pos (by rfl)]
          go_simp
          first | (refine hK.out _ _ ?_ (fun hH4 => ?_)) | (go_wp2_with fail; refine hK.out _ _ ?_ (fun hH4 => ?_))
          · first | exact hH3 | trivial
          clear hK K hH3
          try simp only [Act.put, List.setIfInBounds_toArray, List.set_cons_zero, List.set_cons_succ]
          refine wpAnyH_take (i := 11) (oi := { dst := some 112, op := Go.Op.binOp Go.BinOp.eql 9 (Go.Operand.tmp 107) (Go.Operand.tmp 111) 9, type := 4, pos := "law.go:111", after := #[{ on := 6, ground := Go.Ground.data }, { on := 10, ground := Go.Ground.data }, { on := 2, ground := Go.Ground.guard }], guard := some (2, true) }) (v := ?vz_18) rfl (by kernel_rfl) (by kernel_rfl) (by kernel_rfl) (fun _ _ _ h => h) (Or.inl ⟨by rfl, ?yz_18⟩) hH4 ?_
          case yz_18 => (intro w hSw; (try dsimp only at hSw); go_simp; try (with_reducible rfl))
          try simp only [Act.put, List.setIfInBounds_toArray, List.set_cons_zero, List.set_cons_succ]
          refine wpAnyH_take (i := 12) (oi := { dst := some 113, op := Go.Op.pick (Go.Operand.tmp 103) (Go.Operand.tmp 112) (Go.Operand.const (Go.Value.bool false)), type := 4, pos := "law.go:111", after := #[{ on := 2, ground := Go.Ground.data }, { on := 11, ground := Go.Ground.data }], guard := none }) (v := ?vz_19) rfl (by kernel_rfl) (by kernel_rfl) (by kernel_rfl) (fun _ _ _ h => h) (Or.inl ⟨by rfl, ?yz_19⟩) hH4 ?_
          case yz_19 => (intro w hSw; (try dsimp only at hSw); go_simp; try (with_reducible rfl))
          try simp only [Act.put, List.setIfInBounds_toArray, List.set_cons_zero, List.set_cons_succ]
          refine wpAnyH_take (i := 13) (oi := { dst := some 6, op := Go.Op.assign (Go.Operand.tmp 113), type := 4, pos := "law.go:111", after := #[{ on := 12, ground := Go.Ground.data }, { on := 7, ground := Go.Ground.chain }, { on := 0, ground := Go.Ground.phase }, { on := 1, ground := Go.Ground.phase }, { on := 2, ground := Go.Ground.phase }, { on := 3, ground := Go.Ground.phase }, { on := 4, ground := Go.Ground.phase }, { on := 5, ground := Go.Ground.phase }, { on := 6, ground := Go.Ground.phase }, { on := 7, ground := Go.Ground.phase }, { on := 8, ground := Go.Ground.phase }, { on := 9, ground := Go.Ground.phase }, { on := 10, ground := Go.Ground.phase }, { on := 11, ground := Go.Ground.phase }, { on := 12, ground := Go.Ground.phase }], guard := none }) (v := ?vz_20) rfl (by kernel_rfl) (by kernel_rfl) (by kernel_rfl) (fun _ _ _ h => h) (Or.inl ⟨by rfl, ?yz_20⟩) hH4 ?_
          case yz_20 => (intro w hSw; (try dsimp only at hSw); go_simp; try (with_reducible rfl))
          try simp only [Act.put, List.setIfInBounds_toArray, List.set_cons_zero, List.set_cons_succ]
          refine wpAnyH_done (by kernel_rfl) ?_ _
          go_wp2_with fail
          go_ret
          exact ⟨rfl, D13h.out.os, D13h.out.tape, D13h.out.output, D13h.out.size, D13h.out.block⟩
        case sz_16_10 =>
          rw [if_pos (by rfl)]
          go_simp
          first | (refine hK.out _ _ ?_ (fun hH3 => ?_)) | (go_wp2_with fail; refine hK.out _ _ ?_ (fun hH3 => ?_))
          · first | exact hH2 | trivial
          clear hK K hH2
          try simp only [Act.put, List.setIfInBounds_toArray, List.set_cons_zero, List.set_cons_succ]
          refine wpAnyH_ready (rs := [6]) (by kernel_rfl) (by simp) ?_
          refine AllReadyH.cons (o := { dst := some 107, op := Go.Op.load 9 (Go.Operand.tmp 106), type := 9, pos := "law.go:111", after := #[{ on := 5, ground := Go.Ground.data }, { on := 2, ground := Go.Ground.guard }], guard := some (2, true) }) rfl (fun K hK => ?sz_21_6) ?nz_21_6
          case nz_21_6 => exact AllReadyH.nil
          rw [if_pos (by rfl)]
          go_simp
          first | (refine hK.out _ _ ?_ (fun hH4 => ?_)) | (go_wp2_with fail; refine hK.out _ _ ?_ (fun hH4 => ?_))
          · first | exact hH3 | trivial
          clear hK K hH3
          try simp only [Act.put, List.setIfInBounds_toArray, List.set_cons_zero, List.set_cons_succ]
          refine wpAnyH_take (i := 11) (oi := { dst := some 112, op := Go.Op.binOp Go.BinOp.eql 9 (Go.Operand.tmp 107) (Go.Operand.tmp 111) 9, type := 4, pos := "law.go:111", after := #[{ on := 6, ground := Go.Ground.data }, { on := 10, ground := Go.Ground.data }, { on := 2, ground := Go.Ground.guard }], guard := some (2, true) }) (v := ?vz_22) rfl (by kernel_rfl) (by kernel_rfl) (by kernel_rfl) (fun _ _ _ h => h) (Or.inl ⟨by rfl, ?yz_22⟩) hH4 ?_
          case yz_22 => (intro w hSw; (try dsimp only at hSw); go_simp; try (with_reducible rfl))
          try simp only [Act.put, List.setIfInBounds_toArray, List.set_cons_zero, List.set_cons_succ]
          refine wpAnyH_take (i := 12) (oi := { dst := some 113, op := Go.Op.pick (Go.Operand.tmp 103) (Go.Operand.tmp 112) (Go.Operand.const (Go.Value.bool false)), type := 4, pos := "law.go:111", after := #[{ on := 2, ground := Go.Ground.data }, { on := 11, ground := Go.Ground.data }], guard := none }) (v := ?vz_23) rfl (by kernel_rfl) (by kernel_rfl) (by kernel_rfl) (fun _ _ _ h => h) (Or.inl ⟨by rfl, ?yz_23⟩) hH4 ?_
          case yz_23 => (intro w hSw; (try dsimp only at hSw); go_simp; try (with_reducible rfl))
          try simp only [Act.put, List.setIfInBounds_toArray, List.set_cons_zero, List.set_cons_succ]
          refine wpAnyH_take (i := 13) (oi := { dst := some 6, op := Go.Op.assign (Go.Operand.tmp 113), type := 4, pos := "law.go:111", after := #[{ on := 12, ground := Go.Ground.data }, { on := 7, ground := Go.Ground.chain }, { on := 0, ground := Go.Ground.phase }, { on := 1, ground := Go.Ground.phase }, { on := 2, ground := Go.Ground.phase }, { on := 3, ground := Go.Ground.phase }, { on := 4, ground := Go.Ground.phase }, { on := 5, ground := Go.Ground.phase }, { on := 6, ground := Go.Ground.phase }, { on := 7, ground := Go.Ground.phase }, { on := 8, ground := Go.Ground.phase }, { on := 9, ground := Go.Ground.phase }, { on := 10, ground := Go.Ground.phase }, { on := 11, ground := Go.Ground.phase }, { on := 12, ground := Go.Ground.phase }], guard := none }) (v := ?vz_24) rfl (by kernel_rfl) (by kernel_rfl) (by kernel_rfl) (fun _ _ _ h => h) (Or.inl ⟨by rfl, ?yz_24⟩) hH4 ?_
          case yz_24 => (intro w hSw; (try dsimp only at hSw); go_simp; try (with_reducible rfl))
          try simp only [Act.put, List.setIfInBounds_toArray, List.set_cons_zero, List.set_cons_succ]
          refine wpAnyH_done (by kernel_rfl) ?_ _
          go_wp2_with fail
          go_ret
          exact ⟨rfl, D13h.out.os, D13h.out.tape, D13h.out.output, D13h.out.size, D13h.out.block⟩

end Go.Proofs.YtopoejfbcbnmdaaDoor
