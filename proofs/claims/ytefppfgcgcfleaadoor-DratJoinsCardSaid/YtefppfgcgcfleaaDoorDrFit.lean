import Derived.Test.YtefppfgcgcfleaaDoorDrP
namespace Go.Proofs.YtefppfgcgcfleaaDoor
open Go Go.RowKit Go.Proofs.YtefppfgcgcfleaaDoorW.PrintWords Go.Proofs.YtefppfgcgcfleaaDoorW.PrintLast Go.Proofs.YtefppfgcgcfleaaDoorW.PrintMore PDratJoins

theorem C_nums {W : World} {g : Nat} {e : TypeId} {k : IntKind} (xs : List Int) (hm : xs.length ≤ 9223372036854775807) (h : W.heap[g]? = some (.cells (nums k xs).toArray e (0, 0))) : Kd.C (Kd.int k) W (some ⟨g, 0, none⟩) xs.length xs := by
  refine ⟨rfl, hm, fun _ => ⟨_, rfl, fun j p hj => ⟨[.int k p], rfl, rfl, fun i u hu => ?_⟩⟩⟩
  obtain ⟨rfl, rfl⟩ : i = 0 ∧ u = .int k p := by
    cases i with
    | zero => simp at hu; exact ⟨rfl, hu.symm⟩
    | succ i => simp at hu
  rw [add_plain, blk_cell h]
  show ((nums k xs).toArray)[j * 1 + 0]? = _
  rw [Nat.mul_one, Nat.add_zero, List.getElem?_toArray]
  simp [nums, hj]
theorem C_steps {W : World} {g : Nat} (xs : List S36) (hm : xs.length ≤ 9223372036854775807) (cs : List Value) (h : W.heap[g]? = some (.cells cs.toArray 36 (0, 0)))
    (hc : ∀ j s, xs[j]? = some s → ∃ A c, cs[j * 2]? = some (.bool s.f0) ∧ cs[j * 2 + 1]? = some (.slice A s.f1.length c) ∧ s.f1.length ≤ c ∧ Kd.C (Kd.int .i64) W A s.f1.length s.f1) : Kd.C k36 W (some ⟨g, 0, none⟩) xs.length xs := by
  refine ⟨rfl, hm, fun _ => ⟨_, rfl, fun j s hj => ?_⟩⟩
  obtain ⟨A, c, h1, h2, h3, h4⟩ := hc j s hj
  refine ⟨[.bool s.f0, .slice A s.f1.length c], rfl, k36_mk W s h3 h4, fun i u hu => ?_⟩
  rw [add_plain, blk_cell h]
  show (cs.toArray)[j * 2 + i]? = _
  rw [List.getElem?_toArray]
  match i, hu with
  | 0, hu => rw [Nat.add_zero, h1]; simpa using hu
  | 1, hu => rw [h2]; simpa using hu
  | i + 2, hu => simp at hu

def pFit : PStep := ⟨true, [63, -8193]⟩
theorem pFit_right : RightP [pFit] := by
  intro s hs l hl
  simp only [List.mem_singleton] at hs
  subst hs
  simp only [pFit, List.mem_cons, List.not_mem_nil, or_false] at hl
  unfold RightL
  rcases hl with rfl | rfl <;> decide
theorem pFit_bin : binT [pFit] = [100, 126, 131, 128, 1, 0] := by
  have e1 : encN (numL 63) = [126] := by rw [show numL 63 = 126 from rfl, encN_small (by decide)]; rfl
  have e2 : encN (numL (-8193)) = [131, 128, 1] := by rw [show numL (-8193) = 16387 from rfl, encN_big (by decide), encN_big (by decide), encN_small (by decide)]; rfl
  simp [binT, stepB, pFit, e1, e2]
theorem pFit_text : textT [pFit] = [100, 32, 54, 51, 32, 45, 56, 49, 57, 51, 32, 48, 10] := by
  have e1 : Lib.itoa 63 = [54, 51] := by simp [Lib.itoa, Lib.decDigits]
  have e2 : Lib.itoa (-8193) = [45, 56, 49, 57, 51] := by simp [Lib.itoa, Lib.decDigits]
  simp [textT, lineT, litsT, pFit, e1, e2]

/-- One step, laid in two blocks. -/
theorem pc_one {W : World} {g : Nat} (p : PStep) (A : Option Addr) (c : Nat) (h : W.heap[g]? = some (.cells #[.bool p.del, .slice A p.lits.length c] 36 (0, 0))) (hc : p.lits.length ≤ c) (hC : Kd.C (Kd.int .i64) W A p.lits.length p.lits) : PC W (some ⟨g, 0, none⟩) [p] := by
  refine C_steps [ofP p] (by simp) [.bool p.del, .slice A p.lits.length c] h (fun j s hj => ?_)
  cases j with
  | zero =>
    simp only [List.getElem?_cons_zero, Option.some.injEq] at hj
    subst hj
    exact ⟨A, c, rfl, rfl, hc, hC⟩
  | succ j => simp at hj

set_option maxRecDepth 100000 in
set_option maxHeartbeats 3200000 in
theorem fit_any (w : World) (E : Env w) : Calls Tryd.prog 10 #[] w (Said w (.bool true)) := by
  have hu := Tryd.underlying36
  have HE := Aside0.mk E
  have HB := Aside0.mk (((Below.refl _ w).alloc (Nat.le_refl _) (.cells #[.int .i64 63, .int .i64 (-8193)] 3)).alloc (by simp) (.cells #[.bool true, .slice (some ⟨w.heap.size, 0, none⟩) 2 2] 36))
  have C1 : PC ((w.alloc (.cells #[.int .i64 63, .int .i64 (-8193)] 3)).alloc (.cells #[.bool true, .slice (some ⟨w.heap.size, 0, none⟩) 2 2] 36)) (some ⟨w.heap.size + 1, 0, none⟩) [pFit] := by
    have hbA : ((w.alloc (.cells #[.int .i64 63, .int .i64 (-8193)] 3)).alloc (.cells #[.bool true, .slice (some ⟨w.heap.size, 0, none⟩) 2 2] 36)).heap[w.heap.size]? = some (.cells (nums .i64 [63, -8193]).toArray 3 (0, 0)) := blk_alloc (blk_new w _) _
    have hbB := blk_new (w.alloc (.cells #[.int .i64 63, .int .i64 (-8193)] 3)) (.cells #[.bool true, .slice (some ⟨w.heap.size, 0, none⟩) 2 2] 36)
    rw [show (w.alloc (.cells #[.int .i64 63, .int .i64 (-8193)] 3)).heap.size = w.heap.size + 1 by simp] at hbB
    exact pc_one pFit _ 2 hbB (Nat.le_refl _) (C_nums [63, -8193] (by decide) hbA)
  have CB : Calls Tryd.prog 19 #[.slice (some ⟨w.heap.size + 1, 0, none⟩) 1 1] _ _ := p_binary _ 1 [pFit] _ C1 pFit_right (by rw [pFit_bin]; decide)
  have hpb : parseB (binT [pFit]) = .ok [pFit] [] := parseB_binT pFit_right
  have Hbin := Aside0.mk pFit_bin
  have HPB := Aside0.mk hpb
  have HC1 := Aside0.mk C1
  have hFew : Aside0 (Few [pFit]) := ⟨by decide, fun s hs => by simp only [List.mem_singleton] at hs; subst hs; decide⟩
  clear hpb C1
  generalize binT [pFit] = b at *
  go_enter Tryd.func10, Tryd.ntmps10
  go_wp2_with (go_at_call 19; with_reducible refine CB.mono ?_)
  rintro e w2 ⟨hb, A3, c3, rfl, hc3, hr3⟩
  have HR3 := Aside0.mk hr3
  have C2 := p_parseBin A3 c3 b w2 hr3 hc3 (by rw [Hbin.out]; decide)
  rw [HPB.out] at C2
  have HC2 := Aside0.mk (HC1.out.below hb)
  have HB2 := Aside0.mk (below_step HB.out hb)
  clear HC1 HB hb CB hr3 hc3 HPB
  go_wp2_with (go_at_call 14; with_reducible refine C2.mono ?_)
  rintro e w3 ⟨hb, A4, c4, rfl, hc4, hp4⟩
  have HP4 := Aside0.mk hp4
  have HR4 := Aside0.mk (HR3.out.below hb)
  have HC3 := Aside0.mk (HC2.out.below hb)
  have HB3 := Aside0.mk (below_step HB2.out hb)
  have HK4 := Aside0.mk hc4
  have C3 := p_parseText (textT [pFit]) w3 (by rw [pFit_text]; decide) (HE.out.below HB3.out)
  rw [parseT_textT pFit_right, pFit_text] at C3
  have C3' : Calls Tryd.prog 11 #[.string ⟨#[100, 32, 54, 51, 32, 45, 56, 49, 57, 51, 32, 48, 10]⟩] w3 _ := C3
  clear HB2 HC2 HR3 hb C2 C3 hp4 hc4
  go_wp2_with (go_at_call 11; with_reducible refine C3'.mono ?_)
  rintro e w5 ⟨hb, A5, c5, rfl, hc5, hp5⟩
  have HP5 := Aside0.mk hp5
  have HP6 := Aside0.mk (HP4.out.below hb)
  have hr5 := HR4.out.below hb
  have HC5 := Aside0.mk (HC3.out.below hb)
  have HB5 := Aside0.mk (below_step HB3.out hb)
  have HK5 := Aside0.mk hc5
  have kc := conv_rd hr5 c3
  have eb : strV b = .string ⟨#[100, 126, 131, 128, 1, 0]⟩ := by rw [Hbin.out]; rfl
  rw [eb] at kc
  have S1 : ∀ W, Below w5.heap.size w5 W → Calls Tryd.prog 21 #[.slice (some ⟨w.heap.size + 1, 0, none⟩) 1 1, .slice A4 1 c4] W (fun e w' => e = .returned (.bool true) ∧ ∃ n, w' = W.drewN n) := fun W (B : Below w5.heap.size w5 W) => by rw [← sameP_refl [pFit]]; exact p_lsame (some ⟨w.heap.size + 1, 0, none⟩) A4 1 c4 [pFit] [pFit] W (HC5.out.below B) (Nat.le_refl _) (HP6.out.below B) HK4.out hFew.out
  have S2 : ∀ W, Below w5.heap.size w5 W → Calls Tryd.prog 21 #[.slice (some ⟨w.heap.size + 1, 0, none⟩) 1 1, .slice A5 1 c5] W (fun e w' => e = .returned (.bool true) ∧ ∃ n, w' = W.drewN n) := fun W (B : Below w5.heap.size w5 W) => by rw [← sameP_refl [pFit]]; exact p_lsame (some ⟨w.heap.size + 1, 0, none⟩) A5 1 c5 [pFit] [pFit] W (HC5.out.below B) (Nat.le_refl _) (HP5.out.below B) HK5.out hFew.out
  have S3 : ∀ W, Below w5.heap.size w5 W → Calls Tryd.prog 16 #[.slice (some ⟨w.heap.size + 1, 0, none⟩) 1 1] W (Said W (.bool true)) := fun W (B : Below w5.heap.size w5 W) => by rw [← rightQ_iff.2 pFit_right]; exact p_right (some ⟨w.heap.size + 1, 0, none⟩) 1 [pFit] W (HC5.out.below B) (Nat.le_refl _)
  clear hb hr5 hp5 hc5 HR4 HC3 HB3 HP4 C3' eb
  go_wp2_with (first
    | (go_at_call 21; (first | with_reducible refine (S1 _ (Below.refl _ _)).mono ?_ | with_reducible refine (S2 _ (pw_below_drewN (Below.refl _ _) _)).mono ?_); rintro e wz ⟨rfl, nz, rfl⟩)
    | (go_at_call 16; refine (S3 _ (pw_below_drewN (Below.refl _ _) _)).mono ?_; rintro e wz ⟨rfl, hb⟩))
  go_ret
  exact ⟨rfl, below_step HB5.out (below_step (pw_below_drewN (Below.refl _ _) _) hb)⟩

end Go.Proofs.YtefppfgcgcfleaaDoor
