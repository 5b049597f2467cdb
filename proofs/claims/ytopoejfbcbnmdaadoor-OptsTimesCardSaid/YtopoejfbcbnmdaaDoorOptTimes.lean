import Derived.Test.YtopoejfbcbnmdaaDoorOptLaw
namespace Go.Proofs.YtopoejfbcbnmdaaDoor
open Go Go.RowKit

theorem tri_le2 {k : Nat} (h : k ≤ 2 ^ 18) : tri k ≤ 2 ^ 36 := by
  unfold tri
  have : k * (k - 1) ≤ 2 ^ 18 * 2 ^ 18 := Nat.mul_le_mul h (by omega)
  omega

theorem sum_step (s fi r : Nat) (hs : s ≤ 10000000000000) (hf : fi ≤ 200) (hr : r ≤ 50000) : wrap64 ((s : Int) + wrap64 ((fi : Int) + wrap64 (r : Int))) = (s : Int) + ((fi : Int) + (r : Int)) := by
  unfold wrap64
  omega
theorem way_gave (o : Opt) (w : World) : Calls Tryd.prog 22 #[.agg o.vals] w (Gave w (.agg #[.int .i64 o.ki, .int .i64 o.ba, .int .i64 o.no])) :=
  (way_any o w).mono fun e w' ⟨he, hw⟩ => ⟨he, by subst hw; exact ((Below.refl _ _).alloc (Nat.le_refl _) _).alloc (by simp) _⟩

set_option maxRecDepth 100000 in
set_option maxHeartbeats 4000000 in
theorem times_any (x0 x1 x2 x3 x4 x5 x6 x7 x8 x9 x10 x11 n : Nat) (b0 : x0 < 65536) (b1 : x1 < 65536) (b2 : x2 < 65536) (b3 : x3 < 65536) (b4 : x4 < 65536) (b5 : x5 < 65536) (b6 : x6 < 65536) (b7 : x7 < 65536) (b8 : x8 < 65536) (b9 : x9 < 65536) (b10 : x10 < 65536) (b11 : x11 < 65536) (bn : n < 65536) (w : World) (hE : ErrVar w) (H1 : BadOf optDefault) (H2 : BadOf optZero) :
    Calls Tryd.prog 5 #[.agg (arr12 x0 x1 x2 x3 x4 x5 x6 x7 x8 x9 x10 x11), .int .u16 n] w (Gave w (.bool true)) := by
  have Cf := fun w hw => fit21 w hw H1 H2
  have Cm := fun w => made_any x0 x1 x2 x3 x4 x5 x6 x7 x8 x9 x10 x11 b0 b1 b2 b3 b4 b5 b6 b7 b8 b9 b10 b11 w
  obtain ⟨re, fi, ri, hM⟩ := made_ok x0 x1 x2 x3 x4 x5 x6 x7 x8 x9 x10 x11
  generalize madeO x0 x1 x2 x3 x4 x5 x6 x7 x8 x9 x10 x11 = o at *
  obtain ⟨co, wo, re', fi', ri', wa, ki, ba, no, mo, ph, lo, mi, mn, bi, se⟩ := o
  obtain ⟨e1, e2, e3, r1, f1, i1, r2, f2, i2⟩ := hM
  dsimp only at e1 e2 e3
  subst e1 e2 e3
  unfold arr12
  have A1 : ArrAt (w.alloc (.cells #[.int .u16 x0, .int .u16 x1, .int .u16 x2, .int .u16 x3, .int .u16 x4, .int .u16 x5, .int .u16 x6, .int .u16 x7, .int .u16 x8, .int .u16 x9, .int .u16 x10, .int .u16 x11] 46)) w.heap.size _ := heap_alloc_new w _
  have T1 : Below w.heap.size w (w.alloc (.cells #[.int .u16 x0, .int .u16 x1, .int .u16 x2, .int .u16 x3, .int .u16 x4, .int .u16 x5, .int .u16 x6, .int .u16 x7, .int .u16 x8, .int .u16 x9, .int .u16 x10, .int .u16 x11] 46)) := (Below.refl _ _).alloc (Nat.le_refl _) _
  have C1 := Cf _ (hE.below T1)
  have h1 := Lib.hid (And.intro A1 T1)
  clear A1 T1 Cf hE b0 b1 b2 b3 b4 b5 b6 b7 b8 b9 b10 b11
  go_enter Tryd.func5, Tryd.ntmps5
  go_wp2_with fail
  generalize w.alloc _ = w1 at *
  refine C1.mono ?_
  clear C1
  rintro e w2 ⟨rfl, B2⟩
  have A2x := h1.out.1.below B2
  have T2 := h1.out.2.trans (B2.mono h1.out.2.size)
  have cx0 : w2.cell? ⟨w.heap.size, 0, none⟩ = some (.int .u16 x0) := cell_of_block A2x rfl
  have cx1 : w2.cell? ⟨w.heap.size, 1, none⟩ = some (.int .u16 x1) := cell_of_block A2x rfl
  have cx2 : w2.cell? ⟨w.heap.size, 2, none⟩ = some (.int .u16 x2) := cell_of_block A2x rfl
  have cx3 : w2.cell? ⟨w.heap.size, 3, none⟩ = some (.int .u16 x3) := cell_of_block A2x rfl
  have cx4 : w2.cell? ⟨w.heap.size, 4, none⟩ = some (.int .u16 x4) := cell_of_block A2x rfl
  have cx5 : w2.cell? ⟨w.heap.size, 5, none⟩ = some (.int .u16 x5) := cell_of_block A2x rfl
  have cx6 : w2.cell? ⟨w.heap.size, 6, none⟩ = some (.int .u16 x6) := cell_of_block A2x rfl
  have cx7 : w2.cell? ⟨w.heap.size, 7, none⟩ = some (.int .u16 x7) := cell_of_block A2x rfl
  have cx8 : w2.cell? ⟨w.heap.size, 8, none⟩ = some (.int .u16 x8) := cell_of_block A2x rfl
  have cx9 : w2.cell? ⟨w.heap.size, 9, none⟩ = some (.int .u16 x9) := cell_of_block A2x rfl
  have cx10 : w2.cell? ⟨w.heap.size, 10, none⟩ = some (.int .u16 x10) := cell_of_block A2x rfl
  have cx11 : w2.cell? ⟨w.heap.size, 11, none⟩ = some (.int .u16 x11) := cell_of_block A2x rfl
  have T2h := Lib.hid T2
  clear A2x T2 B2 h1
  go_wp2_with fail
  refine (Cm _).mono ?_
  clear Cm
  rintro e w3 ⟨rfl, B3⟩
  dsimp only [Opt.vals]
  have G4 : Good w w3.heap.size (⟨co, wo, re, fi, ri, wa, ki, ba, no, mo, ph, lo, mi, mn, bi, se⟩ : Opt) (w3.alloc (.cells #[.int .i64 co, .int .i64 wo, .int .i64 re, .int .i64 fi, .int .i64 ri, .int .i64 wa, .int .i64 ki, .int .i64 ba, .int .i64 no, .int .i64 mo, .int .i64 ph, .int .i64 lo, .int .i64 mi, .int .i64 mn, .int .i64 bi, .int .u64 se] 24)) := ⟨heap_alloc_new w3 _, (T2h.out.trans (B3.mono T2h.out.size)).alloc (T2h.out.trans (B3.mono T2h.out.size)).size _⟩
  have G4h := Lib.hid G4
  clear B3 T2h cx0 cx1 cx2 cx3 cx4 cx5 cx6 cx7 cx8 cx9 cx10 cx11 G4
  -- a restart
  have hl := luby_bd (k := 1 + n) (by omega) (by omega)
  have hlm : luby (1 + n) * re ≤ 65536 * 200 := Nat.mul_le_mul (by omega) r2
  have C5 := fun w => restart_any (⟨co, wo, re, fi, ri, wa, ki, ba, no, mo, ph, lo, mi, mn, bi, se⟩ : Opt) (1 + n) re rfl (by omega) (by omega) (by omega) w
  have C6 := fun w => tk_luby (1 + n) (by omega) (by omega) w
  have hw5 : IntKind.i64.wrap ((luby (1 + n) : Int) * re) = ((luby (1 + n) * re : Nat) : Int) := by rw [IntWalk.i64_in _ (by constructor <;> (rw [← Int.natCast_mul]; omega)), Int.natCast_mul]
  rw [show ((1 + n : Nat) : Int) = 1 + (n : Int) from by omega] at C5 C6
  generalize luby (1 + n) * re = p at *
  generalize luby (1 + n) = q at *
  unfold Opt.vals at C5
  dsimp only at C5
  go_wp2_with fail
  generalize w3.alloc _ = w4 at *
  generalize w3.heap.size = ob at *
  have f : Held w ob (⟨co, wo, re, fi, ri, wa, ki, ba, no, mo, ph, lo, mi, mn, bi, se⟩ : Opt) w4 := Held.of G4h.out
  unfold Held at f
  dsimp only at f
  obtain ⟨⟨f0, f1, f2, f3, f4, f5, f6, f7, f8, f9, f10, f11, f12, f13, f14, f15⟩, fg⟩ := f
  clear G4h
  go_region_held3 (fun w' => (w'.cell? ⟨ob, 0, none⟩ = some (.int .i64 co) ∧ w'.cell? ⟨ob, 1, none⟩ = some (.int .i64 wo) ∧ w'.cell? ⟨ob, 2, none⟩ = some (.int .i64 re) ∧ w'.cell? ⟨ob, 3, none⟩ = some (.int .i64 fi) ∧ w'.cell? ⟨ob, 4, none⟩ = some (.int .i64 ri) ∧ w'.cell? ⟨ob, 5, none⟩ = some (.int .i64 wa) ∧ w'.cell? ⟨ob, 6, none⟩ = some (.int .i64 ki) ∧ w'.cell? ⟨ob, 7, none⟩ = some (.int .i64 ba) ∧ w'.cell? ⟨ob, 8, none⟩ = some (.int .i64 no) ∧ w'.cell? ⟨ob, 9, none⟩ = some (.int .i64 mo) ∧ w'.cell? ⟨ob, 10, none⟩ = some (.int .i64 ph) ∧ w'.cell? ⟨ob, 11, none⟩ = some (.int .i64 lo) ∧ w'.cell? ⟨ob, 12, none⟩ = some (.int .i64 mi) ∧ w'.cell? ⟨ob, 13, none⟩ = some (.int .i64 mn) ∧ w'.cell? ⟨ob, 14, none⟩ = some (.int .i64 bi) ∧ w'.cell? ⟨ob, 15, none⟩ = some (.int .u64 se)) ∧ Good w ob (⟨co, wo, re, fi, ri, wa, ki, ba, no, mo, ph, lo, mi, mn, bi, se⟩ : Opt) w')
    ((first | assumption | exact Held.of (Good.drew fg) | exact Held.of (Good.gave (And.right (by assumption)) B) | exact Held.of (Good.alloc (And.right (by assumption)) _) | exact Held.of (Good.drewN (And.right (by assumption)) 1)))
    (first
      | (go_at_call 19; refine (C5 _).mono ?_; rintro e w' ⟨rfl, B⟩)
      | (go_at_call 20; refine (C6 _).mono ?_; rintro e w' ⟨rfl, rfl⟩))
  rename_i hH
  have G5 := Lib.hid hH.2
  clear hH B C5 C6 hw5 hlm hl fg f0 f1 f2 f3 f4 f5 f6 f7 f8 f9 f10 f11 f12 f13 f14 f15
  generalize w' = w5 at *
  as_aux_lemma =>
    go_wp2_with fail
    have f := G5.out
    have cfi : w5.cell? ⟨ob, 3, none⟩ = some (.int .i64 fi) := f.cell (j := 3) rfl
    have cri : w5.cell? ⟨ob, 4, none⟩ = some (.int .i64 ri) := f.cell (j := 4) rfl
    clear f
    have hn1 : (1 + (n : Int)) % 500 = (((1 + n) % 500 : Nat) : Int) := by omega
    obtain ⟨m, hm, hm5⟩ : ∃ m : Nat, (1 + n) % 500 = m ∧ m < 500 := ⟨_, rfl, Nat.mod_lt _ (by decide)⟩
    rw [hm] at hn1
    have hmh := Lib.hid hm
    clear hm
    go_loop [7, 8] (fun v u => ∃ i : Nat, i ≤ 1 + m ∧ u = .int .i64 (1 + (i : Int)) ∧ v = .int .i64 ((i * fi + tri i * ri : Nat) : Int)) (fun _ u => 501 - (intOf u).toNat)
    case atStart => exact ⟨0, by omega, rfl, by simp [tri]⟩
    case round =>
      obtain ⟨i, hi, rfl, rfl⟩ := hrel
      have t1 := tri_le2 (k := i) (by omega)
      have m1 : i * fi ≤ 500 * 200 := Nat.mul_le_mul (by omega) f2
      have m2 : tri i * ri ≤ 2 ^ 36 * 100 := Nat.mul_le_mul t1 i2
      have m3 : i * ri ≤ 500 * 100 := Nat.mul_le_mul (by omega) i2
      have hs : (i + 1) * fi + tri (i + 1) * ri = i * fi + tri i * ri + (fi + i * ri) := by rw [tri_succ, Nat.add_mul, Nat.add_mul]; omega
      have hs' : (((i + 1) * fi + tri (i + 1) * ri : Nat) : Int) = ((i * fi + tri i * ri : Nat) : Int) + (fi + ((i * ri : Nat) : Int)) := by rw [hs]; omega
      have hmul : (i : Int) * (ri : Int) = ((i * ri : Nat) : Int) := by rw [Int.natCast_mul]
      obtain ⟨s, hsv⟩ : ∃ s, i * fi + tri i * ri = s := ⟨_, rfl⟩
      have hsb : s ≤ 500 * 200 + 2 ^ 36 * 100 := by omega
      rw [hsv] at hs' ⊢
      generalize i * ri = r at *
      have hsh := Lib.hid (And.intro hs' hmul)
      have hsvh := Lib.hid hsv
      clear hs hs' t1 hsv hmul m1 m2
      by_cases hlt : i < 1 + m
      · go_wp2_with fail
        refine ⟨⟨i + 1, by omega, by go_num, congrArg (Value.int .i64) ?_⟩, by simp [intOf]; omega⟩
        rw [hsh.out.1, show (1 + (i : Int) - 1) = i by omega, hsh.out.2]
        exact sum_step s fi r (by omega) (by omega) (by omega)
      · obtain rfl : i = 1 + m := by omega
        as_aux_lemma =>
          clear hsh m3 hi hlt hsb
          go_wp2_with fail
          clear cfi cri
          have tb := tri_le2 (k := 1 + n + 2) (by omega)
          have q1 : (1 + n) * fi ≤ 65536 * 200 := Nat.mul_le_mul (by omega) f2
          have q2 : tri (1 + n) * ri ≤ 2 ^ 36 * 100 := Nat.mul_le_mul (tri_le2 (by omega)) i2
          have q3 : (1 + n) * ri ≤ 65536 * 100 := Nat.mul_le_mul (by omega) i2
          have hB : (1 + n + 1) * fi + tri (1 + n + 1) * ri = (1 + n) * fi + tri (1 + n) * ri + (fi + (1 + n) * ri) := by rw [tri_succ, Nat.add_mul (1 + n) 1, Nat.add_mul (tri (1 + n))]; omega
          have hC : (1 + n + 2) * fi + tri (1 + n + 2) * ri = (1 + n + 1) * fi + tri (1 + n + 1) * ri + (fi + ((1 + n) * ri + ri)) := by rw [show 1 + n + 2 = (1 + n + 1) + 1 from rfl, tri_succ (1 + n + 1), Nat.add_mul (1 + n + 1) 1 fi, Nat.add_mul (tri (1 + n + 1)), Nat.add_mul (1 + n) 1 ri]; omega
          have Ca := fun w => reduce_any (⟨co, wo, re, fi, ri, wa, ki, ba, no, mo, ph, lo, mi, mn, bi, se⟩ : Opt) (1 + n) fi ri rfl rfl (by omega) (by omega) (by omega) (by omega) w
          have Cb := fun w => reduce_any (⟨co, wo, re, fi, ri, wa, ki, ba, no, mo, ph, lo, mi, mn, bi, se⟩ : Opt) (1 + n + 1) fi ri rfl rfl (by omega) (by omega) (by omega) (by omega) w
          have Cc := fun w => reduce_any (⟨co, wo, re, fi, ri, wa, ki, ba, no, mo, ph, lo, mi, mn, bi, se⟩ : Opt) (1 + n + 2) fi ri rfl rfl (by omega) (by omega) (by omega) (by omega) w
          have Cd := fun w => reduce_any (⟨co, wo, re, fi, ri, wa, ki, ba, no, mo, ph, lo, mi, mn, bi, se⟩ : Opt) (1 + m) fi ri rfl rfl (by omega) (by omega) (by omega) (by omega) w
          rw [hsvh.out] at Cd
          rw [show ((1 + n : Nat) : Int) = 1 + (n : Int) from by omega] at Ca
          rw [show ((1 + n + 1 : Nat) : Int) = 1 + (n : Int) + 1 from by omega] at Cb
          rw [show ((1 + n + 2 : Nat) : Int) = 1 + (n : Int) + 2 from by omega] at Cc
          rw [show ((1 + m : Nat) : Int) = 1 + (m : Int) from by omega] at Cd
          generalize (1 + n + 2) * fi + tri (1 + n + 2) * ri = vc at *
          generalize (1 + n + 1) * fi + tri (1 + n + 1) * ri = vb at *
          have hva : (1 + n) * fi + tri (1 + n) * ri ≤ 65536 * 200 + 2 ^ 36 * 100 := by omega
          generalize (1 + n) * fi + tri (1 + n) * ri = va at *
          have l1 : (va : Int) < vb := by omega
          have l2 : (vb : Int) - va < (vc : Int) - vb := by omega
          have l3 : (vc : Int) ≤ 20000000000000 := by omega
          have hw1 : IntKind.i64.wrap (1 + (n : Int) + 1) = 1 + (n : Int) + 1 := IntWalk.i64_in _ (by omega)
          have hw2 : IntKind.i64.wrap (1 + (n : Int) + 2) = 1 + (n : Int) + 2 := IntWalk.i64_in _ (by omega)
          unfold Opt.vals at Ca Cb Cc Cd
          dsimp only at Ca Cb Cc Cd
          have Cdh := Lib.hid Cd
          have hn1h := Lib.hid hn1
          have lh := Lib.hid (And.intro l1 (And.intro l2 l3))
          clear hva hB hC q1 q2 q3 tb Cd hn1 l1 l2 l3 hsvh
          have fg := G5.out
          have f := Held.of fg
          unfold Held at f
          dsimp only at f
          obtain ⟨⟨f0, f1, f2, f3, f4, f5, f6, f7, f8, f9, f10, f11, f12, f13, f14, f15⟩, _⟩ := f
          go_region_held3 (fun w' => (w'.cell? ⟨ob, 0, none⟩ = some (.int .i64 co) ∧ w'.cell? ⟨ob, 1, none⟩ = some (.int .i64 wo) ∧ w'.cell? ⟨ob, 2, none⟩ = some (.int .i64 re) ∧ w'.cell? ⟨ob, 3, none⟩ = some (.int .i64 fi) ∧ w'.cell? ⟨ob, 4, none⟩ = some (.int .i64 ri) ∧ w'.cell? ⟨ob, 5, none⟩ = some (.int .i64 wa) ∧ w'.cell? ⟨ob, 6, none⟩ = some (.int .i64 ki) ∧ w'.cell? ⟨ob, 7, none⟩ = some (.int .i64 ba) ∧ w'.cell? ⟨ob, 8, none⟩ = some (.int .i64 no) ∧ w'.cell? ⟨ob, 9, none⟩ = some (.int .i64 mo) ∧ w'.cell? ⟨ob, 10, none⟩ = some (.int .i64 ph) ∧ w'.cell? ⟨ob, 11, none⟩ = some (.int .i64 lo) ∧ w'.cell? ⟨ob, 12, none⟩ = some (.int .i64 mi) ∧ w'.cell? ⟨ob, 13, none⟩ = some (.int .i64 mn) ∧ w'.cell? ⟨ob, 14, none⟩ = some (.int .i64 bi) ∧ w'.cell? ⟨ob, 15, none⟩ = some (.int .u64 se)) ∧ Good w ob (⟨co, wo, re, fi, ri, wa, ki, ba, no, mo, ph, lo, mi, mn, bi, se⟩ : Opt) w')
            ((first | assumption | exact Held.of (Good.drew fg) | exact Held.of (Good.gave (And.right (by assumption)) B) | exact Held.of (Good.alloc (And.right (by assumption)) _) | exact Held.of (Good.drewN (And.right (by assumption)) 1)))
            (first
              | (go_at_call 21; (with_reducible refine (Ca _).mono ?_); rintro e w' ⟨rfl, B⟩)
              | (go_at_call 21; (with_reducible refine (Cb _).mono ?_); rintro e w' ⟨rfl, B⟩)
              | (go_at_call 21; (with_reducible refine (Cc _).mono ?_); rintro e w' ⟨rfl, B⟩))
          rename_i hH
          have G6 := Lib.hid hH.2
          clear hH B Ca Cb Cc hw1 hw2 fg f0 f1 f2 f3 f4 f5 f6 f7 f8 f9 f10 f11 f12 f13 f14 f15
          generalize w' = w6 at *
          as_aux_lemma =>
            have Cw := fun w => way_gave (⟨co, wo, re, fi, ri, wa, ki, ba, no, mo, ph, lo, mi, mn, bi, se⟩ : Opt) w
            unfold Opt.vals at Cw
            dsimp only at Cw
            have f := Held.of G6.out
            unfold Held at f
            dsimp only at f
            obtain ⟨⟨f0, f1, f2, f3, f4, f5, f6, f7, f8, f9, f10, f11, f12, f13, f14, f15⟩, _⟩ := f
            go_wp2_with fail
            refine (Cw _).mono ?_
            rintro e w7 ⟨rfl, B7⟩
            clear Cw f0 f1 f2 f3 f4 f5 f6 f7 f8 f9 f10 f11 f12 f13 f14 f15
            have G7 := G6.out.gave B7
            have hob : ob < w7.heap.size := (Array.getElem?_eq_some_iff.1 G7.1).1
            have f := Held.of G7
            unfold Held at f
            dsimp only at f
            obtain ⟨⟨f0, f1, f2, f3, f4, f5, f6, f7, f8, f9, f10, f11, f12, f13, f14, f15⟩, _⟩ := f
            have G7h := Lib.hid G7
            clear G6 B7 G7
            have hn1 := hn1h.out
            go_wp2_with fail
            refine (Cdh.out _).mono ?_
            rintro e w8 ⟨rfl, B8⟩
            have G8 := (G7h.out.alloc _).gave B8
            have k0 : w8.cell? ⟨w7.heap.size, 0, none⟩ = some (.int .i64 ki) := (B8.cell (p := ⟨w7.heap.size, 0, none⟩) (by simp)).trans (World.cell?_alloc_at _ _ _ _ rfl)
            have k1 : w8.cell? ⟨w7.heap.size, 1, none⟩ = some (.int .i64 ba) := (B8.cell (p := ⟨w7.heap.size, 1, none⟩) (by simp)).trans (World.cell?_alloc_at _ _ _ _ rfl)
            have k2 : w8.cell? ⟨w7.heap.size, 2, none⟩ = some (.int .i64 no) := (B8.cell (p := ⟨w7.heap.size, 2, none⟩) (by simp)).trans (World.cell?_alloc_at _ _ _ _ rfl)
            clear f0 f1 f2 f3 f4 f5 f6 f7 f8 f9 f10 f11 f12 f13 f14 f15
            have f6 : w8.cell? ⟨ob, 6, none⟩ = some (.int .i64 ki) := G8.cell (j := 6) rfl
            have f7 : w8.cell? ⟨ob, 7, none⟩ = some (.int .i64 ba) := G8.cell (j := 7) rfl
            have f8 : w8.cell? ⟨ob, 8, none⟩ = some (.int .i64 no) := G8.cell (j := 8) rfl
            obtain ⟨l1, l2, l3⟩ := lh.out
            have T8 := Lib.hid G8.2
            clear G7h B8 G8 lh Cdh hob hn1 hn1h
            go_wp2_with fail
            go_ret
            exact ⟨rfl, T8.out⟩

end Go.Proofs.YtopoejfbcbnmdaaDoor
