import Derived.Test.YtdbdilajjmijaaaDoorDnParsed
import Derived.Test.YtdbdilajjmijaaaDoorDnTail
import Derived.Test.YtdbdilajjmijaaaDoorDnBack
namespace Go.Proofs.YtdbdilajjmijaaaDoor
open Go Go.RowKit Go.Proofs.YtdbdilajjmijaaaDoorW.PrintWords Go.Proofs.YtdbdilajjmijaaaDoorW.PrintLast Go.Proofs.YtdbdilajjmijaaaDoorW.PrintMore PDimacsBack

/-! DimacsParses -/
theorem cell_step {w w' : World} {a : Addr} {v : Value} (h : w.cell? a = some v) (hb : Below w.heap.size w w') : w'.cell? a = some v := (hb.cell (World.block_lt_of_cell? _ _ h)).trans h
theorem form_none (w : World) : Kd.C kForm w none ([] : List (List Int)).length [] := (Kd.R_reads' (e := 42) (base := 0) (ok := fun _ => True) (Kd.R_nil _ _ _ _ _)).2.2
theorem two_new {w W : World} {a b : Obj} (h : W = (w.alloc a).alloc b) : Below w.heap.size w W ∧ ∀ x, (w.alloc a).heap[w.heap.size]? = some x → W.heap[w.heap.size]? = some x := by
  subst h
  exact ⟨((Below.refl _ _).alloc (Nat.le_refl _) _).alloc (by simp) _, fun x hx => (Below.heap_alloc _ _ _ (by simp)).trans hx⟩

set_option maxRecDepth 100000 in
set_option maxHeartbeats 4000000 in
theorem parses_any (x : List UInt8) (w : World) (E : Env w) (TY : TypOk w) (EA : EnvA w) :
    Calls Tryd.prog 7 #[strV x] w (Said w (.bool true)) := by
  have hu1 := Tryd.underlying29
  have hu3 := Tryd.underlying50
  have HE := Aside0.mk E
  have HTY := Aside0.mk TY
  have HEA := Aside0.mk EA
  have HC0 := Aside0.mk (fit_any w E)
  have hst : strV x = .string (bs x) := rfl
  rw [hst]
  by_cases hX : x.length ≤ 3000
  · have C1 := fun W (e : Env W ∧ EnvA W) => parsed_any x W (by omega) e.1 e.2
    have C2 := fun W (e : Env W) => parse_any x W (by omega) e
    rw [hst] at C1 C2
    have hXs : (bs x).size ≤ 3000 := by rw [bs_size]; exact hX
    cases hp : parseR x with
    | inl e =>
      obtain ⟨i, k⟩ := e
      obtain ⟨hi, hk0, hk8⟩ := parse_inl hp
      rw [hp] at C1 C2
      have HC1 := Aside0.mk C1
      have HC2 := Aside0.mk C2
      clear E TY EA hst C1 C2 hp
      generalize bs x = X at *
      have q1 : (3000 < (X.size : Int)) = False := eq_false (by omega)
      have q2 : ((k : Int) == 0) = false := by simp; omega
      go_enter Tryd.func7, Tryd.ntmps7
      go_wp2_with (go_at_call 8; refine HC0.out.mono ?_)
      rintro e w2 ⟨rfl, hb⟩
      have HB := Aside0.mk hb
      have C1 := HC1.out w2 ⟨HE.out.below hb, HEA.out.below hb⟩
      clear hb HC0 HC1
      go_wp2_with (go_at_call 19; refine C1.mono ?_)
      rintro e w3 ⟨hb, rfl⟩
      have HB3 := Aside0.mk (below_step HB.out hb)
      clear hb C1
      obtain ⟨W4, hW4⟩ : ∃ W4, W4 = w3.alloc (.cells #[.int .i64 0, .slice none 0 0] 29) := ⟨_, rfl⟩
      have hb : Below w3.heap.size w3 W4 := by rw [hW4]; exact (Below.refl _ _).alloc (Nat.le_refl _) _
      have HB4 := Aside0.mk (below_step HB3.out hb)
      have HW4 := Aside0.mk hW4
      have C2 := HC2.out W4 (HE.out.below HB4.out)
      clear hb hW4 HC2
      go_upto_region 6 with (fail)
      rw [← HW4.out]
      go_wp2_with (go_at_call 12; refine C2.mono ?_)
      rintro e w5 ⟨hb, b, rfl, hf, -⟩
      have HB5 := Aside0.mk (below_step HB4.out hb)
      clear C2 hb
      obtain ⟨W9, hW9⟩ : ∃ W9, W9 = (w5.alloc (.cells #[.int .i64 0, .slice none 0 0] 29)).alloc (.cells #[.pointer none] 46) := ⟨_, rfl⟩
      obtain ⟨hb9, hn9⟩ := two_new hW9
      have hf9 := blk_below hf hb9
      have hg9 := hn9 _ (heap_alloc_new w5 _)
      have hp9 : W9.heap[w5.heap.size + 1]? = some (.cells #[.pointer none] 46 (0, 0)) := by
        rw [hW9]
        have := heap_alloc_new (w5.alloc (.cells #[.int .i64 0, .slice none 0 0] 29)) (.cells #[.pointer none] 46)
        simpa using this
      have hbl := blk_lt hf
      have HB9 := Aside0.mk (below_step HB5.out hb9)
      have CA := as_made ⟨b, 0, none⟩ (w5.heap.size + 1) (.pointer none) W9 (HTY.out.below HB9.out) ((blk_cell hp9 0).trans rfl) (blk_frozen hp9 0)
      have r0 : W9.cell? ⟨b, 0, none⟩ = some (.int .i64 (i : Int)) := (blk_cell hf9 0).trans rfl
      have r1 : W9.cell? ⟨b, 1, none⟩ = some (.int .i64 (k : Int)) := (blk_cell hf9 1).trans rfl
      have r2 : W9.cell? ⟨w5.heap.size, 0, none⟩ = some (.int .i64 0) := (blk_cell hg9 0).trans rfl
      have r3 : W9.cell? ⟨w5.heap.size, 1, none⟩ = some (.slice none 0 0) := (blk_cell hg9 1).trans rfl
      have HR0 := Aside0.mk (And.intro r0 (And.intro r1 (And.intro r2 r3)))
      have HBL := Aside0.mk (And.intro (show b ≠ w5.heap.size + 1 by omega) (show w5.heap.size ≠ w5.heap.size + 1 by omega))
      have HSZ8 := Aside0.mk HB5.out.size
      have HW9 := Aside0.mk hW9
      clear hb9 hf hf9 hg9 hn9 hp9 hbl hW9 r0 r1 r2 r3
      go_upto_region 10 with (fail)
      rw [← HW9.out]
      have hq : ∀ W, Said W9 (.bool true) (.returned (.bool true)) W → True := fun _ _ => trivial
      clear hq
      go_wp2_with (go_at_call 17; refine CA.mono ?_)
      rintro e w10 ⟨rfl, hset⟩
      have s0 := hset.far ⟨b, 0, none⟩ _ HBL.out.1 HR0.out.1
      have s1 := hset.far ⟨b, 1, none⟩ _ HBL.out.1 HR0.out.2.1
      have m0 := hset.far ⟨w5.heap.size, 0, none⟩ _ HBL.out.2 HR0.out.2.2.1
      have m1 := hset.far ⟨w5.heap.size, 1, none⟩ _ HBL.out.2 HR0.out.2.2.2
      have s2 := hset.hit
      have HB10 := Aside0.mk (HB9.out.trans (hset.below.mono (by have := HSZ8.out; omega)))
      clear hset CA HR0
      have CI := is_fault b 0 (k : Int) w10 s1
      have CS := same_any 0 0 none none 0 0 [] [] w10 (form_none w10) (by simp) (form_none w10) (by simp) (by simp) (by simp)
      rw [show decide ((0 : Int) = 0 ∧ ([] : List (List Int)) = []) = true by simp] at CS
      have HCS := Aside0.mk CS
      clear CS
      have CS := HCS.out
      simp only [List.length_nil] at CS
      clear HCS
      go_wp2_with (first
        | (go_at_call 18; refine CI.mono ?_; rintro e w' ⟨rfl, rfl⟩)
        | (go_at_call 14; refine CS.mono ?_))
      rintro e w11 ⟨rfl, hb⟩
      have t0 := cell_step s0 hb
      have t1 := cell_step s1 hb
      have t2 := cell_step s2 hb
      have HB11 := Aside0.mk (below_step HB10.out hb)
      clear s0 s1 s2 m0 m1 hb CI CS
      have CF := fault_any b i k (by omega) (by omega) w11 t0 t1 (HE.out.below HB11.out)
      have CT := fun W e => itoa_any (i : Int) (by omega) (by omega) W e
      have CE := fun W e => errno_any k (by omega) W e
      have HD : bs (faultT i k) = ⟨#[108, 105, 110, 101, 32]⟩ ++ bs (Lib.itoa (i : Int)) ++ ⟨#[58, 32]⟩ ++ bs (errT k) := by
        show _ = bs [108, 105, 110, 101, 32] ++ bs _ ++ bs [58, 32] ++ bs _
        rw [bs_add, bs_add, bs_add]; rfl
      rw [HD] at CF
      have ex1 := itoa_len_small (i : Int) (by omega) (by omega)
      have ex2 := errT_len (k := k) (by omega)
      have hz : ∀ W : World, Said W (.string ⟨(Lib.itoa (i : Int)).toArray⟩) = Said W (.string (bs (Lib.itoa (i : Int)))) := fun _ => rfl
      simp only [hz] at CT
      rw [← bs_size] at ex1 ex2
      have HCT := Aside0.mk CT
      have HCE := Aside0.mk CE
      clear HD hz CT CE
      generalize bs (Lib.itoa (i : Int)) = X1 at *
      generalize bs (errT k) = X2 at *
      have o1 : (9223372036854775807 < 5 + X1.size) = False := eq_false (by omega)
      have o2 : (9223372036854775807 < 5 + X1.size + 2) = False := eq_false (by omega)
      have o3 : (9223372036854775807 < 5 + X1.size + 2 + X2.size) = False := eq_false (by omega)
      clear ex1 ex2 hi hk8 hX hXs
      go_wp2_with (go_at_call 20; refine CF.mono ?_)
      rintro e w12 ⟨rfl, hb⟩
      have s2 := cell_step t2 hb
      have s1 := cell_step t1 hb
      have HB12 := Aside0.mk (below_step HB11.out hb)
      clear t0 t1 t2 hb CF
      have CT := HCT.out w12 (HE.out.below HB12.out)
      go_wp2_with (go_at_call 15; refine CT.mono ?_)
      rintro e w13 ⟨rfl, hb⟩
      have t2 := cell_step s2 hb
      have t1 := cell_step s1 hb
      have HB13 := Aside0.mk (below_step HB12.out hb)
      clear s1 s2 hb CT
      have CE := HCE.out w13 (HE.out.below HB13.out)
      go_wp2_with (go_at_call 21; refine CE.mono ?_)
      rintro e w14 ⟨rfl, hb⟩
      have s2 := cell_step t2 hb
      have s1 := cell_step t1 hb
      have HB14 := Aside0.mk (below_step HB13.out hb)
      clear t1 t2 hb CE
      have CU := unwrap_any b k w14 s1
      have CI := is_errno (k : Int) w14
      go_wp2_with (first
        | (go_at_call 22; refine CU.mono ?_; rintro e w' ⟨rfl, rfl⟩)
        | (go_at_call 18; refine CI.mono ?_; rintro e w' ⟨rfl, rfl⟩))
      go_ret
      exact ⟨rfl, HB14.out⟩
    | inr r =>
      obtain ⟨hn, hrows⟩ := parse_inr hp
      rw [hp] at C1 C2
      have HC1 := Aside0.mk C1
      have HC2 := Aside0.mk C2
      clear E TY EA hst C1 C2 hp
      generalize bs x = X at *
      have q1 : (3000 < (X.size : Int)) = False := eq_false (by omega)
      go_enter Tryd.func7, Tryd.ntmps7
      go_wp2_with (go_at_call 8; refine HC0.out.mono ?_)
      rintro e w2 ⟨rfl, hb⟩
      have HB := Aside0.mk hb
      have C1 := HC1.out w2 ⟨HE.out.below hb, HEA.out.below hb⟩
      clear hb HC0 HC1
      go_wp2_with (go_at_call 19; refine C1.mono ?_)
      rintro e w3 ⟨hb, V, rfl, hV⟩
      have HB3 := Aside0.mk (below_step HB.out hb)
      obtain ⟨A, c, rfl, hc, hC⟩ := Kd.R_reads hV
      clear hb C1 hV
      obtain ⟨W4, hW4⟩ : ∃ W4, W4 = w3.alloc (.cells #[.int .i64 (r.vars : Int), .slice A r.cls.length c] 29) := ⟨_, rfl⟩
      have hb : Below w3.heap.size w3 W4 := by rw [hW4]; exact (Below.refl _ _).alloc (Nat.le_refl _) _
      have HB4 := Aside0.mk (below_step HB3.out hb)
      have HK4 : Aside0 (W4.heap[w3.heap.size]? = some (.cells #[.int .i64 (r.vars : Int), .slice A r.cls.length c] 29 (0, 0))) := ⟨by rw [hW4]; exact heap_alloc_new w3 _⟩
      have HC4 := Aside0.mk (Kd.C_below hC hb)
      have HW4 := Aside0.mk hW4
      have C2 := HC2.out W4 (HE.out.below HB4.out)
      clear hb hW4 HC2 hC
      go_upto_region 6 with (fail)
      rw [← HW4.out]
      go_wp2_with (go_at_call 12; refine C2.mono ?_)
      rintro e w5 ⟨hb, Y, rfl, hY⟩
      have HB5 := Aside0.mk (below_step HB4.out hb)
      have HK5 := Aside0.mk (blk_below HK4.out hb)
      have HC5 := Aside0.mk (Kd.C_below HC4.out hb)
      try dsimp only at hY
      obtain ⟨Ya, Yc, rfl, hYc, hYC⟩ := Kd.R_reads hY
      try dsimp only
      clear C2 hb hY
      obtain ⟨W6, hW6⟩ : ∃ W6, W6 = w5.alloc (.cells #[.int .i64 (r.vars : Int), .slice Ya r.cls.length Yc] 29) := ⟨_, rfl⟩
      have hb : Below w5.heap.size w5 W6 := by rw [hW6]; exact (Below.refl _ _).alloc (Nat.le_refl _) _
      have hK6 : W6.heap[w5.heap.size]? = some (.cells #[.int .i64 (r.vars : Int), .slice Ya r.cls.length Yc] 29 (0, 0)) := by rw [hW6]; exact heap_alloc_new w5 _
      have hK5 := blk_below HK5.out hb
      have HB6 := Aside0.mk (below_step HB5.out hb)
      have CS := same_any r.vars r.vars Ya A Yc c r.cls r.cls W6 (Kd.C_below hYC hb) hYc (Kd.C_below HC5.out hb) hc hn hrows
      rw [show decide ((r.vars : Int) = r.vars ∧ r.cls = r.cls) = true by simp] at CS
      have k0 : W6.cell? ⟨w5.heap.size, 0, none⟩ = some (.int .i64 (r.vars : Int)) := (blk_cell hK6 0).trans rfl
      have k1 : W6.cell? ⟨w5.heap.size, 1, none⟩ = some (.slice Ya r.cls.length Yc) := (blk_cell hK6 1).trans rfl
      have j0 : W6.cell? ⟨w3.heap.size, 0, none⟩ = some (.int .i64 (r.vars : Int)) := (blk_cell hK5 0).trans rfl
      have j1 : W6.cell? ⟨w3.heap.size, 1, none⟩ = some (.slice A r.cls.length c) := (blk_cell hK5 1).trans rfl
      have HW6 := Aside0.mk hW6
      clear hb hK5 hK6 hW6 hYC
      go_upto_region 7 with (fail)
      rw [← HW6.out]
      go_wp2_with (go_at_call 14; refine CS.mono ?_)
      rintro e w10 ⟨rfl, hb⟩
      go_wp2
      go_ret
      exact ⟨rfl, below_step HB6.out hb⟩
  · have hXs : 3000 < (bs x).size := by rw [bs_size]; omega
    clear E TY EA hst
    generalize bs x = X at *
    have q1 : (3000 < (X.size : Int)) = True := eq_true (by omega)
    go_enter Tryd.func7, Tryd.ntmps7
    go_wp2_with (go_at_call 8; refine HC0.out.mono ?_)
    rintro e w2 ⟨rfl, hb⟩
    go_wp2
    go_ret
    exact ⟨rfl, hb⟩
end Go.Proofs.YtdbdilajjmijaaaDoor
