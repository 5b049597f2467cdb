import Derived.Test.YtdbdilajjmijaaaGreatDoorDnParsed
import Derived.Test.YtdbdilajjmijaaaGreatDoorDnTail
import Derived.Test.YtdbdilajjmijaaaGreatDoorDnLight
namespace Go.Proofs.YtdbdilajjmijaaaGreatDoor
open Go Go.RowKit Go.Proofs.YtdbdilajjmijaaaGreatDoorW.PrintWords Go.Proofs.YtdbdilajjmijaaaGreatDoorW.PrintLast Go.Proofs.YtdbdilajjmijaaaGreatDoorW.PrintMore PDimacsCuts

/-! DimacsCuts -/
theorem two_new {w W : World} {a b : Obj} (h : W = (w.alloc a).alloc b) : Below w.heap.size w W ∧ ∀ x, (w.alloc a).heap[w.heap.size]? = some x → W.heap[w.heap.size]? = some x := by
  subst h
  exact ⟨((Below.refl _ _).alloc (Nat.le_refl _) _).alloc (by simp) _, fun x hx => (Below.heap_alloc _ _ _ (by simp)).trans hx⟩
theorem lits_len (V : Nat) (hV : V ≤ 100000) : ∀ (d : List Int), (∀ l ∈ d, l ≠ 0 ∧ max l (-l) ≤ (V : Int)) → (litsT d).length ≤ 13 * d.length
  | [], _ => by simp [litsT]
  | l :: d, h => by
    have h0 := h l (by simp)
    have h1 := itoa_len_small l (by omega) (by omega)
    have h2 := lits_len V hV d (fun x hx => h x (by simp [hx]))
    unfold litsT at h2 ⊢
    rw [List.flatMap_cons, List.length_append]
    simp only [List.length_append, List.length_cons, List.length_nil]
    omega
theorem form_len {V b : Nat} (hV : V ≤ 100000) (hb : b ≤ 1000) : ∀ (cs : List (List Int)), (∀ d ∈ cs, GoodC V b d) → (clsT cs).length ≤ cs.length * 13002
  | [], _ => by simp [clsT]
  | d :: cs, h => by
    have h0 := h d (by simp)
    have h1 := lits_len V hV d h0.1
    have h2 := form_len hV hb cs (fun x hx => h x (by simp [hx]))
    have h3 := h0.2
    unfold clsT at h2 ⊢
    rw [List.flatMap_cons, List.length_append, List.length_append, List.length_cons (a := d), Nat.succ_mul]
    simp only [List.length_cons, List.length_nil]
    omega
theorem text_small {V b : Nat} {cs : List (List Int)} (hV : V ≤ 100000) (hb : b ≤ 1000) (hn : cs.length ≤ 60) (h : ∀ d ∈ cs, GoodC V b d) : (formT V cs).length ≤ 1000000 := by
  rw [formT_eq, List.length_append]
  have h1 := form_len hV hb cs h
  have ex1 := itoa_len_small (V : Int) (by omega) (by omega)
  have ex2 := itoa_len_small (cs.length : Int) (by omega) (by omega)
  unfold hdT headT
  simp only [List.length_append, List.length_cons, List.length_nil]
  omega
theorem good_bounds {V b : Nat} {cs : List (List Int)} (hV : V ≤ 100000) (h : ∀ d ∈ cs, GoodC V b d) : ∀ d ∈ cs, ∀ l ∈ d, -1000000000 ≤ l ∧ l ≤ 1000000000 := fun d hd l hl => by have := (h d hd).1 l hl; omega

theorem and_low (ct : Int) : ∃ m : Nat, bits .and .i64 ct 65535 = (m : Int) ∧ m ≤ 65535 := by
  have h := Nat.and_le_right (n := (BitVec.ofInt 64 ct).toNat) (m := 65535)
  have e : bits .and .i64 ct 65535 = IntKind.i64.wrap (((BitVec.ofInt 64 ct).toNat &&& 65535 : Nat) : Int) := by
    simp only [bits, BitVec.toNat_and]; rfl
  refine ⟨_, e.trans ?_, h⟩
  rw [IntKind.wrap_i64]; omega
theorem form_pos (V : Nat) (cs : List (List Int)) : 0 < (formT V cs).length := by
  unfold formT headT
  simp only [List.length_append, List.length_cons, List.length_nil]
  omega
theorem bs_cut (x : List UInt8) (k : Nat) (_h : k ≤ x.length) : (bs x).extract 0 k = bs (x.take k) := by
  apply ByteArray.ext
  apply Array.ext'
  rw [ByteArray.data_extract, Array.toList_extract]
  show List.extract x 0 k = x.take k
  rw [List.extract_eq_take_drop]; simp

set_option maxRecDepth 100000 in
set_option maxHeartbeats 4000000 in
theorem cuts_any (u : Int) (hu : 0 ≤ u ∧ u ≤ 255) (A : Option Addr) (c : Nat) (l : List (List Int)) (hc : l.length ≤ c) (ct : Int) (_h0 : -9223372036854775808 ≤ ct) (_h1 : ct ≤ 9223372036854775807) (w : World) (hr : Kd.C kRaw w A l.length l) (hl : l.length ≤ 140737488355328) (hs : ∀ r ∈ l, r.length ≤ 140737488355328) (E : Env w) (TY : TypOk w) (EA : EnvA w) :
    Calls Tryz.prog 3 #[.agg #[.int .u8 u, .slice A l.length c], .int .i64 ct] w (Said w (.bool true)) := by
  have HTY := Aside0.mk TY
  have HEA := Aside0.mk EA
  have hu3 := Tryz.underlying43
  have hu1 := Tryz.underlying24
  have hu2 := Tryz.underlying29
  have HR := Aside0.mk hr
  have HE := Aside0.mk E
  have HS := Aside0.mk hs
  have hsp := fun h => lightB_spec (K := 40) (l := l) h
  have C0 := fun W (e : Env W) => fit_any W e
  have CL := fun W (h : Kd.C kRaw W A l.length l) => light_any u A c l 40 W h (by omega) hl hs
  have HB := Aside0.mk ((Below.refl w.heap.size w).alloc (Nat.le_refl _) (.cells #[.int .u8 u, .slice A l.length c] 24))
  have HX := Aside0.mk (heap_alloc_new w (.cells #[.int .u8 u, .slice A l.length c] 24))
  have HCL := Aside0.mk CL
  have HC0 := Aside0.mk C0
  generalize lightB 40 l = bb at *
  clear hr E TY EA hs CL C0
  go_enter Tryz.func3, Tryz.ntmps3
  go_wp2_with (go_at_call 4; refine (HC0.out _ (HE.out.below HB.out)).mono ?_)
  rintro e w2 ⟨rfl, hb⟩
  have HX2 := Aside0.mk (blk_below HX.out hb)
  have HB2 := Aside0.mk (below_step HB.out hb)
  clear hb HB HX
  have p0 : w2.cell? ⟨w.heap.size, 0, none⟩ = some (.int .u8 u) := (blk_cell HX2.out 0).trans rfl
  have p1 : w2.cell? ⟨w.heap.size, 1, none⟩ = some (.slice A l.length c) := (blk_cell HX2.out 1).trans rfl
  cases bb with
  | false =>
    clear hsp
    go_wp2_with (go_at_call 5; refine (HCL.out _ (Kd.C_below HR.out HB2.out)).mono ?_)
    rintro e w3 ⟨rfl, hb⟩
    have HB3 := Aside0.mk (below_step HB2.out hb)
    clear hb
    go_wp2
    go_ret
    exact ⟨rfl, HB3.out⟩
  | true =>
    obtain ⟨hl60, hsum⟩ := hsp rfl
    go_wp2_with (go_at_call 5; refine (HCL.out _ (Kd.C_below HR.out HB2.out)).mono ?_)
    rintro e w3 ⟨rfl, hb⟩
    have HX3 := Aside0.mk (blk_below HX2.out hb)
    have HB3 := Aside0.mk (below_step HB2.out hb)
    clear hb p0 p1
    have p0 : w3.cell? ⟨w.heap.size, 0, none⟩ = some (.int .u8 u) := (blk_cell HX3.out 0).trans rfl
    have p1 : w3.cell? ⟨w.heap.size, 1, none⟩ = some (.slice A l.length c) := (blk_cell HX3.out 1).trans rfl
    obtain ⟨V, cs, hV, hcs, hg, CF⟩ := formula_any u hu A c l 50 9 (by omega) (by omega) w3 (Kd.C_below HR.out HB3.out) hc (by omega) HS.out
    have hn : cs.length ≤ 60 := by omega
    have htx := text_small (b := 9) (by omega) (by omega) hn hg
    have HTX := Aside0.mk htx
    have HGB := Aside0.mk (good_bounds (b := 9) (by omega) hg)
    clear hcs hsum hg htx hsp HX2 HCL HC0
    go_wp2_with (go_at_call 6; refine CF.mono ?_)
    rintro e w4 ⟨hb, X, c', rfl, hc', hX⟩
    have HB4 := Aside0.mk (below_step HB3.out hb)
    have HXR := Aside0.mk hX
    clear hX CF hb p0 p1
    obtain ⟨W5, hW5⟩ : ∃ W5, W5 = w4.alloc (.cells #[.int .i64 (V : Int), .slice X cs.length c'] 29) := ⟨_, rfl⟩
    have hb : Below w4.heap.size w4 W5 := by rw [hW5]; exact (Below.refl _ _).alloc (Nat.le_refl _) _
    have HB5 := Aside0.mk (below_step HB4.out hb)
    have HX5 := Aside0.mk (Kd.C_below HXR.out hb)
    have hK5 : W5.heap[w4.heap.size]? = some (.cells #[.int .i64 (V : Int), .slice X cs.length c'] 29 (0, 0)) := by rw [hW5]; exact heap_alloc_new w4 _
    have k0 : W5.cell? ⟨w4.heap.size, 0, none⟩ = some (.int .i64 (V : Int)) := (blk_cell hK5 0).trans rfl
    have k1 : W5.cell? ⟨w4.heap.size, 1, none⟩ = some (.slice X cs.length c') := (blk_cell hK5 1).trans rfl
    have HW5 := Aside0.mk hW5
    have CT := told_any X c' V cs W5 HX5.out (by omega) (by omega) HGB.out (by have := HTX.out; omega) (HE.out.below HB5.out)
    have hpos := form_pos V cs
    have htl := HTX.out
    have HCUT := Aside0.mk (fun k h => bs_cut (formT V cs) k h)
    have HLEN := Aside0.mk (bs_size (formT V cs))
    rw [← bs_size] at hpos htl
    clear hb hW5 hK5
    go_upto_region 6 with (fail)
    rw [← HW5.out]
    generalize formT V cs = TT at *
    generalize bs TT = T at *
    go_wp2_with (go_at_call 7; refine CT.mono ?_)
    rintro e w6 ⟨rfl, hb⟩
    have HB6 := Aside0.mk (below_step HB5.out hb)
    clear hb CT HW5 k0 k1 HB5 HB4 HB3 HB2 HXR HX5 HX3
    have qz : ((T.size : Int) == 0) = false := by rw [beq_eq_false_iff_ne]; omega
    have qy : (T = ByteArray.empty) = False := eq_false (by rintro rfl; simp at hpos)
    obtain ⟨m, hm, hm9⟩ := and_low ct
    obtain ⟨k, hk⟩ : ∃ k, m % T.size = k := ⟨_, rfl⟩
    have hkl : k < T.size := by rw [← hk]; exact Nat.mod_lt _ hpos
    have e1 : Int.tmod (m : Int) (T.size : Int) = (k : Int) := by
      rw [Int.tmod_eq_emod_of_nonneg (by omega), ← hk]; simp
    go_upto_region 7 with (fail)
    go_cut [7] (fun s7 wx => ∃ k : Nat, s7 = .int .i64 (k : Int) ∧ k ≤ T.size ∧ Aside0 (Below w.heap.size w wx))
    case first =>
      clear hk
      go_wp2
      go_meet
      case rel => exact ⟨k, by go_num, by omega, HB6⟩
    case rest =>
      clear e1 hkl hk hm hm9 qz qy
      clear k m
      obtain ⟨k, rfl, hk, HB⟩ := hcut
      have q1 : ((0 : Int) ≤ (k : Int)) = True := eq_true (by omega)
      have q2 : ((k : Int) ≤ (T.size : Int)) = True := eq_true (by omega)
      have hcut' := HCUT.out k (by have := HLEN.out; omega)
      obtain ⟨x, hx⟩ : ∃ x, x = TT.take k := ⟨_, rfl⟩
      rw [← hx] at hcut'
      have hxl : x.length ≤ 1000000 := by
        rw [hx, List.length_take]
        have := HLEN.out
        omega
      have C1 := fun W (e : Env W ∧ EnvA W) => parsed_any x W (by omega) e.1 e.2
      have C2 := fun W (e : Env W) => parse_any x W (by omega) e
      have hst : strV x = .string (T.extract 0 k) := by rw [hcut']; rfl
      rw [hst] at C1 C2
      clear hx hcut' hst HCUT
      cases hp : parseR x with
      | inl e =>
        obtain ⟨i, e⟩ := e
        obtain ⟨hi, hk0, hk8⟩ := parse_inl hp
        rw [hp] at C1 C2
        have HC1 := Aside0.mk C1
        have C2 := C2 wc (HE.out.below HB.out)
        clear C1 hp
        have q3 : ((e : Int) == 0) = false := by simp; omega
        go_wp2_with (go_at_call 8; refine C2.mono ?_)
        rintro ev w7 ⟨hb, b, rfl, hf, -⟩
        have HB7 := Aside0.mk (below_step HB.out hb)
        clear C2 hb
        obtain ⟨W8, hW8⟩ : ∃ W8, W8 = w7.alloc (.cells #[.int .i64 0, .slice none 0 0] 29) := ⟨_, rfl⟩
        have hb : Below w7.heap.size w7 W8 := by rw [hW8]; exact (Below.refl _ _).alloc (Nat.le_refl _) _
        have HB8 := Aside0.mk (below_step HB7.out hb)
        have HF8 := Aside0.mk (blk_below hf hb)
        have C1 := HC1.out W8 ⟨HE.out.below HB8.out, HEA.out.below HB8.out⟩
        have HW8 := Aside0.mk hW8
        clear hb hW8 hf HC1
        go_upto_region 9 with (fail)
        rw [← HW8.out]
        go_wp2_with (go_at_call 9; refine C1.mono ?_)
        rintro ev w9 ⟨hb, rfl⟩
        have HB9 := Aside0.mk (below_step HB8.out hb)
        have HF9 := Aside0.mk (blk_below HF8.out hb)
        clear C1 hb
        obtain ⟨W11, hW11⟩ : ∃ W11, W11 = (w9.alloc (.cells #[.int .i64 0, .slice none 0 0] 29)).alloc (.cells #[.pointer none] 39) := ⟨_, rfl⟩
        obtain ⟨hb11, -⟩ := two_new hW11
        have hf11 := blk_below HF9.out hb11
        have hp11 : W11.heap[w9.heap.size + 1]? = some (.cells #[.pointer none] 39 (0, 0)) := by
          rw [hW11]
          have := heap_alloc_new (w9.alloc (.cells #[.int .i64 0, .slice none 0 0] 29)) (.cells #[.pointer none] 39)
          simpa using this
        have hbl := blk_lt HF9.out
        have HB11 := Aside0.mk (below_step HB9.out hb11)
        have CA := as_made ⟨b, 0, none⟩ (w9.heap.size + 1) (.pointer none) W11 (HTY.out.below HB11.out) ((blk_cell hp11 0).trans rfl) (blk_frozen hp11 0)
        have r0 : W11.cell? ⟨b, 0, none⟩ = some (.int .i64 (i : Int)) := (blk_cell hf11 0).trans rfl
        have r1 : W11.cell? ⟨b, 1, none⟩ = some (.int .i64 (e : Int)) := (blk_cell hf11 1).trans rfl
        have HR0 := Aside0.mk (And.intro r0 r1)
        have HBL := Aside0.mk (show b ≠ w9.heap.size + 1 by omega)
        have HSZ := Aside0.mk HB9.out.size
        have HW11 := Aside0.mk hW11
        clear hb11 hf11 hp11 hbl hW11 r0 r1
        go_upto_region 12 with (fail)
        rw [← HW11.out]
        go_wp2_with (go_at_call 10; refine CA.mono ?_)
        rintro ev w12 ⟨rfl, hset⟩
        have s0 := hset.far ⟨b, 0, none⟩ _ HBL.out HR0.out.1
        have s1 := hset.far ⟨b, 1, none⟩ _ HBL.out HR0.out.2
        have s2 := hset.hit
        have HB12 := Aside0.mk (HB11.out.trans (hset.below.mono (by have := HSZ.out; omega)))
        clear hset CA HR0
        go_wp2
        go_ret
        exact ⟨rfl, HB12.out⟩
      | inr r =>
        obtain ⟨hn, hrows⟩ := parse_inr hp
        rw [hp] at C1 C2
        have HC1 := Aside0.mk C1
        have C2 := C2 wc (HE.out.below HB.out)
        clear C1 hp
        go_wp2_with (go_at_call 8; refine C2.mono ?_)
        rintro ev w7 ⟨hb, Y, rfl, hY⟩
        have HB7 := Aside0.mk (below_step HB.out hb)
        try dsimp only at hY
        obtain ⟨Ya, Yc, rfl, hYc, hYC⟩ := Kd.R_reads hY
        try dsimp only
        clear C2 hb hY
        obtain ⟨W8, hW8⟩ : ∃ W8, W8 = w7.alloc (.cells #[.int .i64 (r.vars : Int), .slice Ya r.cls.length Yc] 29) := ⟨_, rfl⟩
        have hb : Below w7.heap.size w7 W8 := by rw [hW8]; exact (Below.refl _ _).alloc (Nat.le_refl _) _
        have HB8 := Aside0.mk (below_step HB7.out hb)
        have HK8 : Aside0 (W8.heap[w7.heap.size]? = some (.cells #[.int .i64 (r.vars : Int), .slice Ya r.cls.length Yc] 29 (0, 0))) := ⟨by rw [hW8]; exact heap_alloc_new w7 _⟩
        have HC8 := Aside0.mk (Kd.C_below hYC hb)
        have C1 := HC1.out W8 ⟨HE.out.below HB8.out, HEA.out.below HB8.out⟩
        have HW8 := Aside0.mk hW8
        clear hb hW8 hYC HC1
        go_upto_region 9 with (fail)
        rw [← HW8.out]
        go_wp2_with (go_at_call 9; refine C1.mono ?_)
        rintro ev w9 ⟨hb, V9, rfl, hV9⟩
        have HB9 := Aside0.mk (below_step HB8.out hb)
        have HK9 := Aside0.mk (blk_below HK8.out hb)
        have HC9 := Aside0.mk (Kd.C_below HC8.out hb)
        try dsimp only at hV9
        obtain ⟨A9, c9, rfl, hc9, hC9⟩ := Kd.R_reads hV9
        try dsimp only
        clear C1 hb hV9
        obtain ⟨W6, hW6⟩ : ∃ W6, W6 = w9.alloc (.cells #[.int .i64 (r.vars : Int), .slice A9 r.cls.length c9] 29) := ⟨_, rfl⟩
        have hb : Below w9.heap.size w9 W6 := by rw [hW6]; exact (Below.refl _ _).alloc (Nat.le_refl _) _
        have hK6 : W6.heap[w9.heap.size]? = some (.cells #[.int .i64 (r.vars : Int), .slice A9 r.cls.length c9] 29 (0, 0)) := by rw [hW6]; exact heap_alloc_new w9 _
        have hK9 := blk_below HK9.out hb
        have HB10 := Aside0.mk (below_step HB9.out hb)
        have CS := same_any r.vars r.vars Ya A9 Yc c9 r.cls r.cls W6 (Kd.C_below HC9.out hb) hYc (Kd.C_below hC9 hb) hc9 hn hrows
        rw [show decide ((r.vars : Int) = r.vars ∧ r.cls = r.cls) = true by simp] at CS
        have k0 : W6.cell? ⟨w7.heap.size, 0, none⟩ = some (.int .i64 (r.vars : Int)) := (blk_cell hK9 0).trans rfl
        have k1 : W6.cell? ⟨w7.heap.size, 1, none⟩ = some (.slice Ya r.cls.length Yc) := (blk_cell hK9 1).trans rfl
        have j0 : W6.cell? ⟨w9.heap.size, 0, none⟩ = some (.int .i64 (r.vars : Int)) := (blk_cell hK6 0).trans rfl
        have j1 : W6.cell? ⟨w9.heap.size, 1, none⟩ = some (.slice A9 r.cls.length c9) := (blk_cell hK6 1).trans rfl
        have HW6 := Aside0.mk hW6
        clear hb hK9 hK6 hW6 hC9
        go_upto_region 10 with (fail)
        rw [← HW6.out]
        go_wp2_with (go_at_call 11; refine CS.mono ?_)
        rintro ev w10 ⟨rfl, hb⟩
        go_wp2
        go_ret
        exact ⟨rfl, below_step HB10.out hb⟩
end Go.Proofs.YtdbdilajjmijaaaGreatDoor
