import Derived.Test.YtdbdilajjmijaaaDoorDnParses
import Derived.Test.YtdbdilajjmijaaaDoorDnPlain
namespace Go.Proofs.YtdbdilajjmijaaaDoor
open Go Go.RowKit Go.Proofs.YtdbdilajjmijaaaDoorW.PrintWords Go.Proofs.YtdbdilajjmijaaaDoorW.PrintLast Go.Proofs.YtdbdilajjmijaaaDoorW.PrintMore PDimacsBack

/-! DimacsHeaders -/
theorem W64 (v : Nat) (h : v < 1000000) : wrap64 (v : Int) = v := by
  unfold wrap64
  omega
/-- What Parse says of a header alone. -/
def HeadSaid (v n : Nat) (w' : World) (x : Int) (m : Nat) (E : Value) : Prop :=
  ((100000 < v ∨ 200000 < n) ∧ ∃ b, E = .iface 46 (.pointer (some ⟨b, 0, none⟩)) ∧ w'.cell? ⟨b, 1, none⟩ = some (.int .i64 8)) ∨
  (v ≤ 100000 ∧ n ≤ 200000 ∧ 0 < n ∧ ∃ b, E = .iface 46 (.pointer (some ⟨b, 0, none⟩)) ∧ w'.cell? ⟨b, 1, none⟩ = some (.int .i64 6)) ∨
  (v ≤ 100000 ∧ n = 0 ∧ E = .nilIface ∧ x = v ∧ m = 0)
theorem HeadSaid.below {v n : Nat} {w w' : World} {x : Int} {m : Nat} {E : Value} (h : HeadSaid v n w x m E) (hb : Below w.heap.size w w') : HeadSaid v n w' x m E := by
  rcases h with ⟨h, b, rfl, hc⟩ | ⟨h1, h2, h3, b, rfl, hc⟩ | h
  · exact .inl ⟨h, b, rfl, cell_step hc hb⟩
  · exact .inr (.inl ⟨h1, h2, h3, b, rfl, cell_step hc hb⟩)
  · exact .inr (.inr h)
theorem head_any (v n : Nat) (hv : v < 200000) (hn : n < 400000) (W : World) (E : Env W) : Calls Tryd.prog 12 #[.string (bs (headT v n ++ [10]))] W fun e w' => Below W.heap.size W w' ∧ ∃ (x : Int) (A : Option Addr) (m c : Nat) (E' : Value), e = .returned (.tuple #[.agg #[.int .i64 x, .slice A m c], E']) ∧ HeadSaid v n w' x m E' := by
  have h1 := itoa_len_small (v : Int) (by omega) (by omega)
  have h2 := itoa_len_small (n : Int) (by omega) (by omega)
  have C := parse_any (headT v n ++ [10]) W (by unfold headT; simp only [List.length_append, List.length_cons, List.length_nil]; omega) E
  rw [parse_head v n hv hn] at C
  refine C.mono fun e w' h => ?_
  by_cases hx : 100000 < v ∨ 200000 < n
  · rw [if_pos hx] at h
    obtain ⟨hb, b, rfl, hf, -⟩ := h
    exact ⟨hb, _, _, _, _, _, rfl, .inl ⟨hx, b, rfl, (blk_cell hf 1).trans rfl⟩⟩
  · rw [if_neg hx] at h
    by_cases h0 : 0 < n
    · rw [if_pos h0] at h
      obtain ⟨hb, b, rfl, hf, -⟩ := h
      exact ⟨hb, _, _, _, _, _, rfl, .inr (.inl ⟨by omega, by omega, h0, b, rfl, (blk_cell hf 1).trans rfl⟩)⟩
    · rw [if_neg h0] at h
      obtain ⟨hb, V, rfl, hV⟩ := h
      obtain ⟨A, c, rfl, -, -⟩ := Kd.R_reads hV
      exact ⟨hb, _, _, _, _, _, rfl, .inr (.inr ⟨by omega, by omega, rfl, rfl, rfl⟩)⟩
set_option maxRecDepth 100000 in
set_option maxHeartbeats 4000000 in
theorem headers_any (A : Option Addr) (c : Nat) (l : List (List UInt8)) (_hc : l.length ≤ c) (a b : Int) (ha : 0 ≤ a ∧ a ≤ 4294967295) (hb0 : 0 ≤ b ∧ b ≤ 4294967295) (w : World) (hr : Kd.C Kd.string w A l.length (l.map bs)) (hl : l.length ≤ 140737488355328) (E : Env w) (TY : TypOk w) (EA : EnvA w) :
    Calls Tryd.prog 6 #[.slice A l.length c, .agg #[.int .u32 a, .int .u32 b]] w (Said w (.bool true)) := by
  have hu1 := Tryd.underlying29
  have hu3 := Tryd.underlying50
  have hu4 := Tryd.underlying53
  have HE := Aside0.mk E
  have HTY := Aside0.mk TY
  have HEA := Aside0.mk EA
  have HR := Aside0.mk hr
  have HB0 := Aside0.mk ((Below.refl w.heap.size w).alloc (Nat.le_refl _) (.cells #[.int .u32 a, .int .u32 b] 53))
  have HX0 := Aside0.mk (heap_alloc_new w (.cells #[.int .u32 a, .int .u32 b] 53))
  have HC0 := Aside0.mk (fit_any _ (E.below HB0.out))
  have HAB := Aside0.mk (And.intro ha hb0)
  clear E TY EA hr ha hb0
  go_enter Tryd.func6, Tryd.ntmps6
  go_wp2_with (go_at_call 8; refine HC0.out.mono ?_)
  rintro e w2 ⟨rfl, hb⟩
  have HX2 := Aside0.mk (blk_below HX0.out hb)
  have HB2 := Aside0.mk (below_step HB0.out hb)
  clear hb HC0 HX0 HB0
  have HLn := Aside0.mk hl
  go_wp2
  go_loopg [24, 5, 6] l.length (fun gk v24 v5 v6 w' => ∃ (j : Nat) (S : List UInt8) (p : Bool), v24 = .int .i64 (j : Int) ∧ j + gk = l.length ∧ v5 = .string (bs S) ∧ v6 = .bool p ∧ Aside0 (S.length ≤ 13 * j) ∧ Aside0 (w2 = w'))
  case atStart => exact ⟨0, [], true, rfl, by omega, rfl, rfl, ⟨by simp⟩, ⟨rfl⟩⟩
  case round =>
    obtain ⟨j, S, p, rfl, hj, rfl, rfl, HS, HW⟩ := hrel
    by_cases hjl : j < l.length
    · obtain ⟨ad, rfl, mx⟩ := at_word HR.out j hjl
      have mx := cell_step mx HB2.out
      have hw := HW.out
      subst hw
      have q1 : ((j : Int) < (l.length : Int)) = True := eq_true (by omega)
      generalize nth l [] j = x at *
      by_cases h12 : 12 < x.length
      · have h12' : 12 < (bs x).size := h12
        generalize bs x = X at *
        generalize bs S = SB at *
        have q2 : (12 < (X.size : Int)) = True := eq_true (by omega)
        go_wp2
        go_ret
        exact ⟨rfl, HB2.out⟩
      · have hxs := bs_size x
        have hss := bs_size S
        have hsl := HS.out
        have hCAT : bs S ++ (bs x ++ ⟨#[32]⟩) = bs (S ++ (x ++ [32])) := by
          show bs S ++ (bs x ++ bs [32]) = _
          rw [bs_add, bs_add]
        have HCAT := Aside0.mk hCAT
        have HS2 : Aside0 ((S ++ (x ++ [32])).length ≤ 13 * (j + 1)) := ⟨by simp only [List.length_append, List.length_cons, List.length_nil]; omega⟩
        clear HS hCAT
        generalize bs x = X at *
        generalize bs S = SB at *
        have q2 : (12 < (X.size : Int)) = False := eq_false (by omega)
        have o1 : (9223372036854775807 < X.size + 1) = False := eq_false (by omega)
        have o2 : (9223372036854775807 < SB.size + (X.size + 1)) = False := eq_false (by omega)
        have hx12 : X.size ≤ 12 := by omega
        clear hxs hss hsl
        go_wp2
        go_loopg [33, 6] X.size (fun gk2 v33 v6 w' => ∃ (k : Nat) (p2 : Bool), v33 = .int .i64 (k : Int) ∧ k + gk2 = X.size ∧ v6 = .bool p2 ∧ Aside0 (w2 = w'))
        case atStart => exact ⟨0, p, rfl, by omega, rfl, ⟨rfl⟩⟩
        case round =>
          clear HW
          obtain ⟨k, p2, rfl, hk, rfl, HW⟩ := hrel
          have hw := HW.out
          subst hw
          by_cases hkl : k < X.size
          · have q3 : ((k : Int) < (X.size : Int)) = True := eq_true (by omega)
            have q4 : (0 ≤ (k : Int)) = True := eq_true (by omega)
            cases p2 with
            | false =>
              go_wp2
              go_roundg (X.size - (k + 1))
              case measure => omega
              case rel => exact ⟨k + 1, _, by go_num, by omega, rfl, ⟨rfl⟩⟩
            | true =>
              go_wp2
              all_goals (go_roundg (X.size - (k + 1)))
              all_goals first | omega | exact ⟨k + 1, _, by go_num, by omega, rfl, ⟨rfl⟩⟩
          · obtain rfl : k = X.size := by omega
            have q3 : ((X.size : Int) < (X.size : Int)) = False := eq_false (by omega)
            go_wp2
            go_roundg (l.length - (j + 1))
            case measure => omega
            case rel => exact ⟨j + 1, _, p2, by go_num, by omega, by rw [HCAT.out], rfl, HS2, ⟨rfl⟩⟩
    · obtain rfl : j = l.length := by omega
      have hw := HW.out
      subst hw
      have q1 : ((l.length : Int) < (l.length : Int)) = False := eq_false (by omega)
      have hsl := HS.out
      clear HW HS
      by_cases h8 : 8 < l.length
      · have q2 : (8 < (l.length : Int)) = True := eq_true (by omega)
        generalize bs S = SB at *
        go_wp2
        go_ret
        exact ⟨rfl, HB2.out⟩
      · have q2 : (8 < (l.length : Int)) = False := eq_false (by omega)
        have hS : S.length ≤ 104 := by omega
        cases p with
        | false =>
          generalize bs S = SB at *
          go_wp2
          go_ret
          exact ⟨rfl, HB2.out⟩
        | true =>
          have p0 : w2.cell? ⟨w.heap.size, 0, none⟩ = some (.int .u32 a) := (blk_cell HX2.out 0).trans rfl
          have p1 : w2.cell? ⟨w.heap.size, 1, none⟩ = some (.int .u32 b) := (blk_cell HX2.out 1).trans rfl
          have C1 := fun W (e : Env W ∧ EnvA W) => parsed_any S W (by omega) e.1 e.2
          have C2 := fun W (e : Env W) => parse_any S W (by omega) e
          have hst : strV S = .string (bs S) := rfl
          rw [hst] at C1 C2
          have HC1 := Aside0.mk C1
          have HC2 := Aside0.mk C2
          have HP := Aside0.mk (fun i k h => parse_inl (x := S) (i := i) (k := k) h)
          have HPR := Aside0.mk (fun r h => parse_inr (x := S) (r := r) h)
          clear C1 C2 hst hsl
          generalize bs S = SB at *
          go_upto_region 18 with (fail)
          go_cut [10, 11] (fun s10 s11 wx => ∃ v n : Nat, s10 = .int .i64 (v : Int) ∧ s11 = .int .i64 (n : Int) ∧ v < 200000 ∧ n < 400000 ∧ Aside0 (Below w.heap.size w wx))
          case first =>
            go_region
            all_goals (try go_wp2)
            all_goals
              go_meet
              case rel =>
                have ha := HAB.out.1
                have hb1 := HAB.out.2
                have e1 : a.tmod 200000 = ((a % 200000).toNat : Int) := by rw [Int.tmod_eq_emod_of_nonneg ha.1]; omega
                have e2 : b.tmod 400000 = ((b % 400000).toNat : Int) := by rw [Int.tmod_eq_emod_of_nonneg hb1.1]; omega
                have h3 : (a % 200000).toNat < 200000 := by omega
                have h4 : (b % 400000).toNat < 400000 := by omega
                exact ⟨(a % 200000).toNat, (b % 400000).toNat, by rw [e1]; exact congrArg (Value.int .i64) (W64 _ (by omega)), by rw [e2]; exact congrArg (Value.int .i64) (W64 _ (by omega)), h3, h4, ⟨by first | exact below_drew1 HB2.out | exact pw_below_drewN HB2.out 1⟩⟩
          case rest =>
            obtain ⟨v, n, rfl, rfl, hv, hn, HB⟩ := hcut
            have ex1 := itoa_len_small (v : Int) (by omega) (by omega)
            have ex2 := itoa_len_small (n : Int) (by omega) (by omega)
            have CT1 := fun W e => itoa_any (v : Int) (by omega) (by omega) W e
            have CT2 := fun W e => itoa_any (n : Int) (by omega) (by omega) W e
            have CH := fun W e => head_any v n hv hn W e
            have HD : bs (headT v n ++ [10]) = ⟨#[112, 32, 99, 110, 102, 32]⟩ ++ bs (Lib.itoa (v : Int)) ++ ⟨#[32]⟩ ++ bs (Lib.itoa (n : Int)) ++ ⟨#[10]⟩ := by
              show _ = bs [112, 32, 99, 110, 102, 32] ++ bs _ ++ bs [32] ++ bs _ ++ bs [10]
              rw [bs_add, bs_add, bs_add, bs_add]; rfl
            rw [HD] at CH
            have hz1 : ∀ W : World, Said W (.string ⟨(Lib.itoa (v : Int)).toArray⟩) = Said W (.string (bs (Lib.itoa (v : Int)))) := fun _ => rfl
            have hz2 : ∀ W : World, Said W (.string ⟨(Lib.itoa (n : Int)).toArray⟩) = Said W (.string (bs (Lib.itoa (n : Int)))) := fun _ => rfl
            simp only [hz1] at CT1
            simp only [hz2] at CT2
            rw [← bs_size] at ex1 ex2
            have HCT2 := Aside0.mk CT2
            have HCH := Aside0.mk CH
            have C := CT1 wc (HE.out.below HB.out)
            clear HD hz1 hz2 CT1 CT2 CH p0 p1
            generalize bs (Lib.itoa (v : Int)) = X1 at *
            generalize bs (Lib.itoa (n : Int)) = X2 at *
            have o1 : (9223372036854775807 < 6 + X1.size) = False := eq_false (by omega)
            have o2 : (9223372036854775807 < 6 + X1.size + 1) = False := eq_false (by omega)
            have o3 : (9223372036854775807 < 6 + X1.size + 1 + X2.size) = False := eq_false (by omega)
            have o4 : (9223372036854775807 < 6 + X1.size + 1 + X2.size + 1) = False := eq_false (by omega)
            clear ex1 ex2
            go_wp2_with (go_at_call 15; refine C.mono ?_)
            rintro e w3 ⟨rfl, hb⟩
            have HB3 := Aside0.mk (below_step HB.out hb)
            clear hb C
            have C := HCT2.out w3 (HE.out.below HB3.out)
            clear HCT2
            go_wp2_with (go_at_call 15; refine C.mono ?_)
            rintro e w4 ⟨rfl, hb⟩
            have HB4 := Aside0.mk (below_step HB3.out hb)
            clear hb C
            have C := HCH.out w4 (HE.out.below HB4.out)
            clear HCH
            go_wp2_with (go_at_call 12; refine C.mono ?_)
            rintro e w5 ⟨hb, xv, A9, m9, c9, E', rfl, hS⟩
            have HB5 := Aside0.mk (below_step HB4.out hb)
            clear hb C
            obtain ⟨W6, hW6⟩ : ∃ W6, W6 = w5.alloc (.cells #[.int .i64 xv, .slice A9 m9 c9] 29) := ⟨_, rfl⟩
            have hb : Below w5.heap.size w5 W6 := by rw [hW6]; exact (Below.refl _ _).alloc (Nat.le_refl _) _
            have hK6 : W6.heap[w5.heap.size]? = some (.cells #[.int .i64 xv, .slice A9 m9 c9] 29 (0, 0)) := by rw [hW6]; exact heap_alloc_new w5 _
            have HB6 := Aside0.mk (below_step HB5.out hb)
            have HS6 := Aside0.mk (hS.below hb)
            have k0 : W6.cell? ⟨w5.heap.size, 0, none⟩ = some (.int .i64 xv) := (blk_cell hK6 0).trans rfl
            have k1 : W6.cell? ⟨w5.heap.size, 1, none⟩ = some (.slice A9 m9 c9) := (blk_cell hK6 1).trans rfl
            have HW6 := Aside0.mk hW6
            clear hb hK6 hW6 hS
            go_upto_block 4 with (fail)
            rw [← HW6.out]
            go_cut [5] (fun s5 wx => s5 = .string SB ∧ Aside0 (Below w.heap.size w wx))
            case first =>
              rcases HS6.out with ⟨hbig, b, rfl, r1⟩ | ⟨h1, h2, h3, b, rfl, r1⟩ | ⟨h1, rfl, rfl, rfl, rfl⟩
              · have CI := is_fault b 0 8 W6 r1
                by_cases hvb : 100000 < v
                · have q3 : (100000 < (v : Int)) = True := eq_true (by omega)
                  go_wp2_with (go_at_call 18; refine CI.mono ?_; rintro e w' ⟨rfl, rfl⟩)
                  go_meet
                  case rel => exact ⟨rfl, HB6⟩
                · have q3 : (100000 < (v : Int)) = False := eq_false (by omega)
                  have q4 : (200000 < (n : Int)) = True := eq_true (by omega)
                  go_wp2_with (go_at_call 18; refine CI.mono ?_; rintro e w' ⟨rfl, rfl⟩)
                  go_meet
                  case rel => exact ⟨rfl, HB6⟩
              · have CI := is_fault b 0 6 W6 r1
                have q3 : (100000 < (v : Int)) = False := eq_false (by omega)
                have q4 : (200000 < (n : Int)) = False := eq_false (by omega)
                have q5 : (0 < (n : Int)) = True := eq_true (by omega)
                go_wp2_with (go_at_call 18; refine CI.mono ?_; rintro e w' ⟨rfl, rfl⟩)
                go_meet
                case rel => exact ⟨rfl, HB6⟩
              · have q3 : (100000 < (v : Int)) = False := eq_false (by omega)
                have q4 : (200000 < ((0 : Nat) : Int)) = False := eq_false (by omega)
                have q5 : (0 < ((0 : Nat) : Int)) = False := eq_false (by omega)
                go_wp2
                go_meet
                case rel => exact ⟨rfl, HB6⟩
            case rest =>
              obtain ⟨rfl, HB⟩ := hcut
              clear k0 k1 HS6 HW6 HB3 HB4 HB5 HB6 HX2 HB2 HR o1 o2 o3 o4
              have C1 := HC1.out wc ⟨HE.out.below HB.out, HEA.out.below HB.out⟩
              have C2 := HC2.out
              clear HC1 HC2
              cases hp : parseR S with
              | inl e =>
                obtain ⟨i, k⟩ := e
                obtain ⟨hi, hk0, hk8⟩ := HP.out i k hp
                rw [hp] at C1 C2
                have HC2 := Aside0.mk C2
                clear C2 hp HP HPR
                have q2 : ((k : Int) == 0) = false := by simp; omega
                go_wp2_with (go_at_call 19; refine C1.mono ?_)
                rintro e w3 ⟨hb, rfl⟩
                have HB3 := Aside0.mk (below_step HB.out hb)
                clear hb C1
                obtain ⟨W4, hW4⟩ : ∃ W4, W4 = w3.alloc (.cells #[.int .i64 0, .slice none 0 0] 29) := ⟨_, rfl⟩
                have hb : Below w3.heap.size w3 W4 := by rw [hW4]; exact (Below.refl _ _).alloc (Nat.le_refl _) _
                have HB4 := Aside0.mk (below_step HB3.out hb)
                have HW4 := Aside0.mk hW4
                have C2 := HC2.out W4 (HE.out.below HB4.out)
                clear hb hW4 HC2
                go_upto_region 29 with (fail)
                rw [← HW4.out]
                go_wp2_with (go_at_call 12; refine C2.mono ?_)
                rintro e w5 ⟨hb, b, rfl, hf, -⟩
                have HB5 := Aside0.mk (below_step HB4.out hb)
                clear C2 hb
                obtain ⟨W9, hW9⟩ : ∃ W9, W9 = (w5.alloc (.cells #[.int .i64 0, .slice none 0 0] 29)).alloc (.cells #[.pointer none] 46) := ⟨_, rfl⟩
                obtain ⟨hb9, hn9⟩ := two_new hW9
                have hf9 := blk_below hf hb9
                have hg9 := hn9 _ (heap_alloc_new w5 _)
                have hp9 : W9.heap[w5.heap.size + 1]? = some (.cells #[.pointer none] 46 (0, 0)) := by
                  rw [hW9]
                  have := heap_alloc_new (w5.alloc (.cells #[.int .i64 0, .slice none 0 0] 29)) (.cells #[.pointer none] 46)
                  simpa using this
                have hbl := blk_lt hf
                have HB9 := Aside0.mk (below_step HB5.out hb9)
                have CA := as_made ⟨b, 0, none⟩ (w5.heap.size + 1) (.pointer none) W9 (HTY.out.below HB9.out) ((blk_cell hp9 0).trans rfl) (blk_frozen hp9 0)
                have r0 : W9.cell? ⟨b, 0, none⟩ = some (.int .i64 (i : Int)) := (blk_cell hf9 0).trans rfl
                have r1 : W9.cell? ⟨b, 1, none⟩ = some (.int .i64 (k : Int)) := (blk_cell hf9 1).trans rfl
                have r2 : W9.cell? ⟨w5.heap.size, 0, none⟩ = some (.int .i64 0) := (blk_cell hg9 0).trans rfl
                have r3 : W9.cell? ⟨w5.heap.size, 1, none⟩ = some (.slice none 0 0) := (blk_cell hg9 1).trans rfl
                have HR0 := Aside0.mk (And.intro r0 (And.intro r1 (And.intro r2 r3)))
                have HBL := Aside0.mk (And.intro (show b ≠ w5.heap.size + 1 by omega) (show w5.heap.size ≠ w5.heap.size + 1 by omega))
                have HSZ8 := Aside0.mk HB5.out.size
                have HW9 := Aside0.mk hW9
                clear hb9 hf hf9 hg9 hn9 hp9 hbl hW9 r0 r1 r2 r3
                go_upto_region 33 with (fail)
                rw [← HW9.out]
                have hq : ∀ W, Said W9 (.bool true) (.returned (.bool true)) W → True := fun _ _ => trivial
                clear hq
                go_wp2_with (go_at_call 17; refine CA.mono ?_)
                rintro e w10 ⟨rfl, hset⟩
                have s0 := hset.far ⟨b, 0, none⟩ _ HBL.out.1 HR0.out.1
                have s1 := hset.far ⟨b, 1, none⟩ _ HBL.out.1 HR0.out.2.1
                have m0 := hset.far ⟨w5.heap.size, 0, none⟩ _ HBL.out.2 HR0.out.2.2.1
                have m1 := hset.far ⟨w5.heap.size, 1, none⟩ _ HBL.out.2 HR0.out.2.2.2
                have s2 := hset.hit
                have HB10 := Aside0.mk (HB9.out.trans (hset.below.mono (by have := HSZ8.out; omega)))
                clear hset CA HR0
                go_wp2
                go_ret
                exact ⟨rfl, HB10.out⟩
              | inr r =>
                obtain ⟨hn, hrows⟩ := HPR.out r hp
                rw [hp] at C1 C2
                have HC2 := Aside0.mk C2
                clear C2 hp HP HPR
                go_wp2_with (go_at_call 19; refine C1.mono ?_)
                rintro e w3 ⟨hb, V, rfl, hV⟩
                have HB3 := Aside0.mk (below_step HB.out hb)
                obtain ⟨A, c, rfl, hc, hC⟩ := Kd.R_reads hV
                clear hb C1 hV
                obtain ⟨W4, hW4⟩ : ∃ W4, W4 = w3.alloc (.cells #[.int .i64 (r.vars : Int), .slice A r.cls.length c] 29) := ⟨_, rfl⟩
                have hb : Below w3.heap.size w3 W4 := by rw [hW4]; exact (Below.refl _ _).alloc (Nat.le_refl _) _
                have HB4 := Aside0.mk (below_step HB3.out hb)
                have HK4 : Aside0 (W4.heap[w3.heap.size]? = some (.cells #[.int .i64 (r.vars : Int), .slice A r.cls.length c] 29 (0, 0))) := ⟨by rw [hW4]; exact heap_alloc_new w3 _⟩
                have HC4 := Aside0.mk (Kd.C_below hC hb)
                have HW4 := Aside0.mk hW4
                have C2 := HC2.out W4 (HE.out.below HB4.out)
                clear hb hW4 HC2 hC
                go_upto_region 29 with (fail)
                rw [← HW4.out]
                go_wp2_with (go_at_call 12; refine C2.mono ?_)
                rintro e w5 ⟨hb, Y, rfl, hY⟩
                have HB5 := Aside0.mk (below_step HB4.out hb)
                have HK5 := Aside0.mk (blk_below HK4.out hb)
                have HC5 := Aside0.mk (Kd.C_below HC4.out hb)
                try dsimp only at hY
                obtain ⟨Ya, Yc, rfl, hYc, hYC⟩ := Kd.R_reads hY
                try dsimp only
                clear C2 hb hY
                obtain ⟨W6, hW6⟩ : ∃ W6, W6 = (w5.alloc (.cells #[.int .i64 (r.vars : Int), .slice Ya r.cls.length Yc] 29)).alloc (.cells #[.pointer none] 46) := ⟨_, rfl⟩
                obtain ⟨hb, hn9⟩ := two_new hW6
                have hK6 : W6.heap[w5.heap.size]? = some (.cells #[.int .i64 (r.vars : Int), .slice Ya r.cls.length Yc] 29 (0, 0)) := hn9 _ (heap_alloc_new w5 _)
                have hK5 := blk_below HK5.out hb
                have HB6 := Aside0.mk (below_step HB5.out hb)
                have CS := same_any r.vars r.vars Ya A Yc c r.cls r.cls W6 (Kd.C_below hYC hb) hYc (Kd.C_below HC5.out hb) hc hn hrows
                rw [show decide ((r.vars : Int) = r.vars ∧ r.cls = r.cls) = true by simp] at CS
                have k0 : W6.cell? ⟨w5.heap.size, 0, none⟩ = some (.int .i64 (r.vars : Int)) := (blk_cell hK6 0).trans rfl
                have k1 : W6.cell? ⟨w5.heap.size, 1, none⟩ = some (.slice Ya r.cls.length Yc) := (blk_cell hK6 1).trans rfl
                have j0 : W6.cell? ⟨w3.heap.size, 0, none⟩ = some (.int .i64 (r.vars : Int)) := (blk_cell hK5 0).trans rfl
                have j1 : W6.cell? ⟨w3.heap.size, 1, none⟩ = some (.slice A r.cls.length c) := (blk_cell hK5 1).trans rfl
                have HW6 := Aside0.mk hW6
                clear hb hK5 hK6 hW6 hYC hn9
                go_upto_region 31 with (fail)
                rw [← HW6.out]
                go_wp2_with (go_at_call 14; refine CS.mono ?_)
                rintro e w10 ⟨rfl, hb⟩
                go_wp2
                go_ret
                exact ⟨rfl, below_step HB6.out hb⟩
end Go.Proofs.YtdbdilajjmijaaaDoor
