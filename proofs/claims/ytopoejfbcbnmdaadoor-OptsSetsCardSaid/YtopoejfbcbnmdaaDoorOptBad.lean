import Derived.Test.YtopoejfbcbnmdaaDoorFit21
namespace Go.Proofs.YtopoejfbcbnmdaaDoor
open Go Go.RowKit

def lst (o : Opt) : List Int := [o.co, o.wo, o.re, o.fi, o.ri, o.wa, o.ki, o.ba, o.no, o.mo, o.ph, o.lo, o.mi, o.mn, o.bi]
def lstCells (o : Opt) : Array Value := #[.int .i64 o.co, .int .i64 o.wo, .int .i64 o.re, .int .i64 o.fi, .int .i64 o.ri, .int .i64 o.wa, .int .i64 o.ki, .int .i64 o.ba, .int .i64 o.no, .int .i64 o.mo, .int .i64 o.ph, .int .i64 o.lo, .int .i64 o.mi, .int .i64 o.mn, .int .i64 o.bi]
theorem lstCells_get (o : Opt) : ∀ i, i < 15 → (lstCells o)[i]? = some (.int .i64 ((lst o).getD i 0))
  | 0, _ => rfl
  | 1, _ => rfl
  | 2, _ => rfl
  | 3, _ => rfl
  | 4, _ => rfl
  | 5, _ => rfl
  | 6, _ => rfl
  | 7, _ => rfl
  | 8, _ => rfl
  | 9, _ => rfl
  | 10, _ => rfl
  | 11, _ => rfl
  | 12, _ => rfl
  | 13, _ => rfl
  | 14, _ => rfl
  | n + 15, h => by omega

theorem list_any (o : Opt) (w : World) : Calls Tryd.prog 9 #[.agg o.vals] w fun e w' => e = .returned (.slice (some ⟨w.heap.size + 1, 0, none⟩) 15 15) ∧ w' = (w.alloc (.cells o.vals 24)).alloc (.cells (lstCells o) 3) := by
  unfold Opt.vals lstCells
  go_enter Tryd.func9, Tryd.ntmps9
  go_wp2_with fail
  go_ret
  exact ⟨by simp, rfl⟩

theorem lnames_any (w : World) : Calls Tryd.prog 12 #[] w fun e w' => e = .returned (.slice (some ⟨w.heap.size, 0, none⟩) 15 15) ∧ w' = w.alloc (.cells nameCells 9) := by
  go_enter Tryd.func12, Tryd.ntmps12
  go_wp2
  go_ret
  exact ⟨rfl, rfl⟩

theorem in21_any (n lo hi : Int) (w : World) : Calls Tryd.prog 28 #[.int .i64 n, .int .i64 lo, .int .i64 hi] w fun e w' => e = .returned (.bool (inB n lo hi)) ∧ w' = w := by
  go_enter Tryd.func28, Tryd.ntmps28
  go_wp2
  all_goals go_ret
  all_goals exact ⟨ret_b (by unfold inB; first | (simp [*]; done) | (simp [*]; intro _; omega)), rfl⟩

def lowL (o : Opt) : List Int := [-1, -1, 1, 1, 1, 0, 0, 0, 0, 0, 0, 0, o.lo, 0, 0]
def highL : List Int := [1099511627776, 1099511627776, 10000, 100000, 100000, 100000, 2, 0, 0, 2, 2, 100, 1000, 1, 1]
def lowCells (o : Opt) : Array Value := #[.int .i64 (-1), .int .i64 (-1), .int .i64 1, .int .i64 1, .int .i64 1, .int .i64 0, .int .i64 0, .int .i64 0, .int .i64 0, .int .i64 0, .int .i64 0, .int .i64 0, .int .i64 o.lo, .int .i64 0, .int .i64 0]
def highCells : Array Value := #[.int .i64 1099511627776, .int .i64 1099511627776, .int .i64 10000, .int .i64 100000, .int .i64 100000, .int .i64 100000, .int .i64 2, .int .i64 0, .int .i64 0, .int .i64 2, .int .i64 2, .int .i64 100, .int .i64 1000, .int .i64 1, .int .i64 1]
theorem lowCells_get (o : Opt) : ∀ i, i < 15 → (lowCells o)[i]? = some (.int .i64 ((lowL o).getD i 0))
  | 0, _ => rfl
  | 1, _ => rfl
  | 2, _ => rfl
  | 3, _ => rfl
  | 4, _ => rfl
  | 5, _ => rfl
  | 6, _ => rfl
  | 7, _ => rfl
  | 8, _ => rfl
  | 9, _ => rfl
  | 10, _ => rfl
  | 11, _ => rfl
  | 12, _ => rfl
  | 13, _ => rfl
  | 14, _ => rfl
  | n + 15, h => by omega
theorem highCells_get : ∀ i, i < 15 → highCells[i]? = some (.int .i64 (highL.getD i 0))
  | 0, _ => rfl
  | 1, _ => rfl
  | 2, _ => rfl
  | 3, _ => rfl
  | 4, _ => rfl
  | 5, _ => rfl
  | 6, _ => rfl
  | 7, _ => rfl
  | 8, _ => rfl
  | 9, _ => rfl
  | 10, _ => rfl
  | 11, _ => rfl
  | 12, _ => rfl
  | 13, _ => rfl
  | 14, _ => rfl
  | n + 15, h => by omega

def sBase : ByteArray := ⟨#[98, 97, 115, 101]⟩
def sNoise : ByteArray := ⟨#[110, 111, 105, 115, 101]⟩

/-- The rows but for noise and base. -/
def RowIs (o : Opt) (i : Nat) : Prop := (rowsO o)[i]? = some (optNames.getD i ByteArray.empty, inB ((lst o).getD i 0) ((lowL o).getD i 0) (highL.getD i 0)) ∧ ((optNames.getD i ByteArray.empty).toList == [98, 97, 115, 101]) = false ∧ ((optNames.getD i ByteArray.empty).toList == [110, 111, 105, 115, 101]) = false
theorem row_is (o : Opt) : ∀ i, i < 15 → i ≠ 7 → i ≠ 8 → RowIs o i
  | 0, _, _, _ => ⟨rfl, by decide +kernel, by decide +kernel⟩
  | 1, _, _, _ => ⟨rfl, by decide +kernel, by decide +kernel⟩
  | 2, _, _, _ => ⟨rfl, by decide +kernel, by decide +kernel⟩
  | 3, _, _, _ => ⟨rfl, by decide +kernel, by decide +kernel⟩
  | 4, _, _, _ => ⟨rfl, by decide +kernel, by decide +kernel⟩
  | 5, _, _, _ => ⟨rfl, by decide +kernel, by decide +kernel⟩
  | 6, _, _, _ => ⟨rfl, by decide +kernel, by decide +kernel⟩
  | 7, _, h, _ => absurd rfl h
  | 8, _, _, h => absurd rfl h
  | 9, _, _, _ => ⟨rfl, by decide +kernel, by decide +kernel⟩
  | 10, _, _, _ => ⟨rfl, by decide +kernel, by decide +kernel⟩
  | 11, _, _, _ => ⟨rfl, by decide +kernel, by decide +kernel⟩
  | 12, _, _, _ => ⟨rfl, by decide +kernel, by decide +kernel⟩
  | 13, _, _, _ => ⟨rfl, by decide +kernel, by decide +kernel⟩
  | 14, _, _, _ => ⟨rfl, by decide +kernel, by decide +kernel⟩
  | n + 15, h, _, _ => by omega

/-- How many rows have been seen when so many names have. -/
def nn (i : Nat) : Nat := if i = 8 then 9 else i

/-- The world ahead of the loop. -/
def badWorld (o : Opt) (w : World) : World := (((((w.alloc (.cells o.vals 24)).alloc (.cells o.vals 24)).alloc (.cells (lstCells o) 3)).alloc (.cells (lowCells o) 3)).alloc (.cells highCells 3)).alloc (.cells nameCells 9)

structure BadW (o : Opt) (w W : World) : Prop where
  list : ∀ i, i < 15 → W.cell? ⟨w.heap.size + 1 + 1, i, none⟩ = some (.int .i64 ((lst o).getD i 0))
  low : ∀ i, i < 15 → W.cell? ⟨w.heap.size + 1 + 1 + 1, i, none⟩ = some (.int .i64 ((lowL o).getD i 0))
  high : ∀ i, i < 15 → W.cell? ⟨w.heap.size + 1 + 1 + 1 + 1, i, none⟩ = some (.int .i64 (highL.getD i 0))
  names : ∀ i, i < 15 → W.cell? ⟨w.heap.size + 1 + 1 + 1 + 1 + 1, i, none⟩ = some (.string (optNames.getD i ByteArray.empty))
  ki : W.cell? ⟨w.heap.size, 6, none⟩ = some (.int .i64 o.ki)
  ba : W.cell? ⟨w.heap.size, 7, none⟩ = some (.int .i64 o.ba)
  no : W.cell? ⟨w.heap.size, 8, none⟩ = some (.int .i64 o.no)
  below : Below w.heap.size w W
theorem badW_is (o : Opt) (w : World) : BadW o w (badWorld o w) := by
  have hs : ∀ (a : World) (x : Obj), (a.alloc x).heap.size = a.heap.size + 1 := fun a x => by simp
  have hc : ∀ j v, o.vals[j]? = some v → (badWorld o w).cell? ⟨w.heap.size, j, none⟩ = some v := fun j v h => by
    unfold badWorld
    iterate 5 refine cell_more ?_ _
    rw [World.cell?_alloc_at _ _ _ _ rfl]; exact h
  refine ⟨fun i hi => ?_, fun i hi => ?_, fun i hi => ?_, fun i hi => ?_, hc _ _ rfl, hc _ _ rfl, hc _ _ rfl, ?_⟩
  · unfold badWorld
    iterate 3 refine cell_more ?_ _
    rw [World.cell?_alloc_at _ _ _ _ (by simp)]; exact lstCells_get o i hi
  · unfold badWorld
    iterate 2 refine cell_more ?_ _
    rw [World.cell?_alloc_at _ _ _ _ (by simp)]; exact lowCells_get o i hi
  · unfold badWorld
    iterate 1 refine cell_more ?_ _
    rw [World.cell?_alloc_at _ _ _ _ (by simp)]; exact highCells_get i hi
  · unfold badWorld
    rw [World.cell?_alloc_at _ _ _ _ (by simp)]; exact nameCells_get i hi
  · unfold badWorld
    exact ((((((Below.refl _ _).alloc (Nat.le_refl _) _).alloc (by simp) _).alloc (by simp; omega) _).alloc (by simp; omega) _).alloc (by simp; omega) _).alloc (by simp; omega) _
theorem BadW.drewN {o : Opt} {w W : World} (h : BadW o w W) (n : Nat) : BadW o w (W.drewN n) := ⟨h.list, h.low, h.high, h.names, h.ki, h.ba, h.no, Below.drewNO h.below n⟩

theorem noise_bad {o : Opt} (h : ∀ j, j < nn 7 → ∀ x, (rowsO o)[j]? = some x → (!x.2) = false) (hb : (inB o.no 0 1000 && (o.ki == 2 || o.no == 0)) = false) : badS o = sNoise := by
  have hr : (rowsO o)[7]? = some (sNoise, inB o.no 0 1000 && (o.ki == 2 || o.no == 0)) := rfl
  unfold badS
  rw [find_first hr (by rw [hb]; rfl) h]
theorem seven {o : Opt} (h : ∀ j, j < nn 7 → ∀ x, (rowsO o)[j]? = some x → (!x.2) = false) (hb : (inB o.no 0 1000 && (o.ki == 2 || o.no == 0)) = true) : ∀ j, j < 8 → ∀ x, (rowsO o)[j]? = some x → (!x.2) = false := by
  intro j hj x hx
  by_cases h7 : j < 7
  · exact h j h7 x hx
  · obtain rfl : j = 7 := by omega
    have hr : (rowsO o)[7]? = some (sNoise, inB o.no 0 1000 && (o.ki == 2 || o.no == 0)) := rfl
    rw [hr] at hx
    cases hx
    rw [hb]; rfl
theorem base_bad {o : Opt} (h : ∀ j, j < nn 7 → ∀ x, (rowsO o)[j]? = some x → (!x.2) = false) (hb : (inB o.no 0 1000 && (o.ki == 2 || o.no == 0)) = true) (hw : wayB o.ki o.ba o.no = false) : badS o = sBase := by
  have hr : (rowsO o)[8]? = some (sBase, wayB o.ki o.ba o.no) := rfl
  unfold badS
  rw [find_first hr (by rw [hw]; rfl) (seven h hb)]
theorem both_ok {o : Opt} (h : ∀ j, j < nn 7 → ∀ x, (rowsO o)[j]? = some x → (!x.2) = false) (hb : (inB o.no 0 1000 && (o.ki == 2 || o.no == 0)) = true) (hw : wayB o.ki o.ba o.no = true) : ∀ j, j < nn 8 → ∀ x, (rowsO o)[j]? = some x → (!x.2) = false := by
  intro j hj x hx
  have hj : j < 9 := hj
  by_cases h7 : j < 8
  · exact seven h hb j h7 x hx
  · obtain rfl : j = 8 := by omega
    have hr : (rowsO o)[8]? = some (sBase, wayB o.ki o.ba o.no) := rfl
    rw [hr] at hx
    cases hx
    rw [hw]; rfl
theorem kind_ok {o : Opt} (h : ∀ j, j < nn 7 → ∀ x, (rowsO o)[j]? = some x → (!x.2) = false) : 0 ≤ o.ki ∧ o.ki ≤ 2 := by
  have := h 6 (by decide) _ (show (rowsO o)[6]? = some (_, inB o.ki 0 2) from rfl)
  unfold inB at this
  simpa using this

set_option maxRecDepth 100000 in
set_option maxHeartbeats 4000000 in
theorem lbad_any (o : Opt) (w : World) : Calls Tryd.prog 16 #[.agg o.vals] w (BadSaid o w) := by
  have Cl := fun w => list_any o w
  have Cn := fun w => lnames_any w
  obtain ⟨W, hW⟩ : ∃ W, badWorld o w = W := ⟨_, rfl⟩
  have K0 := badW_is o w
  rw [hW] at K0
  have K0h := Lib.hid K0
  have hWh := Lib.hid hW
  clear K0 hW
  unfold Opt.vals at Cl ⊢
  go_enter Tryd.func16, Tryd.ntmps16
  go_wp2_with (first
    | (go_at_call 9; refine (Cl _).mono ?_; rintro e w' ⟨rfl, rfl⟩)
    | (go_at_call 12; refine (Cn _).mono ?_; rintro e w' ⟨rfl, rfl⟩))
  clear Cl Cn
  change Code.wp _ _ _ _ (badWorld o w)
  rw [hWh.out]
  go_loopw [17] (fun v wr => ∃ (i : Nat), i ≤ 15 ∧ v = .int .i64 i ∧ RowKit.Hid (BadW o w wr) ∧ RowKit.Hid (∀ j, j < nn i → ∀ x, (rowsO o)[j]? = some x → (!x.2) = false)) (fun v _ => 15 - (intOf v).toNat)
  case atStart => exact ⟨0, by omega, rfl, K0h, Lib.hid (fun j hj => absurd hj (Nat.not_lt_zero j))⟩
  case round =>
    clear K0h hWh
    obtain ⟨i, hi, rfl, Kh, Hno⟩ := hrel
    by_cases hil : i < 15
    · have cn := Kh.out.names i hil
      by_cases h8 : i = 8
      · subst h8
        rw [show optNames.getD 8 ByteArray.empty = sNoise from rfl] at cn
        unfold sNoise at cn
        go_wp2_with fail
        refine ⟨⟨9, by omega, by go_num, Kh, Hno⟩, by simp [intOf]⟩
      by_cases h7 : i = 7
      · subst h7
        rw [show optNames.getD 7 ByteArray.empty = sBase from rfl] at cn
        unfold sBase at cn
        have cki := Kh.out.ki
        have cba := Kh.out.ba
        have cno := Kh.out.no
        obtain ⟨hk0, hk2⟩ := kind_ok Hno.out
        clear h8
        by_cases a1 : o.no < 0
        · have hbe := Lib.hid (noise_bad Hno.out (by unfold inB; simp; omega))
          go_wp2_with fail
          go_ret
          exact ⟨by rw [hbe.out]; rfl, Kh.out.below⟩
        by_cases a2 : 1000 < o.no
        · have hbe := Lib.hid (noise_bad Hno.out (by unfold inB; simp; omega))
          go_wp2_with fail
          go_ret
          exact ⟨by rw [hbe.out]; rfl, Kh.out.below⟩
        by_cases a3 : o.ki < 2
        · by_cases a4 : o.no = 0
          · have b4 : (o.no != 0) = false := by simpa using a4
            have hN := Lib.hid (show (inB o.no 0 1000 && (o.ki == 2 || o.no == 0)) = true by unfold inB; simp; omega)
            by_cases a5 : o.ki = 0
            · have b5 : (o.ki == 0) = true := by simpa using a5
              have b6 : (o.ki == 1) = false := by simp; omega
              have b7 : (o.ki == 2) = false := by simp; omega
              have C := fun w => in21_any o.ba 1 64 w
              have hwb : wayB o.ki o.ba o.no = inB o.ba 1 64 := by unfold wayB tblB; rw [a5, a4]; simp
              cases hok : inB o.ba 1 64 with
              | true =>
                have hR := Lib.hid (both_ok Hno.out hN.out (hwb.trans hok))
                rw [hok] at C
                clear hok hwb a5 a4
                go_wp2_with (go_at_call 28; refine (C _).mono ?_; rintro e w' ⟨rfl, rfl⟩)
                exact ⟨⟨8, by omega, by go_num, Kh, hR⟩, by simp [intOf]⟩
              | false =>
                have hR := Lib.hid (base_bad Hno.out hN.out (hwb.trans hok))
                rw [hok] at C
                clear hok hwb a5 a4
                go_wp2_with (go_at_call 28; refine (C _).mono ?_; rintro e w' ⟨rfl, rfl⟩)
                go_ret
                exact ⟨by rw [hR.out]; rfl, Kh.out.below⟩
            · have b5 : (o.ki == 0) = false := by simpa using a5
              have b6 : (o.ki == 1) = true := by simp; omega
              have b7 : (o.ki == 2) = false := by simp; omega
              have C := fun w => in21_any o.ba 17 256 w
              have hwb : wayB o.ki o.ba o.no = inB o.ba 17 256 := by unfold wayB tblB; rw [show o.ki = 1 by omega, a4]; simp
              cases hok : inB o.ba 17 256 with
              | true =>
                have hR := Lib.hid (both_ok Hno.out hN.out (hwb.trans hok))
                rw [hok] at C
                clear hok hwb a5 a4
                go_wp2_with (go_at_call 28; refine (C _).mono ?_; rintro e w' ⟨rfl, rfl⟩)
                exact ⟨⟨8, by omega, by go_num, Kh, hR⟩, by simp [intOf]⟩
              | false =>
                have hR := Lib.hid (base_bad Hno.out hN.out (hwb.trans hok))
                rw [hok] at C
                clear hok hwb a5 a4
                go_wp2_with (go_at_call 28; refine (C _).mono ?_; rintro e w' ⟨rfl, rfl⟩)
                go_ret
                exact ⟨by rw [hR.out]; rfl, Kh.out.below⟩
          · have b4 : (o.no != 0) = true := by simpa using a4
            have hbe := Lib.hid (noise_bad Hno.out (by unfold inB; simp; omega))
            clear a4
            go_wp2_with fail
            go_ret
            exact ⟨by rw [hbe.out]; rfl, Kh.out.below⟩
        · have hN := Lib.hid (show (inB o.no 0 1000 && (o.ki == 2 || o.no == 0)) = true by unfold inB; simp; omega)
          have b5 : (o.ki == 0) = false := by simp; omega
          have b6 : (o.ki == 1) = false := by simp; omega
          have b7 : (o.ki == 2) = true := by simp; omega
          have hwb : wayB o.ki o.ba o.no = (o.ba == 0) := by unfold wayB; rw [if_pos (by omega)]; unfold inB; simp; omega
          by_cases a6 : o.ba = 0
          · have b8 : (o.ba != 0) = false := by simpa using a6
            have hR := Lib.hid (both_ok Hno.out hN.out (hwb.trans (by simpa using a6)))
            clear a6 hwb
            go_wp2_with fail
            exact ⟨⟨8, by omega, by go_num, Kh, hR⟩, by simp [intOf]⟩
          · have b8 : (o.ba != 0) = true := by simpa using a6
            have hR := Lib.hid (base_bad Hno.out hN.out (hwb.trans (by simpa using a6)))
            clear a6 hwb
            go_wp2_with fail
            go_ret
            exact ⟨by rw [hR.out]; rfl, Kh.out.below⟩
      · obtain ⟨hr, hb, hn⟩ := row_is o i hil h7 h8
        have cl := Kh.out.list i hil
        have clo := Kh.out.low i hil
        have chi := Kh.out.high i hil
        have Hr := Lib.hid hr
        have C := fun w => in21_any ((lst o).getD i 0) ((lowL o).getD i 0) (highL.getD i 0) w
        clear hr
        generalize (lst o).getD i 0 = x at *
        generalize (lowL o).getD i 0 = lo at *
        generalize highL.getD i 0 = hi' at *
        generalize optNames.getD i ByteArray.empty = nm at *
        cases hok : inB x lo hi' with
        | true =>
          rw [hok] at C
          have Hok := Lib.hid hok
          have h78 := Lib.hid (And.intro h7 h8)
          clear hok h7 h8
          go_wp2_with fail
          go_quiet ((go_at_call 28; exact Calls.quiet_of_same (C _)))
          go_wp2_with fail
          refine ⟨⟨i + 1, by omega, by go_num, Lib.hid (Kh.out.drewN _), Lib.hid (fun j hj x' hxj => ?_)⟩, by simp [intOf]; omega⟩
          have hnn : nn (i + 1) = i + 1 := by unfold nn; rw [if_neg (by have := h78.out.1; omega)]
          have hni : nn i = i := by unfold nn; rw [if_neg h78.out.2]
          rw [hnn] at hj
          by_cases hji : j < i
          · exact Hno.out j (by rw [hni]; exact hji) x' hxj
          · obtain rfl : j = i := by omega
            rw [Hr.out] at hxj
            cases hxj
            rw [Hok.out]; rfl
        | false =>
          rw [hok] at C
          have Hok := Lib.hid hok
          have h78 := Lib.hid (And.intro h7 h8)
          clear hok h7 h8
          go_wp2_with fail
          go_quiet ((go_at_call 28; exact Calls.quiet_of_same (C _)))
          go_wp2_with fail
          go_ret
          have hni : nn i = i := by unfold nn; rw [if_neg h78.out.2]
          have hbe : badS o = nm := by
            have h0 := Hno.out
            rw [hni] at h0
            unfold badS; rw [find_first Hr.out (by rw [Hok.out]; rfl) h0]
          exact ⟨by rw [hbe]; rfl, Below.drewNO Kh.out.below _⟩
    · obtain rfl : i = 15 := by omega
      have hbe : badS o = ⟨#[]⟩ := by unfold badS; rw [find_no (by exact Hno.out)]
      have hbeh := Lib.hid hbe
      clear hbe
      go_wp2_with fail
      go_ret
      exact ⟨by rw [hbeh.out]; rfl, Kh.out.below⟩

end Go.Proofs.YtopoejfbcbnmdaaDoor
