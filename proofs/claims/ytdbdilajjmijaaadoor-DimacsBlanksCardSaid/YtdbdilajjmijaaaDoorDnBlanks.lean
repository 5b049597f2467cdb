import Derived.Test.YtdbdilajjmijaaaDoorDnBack
import Derived.Test.YtdbdilajjmijaaaDoorDnPlain
import Derived.OpenShut
namespace Go.Proofs.YtdbdilajjmijaaaDoor
open Go Go.RowKit Go.Proofs.YtdbdilajjmijaaaDoorW.PrintWords Go.Proofs.YtdbdilajjmijaaaDoorW.PrintLast Go.Proofs.YtdbdilajjmijaaaDoorW.PrintMore PDimacsBack

/-! DimacsBlanks -/
theorem step_cell {w w' : World} {a : Addr} {v : Value} (h : w.cell? a = some v) (hb : Below w.heap.size w w') : w'.cell? a = some v := (hb.cell (World.block_lt_of_cell? _ _ h)).trans h
/-- The gap at word k. -/
def gapN (g : List Int) (k : Nat) : Nat := (nth g 0 k % 6).toNat
theorem gapN_past {g : List Int} {k : Nat} (h : ¬ k < g.length) : gapN g k = 0 := by
  unfold gapN nth
  rw [List.getD_eq_getElem?_getD, List.getElem?_eq_none (by omega)]; rfl

set_option maxRecDepth 100000 in
set_option maxHeartbeats 4000000 in
theorem gap_any (kb gb : Nat) (k : Nat) (hk9 : k ≤ 1000000) (G : Option Addr) (c : Nat) (g : List Int) (hgb : ∀ x ∈ g, 0 ≤ x ∧ x ≤ 255) (w : World) (hk : w.heap[kb]? = some (.cells #[.int .i64 (k : Int)] 3 (0, 0))) (hg : w.cell? ⟨gb, 0, none⟩ = some (.slice G g.length c)) (hr : Kd.C (Kd.int .u8) w G g.length g) :
    Calls Tryd.prog 16 #[.pointer (some ⟨kb, 0, none⟩), .pointer (some ⟨gb, 0, none⟩)] w fun e w' => e = .returned (.string (bs (gapT (gapN g k)))) ∧ Below kb w w' ∧ w'.heap[kb]? = some (.cells #[.int .i64 ((k : Int) + 1)] 3 (0, 0)) := by
  have p0 : w.cell? ⟨kb, 0, none⟩ = some (.int .i64 (k : Int)) := (blk_cell hk 0).trans rfl
  have p1 : w.frozen? ⟨kb, 0, none⟩ = false := blk_frozen hk 0
  have hlt := blk_lt hk
  have HEND : ∀ s : Array Value, Aside0 (Below kb w ((w.setCell ⟨kb, 0, none⟩ (.int .i64 ((k : Int) + 1))).alloc (.cells s 9)) ∧ ((w.setCell ⟨kb, 0, none⟩ (.int .i64 ((k : Int) + 1))).alloc (.cells s 9)).heap[kb]? = some (.cells #[.int .i64 ((k : Int) + 1)] 3 (0, 0))) := fun s => by
    have h1 : Below kb w (w.setCell ⟨kb, 0, none⟩ (.int .i64 ((k : Int) + 1))) := (Below.refl kb w).setCell (Nat.le_refl _) _
    have h2 := blk_put (cs' := #[.int .i64 ((k : Int) + 1)]) hk 0 (.int .i64 ((k : Int) + 1)) rfl
    have h3 := blk_lt h2
    exact ⟨h1.alloc (Nat.le_of_lt h3) _, (Below.heap_alloc _ _ kb h3).trans h2⟩
  have HENDX := Aside0.mk HEND
  have HHK := Aside0.mk hk
  clear HEND hk
  by_cases hkl : k < g.length
  · obtain ⟨ad, rfl, hx⟩ := at_num hr k hkl
    have hxb := hgb _ (nth_mem hkl 0)
    have hq : ∃ q : Nat, gapN g k = q ∧ nth g 0 k % 6 = q ∧ q < 6 := ⟨gapN g k, rfl, by unfold gapN; omega, by unfold gapN; omega⟩
    obtain ⟨q, hq1, hq2, hq3⟩ := hq
    rw [hq1]
    have q1 : ((k : Int) < (g.length : Int)) = True := eq_true (by omega)
    have q2 : (0 ≤ (k : Int)) = True := eq_true (by omega)
    generalize nth g 0 k = x at *
    have hm := Kd.C_max hr
    clear hr hgb hq1
    have hW0 : q = 0 ∨ q = 1 ∨ q = 2 ∨ q = 3 ∨ q = 4 ∨ q = 5 := by omega
    clear hq3
    go_enter Tryd.func16, Tryd.ntmps16
    rcases hW0 with rfl | rfl | rfl | rfl | rfl | rfl
    all_goals
      go_wp2
      go_ret
      exact ⟨rfl, (HENDX.out _).out.1, (HENDX.out _).out.2⟩
  · rw [gapN_past hkl]
    have q1 : ((k : Int) < (g.length : Int)) = False := eq_false (by omega)
    clear hr hgb
    go_enter Tryd.func16, Tryd.ntmps16
    go_wp2
    go_ret
    exact ⟨rfl, (HENDX.out _).out.1, (HENDX.out _).out.2⟩

/-- The text that has been written, its words, their count. -/
def BW (H : List UInt8) (gs : Nat → Nat) (S : List UInt8) (Q : List (List UInt8)) (k B : Nat) : Prop := S = H ++ bodyT gs 0 Q ∧ k = Q.length ∧ S.length ≤ 100 + 22 * k ∧ k ≤ B
theorem BW.step {H : List UInt8} {gs : Nat → Nat} {S : List UInt8} {Q : List (List UInt8)} {k B : Nat} (h : BW H gs S Q k B) {w : List UInt8} (hw : w.length ≤ 12) : BW H gs (S ++ (w ++ gapT (gs k))) (Q ++ [w]) (k + 1) (B + 1) := by
  obtain ⟨rfl, rfl, h3, h4⟩ := h
  have h5 := gapT_len (gs Q.length)
  refine ⟨by rw [bodyT_snoc, List.append_assoc], by simp, ?_, by omega⟩
  simp only [List.length_append] at h3 ⊢
  omega
theorem words_take {cs : List (List Int)} {j : Nat} (h : j < cs.length) : wordsOf (cs.take (j + 1)) = wordsOf (cs.take j) ++ (nth cs [] j).map Lib.itoa ++ [[48]] := by
  unfold wordsOf
  rw [take_snoc h [], List.flatMap_append]
  simp
theorem headB_len (V n : Nat) (hV : V ≤ 1000000000) (hn : n ≤ 1000000000) : (startT ++ headB V n ++ [10]).length ≤ 100 := by
  have h1 := itoa_len_small (V : Int) (by omega) (by omega)
  have h2 := itoa_len_small (n : Int) (by omega) (by omega)
  unfold startT headB
  simp only [List.length_append, List.length_cons, List.length_nil]
  omega

set_option maxRecDepth 100000 in
set_option maxHeartbeats 8000000 in
theorem blanks_any (u : Int) (hu : 0 ≤ u ∧ u ≤ 255) (A : Option Addr) (c : Nat) (l : List (List Int)) (hc : l.length ≤ c) (G : Option Addr) (gc : Nat) (g : List Int) (_hgc : g.length ≤ gc) (w : World) (hr : Kd.C kRaw w A l.length l) (hl : l.length ≤ 140737488355328) (hs : ∀ r ∈ l, r.length ≤ 140737488355328) (hg0 : Kd.C (Kd.int .u8) w G g.length g) (hgb : ∀ x ∈ g, (Lit.int .u8 x).wf = true) (E : Env w) :
    Calls Tryd.prog 4 #[.agg #[.int .u8 u, .slice A l.length c], .slice G g.length gc] w (Said w (.bool true)) := by
  have hu1 := Tryd.underlying24
  have hu2 := Tryd.underlying29
  have HR := Aside0.mk hr
  have HG := Aside0.mk hg0
  have HE := Aside0.mk E
  have HS := Aside0.mk hs
  have HGBD := Aside0.mk (fun x hx => bounds_u8 (hgb x hx))
  have hsp := fun h => lightB_spec (K := 40) (l := l) h
  have C0 := fun W (e : Env W) => fit_any W e
  have CL := fun W (h : Kd.C kRaw W A l.length l) => light_any u A c l 40 W h (by omega) hl hs
  obtain ⟨W1, hW1⟩ : ∃ W1, W1 = (w.alloc (.cells #[.int .u8 u, .slice A l.length c] 24)).alloc (.cells #[.slice G g.length gc] 38) := ⟨_, rfl⟩
  have hb1 : Below w.heap.size w W1 := by rw [hW1]; exact ((Below.refl _ _).alloc (Nat.le_refl _) _).alloc (by simp) _
  have hx1 : W1.heap[w.heap.size]? = some (.cells #[.int .u8 u, .slice A l.length c] 24 (0, 0)) := by
    rw [hW1]
    exact (Below.heap_alloc _ _ _ (by simp)).trans (heap_alloc_new w _)
  have hy1 : W1.heap[w.heap.size + 1]? = some (.cells #[.slice G g.length gc] 38 (0, 0)) := by
    rw [hW1]
    have := heap_alloc_new (w.alloc (.cells #[.int .u8 u, .slice A l.length c] 24)) (.cells #[.slice G g.length gc] 38)
    simpa using this
  have HB := Aside0.mk hb1
  have HX := Aside0.mk hx1
  have HY := Aside0.mk hy1
  have HW1 := Aside0.mk hW1
  have HCL := Aside0.mk CL
  have HC0 := Aside0.mk C0
  have hgm := Kd.C_max hg0
  generalize lightB 40 l = bb at *
  clear hr E hs CL C0 hb1 hx1 hy1 hW1 hg0 hgb
  go_enter Tryd.func4, Tryd.ntmps4
  go_upto_region 1 with (fail)
  rw [← HW1.out]
  go_wp2_with (go_at_call 8; refine (HC0.out _ (HE.out.below HB.out)).mono ?_)
  rintro e w2 ⟨rfl, hb⟩
  have HX2 := Aside0.mk (blk_below HX.out hb)
  have HY2 := Aside0.mk (blk_below HY.out hb)
  have HB2 := Aside0.mk (below_step HB.out hb)
  clear hb HX HY HB HW1
  have p0 : w2.cell? ⟨w.heap.size, 0, none⟩ = some (.int .u8 u) := (blk_cell HX2.out 0).trans rfl
  have p1 : w2.cell? ⟨w.heap.size, 1, none⟩ = some (.slice A l.length c) := (blk_cell HX2.out 1).trans rfl
  have p2 : w2.cell? ⟨w.heap.size + 1, 0, none⟩ = some (.slice G g.length gc) := (blk_cell HY2.out 0).trans rfl
  cases bb with
  | false =>
    clear hsp
    go_wp2_with (go_at_call 9; refine (HCL.out _ (Kd.C_below HR.out HB2.out)).mono ?_)
    rintro e w3 ⟨rfl, hb⟩
    have HB3 := Aside0.mk (below_step HB2.out hb)
    clear hb
    go_wp2
    go_ret
    exact ⟨rfl, HB3.out⟩
  | true =>
    obtain ⟨hl60, hsum⟩ := hsp rfl
    go_wp2_with (go_at_call 9; refine (HCL.out _ (Kd.C_below HR.out HB2.out)).mono ?_)
    rintro e w3 ⟨rfl, hb⟩
    have HX3 := Aside0.mk (blk_below HX2.out hb)
    have HY3 := Aside0.mk (blk_below HY2.out hb)
    have HB3 := Aside0.mk (below_step HB2.out hb)
    clear hb HX2 HY2 p0 p1 p2
    have p0 : w3.cell? ⟨w.heap.size, 0, none⟩ = some (.int .u8 u) := (blk_cell HX3.out 0).trans rfl
    have p1 : w3.cell? ⟨w.heap.size, 1, none⟩ = some (.slice A l.length c) := (blk_cell HX3.out 1).trans rfl
    have p2 : w3.cell? ⟨w.heap.size + 1, 0, none⟩ = some (.slice G g.length gc) := (blk_cell HY3.out 0).trans rfl
    by_cases h100 : 100 < g.length
    · have q1 : (100 < (g.length : Int)) = True := eq_true (by omega)
      clear hsp
      go_wp2
      go_ret
      exact ⟨rfl, HB3.out⟩
    · have q1 : (100 < (g.length : Int)) = False := eq_false (by omega)
      obtain ⟨V, cs, hV, hcs, hg, CF⟩ := formula_any u hu A c l 50 9 (by omega) (by omega) w3 (Kd.C_below HR.out HB3.out) hc (by omega) HS.out
      have hn : cs.length ≤ 60 := by omega
      have hn40 : cs.length ≤ 40 := by omega
      have HF := Aside0.mk (good_formR hV (by omega) (by omega) (by omega) hg)
      have HGB := Aside0.mk (good_bounds (b := 9) (by omega) hg)
      have HG9 := Aside0.mk (fun d hd => (hg d hd).2)
      have HGL := Aside0.mk (fun d hd => Nat.le_trans (hg d hd).2 (show 9 ≤ 140737488355328 by decide))
      clear hcs hsum hg hsp HX3 HCL HC0
      go_wp2_with (go_at_call 10; refine CF.mono ?_)
      rintro e w4 ⟨hb, X, c', rfl, hc', hX⟩
      have HY4 := Aside0.mk (blk_below HY3.out hb)
      have HB4 := Aside0.mk (below_step HB3.out hb)
      have HXR := Aside0.mk hX
      clear hX CF hb HY3 p0 p1 p2
      obtain ⟨W5, hW5⟩ : ∃ W5, W5 = w4.alloc (.cells #[.int .i64 (V : Int), .slice X cs.length c'] 29) := ⟨_, rfl⟩
      have hb : Below w4.heap.size w4 W5 := by rw [hW5]; exact (Below.refl _ _).alloc (Nat.le_refl _) _
      have HB5 := Aside0.mk (below_step HB4.out hb)
      have HX5 := Aside0.mk (Kd.C_below HXR.out hb)
      have HY5 := Aside0.mk (blk_below HY4.out hb)
      have hbx : W5.heap[w4.heap.size]? = some (.cells #[.int .i64 (V : Int), .slice X cs.length c'] 29 (0, 0)) := by rw [hW5]; exact heap_alloc_new w4 _
      have HW5 := Aside0.mk hW5
      have hE5 := HE.out.below HB5.out
      have HQ : Aside0 (W5.cell? ⟨w4.heap.size, 0, none⟩ = some (.int .i64 (V : Int)) ∧ W5.cell? ⟨w4.heap.size, 1, none⟩ = some (.slice X cs.length c') ∧ Aside0 (Env W5) ∧ Aside0 (Below W5.heap.size W5 W5)) :=
        ⟨(blk_cell hbx 0).trans rfl, (blk_cell hbx 1).trans rfl, ⟨hE5⟩, ⟨Below.refl _ _⟩⟩
      have T1 : ∀ W, (W.cell? ⟨w4.heap.size, 0, none⟩ = some (.int .i64 (V : Int)) ∧ W.cell? ⟨w4.heap.size, 1, none⟩ = some (.slice X cs.length c') ∧ Aside0 (Env W) ∧ Aside0 (Below W5.heap.size W5 W)) → Calls Tryd.prog 15 #[.int .i64 (V : Int)] W (Said W (.string (bs (Lib.itoa (V : Int))))) := fun W e => itoa_any _ (by omega) (by omega) W e.2.2.1.out
      have T2 : ∀ W, (W.cell? ⟨w4.heap.size, 0, none⟩ = some (.int .i64 (V : Int)) ∧ W.cell? ⟨w4.heap.size, 1, none⟩ = some (.slice X cs.length c') ∧ Aside0 (Env W) ∧ Aside0 (Below W5.heap.size W5 W)) → Calls Tryd.prog 15 #[.int .i64 (cs.length : Int)] W (Said W (.string (bs (Lib.itoa (cs.length : Int))))) := fun W e => itoa_any _ (by omega) (by omega) W e.2.2.1.out
      have HD : Aside0 (bs (startT ++ headB V cs.length ++ [10]) = ⟨#[99, 32, 102, 105, 114, 115, 116, 10, 10, 32, 32, 112, 32, 99, 110, 102, 32]⟩ ++ bs (Lib.itoa (V : Int)) ++ ⟨#[9]⟩ ++ bs (Lib.itoa (cs.length : Int)) ++ ⟨#[32, 10]⟩) := ⟨by
        show _ = bs [99, 32, 102, 105, 114, 115, 116, 10, 10, 32, 32, 112, 32, 99, 110, 102, 32] ++ bs _ ++ bs [9] ++ bs _ ++ bs [32, 10]
        rw [bs_add, bs_add, bs_add, bs_add]
        unfold startT headB
        simp⟩
      have ex1 := itoa_len_small (V : Int) (by omega) (by omega)
      have ex2 := itoa_len_small (cs.length : Int) (by omega) (by omega)
      have HHL := Aside0.mk (headB_len V cs.length (by omega) (by omega))
      have HPB := Aside0.mk (parse_blank (gapN g) HF.out)
      unfold blankT at HPB
      rw [← bs_size] at ex1 ex2
      clear hb hW5 hbx hE5
      generalize startT ++ headB V cs.length ++ [10] = H at *
      generalize bs (Lib.itoa (V : Int)) = X1 at *
      generalize bs (Lib.itoa (cs.length : Int)) = X2 at *
      have o1 : (9223372036854775807 < 17 + X1.size) = False := eq_false (by omega)
      have o2 : (9223372036854775807 < 17 + X1.size + 1) = False := eq_false (by omega)
      have o3 : (9223372036854775807 < 17 + X1.size + 1 + X2.size) = False := eq_false (by omega)
      have o4 : (9223372036854775807 < 17 + X1.size + 1 + X2.size + 2) = False := eq_false (by omega)
      clear ex1 ex2
      go_upto_region 6 with (fail)
      rw [← HW5.out]
      go_cut [6] (fun s6 wx => s6 = .string (bs H) ∧ Aside0 (wx.cell? ⟨w4.heap.size, 0, none⟩ = some (.int .i64 (V : Int)) ∧ wx.cell? ⟨w4.heap.size, 1, none⟩ = some (.slice X cs.length c') ∧ Aside0 (Env wx) ∧ Aside0 (Below W5.heap.size W5 wx)))
      case first =>
        go_region_held (fun w' => w'.cell? ⟨w4.heap.size, 0, none⟩ = some (.int .i64 (V : Int)) ∧ w'.cell? ⟨w4.heap.size, 1, none⟩ = some (.slice X cs.length c') ∧ Aside0 (Env w') ∧ Aside0 (Below W5.heap.size W5 w'))
          (first | assumption | exact keepF HQ.out (pw_below_drewN (Below.refl _ _) 1) | exact keepF (by assumption) hb)
          (first | (go_at_call 15; (first | with_reducible refine (T1 _ (by assumption)).mono ?_ | with_reducible refine (T2 _ (by assumption)).mono ?_); rintro e w8 ⟨rfl, hb⟩))
        all_goals
          go_wp2_with fail
          go_meet
          case rel => exact ⟨by rw [HD.out], ⟨by assumption⟩⟩
      case rest =>
        obtain ⟨rfl, HC⟩ := hcut
        have hbc := HC.out.2.2.2.out
        have HBc := Aside0.mk (HB5.out.trans (hbc.mono HB5.out.size))
        have HXc := Aside0.mk (Kd.C_below HX5.out hbc)
        have HYc := Aside0.mk ((blk_cell (blk_below HY5.out hbc) 0).trans (show (#[Value.slice G g.length gc] : Array Value)[0]? = some (.slice G g.length gc) from rfl))
        have HGc := Aside0.mk (Kd.C_below HG.out HBc.out)
        have p0 := HC.out.1
        have p1 := HC.out.2.1
        have HP0 := Aside0.mk (And.intro p0 p1)
        clear HQ HW5 T1 T2 HD o1 o2 o3 o4 hbc HY4 HY5 HX5 HXR HB2 HB3 HB4 HB5 HR HG HC
        have HCG : Aside0 (∀ (k : Nat) W, k ≤ 1000000 → W.heap[wc.heap.size]? = some (.cells #[.int .i64 (k : Int)] 3 (0, 0)) → Below wc.heap.size wc W → Calls Tryd.prog 16 #[.pointer (some ⟨wc.heap.size, 0, none⟩), .pointer (some ⟨w.heap.size + 1, 0, none⟩)] W fun e w' => e = .returned (.string (bs (gapT (gapN g k)))) ∧ Below wc.heap.size W w' ∧ w'.heap[wc.heap.size]? = some (.cells #[.int .i64 ((k : Int) + 1)] 3 (0, 0))) :=
          ⟨fun k W h1 h2 h3 => gap_any wc.heap.size (w.heap.size + 1) k h1 G gc g HGBD.out W h2 (step_cell HYc.out h3) (Kd.C_below HGc.out h3)⟩
        have p1' : (wc.alloc (.cells #[.int .i64 0] 3)).cell? ⟨w4.heap.size, 1, none⟩ = some (.slice X cs.length c') := cell_more p1 _
        go_wp2
        go_loopg [42, 6] cs.length (fun gk v42 v6 w' => ∃ (j k : Nat) (S : List UInt8), v42 = .int .i64 (j : Int) ∧ j + gk = cs.length ∧ v6 = .string (bs S) ∧ Aside0 (BW H (gapN g) S (wordsOf (cs.take j)) k (10 * j)) ∧ Aside0 (w'.heap[wc.heap.size]? = some (.cells #[.int .i64 (k : Int)] 3 (0, 0))) ∧ Aside0 (Below wc.heap.size wc w'))
        case atStart => exact ⟨0, 0, H, rfl, by omega, rfl, ⟨by simp [bodyT, wordsOf], by simp [wordsOf], by have := HHL.out; omega, by omega⟩, ⟨heap_alloc_new wc _⟩, ⟨(Below.refl _ _).alloc (Nat.le_refl _) _⟩⟩
        case round =>
          clear p0 p1 p1'
          obtain ⟨j, k, S, rfl, hj, rfl, HW, HK, HB⟩ := hrel
          by_cases hjl : j < cs.length
          · obtain ⟨ad, A1, c1, rfl, hx, hl1, hi1⟩ := at_clause HXc.out j hjl
            replace hx := step_cell hx HB.out
            have HI := Aside0.mk hi1
            have HLS := Aside0.mk (HGB.out _ (nth_mem hjl []))
            have h9 := HG9.out _ (nth_mem hjl [])
            have hm := Kd.C_max hi1
            have q1 : ((j : Int) < (cs.length : Int)) = True := eq_true (by omega)
            have q2 : (0 ≤ (j : Int)) = True := eq_true (by omega)
            have HT := Aside0.mk (words_take hjl)
            clear hi1
            generalize nth cs [] j = d at *
            generalize wordsOf (cs.take j) = P at *
            go_wp2
            go_loopg [48, 6] d.length (fun gk2 v48 v6 w' => ∃ (m k2 : Nat) (S2 : List UInt8), v48 = .int .i64 (m : Int) ∧ m + gk2 = d.length ∧ v6 = .string (bs S2) ∧ Aside0 (BW H (gapN g) S2 (P ++ (d.take m).map Lib.itoa) k2 (10 * j + m)) ∧ Aside0 (w'.heap[wc.heap.size]? = some (.cells #[.int .i64 (k2 : Int)] 3 (0, 0))) ∧ Aside0 (Below wc.heap.size wc w'))
            case atStart => exact ⟨0, k, S, rfl, by omega, rfl, ⟨by have := HW.out; simpa using this⟩, HK, HB⟩
            case round =>
              clear HB HK HW hx
              obtain ⟨m, k2, S2, rfl, hmk, rfl, HW, HK, HB⟩ := hrel
              have hS2 := HW.out.2.2.1
              have hk2 := HW.out.2.2.2
              have hgl := gapT_len (gapN g k2)
              by_cases hml : m < d.length
              · obtain ⟨ad2, rfl, hy⟩ := at_num HI.out m hml
                replace hy := step_cell hy HB.out
                have hyb := HLS.out _ (nth_mem hml 0)
                have q3 : ((m : Int) < (d.length : Int)) = True := eq_true (by omega)
                have q4 : (0 ≤ (m : Int)) = True := eq_true (by omega)
                have htk : (d.take (m + 1)).map Lib.itoa = (d.take m).map Lib.itoa ++ [Lib.itoa (nth d 0 m)] := by rw [take_snoc hml 0]; simp
                generalize nth d 0 m = y at *
                have hyl := itoa_len_small y (by omega) (by omega)
                have hst := HW.out.step hyl
                rw [List.append_assoc, ← htk] at hst
                have HST := Aside0.mk hst
                have CI : Calls Tryd.prog 15 #[.int .i64 y] wr (Said wr (.string (bs (Lib.itoa y)))) := itoa_any y (by omega) (by omega) wr (HE.out.below (HBc.out.trans (HB.out.mono HBc.out.size)))
                have CG := HCG.out k2
                have hcat : bs S2 ++ (bs (Lib.itoa y) ++ bs (gapT (gapN g k2))) = bs (S2 ++ (Lib.itoa y ++ gapT (gapN g k2))) := by rw [bs_add, bs_add]
                have HCAT := Aside0.mk hcat
                rw [← bs_size] at hyl hgl hS2
                have HCG2 := Aside0.mk CG
                clear htk hst hcat CG HW
                generalize bs (Lib.itoa y) = X1 at *
                generalize bs (gapT (gapN g k2)) = X2 at *
                generalize bs S2 = SB at *
                have o1 : (9223372036854775807 < X1.size + X2.size) = False := eq_false (by omega)
                have o2 : (9223372036854775807 < SB.size + (X1.size + X2.size)) = False := eq_false (by omega)
                have hk9 : k2 ≤ 1000000 := by omega
                clear hyl hgl hS2
                go_wp2_with (go_at_call 15; refine CI.mono ?_)
                rintro e w8 ⟨rfl, hb⟩
                have HB8 := Aside0.mk (below_step HB.out hb)
                have CG := HCG2.out w8 hk9 (blk_below HK.out hb) HB8.out
                clear hb CI HCG2 HK HB hy
                go_wp2_with (go_at_call 16; refine CG.mono ?_)
                rintro e w9 ⟨rfl, hb9, hk9'⟩
                have HB9 := Aside0.mk (HB8.out.trans hb9)
                have HK9 := Aside0.mk hk9'
                clear hb9 hk9' CG HB8
                go_wp2
                go_roundg (d.length - (m + 1))
                case measure => omega
                case rel => exact ⟨m + 1, k2 + 1, _, by go_num, by omega, by rw [HCAT.out], HST, ⟨by have := HK9.out; push_cast; exact this⟩, HB9⟩
              · have q3 : ((m : Int) < (d.length : Int)) = False := eq_false (by omega)
                have hst := HW.out.step (w := [48]) (by simp)
                rw [List.take_of_length_le (show d.length ≤ m by omega), ← HT.out] at hst
                have hst2 : BW H (gapN g) (S2 ++ ([48] ++ gapT (gapN g k2))) (wordsOf (cs.take (j + 1))) (k2 + 1) (10 * (j + 1)) := ⟨hst.1, hst.2.1, hst.2.2.1, by omega⟩
                have HST := Aside0.mk hst2
                have hcat : bs S2 ++ (⟨#[48]⟩ ++ bs (gapT (gapN g k2))) = bs (S2 ++ ([48] ++ gapT (gapN g k2))) := by
                  show bs S2 ++ (bs [48] ++ _) = _
                  rw [bs_add, bs_add]
                have HCAT := Aside0.mk hcat
                have CG := HCG.out k2 wr (by omega) HK.out HB.out
                rw [← bs_size] at hgl hS2
                clear hst hst2 hcat HW
                generalize bs (gapT (gapN g k2)) = X2 at *
                generalize bs S2 = SB at *
                have o1 : (9223372036854775807 < 1 + X2.size) = False := eq_false (by omega)
                have o2 : (9223372036854775807 < SB.size + (1 + X2.size)) = False := eq_false (by omega)
                clear hgl hS2
                go_wp2_with (go_at_call 16; refine CG.mono ?_)
                rintro e w9 ⟨rfl, hb9, hk9'⟩
                have HB9 := Aside0.mk (HB.out.trans hb9)
                have HK9 := Aside0.mk hk9'
                clear hb9 hk9' CG HB
                go_wp2
                go_roundg (cs.length - (j + 1))
                case measure => omega
                case rel => exact ⟨j + 1, k2 + 1, _, by go_num, by omega, by rw [HCAT.out], HST, ⟨by have := HK9.out; push_cast; exact this⟩, HB9⟩
          · have q1 : ((j : Int) < (cs.length : Int)) = False := eq_false (by omega)
            have hw := HW.out
            rw [List.take_of_length_le (show cs.length ≤ j by omega)] at hw
            obtain ⟨hS, -, hSl, hkk⟩ := hw
            subst hS
            have CQ := parse_any (H ++ bodyT (gapN g) 0 (wordsOf cs)) wr (by omega) (HE.out.below (HBc.out.trans (HB.out.mono HBc.out.size)))
            rw [HPB.out] at CQ
            have hst : strV (H ++ bodyT (gapN g) 0 (wordsOf cs)) = .string (bs (H ++ bodyT (gapN g) 0 (wordsOf cs))) := rfl
            rw [hst] at CQ
            have HBr := Aside0.mk (HBc.out.trans (HB.out.mono HBc.out.size))
            have HXr := Aside0.mk (Kd.C_below HXc.out HB.out)
            have HPr := Aside0.mk (And.intro (step_cell HP0.out.1 HB.out) (step_cell HP0.out.2 HB.out))
            clear hst hSl HPB HW HHL
            generalize bs (H ++ bodyT (gapN g) 0 (wordsOf cs)) = T at *
            go_wp2_with (go_at_call 12; refine CQ.mono ?_)
            rintro e w7 ⟨hb, Y, rfl, hY⟩
            have HB7 := Aside0.mk (below_step HBr.out hb)
            have HX7 := Aside0.mk (Kd.C_below HXr.out hb)
            have HP7 := Aside0.mk (And.intro (step_cell HPr.out.1 hb) (step_cell HPr.out.2 hb))
            try dsimp only at hY
            obtain ⟨Ya, Yc, rfl, hYc, hYC⟩ := Kd.R_reads hY
            try dsimp only
            clear hY CQ hb
            obtain ⟨W8, hW8⟩ : ∃ W8, W8 = w7.alloc (.cells #[.int .i64 (V : Int), .slice Ya cs.length Yc] 29) := ⟨_, rfl⟩
            have hb : Below w7.heap.size w7 W8 := by rw [hW8]; exact (Below.refl _ _).alloc (Nat.le_refl _) _
            have HB8 := Aside0.mk (below_step HB7.out hb)
            have HX8 := Aside0.mk (Kd.C_below HX7.out hb)
            have HY8 := Aside0.mk (Kd.C_below hYC hb)
            have hL8 : W8.heap[w7.heap.size]? = some (.cells #[.int .i64 (V : Int), .slice Ya cs.length Yc] 29 (0, 0)) := by rw [hW8]; exact heap_alloc_new w7 _
            have k0 := step_cell HP7.out.1 hb
            have k1 := step_cell HP7.out.2 hb
            have l0 : W8.cell? ⟨w7.heap.size, 0, none⟩ = some (.int .i64 (V : Int)) := (blk_cell hL8 0).trans rfl
            have l1 : W8.cell? ⟨w7.heap.size, 1, none⟩ = some (.slice Ya cs.length Yc) := (blk_cell hL8 1).trans rfl
            have HW8 := Aside0.mk hW8
            clear hb hW8 hYC hL8
            have CS := same_any V V X Ya c' Yc cs cs W8 HX8.out hc' HY8.out hYc (by omega) HGL.out
            rw [show decide ((V : Int) = V ∧ cs = cs) = true by simp] at CS
            go_upto_region 20 with (fail)
            rw [← HW8.out]
            go_wp2_with (go_at_call 14; refine CS.mono ?_)
            rintro e w10 ⟨rfl, hb⟩
            go_wp2
            go_ret
            exact ⟨rfl, below_step HB8.out hb⟩
end Go.Proofs.YtdbdilajjmijaaaDoor
