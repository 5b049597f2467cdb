import Derived.Test.YtdbdilajjmijaaaGreatDoorDnTold
namespace Go.Proofs.YtdbdilajjmijaaaGreatDoor
open Go Go.RowKit Go.Proofs.YtdbdilajjmijaaaGreatDoorW.PrintWords Go.Proofs.YtdbdilajjmijaaaGreatDoorW.PrintLast Go.Proofs.YtdbdilajjmijaaaGreatDoorW.PrintMore PDimacsCuts

/-! Print -/
theorem keepP {gb : Nat} {x y : Value} {W0 w' w8 : World} (h : w'.cell? ⟨gb, 1, none⟩ = some y ∧ w'.cell? ⟨gb, 0, none⟩ = some x ∧ Aside0 (Below (gb + 1) W0 w')) (hb : Below (gb + 1) w' w8) :
    w8.cell? ⟨gb, 1, none⟩ = some y ∧ w8.cell? ⟨gb, 0, none⟩ = some x ∧ Aside0 (Below (gb + 1) W0 w8) :=
  ⟨(hb.cell (p := ⟨gb, 1, none⟩) (Nat.lt_succ_self _)).trans h.1, (hb.cell (p := ⟨gb, 0, none⟩) (Nat.lt_succ_self _)).trans h.2.1, ⟨h.2.2.out.trans hb⟩⟩
theorem keepI {gb : Nat} {x y : Value} {W0 w' w8 : World} (hs : Aside0 (gb + 1 ≤ W0.heap.size)) (h : w'.cell? ⟨gb, 1, none⟩ = some y ∧ w'.cell? ⟨gb, 0, none⟩ = some x ∧ Aside0 (Below (gb + 1) W0 w')) (hb : Below w'.heap.size w' w8) :
    w8.cell? ⟨gb, 1, none⟩ = some y ∧ w8.cell? ⟨gb, 0, none⟩ = some x ∧ Aside0 (Below (gb + 1) W0 w8) := keepP h (hb.mono (Nat.le_trans hs.out h.2.2.out.size))
theorem strCells_bs (a : List UInt8) : Lib.strCells (bs a) = Lib.byteCells a := rfl

abbrev isB (b : Nat) (a : List UInt8) (w : World) : Prop := Lib.IsBuilderF 79 5 b b (Lib.byteCells a) w
theorem isB_later {b : Nat} {a : List UInt8} {w0 w w' : World} (h : isB b a w0) (hb : Below w.heap.size w w') (e : w0.heap = w.heap) : isB b a w' := by
  have h2 : isB b a { w with heap := w0.heap } := by
    exact h
  rw [e] at h2
  exact builder_below h2 hb
theorem isB_wrote {b : Nat} {a x y : List UInt8} {w : World} (h : Lib.BuilderAtF 79 5 b b (.pointer (some ⟨b, 0, none⟩)) (Lib.byteCells a ++ Lib.strCells (bs x)) w) (e : a ++ x = y) : isB b y w := by
  refine .inr ?_
  rw [← e, Lib.byteCells_append]
  exact h

set_option maxRecDepth 100000 in
set_option maxHeartbeats 8000000 in
theorem print_any (A : Option Addr) (c : Nat) (v : Nat) (cs : List (List Int)) (w : World) (hr : Kd.C kForm w A cs.length cs) (hv : v ≤ 1000000000) (hn : cs.length ≤ 1000000000) (hl : ∀ d ∈ cs, ∀ l ∈ d, -1000000000 ≤ l ∧ l ≤ 1000000000) (hX : (formT v cs).length ≤ 140737488355328) (E : Env w) :
    Calls Tryz.prog 13 #[.agg #[.int .i64 (v : Int), .slice A cs.length c]] w (Said w (.string (bs (formT v cs)))) := by
  have hu := Tryz.underlying29
  rw [formT_eq] at hX ⊢
  have HR := Aside0.mk hr
  have HE := Aside0.mk E
  have HL := Aside0.mk hl
  have HX := Aside0.mk hX
  have ex1 := itoa_len_small (v : Int) (by omega) (by omega)
  have ex2 := itoa_len_small (cs.length : Int) (by omega) (by omega)
  have HD : Aside0 (bs (hdT v cs.length) = ⟨#[112, 32, 99, 110, 102, 32]⟩ ++ bs (Lib.itoa (v : Int)) ++ ⟨#[32]⟩ ++ bs (Lib.itoa (cs.length : Int)) ++ ⟨#[10]⟩) := ⟨by
    show _ = bs [112, 32, 99, 110, 102, 32] ++ bs _ ++ bs [32] ++ bs _ ++ bs [10]
    rw [bs_add, bs_add, bs_add, bs_add]; rfl⟩
  have HDe := Aside0.mk (show bs (hdT v cs.length) = bs (hdT v cs.length) from rfl)
  have HHL : Aside0 ((hdT v cs.length).length ≤ 1000) := ⟨by unfold hdT headT; simp only [List.length_append, List.length_cons, List.length_nil]; omega⟩
  obtain ⟨W0, hW0⟩ : ∃ W0, W0 = (w.alloc (.cells #[.int .i64 (v : Int), .slice A cs.length c] 29)).alloc (.cells #[.pointer none, .slice none 0 0] 79) := ⟨_, rfl⟩
  have hs1 : (w.alloc (.cells #[.int .i64 (v : Int), .slice A cs.length c] 29)).heap.size = w.heap.size + 1 := by simp
  have h0 : isB (w.heap.size + 1) [] W0 := by
    have := Lib.IsBuilderF.of (Lib.fresh_isBuilder 79 5 (w.alloc (.cells #[.int .i64 (v : Int), .slice A cs.length c] 29)))
    rw [hs1] at this
    rw [hW0]
    exact this
  have hwb : Below w.heap.size w W0 := by rw [hW0]; exact ((Below.refl _ w).alloc (Nat.le_refl _) _).alloc (by simp) _
  have hbx : W0.heap[w.heap.size]? = some (.cells #[.int .i64 (v : Int), .slice A cs.length c] 29 (0, 0)) := by
    rw [hW0]
    exact (Below.heap_alloc _ _ w.heap.size (by rw [hs1]; omega)).trans (heap_alloc_new w _)
  have HSZ : Aside0 (w.heap.size + 1 ≤ W0.heap.size) := ⟨by rw [hW0]; simp⟩
  have HS : Aside0 (W0.cell? ⟨w.heap.size, 1, none⟩ = some (.slice A cs.length c) ∧ W0.cell? ⟨w.heap.size, 0, none⟩ = some (.int .i64 (v : Int)) ∧ Aside0 (Below (w.heap.size + 1) W0 W0)) := ⟨(blk_cell hbx 1).trans rfl, (blk_cell hbx 0).trans rfl, ⟨Below.refl _ _⟩⟩
  have HWB := Aside0.mk hwb
  have HW0 := Aside0.mk hW0
  have F0 := Aside0.mk h0
  have hEW : ∀ W, (W.cell? ⟨w.heap.size, 1, none⟩ = some (.slice A cs.length c) ∧ W.cell? ⟨w.heap.size, 0, none⟩ = some (.int .i64 (v : Int)) ∧ Aside0 (Below (w.heap.size + 1) W0 W)) → Env W := fun W e => E.below (hwb.trans (e.2.2.out.mono (Nat.le_succ _)))
  have HEW := Aside0.mk hEW
  have T1 : ∀ W, (W.cell? ⟨w.heap.size, 1, none⟩ = some (.slice A cs.length c) ∧ W.cell? ⟨w.heap.size, 0, none⟩ = some (.int .i64 (v : Int)) ∧ Aside0 (Below (w.heap.size + 1) W0 W)) → Calls Tryz.prog 14 #[.int .i64 (v : Int)] W (Said W (.string (bs (Lib.itoa (v : Int))))) := fun W e => itoa_any _ (by omega) (by omega) W (HEW.out W e)
  have T2 : ∀ W, (W.cell? ⟨w.heap.size, 1, none⟩ = some (.slice A cs.length c) ∧ W.cell? ⟨w.heap.size, 0, none⟩ = some (.int .i64 (v : Int)) ∧ Aside0 (Below (w.heap.size + 1) W0 W)) → Calls Tryz.prog 14 #[.int .i64 (cs.length : Int)] W (Said W (.string (bs (Lib.itoa (cs.length : Int))))) := fun W e => itoa_any _ (by omega) (by omega) W (HEW.out W e)
  rw [← bs_size] at ex1 ex2
  clear hr E hl hX hv hW0 hwb hbx hs1 h0 hEW
  generalize bs (Lib.itoa (v : Int)) = X1 at *
  generalize bs (Lib.itoa (cs.length : Int)) = X2 at *
  have o1 : (9223372036854775807 < 6 + X1.size) = False := eq_false (by omega)
  have o2 : (9223372036854775807 < 6 + X1.size + 1) = False := eq_false (by omega)
  have o3 : (9223372036854775807 < 6 + X1.size + 1 + X2.size) = False := eq_false (by omega)
  have o4 : (9223372036854775807 < 6 + X1.size + 1 + X2.size + 1) = False := eq_false (by omega)
  go_enter Tryz.func13, Tryz.ntmps13
  go_upto_region 2 with (fail)
  rw [← HW0.out]
  go_cut [] (fun wx => Aside0 (wx.cell? ⟨w.heap.size, 1, none⟩ = some (.slice A cs.length c) ∧ wx.cell? ⟨w.heap.size, 0, none⟩ = some (.int .i64 (v : Int)) ∧ Aside0 (Below (w.heap.size + 1) W0 wx)) ∧ Aside0 (isB (w.heap.size + 1) (hdT v cs.length) wx))
  case first =>
    go_region_held (fun w' => w'.cell? ⟨w.heap.size, 1, none⟩ = some (.slice A cs.length c) ∧ w'.cell? ⟨w.heap.size, 0, none⟩ = some (.int .i64 (v : Int)) ∧ Aside0 (Below (w.heap.size + 1) W0 w'))
      (first | assumption | exact keepP HS.out (pw_below_drewN (Below.refl _ _) 1) | exact keepI HSZ (by assumption) hb | exact keepP (by assumption) hb)
      (first
        | (go_at_call 14; (first | with_reducible refine (T1 _ (by assumption)).mono ?_ | with_reducible refine (T2 _ (by assumption)).mono ?_); rintro e w8 ⟨rfl, hb⟩; have F9 := Aside0.mk (isB_later F0.out hb rfl); clear F0; have F0 := F9; clear F9)
        | (go_at_call 26; rw [← HD.out]; refine (write_any (w.heap.size + 1) (w.heap.size + 1) _ (bs (hdT v cs.length)) _ F0.out (by rw [Lib.byteCells_length, bs_size]; have := HHL.out; simp; omega) (by have hA := ‹_ ∧ _ ∧ Aside0 (Below (w.heap.size + 1) W0 _)›; exact Nat.le_trans HSZ.out hA.2.2.out.size)).mono ?_; rintro e w8 ⟨rfl, h1, hb, k1⟩; have F9 := Aside0.mk (isB_wrote h1 rfl)))
    all_goals
      go_wp2_with fail
      go_meet
      case rel => exact ⟨⟨by assumption⟩, F9⟩
  case rest =>
    obtain ⟨HC, HD0⟩ := hcut
    have HB := Aside0.mk (HWB.out.trans (HC.out.2.2.out.mono (Nat.le_succ _)))
    have HZ : Aside0 (w.heap.size + 1 ≤ wc.heap.size) := ⟨Nat.le_trans HSZ.out HC.out.2.2.out.size⟩
    have p1 := HC.out.1
    clear HS HW0 T1 T2 HD HDe o1 o2 o3 o4 ex1 ex2 HC F0 HEW HSZ
    have HHL2 := HHL.out
    generalize hdT v cs.length = H at *
    go_wp2
    clear p1
    go_loopg [23] cs.length (fun gk v23 w' => ∃ j : Nat, v23 = .int .i64 (j : Int) ∧ j + gk = cs.length ∧ Aside0 (isB (w.heap.size + 1) (H ++ clsT (cs.take j)) w') ∧ Aside0 (Below w.heap.size w w') ∧ Aside0 (w.heap.size + 1 ≤ w'.heap.size))
    case atStart => exact ⟨0, rfl, by omega, ⟨by simpa [clsT] using HD0.out⟩, HB, HZ⟩
    case round =>
      clear HB HD0 HZ
      obtain ⟨j, rfl, hj, HD, HB, HZ⟩ := hrel
      by_cases hjl : j < cs.length
      · obtain ⟨ad, A1, c1, rfl, hx, hl1, hi1⟩ := at_clause HR.out j hjl
        replace hx := (HB.out.cell (World.block_lt_of_cell? w _ hx)).trans hx
        have HI := Aside0.mk hi1
        have HLS := Aside0.mk (HL.out _ (nth_mem hjl []))
        have hm := Kd.C_max hi1
        have q1 : ((j : Int) < (cs.length : Int)) = True := eq_true (by omega)
        have q2 : (0 ≤ (j : Int)) = True := eq_true (by omega)
        have HT := Aside0.mk (cls_snoc hjl)
        have HXJ : Aside0 ((H ++ clsT (cs.take (j + 1))).length ≤ 140737488355328) := ⟨by
          have h1 := HX.out
          have h2 := flat_take_le (fun c => litsT c ++ [48, 10]) cs (j + 1)
          rw [List.length_append] at h1 ⊢
          unfold clsT at h1 ⊢
          omega⟩
        rw [HT.out] at HXJ
        clear hi1
        generalize nth cs [] j = d at *
        generalize clsT (cs.take j) = Z at *
        go_wp2
        go_loopg [29] d.length (fun gk2 v29 w' => ∃ k : Nat, v29 = .int .i64 (k : Int) ∧ k + gk2 = d.length ∧ Aside0 (isB (w.heap.size + 1) (H ++ (Z ++ litsT (d.take k))) w') ∧ Aside0 (Below w.heap.size w w') ∧ Aside0 (w.heap.size + 1 ≤ w'.heap.size))
        case atStart => exact ⟨0, rfl, by omega, ⟨by simpa [litsT] using HD.out⟩, HB, HZ⟩
        case round =>
          clear HB HD HZ hx
          obtain ⟨k, rfl, hk, HD, HB, HZ⟩ := hrel
          by_cases hkl : k < d.length
          · obtain ⟨ad2, rfl, hy⟩ := at_num HI.out k hkl
            replace hy := (HB.out.cell (World.block_lt_of_cell? w _ hy)).trans hy
            have hyb := HLS.out _ (nth_mem hkl 0)
            have q1 : ((k : Int) < (d.length : Int)) = True := eq_true (by omega)
            have q2 : (0 ≤ (k : Int)) = True := eq_true (by omega)
            have HS := Aside0.mk (lits_snoc hkl)
            have hlen : (H ++ (Z ++ litsT (d.take k))).length + ((Lib.itoa (nth d 0 k)).length + 1) ≤ 140737488355328 := by
              have h1 := HXJ.out
              have h2 := flat_take_le (fun l => Lib.itoa l ++ [32]) d (k + 1)
              have h3 := HS.out
              have h4 := congrArg List.length h3
              unfold litsT at h1 h4
              simp only [List.length_append, List.length_cons, List.length_nil] at h1 h4
              unfold litsT
              simp only [List.length_append]
              omega
            have HLN := Aside0.mk hlen
            generalize nth d 0 k = y at *
            have C := itoa_any y (by omega) (by omega) wr (HE.out.below HB.out)
            have C2 : Calls Tryz.prog 14 #[.int .i64 y] wr (Said wr (.string (bs (Lib.itoa y)))) := C
            have HCAT : Aside0 (bs (Lib.itoa y) ++ ⟨#[32]⟩ = bs (Lib.itoa y ++ [32])) := ⟨by show bs _ ++ bs [32] = _; rw [bs_add]⟩
            have o1 : (9223372036854775807 < (bs (Lib.itoa y)).size + 1) = False := eq_false (by rw [bs_size]; omega)
            clear C hlen
            generalize bs (Lib.itoa y) = Y at *
            go_wp2_with (first
              | (go_at_call 14; refine C2.mono ?_; rintro e w8 ⟨rfl, hb⟩; have HD2 := Aside0.mk (isB_later HD.out hb rfl); have HZ2 := Aside0.mk (Nat.le_trans HZ.out hb.size); clear HD HZ; have HD := HD2; have HZ := HZ2; clear HD2 HZ2; have HB2 := Aside0.mk (below_step (by repeat (first | (with_reducible first | exact HB.out | apply below_alloc | apply pw_below_drewN | apply below_drew1) | exact HB.out)) hb); clear HB; have HB := HB2; clear HB2 hb)
              | (go_at_call 26; rw [HCAT.out]; refine (write_any (w.heap.size + 1) (w.heap.size + 1) _ (bs (Lib.itoa y ++ [32])) _ HD.out (by rw [Lib.byteCells_length, bs_size]; have := HLN.out; simp only [List.length_append, List.length_cons, List.length_nil] at this ⊢; omega) HZ.out).mono ?_; rintro e w9 ⟨rfl, h1, hb1, -⟩; have HD2 := Aside0.mk (isB_wrote (y := H ++ (Z ++ litsT (d.take (k + 1)))) h1 (by rw [HS.out]; simp)); have HZ2 := Aside0.mk (Nat.le_trans HZ.out hb1.size); have HB2 := Aside0.mk (HB.out.trans (hb1.mono (Nat.le_succ _))); clear HD HZ HB h1 hb1; have HD := HD2; have HZ := HZ2; have HB := HB2; clear HD2 HZ2 HB2))
            go_roundg (d.length - (k + 1))
            case measure => omega
            case rel => exact ⟨k + 1, by go_num, by omega, HD, HB, HZ⟩
          · have q1 : ((k : Int) < (d.length : Int)) = False := eq_false (by omega)
            have ht : d.take k = d := List.take_of_length_le (by omega)
            rw [ht] at HD
            have hlen : (H ++ (Z ++ litsT d)).length + 2 ≤ 140737488355328 := by
              have h1 := HXJ.out
              simp only [List.length_append, List.length_cons, List.length_nil] at h1 ⊢
              omega
            have HLN := Aside0.mk hlen
            clear ht hlen
            go_wp2_with (go_at_call 26; refine (write_any (w.heap.size + 1) (w.heap.size + 1) _ (bs [48, 10]) _ HD.out (by rw [Lib.byteCells_length, bs_size]; have := HLN.out; simp only [List.length_append, List.length_cons, List.length_nil] at this ⊢; omega) HZ.out).mono ?_; rintro e w9 ⟨rfl, h1, hb1, -⟩; have HD2 := Aside0.mk (isB_wrote (y := H ++ clsT (cs.take (j + 1))) h1 (by rw [HT.out]; simp)); have HZ2 := Aside0.mk (Nat.le_trans HZ.out hb1.size); have HB2 := Aside0.mk (HB.out.trans (hb1.mono (Nat.le_succ _))); clear HD HZ HB h1 hb1; have HD := HD2; have HZ := HZ2; have HB := HB2; clear HD2 HZ2 HB2)
            go_roundg (cs.length - (j + 1))
            case measure => omega
            case rel => exact ⟨j + 1, by go_num, by omega, HD, HB, HZ⟩
      · have q1 : ((j : Int) < (cs.length : Int)) = False := eq_false (by omega)
        have ht : cs.take j = cs := List.take_of_length_le (by omega)
        rw [ht] at HD
        go_wp2_with (go_at_call 27; refine (Tryz.Builder_String_any_k (w.heap.size + 1) (w.heap.size + 1) _ _ HD.out HZ.out).mono ?_; rintro e wb ⟨rfl, h1, b1, k1⟩; have HB2 := Aside0.mk (HB.out.trans (b1.mono (Nat.le_succ _))); clear HB; have HB := HB2; clear HB2)
        go_ret
        exact ⟨rfl, HB.out⟩
end Go.Proofs.YtdbdilajjmijaaaGreatDoor
