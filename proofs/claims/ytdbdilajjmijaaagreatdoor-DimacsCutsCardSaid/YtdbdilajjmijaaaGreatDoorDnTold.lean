import Derived.Test.YtdbdilajjmijaaaGreatDoorDnBuild
import Derived.Deep.RegionHeld3
import Derived.OrdersHeld
namespace Go.Proofs.YtdbdilajjmijaaaGreatDoor
open Go Go.RowKit Go.Proofs.YtdbdilajjmijaaaGreatDoorW.PrintWords Go.Proofs.YtdbdilajjmijaaaGreatDoorW.PrintLast Go.Proofs.YtdbdilajjmijaaaGreatDoorW.PrintMore PDimacsCuts

/-! told, Print: formulas' texts. -/
theorem at_clause {w : World} {A : Option Addr} {n : Nat} {cs : List (List Int)} (h : Kd.C kForm w A n cs) (j : Nat) (hj : j < n) : ∃ ad A1 c1, A = some ad ∧ w.cell? (ad.add j) = some (.slice A1 (nth cs [] j).length c1) ∧ (nth cs [] j).length ≤ c1 ∧ Kd.C (Kd.int .i64) w A1 (nth cs [] j).length (nth cs [] j) := by
  obtain ⟨ad, A1, c1, h1, h2, h3, h4⟩ := at_L1 h (j : Int) (by omega) (by omega)
  exact ⟨ad, A1, c1, h1, h2, h3, h4⟩
def clsT (cs : List (List Int)) : List UInt8 := cs.flatMap fun c => litsT c ++ [48, 10]
def hdT (v n : Nat) : List UInt8 := headT v n ++ [10]
theorem formT_eq (v : Nat) (cs : List (List Int)) : formT v cs = hdT v cs.length ++ clsT cs := by
  unfold formT hdT clsT
  congr 2
  funext c
  simp [clauseT, litsT]
theorem flat_take_le {α β : Type} (f : α → List β) (xs : List α) (j : Nat) : ((xs.take j).flatMap f).length ≤ (xs.flatMap f).length := by
  have h := congrArg (fun l => (l.flatMap f).length) (List.take_append_drop j xs)
  simp only [List.flatMap_append, List.length_append] at h
  omega
theorem lits_snoc {l : List Int} {j : Nat} (h : j < l.length) : litsT (l.take (j + 1)) = litsT (l.take j) ++ (Lib.itoa (nth l 0 j) ++ [32]) := by
  unfold litsT
  rw [take_snoc h 0, List.flatMap_append]
  simp
theorem cls_snoc {l : List (List Int)} {j : Nat} (h : j < l.length) : clsT (l.take (j + 1)) = clsT (l.take j) ++ litsT (nth l [] j) ++ [48, 10] := by
  unfold clsT
  rw [take_snoc h [], List.flatMap_append]
  simp
theorem bs_add (a b : List UInt8) : bs a ++ bs b = bs (a ++ b) := by
  apply ByteArray.ext
  simp [bs, ByteArray.data_append]
theorem itoa_len_small (n : Int) (h0 : -1000000000 ≤ n) (h1 : n ≤ 1000000000) : (Lib.itoa n).length ≤ 12 := by
  unfold Lib.itoa
  split
  · have := dec_len 10 n.natAbs (by omega)
    simp; omega
  · have := dec_len 10 n.toNat (by omega)
    omega

theorem keepF {gb : Nat} {x y : Value} {W0 w' w8 : World} (h : w'.cell? ⟨gb, 0, none⟩ = some x ∧ w'.cell? ⟨gb, 1, none⟩ = some y ∧ Aside0 (Env w') ∧ Aside0 (Below W0.heap.size W0 w')) (hb : Below w'.heap.size w' w8) :
    w8.cell? ⟨gb, 0, none⟩ = some x ∧ w8.cell? ⟨gb, 1, none⟩ = some y ∧ Aside0 (Env w8) ∧ Aside0 (Below W0.heap.size W0 w8) :=
  ⟨(hb.cell (World.block_lt_of_cell? _ _ h.1)).trans h.1, (hb.cell (World.block_lt_of_cell? _ _ h.2.1)).trans h.2.1, ⟨h.2.2.1.out.below hb⟩, ⟨below_step h.2.2.2.out hb⟩⟩

set_option maxRecDepth 100000 in
set_option maxHeartbeats 8000000 in
theorem told_any (A : Option Addr) (c : Nat) (v : Nat) (cs : List (List Int)) (w : World) (hr : Kd.C kForm w A cs.length cs) (hv : v ≤ 1000000000) (hn : cs.length ≤ 1000000000) (hl : ∀ d ∈ cs, ∀ l ∈ d, -1000000000 ≤ l ∧ l ≤ 1000000000) (hX : (formT v cs).length ≤ 140737488355328) (E : Env w) :
    Calls Tryz.prog 7 #[.agg #[.int .i64 (v : Int), .slice A cs.length c]] w (Said w (.string (bs (formT v cs)))) := by
  have hu := Tryz.underlying29
  rw [formT_eq] at hX ⊢
  have HR := Aside0.mk hr
  have HE := Aside0.mk E
  have HL := Aside0.mk hl
  have HX := Aside0.mk hX
  have ex1 := itoa_len_small (v : Int) (by omega) (by omega)
  have ex2 := itoa_len_small (cs.length : Int) (by omega) (by omega)
  have HD : Aside0 (bs (hdT v cs.length) = ⟨#[112, 32, 99, 110, 102, 32]⟩ ++ bs (Lib.itoa (v : Int)) ++ ⟨#[32]⟩ ++ bs (Lib.itoa (cs.length : Int)) ++ ⟨#[10]⟩) := ⟨by
    show _ = bs [112, 32, 99, 110, 102, 32] ++ bs _ ++ bs [32] ++ bs _ ++ bs [10]
    rw [bs_add, bs_add, bs_add, bs_add]; rfl⟩
  obtain ⟨W0, hW0⟩ : ∃ W0, W0 = w.alloc (.cells #[.int .i64 (v : Int), .slice A cs.length c] 29) := ⟨_, rfl⟩
  have hwb : Below w.heap.size w W0 := by rw [hW0]; exact (Below.refl _ w).alloc (Nat.le_refl _) _
  have hbx : W0.heap[w.heap.size]? = some (.cells #[.int .i64 (v : Int), .slice A cs.length c] 29 (0, 0)) := by rw [hW0]; exact heap_alloc_new w _
  have HS : Aside0 (W0.cell? ⟨w.heap.size, 0, none⟩ = some (.int .i64 (v : Int)) ∧ W0.cell? ⟨w.heap.size, 1, none⟩ = some (.slice A cs.length c) ∧ Aside0 (Env W0) ∧ Aside0 (Below W0.heap.size W0 W0)) :=
    ⟨(blk_cell hbx 0).trans rfl, (blk_cell hbx 1).trans rfl, ⟨E.below hwb⟩, ⟨Below.refl _ _⟩⟩
  have HWB := Aside0.mk hwb
  have HW0 := Aside0.mk hW0
  have T1 : ∀ W, (W.cell? ⟨w.heap.size, 0, none⟩ = some (.int .i64 (v : Int)) ∧ W.cell? ⟨w.heap.size, 1, none⟩ = some (.slice A cs.length c) ∧ Aside0 (Env W) ∧ Aside0 (Below W0.heap.size W0 W)) → Calls Tryz.prog 14 #[.int .i64 (v : Int)] W (Said W (.string (bs (Lib.itoa (v : Int))))) := fun W e => itoa_any _ (by omega) (by omega) W e.2.2.1.out
  have T2 : ∀ W, (W.cell? ⟨w.heap.size, 0, none⟩ = some (.int .i64 (v : Int)) ∧ W.cell? ⟨w.heap.size, 1, none⟩ = some (.slice A cs.length c) ∧ Aside0 (Env W) ∧ Aside0 (Below W0.heap.size W0 W)) → Calls Tryz.prog 14 #[.int .i64 (cs.length : Int)] W (Said W (.string (bs (Lib.itoa (cs.length : Int))))) := fun W e => itoa_any _ (by omega) (by omega) W e.2.2.1.out
  rw [← bs_size] at ex1 ex2
  clear hr E hl hX hv hW0 hwb hbx
  generalize bs (Lib.itoa (v : Int)) = X1 at *
  generalize bs (Lib.itoa (cs.length : Int)) = X2 at *
  go_enter Tryz.func7, Tryz.ntmps7
  have o1 : (9223372036854775807 < 6 + X1.size) = False := eq_false (by omega)
  have o2 : (9223372036854775807 < 6 + X1.size + 1) = False := eq_false (by omega)
  have o3 : (9223372036854775807 < 6 + X1.size + 1 + X2.size) = False := eq_false (by omega)
  have o4 : (9223372036854775807 < 6 + X1.size + 1 + X2.size + 1) = False := eq_false (by omega)
  go_upto_region 1 with (fail)
  rw [← HW0.out]
  go_cut [3] (fun s3 wx => s3 = .string (bs (hdT v cs.length)) ∧ Aside0 (wx.cell? ⟨w.heap.size, 0, none⟩ = some (.int .i64 (v : Int)) ∧ wx.cell? ⟨w.heap.size, 1, none⟩ = some (.slice A cs.length c) ∧ Aside0 (Env wx) ∧ Aside0 (Below W0.heap.size W0 wx)))
  case first =>
    go_region_held (fun w' => w'.cell? ⟨w.heap.size, 0, none⟩ = some (.int .i64 (v : Int)) ∧ w'.cell? ⟨w.heap.size, 1, none⟩ = some (.slice A cs.length c) ∧ Aside0 (Env w') ∧ Aside0 (Below W0.heap.size W0 w'))
      (first | assumption | exact keepF HS.out (pw_below_drewN (Below.refl _ _) 1) | exact keepF (by assumption) hb)
      (first | (go_at_call 14; (first | with_reducible refine (T1 _ (by assumption)).mono ?_ | with_reducible refine (T2 _ (by assumption)).mono ?_); rintro e w8 ⟨rfl, hb⟩))
    all_goals
      go_wp2_with fail
      go_meet
      case rel => exact ⟨by rw [HD.out], ⟨by assumption⟩⟩
  case rest =>
    obtain ⟨rfl, HC⟩ := hcut
    have HB := Aside0.mk (HWB.out.trans (HC.out.2.2.2.out.mono HWB.out.size))
    have p1 := HC.out.2.1
    clear HS HW0 T1 T2 HD o1 o2 o3 o4 ex1 ex2 HC
    generalize hdT v cs.length = H at *
    go_wp2
    clear p1
    go_loopg [22, 3] cs.length (fun gk v22 v3 w' => ∃ j : Nat, v22 = .int .i64 (j : Int) ∧ j + gk = cs.length ∧ v3 = .string (bs (H ++ clsT (cs.take j))) ∧ Aside0 (Below w.heap.size w w'))
    case atStart => exact ⟨0, rfl, by omega, by simp [clsT], HB⟩
    case round =>
      clear HB
      obtain ⟨j, rfl, hj, rfl, HB⟩ := hrel
      by_cases hjl : j < cs.length
      · obtain ⟨ad, A1, c1, rfl, hx, hl1, hi1⟩ := at_clause HR.out j hjl
        replace hx := (HB.out.cell (World.block_lt_of_cell? w _ hx)).trans hx
        have HI := Aside0.mk hi1
        have HLS := Aside0.mk (HL.out _ (nth_mem hjl []))
        have hm := Kd.C_max hi1
        have q1 : ((j : Int) < (cs.length : Int)) = True := eq_true (by omega)
        have q2 : (0 ≤ (j : Int)) = True := eq_true (by omega)
        have HT := Aside0.mk (cls_snoc hjl)
        have HXJ : Aside0 ((H ++ clsT (cs.take (j + 1))).length ≤ 140737488355328) := ⟨by
          have h1 := HX.out
          have h2 := flat_take_le (fun c => litsT c ++ [48, 10]) cs (j + 1)
          rw [List.length_append] at h1 ⊢
          unfold clsT at h1 ⊢
          omega⟩
        rw [HT.out] at HXJ
        clear hi1
        generalize nth cs [] j = d at *
        generalize clsT (cs.take j) = Z at *
        go_wp2
        go_loopg [28, 3] d.length (fun gk2 v28 v3 w' => ∃ k : Nat, v28 = .int .i64 (k : Int) ∧ k + gk2 = d.length ∧ v3 = .string (bs (H ++ (Z ++ litsT (d.take k)))) ∧ Aside0 (Below w.heap.size w w'))
        case atStart => exact ⟨0, rfl, by omega, by simp [litsT], HB⟩
        case round =>
          clear HB hx
          obtain ⟨k, rfl, hk, rfl, HB⟩ := hrel
          by_cases hkl : k < d.length
          · obtain ⟨ad2, rfl, hy⟩ := at_num HI.out k hkl
            replace hy := (HB.out.cell (World.block_lt_of_cell? w _ hy)).trans hy
            have hyb := HLS.out _ (nth_mem hkl 0)
            have q1 : ((k : Int) < (d.length : Int)) = True := eq_true (by omega)
            have q2 : (0 ≤ (k : Int)) = True := eq_true (by omega)
            have HS := Aside0.mk (lits_snoc hkl)
            have hlen : (bs (H ++ (Z ++ litsT (d.take k)))).size + ((bs (Lib.itoa (nth d 0 k))).size + 1) ≤ 140737488355328 := by
              have h1 := HXJ.out
              have h2 := flat_take_le (fun l => Lib.itoa l ++ [32]) d (k + 1)
              have h3 := HS.out
              have h4 := congrArg List.length h3
              unfold litsT at h1 h4
              simp only [List.length_append, List.length_cons, List.length_nil] at h1 h4
              rw [bs_size, bs_size]
              unfold litsT
              simp only [List.length_append]
              omega
            generalize nth d 0 k = y at *
            have C := itoa_any y (by omega) (by omega) wr (HE.out.below HB.out)
            have hcat : bs (H ++ (Z ++ litsT (d.take k))) ++ (bs (Lib.itoa y) ++ ⟨#[32]⟩) = bs (H ++ (Z ++ litsT (d.take (k + 1)))) := by
              show bs _ ++ (bs _ ++ bs [32]) = _
              rw [bs_add, bs_add, HS.out]
              simp
            have HCAT := Aside0.mk hcat
            have C2 : Calls Tryz.prog 14 #[.int .i64 y] wr (Said wr (.string (bs (Lib.itoa y)))) := C
            clear C hcat HS
            generalize bs (Lib.itoa y) = Y at *
            generalize bs (H ++ (Z ++ litsT (d.take k))) = P at *
            have o1 : (9223372036854775807 < Y.size + 1) = False := eq_false (by omega)
            have o2 : (9223372036854775807 < P.size + (Y.size + 1)) = False := eq_false (by omega)
            clear hlen
            go_wp2_with (go_at_call 14; refine C2.mono ?_; rintro e w8 ⟨rfl, hb⟩; have HB2 := Aside0.mk (below_step (by repeat (first | (with_reducible first | exact HB.out | apply below_alloc | apply pw_below_drewN | apply below_drew1) | exact HB.out)) hb); clear HB; have HB := HB2; clear HB2 hb)
            go_roundg (d.length - (k + 1))
            case measure => omega
            case rel => exact ⟨k + 1, by go_num, by omega, by rw [HCAT.out], HB⟩
          · have q1 : ((k : Int) < (d.length : Int)) = False := eq_false (by omega)
            have ht : d.take k = d := List.take_of_length_le (by omega)
            rw [ht]
            have hcat : bs (H ++ (Z ++ litsT d)) ++ ⟨#[48, 10]⟩ = bs (H ++ clsT (cs.take (j + 1))) := by
              show bs _ ++ bs [48, 10] = _
              rw [bs_add, HT.out]
              simp
            have hlen : (bs (H ++ (Z ++ litsT d))).size + 2 ≤ 140737488355328 := by
              have h1 := HXJ.out
              rw [bs_size]
              simp only [List.length_append, List.length_cons, List.length_nil] at h1 ⊢
              omega
            have HCAT := Aside0.mk hcat
            clear hcat ht
            generalize bs (H ++ (Z ++ litsT d)) = P at *
            have o1 : (9223372036854775807 < P.size + 2) = False := eq_false (by omega)
            clear hlen
            go_wp2
            go_roundg (cs.length - (j + 1))
            case measure => omega
            case rel => exact ⟨j + 1, by go_num, by omega, by rw [HCAT.out], HB⟩
      · have q1 : ((j : Int) < (cs.length : Int)) = False := eq_false (by omega)
        have ht : cs.take j = cs := List.take_of_length_le (by omega)
        rw [ht]
        generalize bs (H ++ clsT cs) = P at *
        go_wp2
        go_ret
        exact ⟨rfl, HB.out⟩
end Go.Proofs.YtdbdilajjmijaaaGreatDoor
