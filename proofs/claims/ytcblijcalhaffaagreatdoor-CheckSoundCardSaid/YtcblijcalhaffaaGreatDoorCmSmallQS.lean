import Derived.Test.YtcblijcalhaffaaGreatDoorCmLitsQS
namespace Go.Proofs.YtcblijcalhaffaaGreatDoor
open Go Go.BigFrame Go.RowKit Go.Proofs.YtcblijcalhaffaaGreatDoorW.PrintWords Go.Proofs.YtcblijcalhaffaaGreatDoorW.PrintLast Go.Proofs.YtcblijcalhaffaaGreatDoorW.PrintMore PCheckSound
open Go.Sort Go.Shelf
attribute [local go_sem] Oper.semAt_some

/-! law08.small. -/
def smallB (l : List S86) : Bool := l.all (fun s => decide (s.f1.length ≤ 10)) && decide (l.length ≤ 30)
theorem at_raws {w : World} {A : Option Addr} {n : Nat} {xs : List S86} (h : Kd.C k86 w A n xs) (j : Nat) (hj : j < n) : ∃ ad A1 c1, A = some ad ∧ w.cell? (ad.add (j * 3)) = some (.bool (nth xs z86 j).f0) ∧ w.cell? ⟨(ad.add (j * 3)).block, (ad.add (j * 3)).off + 1, none⟩ = some (.slice A1 (nth xs z86 j).f1.length c1) ∧ w.cell? ⟨(ad.add (j * 3)).block, (ad.add (j * 3)).off + 2, none⟩ = some (.int .u8 (nth xs z86 j).f2) ∧ (nth xs z86 j).f1.length ≤ c1 ∧ (Kd.int .i16).C w A1 (nth xs z86 j).f1.length (nth xs z86 j).f1 := by
  obtain ⟨ad, A1, c1, h1, h2, h3, h4, h5⟩ := at_T86 h (j : Int) (by omega) (by omega)
  exact ⟨ad, A1, c1, h1, h2, h3, h4, h5.1, h5.2⟩
set_option maxRecDepth 100000 in
set_option maxHeartbeats 4000000 in
theorem small_any (A : Option Addr) (c : Nat) (l : List S86) (w : World) (hr : Kd.C k86 w A l.length l) (hl : l.length ≤ 140737488355328) (hs : ∀ s ∈ l, s.f1.length ≤ 140737488355328) :
    Calls Tryz.prog 20 #[.slice A l.length c] w (Said w (.bool (smallB l))) := by
  have hu := Tryz.underlying86
  have HR := Aside0.mk hr
  have HS := Aside0.mk hs
  clear hr hs
  have HB := Aside0.mk (Below.refl w.heap.size w)
  go_enter Tryz.func20, Tryz.ntmps20
  go_wp2
  go_loopg [7] l.length (fun gk v7 w' => ∃ j : Nat, v7 = .int .i64 j ∧ j + gk = l.length ∧ Aside0 ((l.take j).all (fun s => decide (s.f1.length ≤ 10)) = true) ∧ Aside0 (Below w.heap.size w w'))
  case atStart => exact ⟨0, rfl, by omega, ⟨rfl⟩, HB⟩
  case round =>
    clear HB
    obtain ⟨j, rfl, hj, HA, HB⟩ := hrel
    by_cases hjl : j < l.length
    · obtain ⟨ad, A1, c1, e0, hx0, hx1, hx2, hl1, hi1⟩ := at_raws HR.out j hjl
      cases e0
      replace hx0 := (HB.out.cell (World.block_lt_of_cell? w _ hx0)).trans hx0
      replace hx1 := (HB.out.cell (World.block_lt_of_cell? w _ hx1)).trans hx1
      replace hx2 := (HB.out.cell (World.block_lt_of_cell? w _ hx2)).trans hx2
      have hsz := HS.out _ (nth_mem hjl z86)
      have hT := Aside0.mk (take_snoc hjl z86)
      have HN := Aside0.mk (nth_mem hjl z86)
      have q1 : ((j : Int) < (l.length : Int)) = True := eq_true (by omega)
      have q2 : (0 ≤ (j : Int)) = True := eq_true (by omega)
      clear hi1 hl1
      by_cases hbig : 10 < (nth l z86 j).f1.length
      · have q3 : ((10 : Int) < ((nth l z86 j).f1.length : Int)) = True := eq_true (by omega)
        go_wp2_with (first | ((with_reducible refine gate_dst (N := 4) rfl ?_); refine box_event ?hg (N := 4) ?hd (cs := #[.bool false, .slice none 0 0, .int .u8 0]) (t := 86) ?hr ?_; (case hd => rfl); (case hg => rfl); (case hr => first | (go_simp; done) | (go_simp; rfl)); intro gb hg w5 hbox hb; have GE := Aside0.mk ((by rw [hg]; exact (below_size (by repeat (first | (with_reducible first | exact HB.out | apply below_alloc | apply pw_below_drewN | apply below_drew1) | exact HB.out)))) : w.heap.size ≤ gb); have GN := Aside0.mk hg; have HW5 := Aside0.mk hb; have n0_ := Aside0.mk (below_step (by repeat (first | (with_reducible first | exact HB.out | apply below_alloc | apply pw_below_drewN | apply below_drew1) | exact HB.out)) hb); have BK := Aside0.mk hbox; clear HB; have HB := n0_; clear n0_ hb hbox hg; have hcz0 : w5.cell? ⟨gb, 0, none⟩ = some (.bool false) := (blk_cell BK.out 0).trans rfl; have hcz1 : w5.cell? ⟨gb, 1, none⟩ = some (.slice none 0 0) := (blk_cell BK.out 1).trans rfl; have hcz2 : w5.cell? ⟨gb, 2, none⟩ = some (.int .u8 0) := (blk_cell BK.out 2).trans rfl; have hfz2 := blk_frozen BK.out 2; have hfz0 := blk_frozen BK.out 0; have hfz1 := blk_frozen BK.out 1))
        go_ret
        refine ⟨?_, (by repeat (first | (with_reducible first | exact HB.out | apply below_alloc | apply pw_below_drewN | apply below_drew1 | refine below_set ?_ GE.out | refine below_set ?_ GX.out) | exact HB.out))⟩
        have : smallB l = false := by
          unfold smallB
          rw [Bool.and_eq_false_iff]
          left
          rw [List.all_eq_false]
          exact ⟨_, HN.out, by simp; omega⟩
        rw [this]; rfl
      · have q3 : ((10 : Int) < ((nth l z86 j).f1.length : Int)) = False := eq_false (by omega)
        go_wp2_with (first | ((with_reducible refine gate_dst (N := 4) rfl ?_); refine box_event ?hg (N := 4) ?hd (cs := #[.bool false, .slice none 0 0, .int .u8 0]) (t := 86) ?hr ?_; (case hd => rfl); (case hg => rfl); (case hr => first | (go_simp; done) | (go_simp; rfl)); intro gb hg w5 hbox hb; have GE := Aside0.mk ((by rw [hg]; exact (below_size (by repeat (first | (with_reducible first | exact HB.out | apply below_alloc | apply pw_below_drewN | apply below_drew1) | exact HB.out)))) : w.heap.size ≤ gb); have GN := Aside0.mk hg; have HW5 := Aside0.mk hb; have n0_ := Aside0.mk (below_step (by repeat (first | (with_reducible first | exact HB.out | apply below_alloc | apply pw_below_drewN | apply below_drew1) | exact HB.out)) hb); have BK := Aside0.mk hbox; clear HB; have HB := n0_; clear n0_ hb hbox hg; have hcz0 : w5.cell? ⟨gb, 0, none⟩ = some (.bool false) := (blk_cell BK.out 0).trans rfl; have hcz1 : w5.cell? ⟨gb, 1, none⟩ = some (.slice none 0 0) := (blk_cell BK.out 1).trans rfl; have hcz2 : w5.cell? ⟨gb, 2, none⟩ = some (.int .u8 0) := (blk_cell BK.out 2).trans rfl; have hfz2 := blk_frozen BK.out 2; have hfz0 := blk_frozen BK.out 0; have hfz1 := blk_frozen BK.out 1))
        go_roundg (l.length - (j + 1))
        case measure => omega
        case rel =>
          refine ⟨j + 1, by go_num, by omega, ⟨?_⟩, ⟨(by repeat (first | (with_reducible first | exact HB.out | apply below_alloc | apply pw_below_drewN | apply below_drew1 | refine below_set ?_ GE.out | refine below_set ?_ GX.out) | exact HB.out))⟩⟩
          rw [hT.out, List.all_append, HA.out, List.all_cons, List.all_nil]
          simp; omega
    · have q1 : ((j : Int) < (l.length : Int)) = False := eq_false (by omega)
      have hA := HA.out
      rw [List.take_of_length_le (by omega)] at hA
      have e : smallB l = decide (l.length ≤ 30) := by unfold smallB; rw [hA]; rfl
      have HE := Aside0.mk e
      clear HA hA e
      by_cases h30 : l.length ≤ 30
      · have q3 : ((l.length : Int) ≤ 30) = True := eq_true (by omega)
        go_wp2
        go_ret
        exact ⟨by rw [HE.out]; simp [h30], HB.out⟩
      · have q3 : ((l.length : Int) ≤ 30) = False := eq_false (by omega)
        go_wp2
        go_ret
        exact ⟨by rw [HE.out]; simp [h30], HB.out⟩
end Go.Proofs.YtcblijcalhaffaaGreatDoor
