import Derived.Test.YtefppfgcgcfleaaDoorDrBuild
namespace Go.Proofs.YtefppfgcgcfleaaDoor
open Go Go.RowKit Go.Proofs.YtefppfgcgcfleaaDoorW.PrintWords Go.Proofs.YtefppfgcgcfleaaDoorW.PrintLast Go.Proofs.YtefppfgcgcfleaaDoorW.PrintMore PDratJoins

def txt (l : List S36) : List UInt8 := textT (l.map toP)
def dT (d : Bool) : List UInt8 := if d then [100, 32] else []
theorem take_flat_le {α β : Type} (f : α → List β) (xs : List α) (j : Nat) : ((xs.take j).flatMap f).length ≤ (xs.flatMap f).length := by
  have h := congrArg (fun l => (l.flatMap f).length) (List.take_append_drop j xs)
  simp only [List.flatMap_append, List.length_append] at h
  omega
theorem txt_snoc {l : List S36} {j : Nat} (h : j < l.length) : txt (l.take (j + 1)) = txt (l.take j) ++ dT (nth l z36 j).f0 ++ litsT (nth l z36 j).f1 ++ [48, 10] := by
  unfold txt
  rw [take_snoc h z36, List.map_append, textT_append]
  simp [textT, lineT, toP, dT, List.append_assoc]
theorem txt_le (l : List S36) (j : Nat) : (txt (l.take j)).length ≤ (txt l).length := by
  unfold txt textT
  rw [List.map_take]
  exact take_flat_le _ _ _
theorem lits_snoc {l : List Int} {j : Nat} (h : j < l.length) : litsT (l.take (j + 1)) = litsT (l.take j) ++ (Lib.itoa (nth l 0 j) ++ [32]) := by
  unfold litsT
  rw [take_snoc h 0, List.flatMap_append]
  simp
theorem lits_le (l : List Int) (j : Nat) : (litsT (l.take j)).length ≤ (litsT l).length := take_flat_le _ _ _
theorem bytes_add (a b : List UInt8) : (⟨a.toArray⟩ : ByteArray) ++ (⟨b.toArray⟩ : ByteArray) = ⟨(a ++ b).toArray⟩ := by
  apply ByteArray.ext
  simp [ByteArray.data_append]
theorem strCells_list (a : List UInt8) : Lib.strCells ⟨a.toArray⟩ = Lib.byteCells a := rfl
theorem size_list (a : List UInt8) : (⟨a.toArray⟩ : ByteArray).size = a.length := rfl

set_option maxRecDepth 100000 in
set_option maxHeartbeats 8000000 in
theorem dr_text (A0 : Option Addr) (c0 : Nat) (l0 : List S36) (w : World) (hr : Kd.C k36 w A0 l0.length l0) (_hc : l0.length ≤ c0) (hS : RightS l0) (hX : (txt l0).length ≤ 140737488355328) (E : Env w) :
    Calls Tryd.prog 20 #[.slice A0 l0.length c0] w (Said w (.string ⟨(txt l0).toArray⟩)) := by
  have hm := hr.2.1
  have hu := Tryd.underlying36
  have HR := Aside0.mk hr
  have HE := Aside0.mk E
  have HSS := Aside0.mk hS
  have HXX := Aside0.mk hX
  clear hr _hc hS hX
  have HB0 := Aside0.mk (Below.refl w.heap.size w)
  have h0 : Lib.IsBuilderF 61 5 w.heap.size w.heap.size [] (w.alloc (.cells #[.pointer none, .slice none 0 0] 61)) := Lib.IsBuilderF.of (Lib.fresh_isBuilder 61 5 w)
  have H0 := Aside0.mk h0
  clear h0
  go_enter Tryd.func20, Tryd.ntmps20
  go_wp2
  go_loopg [10] l0.length (fun gk v10 w' => ∃ j : Nat, v10 = .int .i64 j ∧ j + gk = l0.length ∧ Aside0 (Lib.IsBuilderF 61 5 w.heap.size w.heap.size (Lib.byteCells (txt (l0.take j))) w') ∧ Aside0 (Below w.heap.size w w'))
  case atStart => exact ⟨0, rfl, by omega, ⟨builder_below H0.out (Below.refl _ _)⟩, ⟨((Below.refl _ w).alloc (Nat.le_refl _) _)⟩⟩
  case round =>
    clear HB0 H0
    obtain ⟨j, rfl, hj, HD, HB⟩ := hrel
    by_cases hjl : j < l0.length
    · obtain ⟨ad, A1, c1, e0, hx0, hx1, hl1, hi1⟩ := at_step HR.out j hjl
      cases e0
      replace hx0 := (HB.out.cell (World.block_lt_of_cell? w _ hx0)).trans hx0
      replace hx1 := (HB.out.cell (World.block_lt_of_cell? w _ hx1)).trans hx1
      have HI := Aside0.mk hi1
      have hm2 := hi1.2.1
      have HS := Aside0.mk (HSS.out _ (nth_mem hjl z36))
      have q1 : ((j : Int) < (l0.length : Int)) = True := eq_true (by omega)
      have q2 : (0 ≤ (j : Int)) = True := eq_true (by omega)
      have HTx := Aside0.mk (txt_snoc hjl)
      have HX := Aside0.mk (Nat.le_trans (txt_le l0 (j + 1)) HXX.out)
      clear hi1 hl1
      generalize nth l0 z36 j = s at *
      cases hd : s.f0
      · rw [hd] at hx0
        have HTx2 := HTx.out
        rw [hd] at HTx2
        have HTx := Aside0.mk HTx2
        clear HTx2 hd
        go_wp2_with (first | ((with_reducible refine gate_dst (N := 5) rfl ?_); refine box_event ?hg (N := 5) ?hd (cs := #[.bool false, .slice none 0 0]) (t := 36) ?hr ?_; (case hd => rfl); (case hg => rfl); (case hr => first | (go_simp; done) | (go_simp; rfl)); intro gb hg w5 hbox hb; have GE := Aside0.mk ((by rw [hg]; exact (below_size (by repeat (first | (with_reducible first | exact HB.out | apply below_alloc | apply pw_below_drewN | apply below_drew1) | exact HB.out)))) : w.heap.size ≤ gb); have GN := Aside0.mk hg; have HW5 := Aside0.mk hb; have n0_ := Aside0.mk (below_step (by repeat (first | (with_reducible first | exact HB.out | apply below_alloc | apply pw_below_drewN | apply below_drew1) | exact HB.out)) hb); have BK := Aside0.mk hbox; clear HB; have HB := n0_; clear n0_ hb hbox hg; have hcz0 : w5.cell? ⟨gb, 0, none⟩ = some (.bool false) := (blk_cell BK.out 0).trans rfl; have hcz1 : w5.cell? ⟨gb, 1, none⟩ = some (.slice none 0 0) := (blk_cell BK.out 1).trans rfl; have hfz0 := blk_frozen BK.out 0; have hfz1 := blk_frozen BK.out 1))
        go_loopg [20] s.f1.length (fun gk2 v20 w' => ∃ k : Nat, v20 = .int .i64 k ∧ k + gk2 = s.f1.length ∧ Aside0 (Lib.IsBuilderF 61 5 w.heap.size w.heap.size (Lib.byteCells (txt (l0.take j) ++ dT false ++ litsT (s.f1.take k))) w') ∧ Aside0 (Below w.heap.size w w'))
        case atStart => exact ⟨0, rfl, by omega, ⟨by rw [show dT false = [] from rfl, show litsT (s.f1.take 0) = [] from rfl, List.append_nil, List.append_nil]; exact builder_below HD.out (by repeat (first | exact HW5.out | refine below_set ?_ (by rw [GN.out]; exact Nat.le_refl _)))⟩, ⟨(by repeat (first | (with_reducible first | exact HB.out | apply below_alloc | apply pw_below_drewN | apply below_drew1 | refine below_set ?_ GE.out) | exact HB.out))⟩⟩
        case round =>
          clear HB BK GE GN HW5
          (try clear hcz0 hcz1 hfz0 hfz1)
          (try clear HD)
          obtain ⟨k, rfl, hk, HD, HB⟩ := hrel
          by_cases hkl : k < s.f1.length
          · obtain ⟨ad2, e1, hy⟩ := at_num HI.out k hkl
            cases e1
            replace hy := (HB.out.cell (World.block_lt_of_cell? w _ hy)).trans hy
            have q1 : ((k : Int) < (s.f1.length : Int)) = True := eq_true (by omega)
            have q2 : (0 ≤ (k : Int)) = True := eq_true (by omega)
            have hR : RightL (nth s.f1 0 k) := HS.out _ (nth_mem hkl 0)
            have hL := Aside0.mk (lits_snoc hkl)
            have hlen : (txt (l0.take j) ++ dT false ++ litsT (s.f1.take k)).length + (Lib.itoa (nth s.f1 0 k) ++ [32]).length ≤ 140737488355328 := by
              have h1 := lits_le s.f1 (k + 1)
              rw [hL.out] at h1
              have h2 := HX.out
              have h3 := HTx.out
              rw [h3] at h2
              simp only [List.length_append, List.length_cons, List.length_nil] at h1 h2 ⊢
              omega
            unfold RightL at hR
            have HR2 := Aside0.mk hR
            have HL2 := Aside0.mk hlen
            have q3 : (9223372036854775807 < (Lib.itoa (nth s.f1 0 k)).length + 1) = False := eq_false (by simp only [List.length_append, List.length_cons, List.length_nil] at hlen; omega)
            clear hR hlen
            generalize nth s.f1 0 k = y at *
            go_wp2_with (first
              | (go_at_call 26; refine (itoa_any _ (by have := HR2.out; omega) (by have := HR2.out; omega) _ (HE.out.below (by repeat (first | (with_reducible first | exact HB.out | apply below_alloc | apply pw_below_drewN | apply below_drew1) | exact HB.out)))).mono ?_; rintro e wa ⟨rfl, hb⟩; have HD2 := Aside0.mk (builder_below HD.out (by repeat (first | (with_reducible first | exact hb | apply below_alloc | apply pw_below_drewN | apply below_drew1) | exact hb))); clear HD; have HD := HD2; clear HD2; have HB2 := Aside0.mk (below_step (by repeat (first | (with_reducible first | exact HB.out | apply below_alloc | apply pw_below_drewN | apply below_drew1) | exact HB.out)) hb); clear HB; have HB := HB2; clear HB2 hb)
              | (go_at_call 32; rw [bytes_add _ [32]]; go_loud (with_reducible refine (write_any w.heap.size w.heap.size _ ⟨(Lib.itoa y ++ [32]).toArray⟩ _ HD.out (by rw [Lib.byteCells_length, size_list]; exact HL2.out) HB.out.size).mono ?_); rintro e wb ⟨rfl, h1, b1, k1⟩; have HB2 := Aside0.mk (HB.out.trans b1); clear HB; have HB := HB2; clear HB2 HD; have HD : Aside0 (Lib.IsBuilderF 61 5 w.heap.size w.heap.size (Lib.byteCells (txt (l0.take j) ++ dT false ++ litsT (s.f1.take (k + 1)))) wb) := ⟨.inr (by rw [hL.out, ← List.append_assoc, Lib.byteCells_append]; rw [strCells_list] at h1; with_reducible exact h1)⟩; clear h1 b1 k1))
            go_roundg (s.f1.length - (k + 1))
            case measure => omega
            case rel => exact ⟨k + 1, by go_num, by omega, HD, HB⟩
          · have q1 : ((k : Int) < (s.f1.length : Int)) = False := eq_false (by omega)
            have hT2 : s.f1.take k = s.f1 := List.take_of_length_le (by omega)
            have HD2 := HD.out
            rw [hT2] at HD2
            have HD3 := Aside0.mk HD2
            clear HD2 HD hT2
            have hlen : (txt (l0.take j) ++ dT false ++ litsT s.f1).length + 2 ≤ 140737488355328 := by
              have h2 := HX.out
              have h3 := HTx.out
              rw [h3] at h2
              simp only [List.length_append, List.length_cons, List.length_nil] at h2 ⊢
              omega
            have HL2 := Aside0.mk hlen
            clear hlen
            go_wp2_with (first
              | (go_at_call 32; refine (write_any w.heap.size w.heap.size _ ⟨[48, 10].toArray⟩ _ HD3.out (by rw [Lib.byteCells_length, size_list]; exact HL2.out) HB.out.size).mono ?_; rintro e wb ⟨rfl, h1, b1, k1⟩; have HB2 := Aside0.mk (HB.out.trans b1); clear HB; have HB := HB2; clear HB2; have HD : Aside0 (Lib.IsBuilderF 61 5 w.heap.size w.heap.size (Lib.byteCells (txt (l0.take (j + 1)))) wb) := ⟨.inr (by rw [HTx.out, Lib.byteCells_append]; rw [strCells_list] at h1; with_reducible exact h1)⟩; clear h1 b1 k1))
            go_roundg (l0.length - (j + 1))
            case measure => omega
            case rel => exact ⟨j + 1, by go_num, by omega, HD, HB⟩
      · rw [hd] at hx0
        have HTx2 := HTx.out
        rw [hd] at HTx2
        have HTx := Aside0.mk HTx2
        have hlen : (txt (l0.take j)).length + 2 ≤ 140737488355328 := by
          have h2 := HX.out
          rw [HTx2] at h2
          simp only [List.length_append, List.length_cons, List.length_nil] at h2
          omega
        have HL0 := Aside0.mk hlen
        have HWS := Aside0.mk (builder_lt HD.out)
        clear HTx2 hd hlen
        go_wp2_with (first | ((with_reducible refine gate_dst (N := 5) rfl ?_); refine box_event ?hg (N := 5) ?hd (cs := #[.bool false, .slice none 0 0]) (t := 36) ?hr ?_; (case hd => rfl); (case hg => rfl); (case hr => first | (go_simp; done) | (go_simp; rfl)); intro gb hg w5 hbox hb; have GE := Aside0.mk ((by rw [hg]; exact (below_size (by repeat (first | (with_reducible first | exact HB.out | apply below_alloc | apply pw_below_drewN | apply below_drew1) | exact HB.out)))) : w.heap.size ≤ gb); have GN := Aside0.mk hg; have HW5 := Aside0.mk hb; have n0_ := Aside0.mk (below_step (by repeat (first | (with_reducible first | exact HB.out | apply below_alloc | apply pw_below_drewN | apply below_drew1) | exact HB.out)) hb); have BK := Aside0.mk hbox; clear HB; have HB := n0_; clear n0_ hb hbox hg; have hcz0 : w5.cell? ⟨gb, 0, none⟩ = some (.bool false) := (blk_cell BK.out 0).trans rfl; have hcz1 : w5.cell? ⟨gb, 1, none⟩ = some (.slice none 0 0) := (blk_cell BK.out 1).trans rfl; have hfz0 := blk_frozen BK.out 0; have hfz1 := blk_frozen BK.out 1) | (go_at_call 32; refine (write_any w.heap.size w.heap.size _ ⟨[100, 32].toArray⟩ _ (builder_below HD.out (by repeat (first | exact HW5.out | refine below_set ?_ (by rw [GN.out]; exact Nat.le_refl _)))) (by rw [Lib.byteCells_length, size_list]; exact HL0.out) (Nat.le_trans HB.out.size (by simp))).mono ?_))
        rintro e wb ⟨rfl, h1, b1, k1⟩
        have hgb := k1 gb _ (blk_put (cs := #[.bool true, .slice none 0 0]) (blk_put (cs := #[.bool false, .slice none 0 0]) BK.out 0 _ rfl) 1 _ rfl) (by intro h; injection h with h; have := GN.out; have := HWS.out; omega) (by intro c fz h; cases h)
        have HB2 : Aside0 (Below w.heap.size w wb) := ⟨Below.trans (by repeat (first | (with_reducible first | exact HB.out | apply below_alloc | apply pw_below_drewN | apply below_drew1 | refine below_set ?_ GE.out) | exact HB.out)) b1⟩
        clear HB
        have HB := HB2
        clear HB2 HD
        have HD : Aside0 (Lib.IsBuilderF 61 5 w.heap.size w.heap.size (Lib.byteCells (txt (l0.take j) ++ dT true)) wb) := ⟨.inr (by rw [show dT true = [100, 32] from rfl, Lib.byteCells_append]; rw [strCells_list] at h1; with_reducible exact h1)⟩
        have hz1 : wb.cell? ⟨gb, 1, none⟩ = some (.slice A1 s.f1.length c1) := (blk_cell hgb 1).trans rfl
        clear h1 b1 k1 hgb
        go_wp2
        go_loopg [20] s.f1.length (fun gk2 v20 w' => ∃ k : Nat, v20 = .int .i64 k ∧ k + gk2 = s.f1.length ∧ Aside0 (Lib.IsBuilderF 61 5 w.heap.size w.heap.size (Lib.byteCells (txt (l0.take j) ++ dT true ++ litsT (s.f1.take k))) w') ∧ Aside0 (Below w.heap.size w w'))
        case atStart => exact ⟨0, rfl, by omega, ⟨by rw [show litsT (s.f1.take 0) = [] from rfl, List.append_nil]; exact HD.out⟩, ⟨(by repeat (first | (with_reducible first | exact HB.out | apply below_alloc | apply pw_below_drewN | apply below_drew1 | refine below_set ?_ GE.out) | exact HB.out))⟩⟩
        case round =>
          clear HB BK GE GN HW5
          (try clear hcz0 hcz1 hfz0 hfz1)
          (try clear HD)
          obtain ⟨k, rfl, hk, HD, HB⟩ := hrel
          by_cases hkl : k < s.f1.length
          · obtain ⟨ad2, e1, hy⟩ := at_num HI.out k hkl
            cases e1
            replace hy := (HB.out.cell (World.block_lt_of_cell? w _ hy)).trans hy
            have q1 : ((k : Int) < (s.f1.length : Int)) = True := eq_true (by omega)
            have q2 : (0 ≤ (k : Int)) = True := eq_true (by omega)
            have hR : RightL (nth s.f1 0 k) := HS.out _ (nth_mem hkl 0)
            have hL := Aside0.mk (lits_snoc hkl)
            have hlen : (txt (l0.take j) ++ dT true ++ litsT (s.f1.take k)).length + (Lib.itoa (nth s.f1 0 k) ++ [32]).length ≤ 140737488355328 := by
              have h1 := lits_le s.f1 (k + 1)
              rw [hL.out] at h1
              have h2 := HX.out
              have h3 := HTx.out
              rw [h3] at h2
              simp only [List.length_append, List.length_cons, List.length_nil] at h1 h2 ⊢
              omega
            unfold RightL at hR
            have HR2 := Aside0.mk hR
            have HL2 := Aside0.mk hlen
            have q3 : (9223372036854775807 < (Lib.itoa (nth s.f1 0 k)).length + 1) = False := eq_false (by simp only [List.length_append, List.length_cons, List.length_nil] at hlen; omega)
            clear hR hlen
            generalize nth s.f1 0 k = y at *
            go_wp2_with (first
              | (go_at_call 26; refine (itoa_any _ (by have := HR2.out; omega) (by have := HR2.out; omega) _ (HE.out.below (by repeat (first | (with_reducible first | exact HB.out | apply below_alloc | apply pw_below_drewN | apply below_drew1) | exact HB.out)))).mono ?_; rintro e wa ⟨rfl, hb⟩; have HD2 := Aside0.mk (builder_below HD.out (by repeat (first | (with_reducible first | exact hb | apply below_alloc | apply pw_below_drewN | apply below_drew1) | exact hb))); clear HD; have HD := HD2; clear HD2; have HB2 := Aside0.mk (below_step (by repeat (first | (with_reducible first | exact HB.out | apply below_alloc | apply pw_below_drewN | apply below_drew1) | exact HB.out)) hb); clear HB; have HB := HB2; clear HB2 hb)
              | (go_at_call 32; rw [bytes_add _ [32]]; go_loud (with_reducible refine (write_any w.heap.size w.heap.size _ ⟨(Lib.itoa y ++ [32]).toArray⟩ _ HD.out (by rw [Lib.byteCells_length, size_list]; exact HL2.out) HB.out.size).mono ?_); rintro e wb ⟨rfl, h1, b1, k1⟩; have HB2 := Aside0.mk (HB.out.trans b1); clear HB; have HB := HB2; clear HB2 HD; have HD : Aside0 (Lib.IsBuilderF 61 5 w.heap.size w.heap.size (Lib.byteCells (txt (l0.take j) ++ dT true ++ litsT (s.f1.take (k + 1)))) wb) := ⟨.inr (by rw [hL.out, ← List.append_assoc, Lib.byteCells_append]; rw [strCells_list] at h1; with_reducible exact h1)⟩; clear h1 b1 k1))
            go_roundg (s.f1.length - (k + 1))
            case measure => omega
            case rel => exact ⟨k + 1, by go_num, by omega, HD, HB⟩
          · have q1 : ((k : Int) < (s.f1.length : Int)) = False := eq_false (by omega)
            have hT2 : s.f1.take k = s.f1 := List.take_of_length_le (by omega)
            have HD2 := HD.out
            rw [hT2] at HD2
            have HD3 := Aside0.mk HD2
            clear HD2 HD hT2
            have hlen : (txt (l0.take j) ++ dT true ++ litsT s.f1).length + 2 ≤ 140737488355328 := by
              have h2 := HX.out
              have h3 := HTx.out
              rw [h3] at h2
              simp only [List.length_append, List.length_cons, List.length_nil] at h2 ⊢
              omega
            have HL2 := Aside0.mk hlen
            clear hlen
            go_wp2_with (first
              | (go_at_call 32; refine (write_any w.heap.size w.heap.size _ ⟨[48, 10].toArray⟩ _ HD3.out (by rw [Lib.byteCells_length, size_list]; exact HL2.out) HB.out.size).mono ?_; rintro e wb ⟨rfl, h1, b1, k1⟩; have HB2 := Aside0.mk (HB.out.trans b1); clear HB; have HB := HB2; clear HB2; have HD : Aside0 (Lib.IsBuilderF 61 5 w.heap.size w.heap.size (Lib.byteCells (txt (l0.take (j + 1)))) wb) := ⟨.inr (by rw [HTx.out, Lib.byteCells_append]; rw [strCells_list] at h1; with_reducible exact h1)⟩; clear h1 b1 k1))
            go_roundg (l0.length - (j + 1))
            case measure => omega
            case rel => exact ⟨j + 1, by go_num, by omega, HD, HB⟩
    · have q1 : ((j : Int) < (l0.length : Int)) = False := eq_false (by omega)
      have hT : l0.take j = l0 := List.take_of_length_le (by omega)
      have HD2 := HD.out
      rw [hT] at HD2
      have HD3 := Aside0.mk HD2
      clear HD2 HD hT
      go_wp2_with (first
        | (go_at_call 33; refine (Tryd.Builder_String_any_k w.heap.size w.heap.size _ _ HD3.out HB.out.size).mono ?_; rintro e wb ⟨rfl, h1, b1, k1⟩; have HB2 := Aside0.mk (HB.out.trans b1); clear HB; have HB := HB2; clear HB2))
      go_ret
      exact ⟨rfl, HB.out⟩

end Go.Proofs.YtefppfgcgcfleaaDoor
