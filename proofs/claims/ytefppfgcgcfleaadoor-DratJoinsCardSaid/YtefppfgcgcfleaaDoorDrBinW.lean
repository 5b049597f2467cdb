import Derived.Test.YtefppfgcgcfleaaDoorDrEnv
import Derived.Laws.BitsLemmas
namespace Go.Proofs.YtefppfgcgcfleaaDoor
open Go Go.RowKit Go.Proofs.YtefppfgcgcfleaaDoorW.PrintWords Go.Proofs.YtefppfgcgcfleaaDoorW.PrintLast Go.Proofs.YtefppfgcgcfleaaDoorW.PrintMore PDratJoins

theorem byte_inf : (Tryd.prog.info? 5).map (fun i => (i.zero, i.size, i.bytes)) = some (some (.int .u8 0), 1, 1) := by kernel_rfl
/-- Bytes as numbers. -/
def bts (l : List UInt8) : List Int := l.map fun b => (b.toNat : Int)
theorem bts_length (l : List UInt8) : (bts l).length = l.length := by simp [bts]
theorem bts_append (a b : List UInt8) : bts (a ++ b) = bts a ++ bts b := by simp [bts]
def bin (l : List S36) : List UInt8 := binT (l.map toP)
def litB (ls : List Int) : List UInt8 := ls.flatMap fun l => encN (numL l)
def dB (d : Bool) : UInt8 := if d then 100 else 97
theorem bin_snoc {l : List S36} {j : Nat} (h : j < l.length) : bin (l.take (j + 1)) = bin (l.take j) ++ [dB (nth l z36 j).f0] ++ litB (nth l z36 j).f1 ++ [0] := by
  unfold bin
  rw [take_snoc h z36, List.map_append, binT_append]
  simp [binT, stepB, toP, dB, litB, List.append_assoc]
theorem take_flat_len {α β : Type} (f : α → List β) (xs : List α) (j : Nat) : ((xs.take j).flatMap f).length ≤ (xs.flatMap f).length := by
  have h := congrArg (fun l => (l.flatMap f).length) (List.take_append_drop j xs)
  simp only [List.flatMap_append, List.length_append] at h
  omega
theorem bin_le (l : List S36) (j : Nat) : (bin (l.take j)).length ≤ (bin l).length := by
  unfold bin binT
  rw [List.map_take]
  exact take_flat_len _ _ _
theorem litB_snoc {l : List Int} {j : Nat} (h : j < l.length) : litB (l.take (j + 1)) = litB (l.take j) ++ encN (numL (nth l 0 j)) := by
  unfold litB
  rw [take_snoc h 0, List.flatMap_append]
  simp
theorem litB_le (l : List Int) (j : Nat) : (litB (l.take j)).length ≤ (litB l).length := take_flat_len _ _ _
theorem or128 (n : Nat) : Go.bits .or .u8 ((n : Int) % 256) 128 = ((n % 128 + 128 : Nat) : Int) := by
  have key : ∀ m : Fin 256, Go.bits .or .u8 (m.val : Int) 128 = ((m.val % 128 + 128 : Nat) : Int) := by decide +kernel
  have h := key ⟨n % 256, by omega⟩
  simp only at h
  rw [show ((n : Int) % 256) = ((n % 256 : Nat) : Int) by omega, h]
  omega
theorem byte_num (n : Nat) (h : n < 256) : bts [UInt8.ofNat n] = [(n : Int)] := by
  simp only [bts, List.map_cons, List.map_nil, UInt8.toNat_ofNat', List.cons.injEq, and_true]
  omega

set_option maxRecDepth 100000 in
set_option maxHeartbeats 1600000 in
theorem index_any (l : Int) (h : RightL l) (w : World) : Calls Tryd.prog 43 #[.int .i64 l] w (Said w (.int .i64 ((numL l : Int) - 2))) := by
  obtain ⟨h0, h1, h2⟩ := h
  by_cases hn : l < 0
  · have e : ((numL l : Nat) : Int) - 2 = 2 * (-l - 1) + 1 := by unfold numL; rw [if_pos hn]; omega
    rw [e]
    clear e
    have q1 : (l < 0) = True := eq_true hn
    go_enter Tryd.func43, Tryd.ntmps43
    go_wp2
    go_ret
    exact ⟨rfl, Below.refl _ _⟩
  · have e : ((numL l : Nat) : Int) - 2 = 2 * (l - 1) := by unfold numL; rw [if_neg hn]; omega
    rw [e]
    clear e
    have q1 : (l < 0) = False := eq_false hn
    go_enter Tryd.func43, Tryd.ntmps43
    go_wp2
    go_ret
    exact ⟨rfl, Below.refl _ _⟩
theorem numL_bd {l : Int} (h : RightL l) : 2 ≤ numL l ∧ numL l ≤ 200001 := by
  unfold RightL at h
  unfold numL
  split <;> omega
set_option maxRecDepth 100000 in
set_option maxHeartbeats 1600000 in
theorem number_any (l : Int) (h : RightL l) (w : World) : Calls Tryd.prog 31 #[.int .i64 l] w (Said w (.int .i64 (numL l))) := by
  have C := index_any l h w
  have hb := numL_bd h
  generalize numL l = n at *
  clear h
  have e : (n : Int) - 2 + 2 = n := by omega
  go_enter Tryd.func31, Tryd.ntmps31
  go_wp2_with (first | (go_at_call 43; refine C.mono ?_; rintro e w1 ⟨rfl, HB⟩))
  go_ret
  exact ⟨by rw [show (n : Int) = (n : Int) - 2 + 2 by omega]; rfl, HB⟩

set_option maxRecDepth 100000 in
set_option maxHeartbeats 3200000 in
theorem dr_binary (A0 : Option Addr) (c0 : Nat) (l0 : List S36) (w : World) (hr : Kd.C k36 w A0 l0.length l0) (hS : RightS l0) (hX : (bin l0).length ≤ 140737488355000) :
    Calls Tryd.prog 19 #[.slice A0 l0.length c0] w fun e w' => ∃ v : Value, e = .returned v ∧ Kd.R (Kd.int .u8) 5 w' w.heap.size (fun _ => True) v (bts (bin l0)) ∧ Below w.heap.size w w' := by
  have hm := hr.2.1
  have hu := Tryd.underlying36
  have HR := Aside0.mk hr
  have HSS := Aside0.mk hS
  have HXX := Aside0.mk hX
  clear hr hS hX
  go_enter Tryd.func19, Tryd.ntmps19
  go_wp2
  go_loopg [3, 12] l0.length (fun gk v3 v12 w' => ∃ j : Nat, v12 = .int .i64 j ∧ j + gk = l0.length ∧ Aside0 (Kd.R (Kd.int .u8) 5 w' w.heap.size (fun _ => True) v3 (bts (bin (l0.take j)))) ∧ Aside0 (Below w.heap.size w w'))
  case atStart => exact ⟨0, rfl, by omega, ⟨Kd.R_nil _ _ _ _ _⟩, ⟨Below.refl _ _⟩⟩
  case round =>
    obtain ⟨j, rfl, hj, HO, HB⟩ := hrel
    by_cases hjl : j < l0.length
    · obtain ⟨ad, A1, c1, e0, hx0, hx1, hl1, hi1⟩ := at_step HR.out j hjl
      cases e0
      replace hx0 := (HB.out.cell (World.block_lt_of_cell? w _ hx0)).trans hx0
      replace hx1 := (HB.out.cell (World.block_lt_of_cell? w _ hx1)).trans hx1
      have HI := Aside0.mk hi1
      have hm2 := hi1.2.1
      have HS := Aside0.mk (HSS.out _ (nth_mem hjl z36))
      have q1 : ((j : Int) < (l0.length : Int)) = True := eq_true (by omega)
      have q2 : (0 ≤ (j : Int)) = True := eq_true (by omega)
      have HTx := Aside0.mk (bin_snoc hjl)
      have HX := Aside0.mk (Nat.le_trans (bin_le l0 (j + 1)) HXX.out)
      clear hi1 hl1
      generalize nth l0 z36 j = s at *
      generalize bin (l0.take j) = T at *
      cases hd : s.f0
      · rw [hd] at hx0
        have HTx2 := HTx.out
        rw [hd] at HTx2
        have HTx := Aside0.mk HTx2
        have hlen : T.length + 1 ≤ 140737488355000 := by
          have h2 := HX.out
          rw [HTx2] at h2
          simp only [List.length_append, List.length_cons, List.length_nil] at h2
          omega
        have HL0 := Aside0.mk hlen
        clear HTx2 hd hlen
        go_wp2_with (first | ((with_reducible refine gate_dst (N := 5) rfl ?_); refine box_event ?hg (N := 5) ?hd (cs := #[.bool false, .slice none 0 0]) (t := 36) ?hr ?_; (case hd => rfl); (case hg => rfl); (case hr => first | (go_simp; done) | (go_simp; rfl)); intro gb hg w5 hbox hb; have GE := Aside0.mk ((by rw [hg]; exact (below_size (by repeat (first | (with_reducible first | exact HB.out | apply below_alloc | apply pw_below_drewN | apply below_drew1) | exact HB.out)))) : w.heap.size ≤ gb); have GN := Aside0.mk hg; have HW5 := Aside0.mk hb; have n0_ := Aside0.mk (below_step (by repeat (first | (with_reducible first | exact HB.out | apply below_alloc | apply pw_below_drewN | apply below_drew1) | exact HB.out)) hb); have BK := Aside0.mk hbox; clear HB; have HB := n0_; clear n0_ hb hbox hg; have hcz0 : w5.cell? ⟨gb, 0, none⟩ = some (.bool false) := (blk_cell BK.out 0).trans rfl; have hcz1 : w5.cell? ⟨gb, 1, none⟩ = some (.slice none 0 0) := (blk_cell BK.out 1).trans rfl; have hfz0 := blk_frozen BK.out 0; have hfz1 := blk_frozen BK.out 1) | ((with_reducible refine gate_builtin (b := .append) (xs := #[.tmp 18, .tmp 20]) rfl ?_); at_builtin; refine Kd.R_append (Kd.int .u8) (w0 := w) w.heap.size rfl (.tmp 18) (.tmp 20) 30 5 (.int .u8 0) 1 rfl Tryd.underlying30 byte_inf rfl (by decide) (by decide) _ (bts (T)) 97 [.int .u8 97] (fun _ => True) (fun _ => False) rfl ?aX rfl (fun _ hk => hk.elim) (fun _ _ => trivial) ?aO ?aB ?aS ?aL ?_; (case aX => first | rfl | (simp [Act.eval]; done) | (go_simp; done)); (case aO => exact (Kd.R_below HO.out (by repeat (first | exact HW5.out | refine below_set ?_ (by rw [GN.out]; exact Nat.le_refl _))))); (case aB => exact (by repeat (first | (with_reducible first | exact HB.out | apply below_alloc | apply pw_below_drewN | apply below_drew1 | refine below_set ?_ GE.out) | exact HB.out))); (case aS => exact (below_size (by repeat (first | (with_reducible first | exact HB.out | apply below_alloc | apply pw_below_drewN | apply below_drew1 | refine below_set ?_ GE.out) | exact HB.out)))); (case aL => rw [bts_length]; have := HL0.out; omega)))
        intro v1 w1 ho hb hg hat
        have hgb := blk_grown (g := gb) (o := .cells #[.bool false, .slice A1 s.f1.length c1] 36 (0, 0)) (blk_put (cs := #[.bool false, .slice none 0 0]) (blk_put (cs := #[.bool false, .slice none 0 0]) BK.out 0 (.bool false) rfl) 1 (.slice A1 s.f1.length c1) rfl) hg (Kd.R_ne (Kd.R_below HO.out (by repeat (first | exact HW5.out | refine below_set ?_ (by rw [GN.out]; exact Nat.le_refl _)))) (blk_put (cs := #[.bool false, .slice none 0 0]) (blk_put (cs := #[.bool false, .slice none 0 0]) BK.out 0 (.bool false) rfl) 1 (.slice A1 s.f1.length c1) rfl) (by decide))
        have HO2 : Aside0 (Kd.R (Kd.int .u8) 5 w1 w.heap.size (fun _ => True) v1 (bts (T ++ [dB false]))) := ⟨by rw [bts_append]; exact ho⟩
        have HB2 := Aside0.mk hb
        clear HO HB
        have HO := HO2
        have HB := HB2
        clear HO2 HB2
        have hz1 : w1.cell? ⟨gb, 1, none⟩ = some (.slice A1 s.f1.length c1) := (blk_cell hgb 1).trans rfl
        clear ho hb hg hat hgb; go_wp2
        clear BK GE GN HW5
        (try clear hcz0 hcz1 hfz0 hfz1 hz1)
        go_loopg [3, 25] s.f1.length (fun gk2 v3 v25 w' => ∃ k : Nat, v25 = .int .i64 k ∧ k + gk2 = s.f1.length ∧ Aside0 (Kd.R (Kd.int .u8) 5 w' w.heap.size (fun _ => True) v3 (bts (T ++ [dB false] ++ litB (s.f1.take k)))) ∧ Aside0 (Below w.heap.size w w'))
        case atStart => exact ⟨0, rfl, by omega, ⟨by rw [show litB (s.f1.take 0) = [] from rfl, List.append_nil]; exact HO.out⟩, HB⟩
        case round =>
          clear HB HO
          obtain ⟨k, rfl, hk, HO, HB⟩ := hrel
          by_cases hkl : k < s.f1.length
          · obtain ⟨ad2, e1, hy⟩ := at_num HI.out k hkl
            cases e1
            replace hy := (HB.out.cell (World.block_lt_of_cell? w _ hy)).trans hy
            have q1 : ((k : Int) < (s.f1.length : Int)) = True := eq_true (by omega)
            have q2 : (0 ≤ (k : Int)) = True := eq_true (by omega)
            have hR : RightL (nth s.f1 0 k) := HS.out _ (nth_mem hkl 0)
            have hL := Aside0.mk (litB_snoc hkl)
            have hlen : (T ++ [dB false] ++ litB (s.f1.take k)).length + (encN (numL (nth s.f1 0 k))).length ≤ 140737488355000 := by
              have h1 := litB_le s.f1 (k + 1)
              rw [hL.out] at h1
              have h2 := HX.out
              have h3 := HTx.out
              rw [h3] at h2
              simp only [List.length_append, List.length_cons, List.length_nil] at h1 h2 ⊢
              omega
            have HL2 := Aside0.mk hlen
            have HR2 := Aside0.mk hR
            have hnb := numL_bd hR
            clear hR hlen
            generalize nth s.f1 0 k = y at *
            have HN : Aside0 (T ++ [dB false] ++ litB (s.f1.take k) ++ encN (numL y) = T ++ [dB false] ++ litB (s.f1.take (k + 1))) := ⟨by rw [hL.out, List.append_assoc]⟩
            go_wp2_with (first
              | (go_at_call 31; refine (number_any _ HR2.out _).mono ?_; rintro e wa ⟨rfl, hb⟩; have HO2 := Aside0.mk (Kd.R_below (by (with_reducible repeat (first | apply Kd.R_alloc | apply Kd.R_drewN | apply Kd.R_drew)); exact HO.out) hb); clear HO; have HO := HO2; clear HO2; have HB2 := Aside0.mk (below_step (by repeat (first | (with_reducible first | exact HB.out | apply below_alloc | apply pw_below_drewN | apply below_drew1) | exact HB.out)) hb); clear HB; have HB := HB2; clear HB2 hb))
            have hq := HL2.out
            generalize litB (s.f1.take k) = Z at *
            generalize numL y = n0 at *
            go_loopg [3, 9] n0 (fun n v3 v9 w' => v9 = .int .i64 (n : Int) ∧ n ≤ 200001 ∧ ∃ U : List UInt8, Aside0 (U ++ encN n = T ++ [dB false] ++ litB (s.f1.take (k + 1))) ∧ Aside0 (U.length + (encN n).length ≤ 140737488355000) ∧ Aside0 (Kd.R (Kd.int .u8) 5 w' w.heap.size (fun _ => True) v3 (bts (U))) ∧ Aside0 (Below w.heap.size w w'))
            case atStart => exact ⟨rfl, hnb.2, _, HN, ⟨hq⟩, HO, HB⟩
            case round =>
              clear HB HO hq
              obtain ⟨rfl, hn2, U, HU, HUL, HO, HB⟩ := hrel
              by_cases hb : gk < 128
              · have q5 : ((128 : Int) ≤ (gk : Int)) = False := eq_false (by omega)
                have hU := HU.out
                have hUL := HUL.out
                rw [encN_small hb] at hU hUL
                simp only [List.length_cons, List.length_nil] at hUL
                have hmod : ((gk : Int) % 256) = (gk : Int) := by omega
                have HU2 := Aside0.mk hU
                have HHb := Aside0.mk hb
                clear hU HU hb
                go_wp2_with (first | ((with_reducible refine gate_builtin (b := .append) (xs := #[.tmp 41, .tmp 44]) rfl ?_); at_builtin; refine Kd.R_append (Kd.int .u8) (w0 := w) w.heap.size rfl (.tmp 41) (.tmp 44) 30 5 (.int .u8 0) 1 rfl Tryd.underlying30 byte_inf rfl (by decide) (by decide) _ (bts (U)) (gk : Int) [.int .u8 (gk : Int)] (fun _ => True) (fun _ => False) rfl ?aX rfl (fun _ hk => hk.elim) (fun _ _ => trivial) ?aO ?aB ?aS ?aL ?_; (case aX => first | rfl | (simp [Act.eval]; done) | (go_simp; done)); (case aO => exact HO.out); (case aB => exact HB.out); (case aS => exact (below_size HB.out)); (case aL => rw [bts_length]; omega)))
                intro v1 w1 ho hb hg hat
                have HO2 : Aside0 (Kd.R (Kd.int .u8) 5 w1 w.heap.size (fun _ => True) v1 (bts (T ++ [dB false] ++ litB (s.f1.take (k + 1))))) := ⟨by rw [← HU2.out, bts_append, byte_num gk (by have := HHb.out; omega)]; exact ho⟩
                have HB2 := Aside0.mk hb
                clear HO HB
                have HO := HO2
                have HB := HB2
                clear HO2 HB2 ho hb hg hat; go_wp2
                go_roundg (s.f1.length - (k + 1))
                case measure => omega
                case rel => exact ⟨k + 1, by go_num, by omega, HO, HB⟩
              · have q5 : ((128 : Int) ≤ (gk : Int)) = True := eq_true (by omega)
                have hU := HU.out
                have hUL := HUL.out
                rw [encN_big hb] at hU hUL
                simp only [List.length_cons] at hUL
                have hor := or128 gk
                have HU2 := Aside0.mk hU
                clear hU HU
                have hd : ((gk : Int) / 128) = ((gk / 128 : Nat) : Int) := by omega
                have Hd := Aside0.mk hd
                clear hd
                go_wp2_with (first | ((with_reducible refine gate_builtin (b := .append) (xs := #[.tmp 35, .tmp 39]) rfl ?_); at_builtin; refine Kd.R_append (Kd.int .u8) (w0 := w) w.heap.size rfl (.tmp 35) (.tmp 39) 30 5 (.int .u8 0) 1 rfl Tryd.underlying30 byte_inf rfl (by decide) (by decide) _ (bts (U)) ((gk % 128 + 128 : Nat) : Int) [.int .u8 ((gk % 128 + 128 : Nat) : Int)] (fun _ => True) (fun _ => False) rfl ?aX rfl (fun _ hk => hk.elim) (fun _ _ => trivial) ?aO ?aB ?aS ?aL ?_; (case aX => first | rfl | (simp [Act.eval]; done) | (go_simp; done)); (case aO => exact HO.out); (case aB => exact HB.out); (case aS => exact (below_size HB.out)); (case aL => rw [bts_length]; omega)))
                intro v1 w1 ho hb hg hat
                have HO2 : Aside0 (Kd.R (Kd.int .u8) 5 w1 w.heap.size (fun _ => True) v1 (bts (U ++ [UInt8.ofNat (gk % 128 + 128)]))) := ⟨by rw [bts_append, byte_num (gk % 128 + 128) (by omega)]; exact ho⟩
                have HB2 := Aside0.mk hb
                clear HO HB
                have HO := HO2
                have HB := HB2
                clear HO2 HB2 ho hb hg hat; go_wp2
                go_roundg (gk / 128)
                case measure => omega
                case rel => exact ⟨by first | rfl | (rw [← Hd.out]), by omega, _, ⟨by rw [List.append_assoc]; exact HU2.out⟩, ⟨by simp only [List.length_append, List.length_cons, List.length_nil]; omega⟩, HO, HB⟩
          · have q1 : ((k : Int) < (s.f1.length : Int)) = False := eq_false (by omega)
            have hT2 : s.f1.take k = s.f1 := List.take_of_length_le (by omega)
            have HO2 := HO.out
            rw [hT2] at HO2
            clear HO hT2
            have hlen : (T ++ [dB false] ++ litB s.f1).length + 1 ≤ 140737488355000 := by
              have h2 := HX.out
              have h3 := HTx.out
              rw [h3] at h2
              simp only [List.length_append, List.length_cons, List.length_nil] at h2 ⊢
              omega
            obtain ⟨U, hU⟩ : ∃ U, T ++ [dB false] ++ litB s.f1 = U := ⟨_, rfl⟩
            have HU := Aside0.mk hU
            rw [hU] at hlen HO2
            have HO3 := Aside0.mk HO2
            have HL2 := Aside0.mk hlen
            clear hlen hU HO2
            go_wp2_with (first | ((with_reducible refine gate_builtin (b := .append) (xs := #[.tmp 47, .tmp 48]) rfl ?_); at_builtin; refine Kd.R_append (Kd.int .u8) (w0 := w) w.heap.size rfl (.tmp 47) (.tmp 48) 30 5 (.int .u8 0) 1 rfl Tryd.underlying30 byte_inf rfl (by decide) (by decide) _ (bts (U)) 0 [.int .u8 0] (fun _ => True) (fun _ => False) rfl ?aX rfl (fun _ hk => hk.elim) (fun _ _ => trivial) ?aO ?aB ?aS ?aL ?_; (case aX => first | rfl | (simp [Act.eval]; done) | (go_simp; done)); (case aO => exact HO3.out); (case aB => exact HB.out); (case aS => exact (below_size HB.out)); (case aL => rw [bts_length]; have := HL2.out; omega)))
            intro v1 w1 ho hb hg hat
            have HO : Aside0 (Kd.R (Kd.int .u8) 5 w1 w.heap.size (fun _ => True) v1 (bts (bin (l0.take (j + 1))))) := ⟨by rw [HTx.out, HU.out, bts_append]; exact ho⟩
            have HB2 := Aside0.mk hb
            clear HO3 HB
            have HB := HB2
            clear HB2 ho hb hg hat; go_wp2
            go_roundg (l0.length - (j + 1))
            case measure => omega
            case rel => exact ⟨j + 1, by go_num, by omega, HO, HB⟩
      · rw [hd] at hx0
        have HTx2 := HTx.out
        rw [hd] at HTx2
        have HTx := Aside0.mk HTx2
        have hlen : T.length + 1 ≤ 140737488355000 := by
          have h2 := HX.out
          rw [HTx2] at h2
          simp only [List.length_append, List.length_cons, List.length_nil] at h2
          omega
        have HL0 := Aside0.mk hlen
        clear HTx2 hd hlen
        go_wp2_with (first | ((with_reducible refine gate_dst (N := 5) rfl ?_); refine box_event ?hg (N := 5) ?hd (cs := #[.bool false, .slice none 0 0]) (t := 36) ?hr ?_; (case hd => rfl); (case hg => rfl); (case hr => first | (go_simp; done) | (go_simp; rfl)); intro gb hg w5 hbox hb; have GE := Aside0.mk ((by rw [hg]; exact (below_size (by repeat (first | (with_reducible first | exact HB.out | apply below_alloc | apply pw_below_drewN | apply below_drew1) | exact HB.out)))) : w.heap.size ≤ gb); have GN := Aside0.mk hg; have HW5 := Aside0.mk hb; have n0_ := Aside0.mk (below_step (by repeat (first | (with_reducible first | exact HB.out | apply below_alloc | apply pw_below_drewN | apply below_drew1) | exact HB.out)) hb); have BK := Aside0.mk hbox; clear HB; have HB := n0_; clear n0_ hb hbox hg; have hcz0 : w5.cell? ⟨gb, 0, none⟩ = some (.bool false) := (blk_cell BK.out 0).trans rfl; have hcz1 : w5.cell? ⟨gb, 1, none⟩ = some (.slice none 0 0) := (blk_cell BK.out 1).trans rfl; have hfz0 := blk_frozen BK.out 0; have hfz1 := blk_frozen BK.out 1) | ((with_reducible refine gate_builtin (b := .append) (xs := #[.tmp 18, .tmp 20]) rfl ?_); at_builtin; refine Kd.R_append (Kd.int .u8) (w0 := w) w.heap.size rfl (.tmp 18) (.tmp 20) 30 5 (.int .u8 0) 1 rfl Tryd.underlying30 byte_inf rfl (by decide) (by decide) _ (bts (T)) 100 [.int .u8 100] (fun _ => True) (fun _ => False) rfl ?aX rfl (fun _ hk => hk.elim) (fun _ _ => trivial) ?aO ?aB ?aS ?aL ?_; (case aX => first | rfl | (simp [Act.eval]; done) | (go_simp; done)); (case aO => exact (Kd.R_below HO.out (by repeat (first | exact HW5.out | refine below_set ?_ (by rw [GN.out]; exact Nat.le_refl _))))); (case aB => exact (by repeat (first | (with_reducible first | exact HB.out | apply below_alloc | apply pw_below_drewN | apply below_drew1 | refine below_set ?_ GE.out) | exact HB.out))); (case aS => exact (below_size (by repeat (first | (with_reducible first | exact HB.out | apply below_alloc | apply pw_below_drewN | apply below_drew1 | refine below_set ?_ GE.out) | exact HB.out)))); (case aL => rw [bts_length]; have := HL0.out; omega)))
        intro v1 w1 ho hb hg hat
        have hgb := blk_grown (g := gb) (o := .cells #[.bool true, .slice A1 s.f1.length c1] 36 (0, 0)) (blk_put (cs := #[.bool true, .slice none 0 0]) (blk_put (cs := #[.bool false, .slice none 0 0]) BK.out 0 (.bool true) rfl) 1 (.slice A1 s.f1.length c1) rfl) hg (Kd.R_ne (Kd.R_below HO.out (by repeat (first | exact HW5.out | refine below_set ?_ (by rw [GN.out]; exact Nat.le_refl _)))) (blk_put (cs := #[.bool true, .slice none 0 0]) (blk_put (cs := #[.bool false, .slice none 0 0]) BK.out 0 (.bool true) rfl) 1 (.slice A1 s.f1.length c1) rfl) (by decide))
        have HO2 : Aside0 (Kd.R (Kd.int .u8) 5 w1 w.heap.size (fun _ => True) v1 (bts (T ++ [dB true]))) := ⟨by rw [bts_append]; exact ho⟩
        have HB2 := Aside0.mk hb
        clear HO HB
        have HO := HO2
        have HB := HB2
        clear HO2 HB2
        have hz1 : w1.cell? ⟨gb, 1, none⟩ = some (.slice A1 s.f1.length c1) := (blk_cell hgb 1).trans rfl
        clear ho hb hg hat hgb; go_wp2
        clear BK GE GN HW5
        (try clear hcz0 hcz1 hfz0 hfz1 hz1)
        go_loopg [3, 25] s.f1.length (fun gk2 v3 v25 w' => ∃ k : Nat, v25 = .int .i64 k ∧ k + gk2 = s.f1.length ∧ Aside0 (Kd.R (Kd.int .u8) 5 w' w.heap.size (fun _ => True) v3 (bts (T ++ [dB true] ++ litB (s.f1.take k)))) ∧ Aside0 (Below w.heap.size w w'))
        case atStart => exact ⟨0, rfl, by omega, ⟨by rw [show litB (s.f1.take 0) = [] from rfl, List.append_nil]; exact HO.out⟩, HB⟩
        case round =>
          clear HB HO
          obtain ⟨k, rfl, hk, HO, HB⟩ := hrel
          by_cases hkl : k < s.f1.length
          · obtain ⟨ad2, e1, hy⟩ := at_num HI.out k hkl
            cases e1
            replace hy := (HB.out.cell (World.block_lt_of_cell? w _ hy)).trans hy
            have q1 : ((k : Int) < (s.f1.length : Int)) = True := eq_true (by omega)
            have q2 : (0 ≤ (k : Int)) = True := eq_true (by omega)
            have hR : RightL (nth s.f1 0 k) := HS.out _ (nth_mem hkl 0)
            have hL := Aside0.mk (litB_snoc hkl)
            have hlen : (T ++ [dB true] ++ litB (s.f1.take k)).length + (encN (numL (nth s.f1 0 k))).length ≤ 140737488355000 := by
              have h1 := litB_le s.f1 (k + 1)
              rw [hL.out] at h1
              have h2 := HX.out
              have h3 := HTx.out
              rw [h3] at h2
              simp only [List.length_append, List.length_cons, List.length_nil] at h1 h2 ⊢
              omega
            have HL2 := Aside0.mk hlen
            have HR2 := Aside0.mk hR
            have hnb := numL_bd hR
            clear hR hlen
            generalize nth s.f1 0 k = y at *
            have HN : Aside0 (T ++ [dB true] ++ litB (s.f1.take k) ++ encN (numL y) = T ++ [dB true] ++ litB (s.f1.take (k + 1))) := ⟨by rw [hL.out, List.append_assoc]⟩
            go_wp2_with (first
              | (go_at_call 31; refine (number_any _ HR2.out _).mono ?_; rintro e wa ⟨rfl, hb⟩; have HO2 := Aside0.mk (Kd.R_below (by (with_reducible repeat (first | apply Kd.R_alloc | apply Kd.R_drewN | apply Kd.R_drew)); exact HO.out) hb); clear HO; have HO := HO2; clear HO2; have HB2 := Aside0.mk (below_step (by repeat (first | (with_reducible first | exact HB.out | apply below_alloc | apply pw_below_drewN | apply below_drew1) | exact HB.out)) hb); clear HB; have HB := HB2; clear HB2 hb))
            have hq := HL2.out
            generalize litB (s.f1.take k) = Z at *
            generalize numL y = n0 at *
            go_loopg [3, 9] n0 (fun n v3 v9 w' => v9 = .int .i64 (n : Int) ∧ n ≤ 200001 ∧ ∃ U : List UInt8, Aside0 (U ++ encN n = T ++ [dB true] ++ litB (s.f1.take (k + 1))) ∧ Aside0 (U.length + (encN n).length ≤ 140737488355000) ∧ Aside0 (Kd.R (Kd.int .u8) 5 w' w.heap.size (fun _ => True) v3 (bts (U))) ∧ Aside0 (Below w.heap.size w w'))
            case atStart => exact ⟨rfl, hnb.2, _, HN, ⟨hq⟩, HO, HB⟩
            case round =>
              clear HB HO hq
              obtain ⟨rfl, hn2, U, HU, HUL, HO, HB⟩ := hrel
              by_cases hb : gk < 128
              · have q5 : ((128 : Int) ≤ (gk : Int)) = False := eq_false (by omega)
                have hU := HU.out
                have hUL := HUL.out
                rw [encN_small hb] at hU hUL
                simp only [List.length_cons, List.length_nil] at hUL
                have hmod : ((gk : Int) % 256) = (gk : Int) := by omega
                have HU2 := Aside0.mk hU
                have HHb := Aside0.mk hb
                clear hU HU hb
                go_wp2_with (first | ((with_reducible refine gate_builtin (b := .append) (xs := #[.tmp 41, .tmp 44]) rfl ?_); at_builtin; refine Kd.R_append (Kd.int .u8) (w0 := w) w.heap.size rfl (.tmp 41) (.tmp 44) 30 5 (.int .u8 0) 1 rfl Tryd.underlying30 byte_inf rfl (by decide) (by decide) _ (bts (U)) (gk : Int) [.int .u8 (gk : Int)] (fun _ => True) (fun _ => False) rfl ?aX rfl (fun _ hk => hk.elim) (fun _ _ => trivial) ?aO ?aB ?aS ?aL ?_; (case aX => first | rfl | (simp [Act.eval]; done) | (go_simp; done)); (case aO => exact HO.out); (case aB => exact HB.out); (case aS => exact (below_size HB.out)); (case aL => rw [bts_length]; omega)))
                intro v1 w1 ho hb hg hat
                have HO2 : Aside0 (Kd.R (Kd.int .u8) 5 w1 w.heap.size (fun _ => True) v1 (bts (T ++ [dB true] ++ litB (s.f1.take (k + 1))))) := ⟨by rw [← HU2.out, bts_append, byte_num gk (by have := HHb.out; omega)]; exact ho⟩
                have HB2 := Aside0.mk hb
                clear HO HB
                have HO := HO2
                have HB := HB2
                clear HO2 HB2 ho hb hg hat; go_wp2
                go_roundg (s.f1.length - (k + 1))
                case measure => omega
                case rel => exact ⟨k + 1, by go_num, by omega, HO, HB⟩
              · have q5 : ((128 : Int) ≤ (gk : Int)) = True := eq_true (by omega)
                have hU := HU.out
                have hUL := HUL.out
                rw [encN_big hb] at hU hUL
                simp only [List.length_cons] at hUL
                have hor := or128 gk
                have HU2 := Aside0.mk hU
                clear hU HU
                have hd : ((gk : Int) / 128) = ((gk / 128 : Nat) : Int) := by omega
                have Hd := Aside0.mk hd
                clear hd
                go_wp2_with (first | ((with_reducible refine gate_builtin (b := .append) (xs := #[.tmp 35, .tmp 39]) rfl ?_); at_builtin; refine Kd.R_append (Kd.int .u8) (w0 := w) w.heap.size rfl (.tmp 35) (.tmp 39) 30 5 (.int .u8 0) 1 rfl Tryd.underlying30 byte_inf rfl (by decide) (by decide) _ (bts (U)) ((gk % 128 + 128 : Nat) : Int) [.int .u8 ((gk % 128 + 128 : Nat) : Int)] (fun _ => True) (fun _ => False) rfl ?aX rfl (fun _ hk => hk.elim) (fun _ _ => trivial) ?aO ?aB ?aS ?aL ?_; (case aX => first | rfl | (simp [Act.eval]; done) | (go_simp; done)); (case aO => exact HO.out); (case aB => exact HB.out); (case aS => exact (below_size HB.out)); (case aL => rw [bts_length]; omega)))
                intro v1 w1 ho hb hg hat
                have HO2 : Aside0 (Kd.R (Kd.int .u8) 5 w1 w.heap.size (fun _ => True) v1 (bts (U ++ [UInt8.ofNat (gk % 128 + 128)]))) := ⟨by rw [bts_append, byte_num (gk % 128 + 128) (by omega)]; exact ho⟩
                have HB2 := Aside0.mk hb
                clear HO HB
                have HO := HO2
                have HB := HB2
                clear HO2 HB2 ho hb hg hat; go_wp2
                go_roundg (gk / 128)
                case measure => omega
                case rel => exact ⟨by first | rfl | (rw [← Hd.out]), by omega, _, ⟨by rw [List.append_assoc]; exact HU2.out⟩, ⟨by simp only [List.length_append, List.length_cons, List.length_nil]; omega⟩, HO, HB⟩
          · have q1 : ((k : Int) < (s.f1.length : Int)) = False := eq_false (by omega)
            have hT2 : s.f1.take k = s.f1 := List.take_of_length_le (by omega)
            have HO2 := HO.out
            rw [hT2] at HO2
            clear HO hT2
            have hlen : (T ++ [dB true] ++ litB s.f1).length + 1 ≤ 140737488355000 := by
              have h2 := HX.out
              have h3 := HTx.out
              rw [h3] at h2
              simp only [List.length_append, List.length_cons, List.length_nil] at h2 ⊢
              omega
            obtain ⟨U, hU⟩ : ∃ U, T ++ [dB true] ++ litB s.f1 = U := ⟨_, rfl⟩
            have HU := Aside0.mk hU
            rw [hU] at hlen HO2
            have HO3 := Aside0.mk HO2
            have HL2 := Aside0.mk hlen
            clear hlen hU HO2
            go_wp2_with (first | ((with_reducible refine gate_builtin (b := .append) (xs := #[.tmp 47, .tmp 48]) rfl ?_); at_builtin; refine Kd.R_append (Kd.int .u8) (w0 := w) w.heap.size rfl (.tmp 47) (.tmp 48) 30 5 (.int .u8 0) 1 rfl Tryd.underlying30 byte_inf rfl (by decide) (by decide) _ (bts (U)) 0 [.int .u8 0] (fun _ => True) (fun _ => False) rfl ?aX rfl (fun _ hk => hk.elim) (fun _ _ => trivial) ?aO ?aB ?aS ?aL ?_; (case aX => first | rfl | (simp [Act.eval]; done) | (go_simp; done)); (case aO => exact HO3.out); (case aB => exact HB.out); (case aS => exact (below_size HB.out)); (case aL => rw [bts_length]; have := HL2.out; omega)))
            intro v1 w1 ho hb hg hat
            have HO : Aside0 (Kd.R (Kd.int .u8) 5 w1 w.heap.size (fun _ => True) v1 (bts (bin (l0.take (j + 1))))) := ⟨by rw [HTx.out, HU.out, bts_append]; exact ho⟩
            have HB2 := Aside0.mk hb
            clear HO3 HB
            have HB := HB2
            clear HB2 ho hb hg hat; go_wp2
            go_roundg (l0.length - (j + 1))
            case measure => omega
            case rel => exact ⟨j + 1, by go_num, by omega, HO, HB⟩
    · have q1 : ((j : Int) < (l0.length : Int)) = False := eq_false (by omega)
      have hT : l0.take j = l0 := List.take_of_length_le (by omega)
      have HO2 := HO.out
      rw [hT] at HO2
      have HO3 := Aside0.mk HO2
      clear HO HO2 hT
      go_wp2
      go_ret
      exact ⟨_, rfl, HO3.out, HB.out⟩

end Go.Proofs.YtefppfgcgcfleaaDoor
