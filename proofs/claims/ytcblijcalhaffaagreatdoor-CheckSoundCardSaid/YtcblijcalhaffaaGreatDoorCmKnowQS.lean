import Derived.StillTailTactics
import Derived.BigQuiet
import Derived.Deep.QuietTactic
import Derived.Test.YtcblijcalhaffaaGreatDoorCmNormQS
import Derived.Deep.DeepMust
namespace Go.Proofs.YtcblijcalhaffaaGreatDoor
open Go

/-! A region that draws its order, of quiet operations ahead of a forced tail: the quiet walk serves its head. -/
theorem still_of_quiet {P : Program} {ops : Array Oper} {w : World} {Q : Act → Prop} : ∀ (l : List Oper) (a : Act), wpQuiet P ops (fun w' => w' = w) Q l a → wpStill P ops w Q l a
  | [], _, h => h
  | o :: rest, a, h => by
    refine wpStill_step fun K hK => ?_
    have h1 : if Region.wanted o (yielded ops a.tmps) then o.quiet P a (fun w' => w' = w) (wpQuiet P ops (fun w' => w' = w) Q rest) else wpQuiet P ops (fun w' => w' = w) Q rest (a.put o.dst undef) := h
    clear h
    split at h1
    · rename_i hw
      rw [if_pos hw]
      obtain ⟨v, h2, h3⟩ := h1
      have h4 := h2 w rfl
      have h5 := hK _ (still_of_quiet rest _ h3)
      unfold Oper.quietAt at h4
      unfold Oper.still
      generalize (execOp a.eval o).run P w = r at *
      cases r with
      | ok n w' =>
        cases n with
        | value u => obtain ⟨h6, rfl⟩ := h4; exact ⟨h6, h5⟩
        | skip => obtain ⟨h6, rfl⟩ := h4; exact ⟨h6, h5⟩
        | enter f args => obtain ⟨h6, h7⟩ := h4; exact ⟨h6, v, h7, h5⟩
        | _ => exact h4.elim
      | _ => exact h4.elim
    · rename_i hw
      rw [if_neg hw]
      exact hK _ (still_of_quiet rest _ h1)
theorem wp_region_qtail {P : Program} {id : Nat} {Q : Exit → Act → World → Prop} {a : Act} {w : World} {l : List Oper} (n : Nat) (hm : P.follows .mixedOrders = true) (hB : Region.lexTailB .any l.toArray n = true)
    (h : wpQuiet P l.toArray (fun w' => w' = w.drew) (fun a' => wpList P l.toArray Q (l.drop n) a' w.drew) (l.take n) a) : (Code.region id l.toArray true).wp P Q a w :=
  wp_region_still_tail n hm hB (still_of_quiet _ _ h)
end Go.Proofs.YtcblijcalhaffaaGreatDoor
namespace Go.Proofs.YtcblijcalhaffaaGreatDoor
open Go Go.BigFrame Go.RowKit Go.Proofs.YtcblijcalhaffaaGreatDoorW.PrintWords Go.Proofs.YtcblijcalhaffaaGreatDoorW.PrintLast Go.Proofs.YtcblijcalhaffaaGreatDoorW.PrintMore PCheckSound

/-! What is known: rup.known. -/
/-- A literal's index, as a place. -/
def pl (l : Int) : Nat := (lidx l).toNat
theorem pl_lt {V : Nat} {l : Int} (h : rightV V l = true) : pl l < 2 * V := by
  rw [rightV_iff] at h
  unfold pl lidx
  split <;> omega
theorem pl_inj {V : Nat} {a b : Int} (ha : rightV V a = true) (hb : rightV V b = true) (h : pl a = pl b) : a = b := by
  rw [rightV_iff] at ha hb
  apply lidx_inj
  unfold pl lidx at *
  by_cases ha0 : a < 0 <;> by_cases hb0 : b < 0 <;> simp only [ha0, hb0, if_true, if_false] at h ⊢ <;> omega
theorem lit_index_pl {V : Nat} (hV : V ≤ 100000) {l : Int} (h : rightV V l = true) (w : World) : Calls Tryz.prog 67 #[.int .i64 l] w (fun e w' => e = .returned (.int .i64 (pl l : Nat)) ∧ w' = w) := by
  rw [rightV_iff] at h
  have ek : keyI l = ((pl l : Nat) : Int) := by
    rw [keyI_of (by omega) (by omega)]
    unfold pl lidx
    split <;> omega
  refine (lit_index_any l w).mono ?_
  rintro e w1 ⟨h1, h2⟩
  exact ⟨by rw [h1, ek], h2.symm⟩
/-- What is known lies in block kb: the literals that follow (block g), whether they clash. -/
def KnAt (B : Nat) (w : World) (kb V : Nat) (s : Kn) : Prop := ∃ g cap cur, w.heap[kb]? = some (.cells #[.slice (some ⟨g, 0, none⟩) (2 * V) cap, .bool s.cl] 123 (0, 0)) ∧ w.heap[g]? = some (.cells cur 4 (0, 0)) ∧ B ≤ kb ∧ B ≤ g ∧ ∀ l, rightV V l = true → cur[pl l]? = some (.bool (s.K l))
theorem KnAt.below {B kb V : Nat} {s : Kn} {w w' : World} (h : KnAt B w kb V s) (hb : Below w.heap.size w w') : KnAt B w' kb V s := by
  obtain ⟨g, cap, cur, h1, h2, h3, h4, h5⟩ := h
  exact ⟨g, cap, cur, (hb.block kb (blk_lt h1)).trans h1, (hb.block g (blk_lt h2)).trans h2, h3, h4, h5⟩

set_option maxRecDepth 100000 in
set_option maxHeartbeats 800000 in
theorem kadd_any {B kb V : Nat} {s : Kn} {w : World} (H : KnAt B w kb V s) (hV : V ≤ 100000) (l : Int) (hl : rightV V l = true) :
    Calls Tryz.prog 71 #[.pointer (some ⟨kb, 0, none⟩), .int .i64 l] w fun e w' => e = .returned (.tuple #[]) ∧ KnAt B w' kb V (s.add l) ∧ Below B w w' := by
  obtain ⟨g, cap, cur, h1, h2, h3, h4, h5⟩ := H
  have hne : kb ≠ g := blk_ne h1 h2 (by decide)
  have C1 := lit_index_pl hV hl
  have C2 := lit_index_pl hV (rightV_neg hl)
  have hk := pl_lt hl
  have hk2 := pl_lt (rightV_neg hl)
  have hkk : pl (-l) ≠ pl l := fun e => by
    have := pl_inj (rightV_neg hl) hl e
    rw [rightV_iff] at hl
    omega
  have hlb := rightV_iff.1 hl
  have f1 := h5 l hl
  have f2 := h5 (-l) (rightV_neg hl)
  have k0 : w.cell? ⟨kb, 0, none⟩ = some (.slice (some ⟨g, 0, none⟩) (2 * V) cap) := blk_cell h1 0
  have k1 : w.cell? ⟨g, pl l, none⟩ = some (.bool (s.K l)) := (blk_cell h2 _).trans f1
  have k2 : w.frozen? ⟨g, pl l, none⟩ = false := blk_frozen h2 _
  have q1 : ((pl l : Nat) : Int) < ((2 * V : Nat) : Int) := by omega
  have q3 : ((pl l : Nat) : Int) < 2 * (V : Int) := by omega
  have q4 : ((pl (-l) : Nat) : Int) < 2 * (V : Int) := by omega
  have HL := Aside0.mk hl
  have H5 := Aside0.mk h5
  have hn : wrap64 (-l) = -l := by unfold wrap64; omega
  have HN := Aside0.mk hn
  clear hl h5 hlb hn
  generalize hp : pl l = p at *
  generalize hp2 : pl (-l) = p2 at *
  have HP := Aside0.mk hp
  have HP2 := Aside0.mk hp2
  clear hp hp2
  go_enter Tryz.func71, Tryz.ntmps71
  go_wp2
  refine wp_region_qtail 7 (by kernel_rfl) (by kernel_rfl) ?_
  simp only [List.take_succ_cons, List.take_zero, List.drop_succ_cons, List.drop_zero]
  repeat
    first
      | go_big_quiet_skip
      | (go_big_quiet_want; go_big_quiet_op; go_big_quiet_on)
      | (go_big_quiet_want
         go_big_quiet_op
         apply Exists.intro
         refine ⟨?_, ?_⟩
         · (go_at_call 67; exact C1 _)
         go_big_quiet_on)
  refine wpQuiet_nil ?_
  obtain ⟨W1, hW1⟩ : ∃ W1, W1 = (w.setCell ⟨g, p, none⟩ (.bool true)).drew := ⟨_, rfl⟩
  have HA : W1.heap[kb]? = some (.cells #[.slice (some ⟨g, 0, none⟩) (2 * V) cap, .bool s.cl] 123 (0, 0)) := by
    rw [hW1]; exact blk_far (w := w) h1 (p := ⟨g, p, none⟩) hne _
  have HG : W1.heap[g]? = some (.cells (cur.setIfInBounds p (.bool true)) 4 (0, 0)) := by
    rw [hW1]; exact blk_set (w := w) h2 p _
  have HB : Below B w W1 := by
    rw [hW1]
    exact below_drew1 (Below.setCell (Below.refl B w) (p := ⟨g, p, none⟩) h4 _)
  have HW := Aside0.mk hW1
  clear hW1
  go_wp2
  rw [← HW.out]
  clear k0 k1 k2 HW
  have m0 : W1.cell? ⟨kb, 0, none⟩ = some (.slice (some ⟨g, 0, none⟩) (2 * V) cap) := blk_cell HA 0
  have m1 : W1.cell? ⟨kb, 1, none⟩ = some (.bool s.cl) := blk_cell HA 1
  have m2 : W1.cell? ⟨g, p2, none⟩ = some (.bool (s.K (-l))) := by
    rw [blk_cell HG p2, Array.getElem?_setIfInBounds_ne (Ne.symm hkk)]; exact f2
  have m3 : W1.frozen? ⟨kb, 1, none⟩ = false := blk_frozen HA 1
  have hn := HN.out
  clear f1 f2
  have fin : ∀ W2, W2.heap[kb]? = some (.cells #[.slice (some ⟨g, 0, none⟩) (2 * V) cap, .bool (s.add l).cl] 123 (0, 0)) → W2.heap[g]? = some (.cells (cur.setIfInBounds p (.bool true)) 4 (0, 0)) → KnAt B W2 kb V (s.add l) := fun W2 e1 e2 => by
    refine ⟨g, cap, _, e1, e2, h3, h4, fun x hx => ?_⟩
    by_cases hxl : x = l
    · subst hxl
      have hlt := (Array.getElem?_eq_some_iff.1 (H5.out x hx)).1
      rw [HP.out] at hlt ⊢
      rw [Array.getElem?_setIfInBounds_self_of_lt hlt]
      simp [Kn.add]
    · have hpx : pl x ≠ p := fun e => hxl (pl_inj hx HL.out (e.trans HP.out.symm))
      rw [Array.getElem?_setIfInBounds_ne (Ne.symm hpx), H5.out x hx]
      simp [Kn.add, hxl]
  have hcl : (s.add l).cl = (s.cl || s.K (-l)) := by
    have : ¬ -l = l := by have := rightV_iff.1 HL.out; omega
    simp [Kn.add, this]
  rw [hcl] at fin
  have FIN := Aside0.mk fin
  clear fin hcl h1 h2
  generalize hK : s.K (-l) = kk at *
  clear hK
  generalize s.cl = cl at *
  have HHA := Aside0.mk HA
  have HHG := Aside0.mk HG
  have HHB := Aside0.mk HB
  clear HA HG HB H5 HL
  cases cl with
  | true =>
    refine wp_region_qtail 18 (by kernel_rfl) (by kernel_rfl) ?_
    simp only [List.take_succ_cons, List.take_zero, List.drop_succ_cons, List.drop_zero]
    repeat
      first
        | go_big_quiet_skip
        | (go_big_quiet_want; go_big_quiet_op; go_big_quiet_on)
        | (go_big_quiet_want
           go_big_quiet_op
           apply Exists.intro
           refine ⟨?_, ?_⟩
           · (go_at_call 67; exact C2 _)
           go_big_quiet_on)
    refine wpQuiet_nil ?_
    go_wp2
    go_end0
    refine ⟨rfl, FIN.out _ ?_ ?_, below_drew1 (Below.setCell HHB.out (p := ⟨kb, 1, none⟩) h3 _)⟩
    · have e1 := blk_set (w := W1) HHA.out 1 (.bool (true || kk))
      have e2 : (#[Value.slice (some ⟨g, 0, none⟩) (2 * V) cap, Value.bool true]).setIfInBounds 1 (.bool (true || kk)) = #[Value.slice (some ⟨g, 0, none⟩) (2 * V) cap, Value.bool (true || kk)] := rfl
      rw [e2] at e1
      exact e1
    · exact blk_far (w := W1) HHG.out (p := ⟨kb, 1, none⟩) (Ne.symm hne) _
  | false =>
    refine wp_region_qtail 18 (by kernel_rfl) (by kernel_rfl) ?_
    simp only [List.take_succ_cons, List.take_zero, List.drop_succ_cons, List.drop_zero]
    repeat
      first
        | go_big_quiet_skip
        | (go_big_quiet_want; go_big_quiet_op; go_big_quiet_on)
        | (go_big_quiet_want
           go_big_quiet_op
           apply Exists.intro
           refine ⟨?_, ?_⟩
           · (go_at_call 67; exact C2 _)
           go_big_quiet_on)
    refine wpQuiet_nil ?_
    go_wp2
    go_end0
    refine ⟨rfl, FIN.out _ ?_ ?_, below_drew1 (Below.setCell HHB.out (p := ⟨kb, 1, none⟩) h3 _)⟩
    · have e1 := blk_set (w := W1) HHA.out 1 (.bool (false || kk))
      have e2 : (#[Value.slice (some ⟨g, 0, none⟩) (2 * V) cap, Value.bool false]).setIfInBounds 1 (.bool (false || kk)) = #[Value.slice (some ⟨g, 0, none⟩) (2 * V) cap, Value.bool (false || kk)] := rfl
      rw [e2] at e1
      exact e1
    · exact blk_far (w := W1) HHG.out (p := ⟨kb, 1, none⟩) (Ne.symm hne) _
end Go.Proofs.YtcblijcalhaffaaGreatDoor
namespace Go.Proofs.YtcblijcalhaffaaGreatDoor
open Go Go.BigFrame Go.RowKit Go.Proofs.YtcblijcalhaffaaGreatDoorW.PrintWords Go.Proofs.YtcblijcalhaffaaGreatDoorW.PrintLast Go.Proofs.YtcblijcalhaffaaGreatDoorW.PrintMore PCheckSound

/-! rup.known.unit. -/
theorem drop_nth {α : Type} {xs : List α} {j : Nat} (h : j < xs.length) (z : α) : xs.drop j = nth xs z j :: xs.drop (j + 1) := by
  unfold nth
  rw [List.drop_eq_getElem_cons h, List.getD_eq_getElem?_getD, List.getElem?_eq_getElem h]; rfl

set_option maxRecDepth 100000 in
set_option maxHeartbeats 4000000 in
theorem kunit_any {B kb V : Nat} {s : Kn} {w : World} (H : KnAt B w kb V s) (hV : V ≤ 100000) (A : Option Addr) (cap : Nat) (c : List Int) (hr : Kd.C (Kd.int .i64) w A c.length c) (hc : ∀ x ∈ c, rightV V x = true) :
    Calls Tryz.prog 90 #[.pointer (some ⟨kb, 0, none⟩), .slice A c.length cap] w fun e w' => e = .returned (.tuple #[.int .i64 (unitG s.K 0 c).1, .bool (unitG s.K 0 c).2]) ∧ ∃ n, w' = w.drewN n := by
  obtain ⟨g, gcap, cur, h1, h2, h3, h4, h5⟩ := H
  have C1 := fun l (hl : rightV V l = true) => lit_index_pl hV hl
  have k0 : w.cell? ⟨kb, 0, none⟩ = some (.slice (some ⟨g, 0, none⟩) (2 * V) gcap) := blk_cell h1 0
  have H2 := Aside0.mk h2
  have H5 := Aside0.mk h5
  have HC := Aside0.mk hc
  have HR := Aside0.mk hr
  have HC1 := Aside0.mk C1
  have hm := hr.2.1
  clear h1 h2 h5 hc hr C1
  go_enter Tryz.func90, Tryz.ntmps90
  go_wp2
  go_loopg [6, 11] c.length (fun gk v6 v11 w' => ∃ (j : Nat) (f : Int), v6 = .int .i64 f ∧ v11 = .int .i64 j ∧ j + gk = c.length ∧ Aside0 (∃ n, w' = w.drewN n) ∧ Aside0 (unitG s.K 0 c = unitG s.K f (c.drop j)))
  case atStart => exact ⟨0, 0, rfl, rfl, by omega, ⟨0, rfl⟩, ⟨rfl⟩⟩
  case round =>
    obtain ⟨j, f, rfl, rfl, hj, HW, HU⟩ := hrel
    by_cases hjl : j < c.length
    · obtain ⟨ad, e0, hx⟩ := at_num HR.out j hjl
      cases e0
      have hlx : rightV V (nth c 0 j) = true := HC.out _ (nth_mem hjl 0)
      have HD := Aside0.mk (drop_nth hjl (0 : Int))
      have q1 : ((j : Int) < (c.length : Int)) = True := eq_true (by omega)
      have q2 : (0 ≤ (j : Int)) = True := eq_true (by omega)
      have hb := rightV_iff.1 hlx
      have p1 := pl_lt hlx
      have p2 := pl_lt (rightV_neg hlx)
      have f1 : wr.cell? ⟨g, pl (nth c 0 j), none⟩ = some (.bool (s.K (nth c 0 j))) := by obtain ⟨n, e⟩ := HW.out; rw [e]; exact (blk_cell H2.out _).trans (H5.out _ hlx)
      have f2 : wr.cell? ⟨g, pl (-(nth c 0 j)), none⟩ = some (.bool (s.K (-(nth c 0 j)))) := by obtain ⟨n, e⟩ := HW.out; rw [e]; exact (blk_cell H2.out _).trans (H5.out _ (rightV_neg hlx))
      have D1 := HC1.out _ hlx
      have D2 := HC1.out _ (rightV_neg hlx)
      have hxx : wr.cell? (ad.add j) = some (.int .i64 (nth c 0 j)) := by obtain ⟨n, e⟩ := HW.out; rw [e]; exact hx
      have k0w : wr.cell? ⟨kb, 0, none⟩ = some (.slice (some ⟨g, 0, none⟩) (2 * V) gcap) := by obtain ⟨n, e⟩ := HW.out; rw [e]; exact k0
      have HS : Aside0 (unitG s.K f (c.drop j) = if s.K (nth c 0 j) then (0, true) else if s.K (-(nth c 0 j)) then unitG s.K f (c.drop (j + 1)) else if f ≠ 0 then (0, true) else unitG s.K (nth c 0 j) (c.drop (j + 1))) := ⟨by rw [HD.out]; rfl⟩
      clear hlx HD hx
      generalize nth c 0 j = x at *
      generalize pl x = px at *
      generalize pl (-x) = py at *
      have b1 : x ≤ 100000 := by omega
      have b2 : -100000 ≤ x := by omega
      have q3 : (px : Int) < 2 * (V : Int) := by omega
      have q4 : (py : Int) < 2 * (V : Int) := by omega
      clear hb
      generalize hk1 : s.K x = a1 at *
      generalize hk2 : s.K (-x) = a2 at *
      clear hk1 hk2
      go_wp2
      go_quiet ((go_at_call 67; exact Calls.quiet_of_same (D1 _)))
      generalize hW1 : wr.drewN nq = W1
      have HW1 : Aside0 (∃ n1, W1 = w.drewN n1) := ⟨by obtain ⟨n, e⟩ := HW.out; exact ⟨n + nq, by rw [← hW1, e, World.drewN_drewN]⟩⟩
      have k0' : W1.cell? ⟨kb, 0, none⟩ = some (.slice (some ⟨g, 0, none⟩) (2 * V) gcap) := by rw [← hW1]; exact k0w
      have f2' : W1.cell? ⟨g, py, none⟩ = some (.bool a2) := by rw [← hW1]; exact f2
      clear hW1
      cases a1 with
      | true =>
        go_wp2
        go_ret2
        obtain ⟨n1, h6⟩ := HW1.out
        exact ⟨by rw [HU.out, HS.out]; rfl, n1, h6⟩
      | false =>
        go_wp2
        go_quiet ((go_at_call 67; exact Calls.quiet_of_same (D2 _)))
        generalize hW2 : W1.drewN nq = W2
        have HW2 : Aside0 (∃ n1, W2 = w.drewN n1) := ⟨by obtain ⟨n, e⟩ := HW1.out; exact ⟨n + nq, by rw [← hW2, e, World.drewN_drewN]⟩⟩
        clear hW2
        cases a2 with
        | true =>
          have HU2 : Aside0 (unitG s.K 0 c = unitG s.K f (c.drop (j + 1))) := ⟨by rw [HU.out, HS.out]; rfl⟩
          clear HS HU
          go_wp2
          go_roundg (c.length - (j + 1))
          case measure => omega
          case rel => exact ⟨j + 1, f, rfl, by go_num, by omega, HW2, HU2⟩
        | false =>
          by_cases hf : f = 0
          · subst hf
            have HU2 : Aside0 (unitG s.K 0 c = unitG s.K x (c.drop (j + 1))) := ⟨by rw [HU.out, HS.out]; rfl⟩
            clear HS HU
            go_wp2
            go_roundg (c.length - (j + 1))
            case measure => omega
            case rel => exact ⟨j + 1, x, rfl, by go_num, by omega, HW2, HU2⟩
          · have HU2 : Aside0 (unitG s.K 0 c = (0, true)) := ⟨by rw [HU.out, HS.out]; simp [hf]⟩
            clear HS HU
            have hf2 : (f != 0) = true := by simp [hf]
            go_wp2
            go_ret2
            obtain ⟨n1, h6⟩ := HW2.out
            exact ⟨by rw [HU2.out]; rfl, n1, h6⟩
    · have q1 : ((j : Int) < (c.length : Int)) = False := eq_false (by omega)
      have hT : c.drop j = [] := List.drop_of_length_le (by omega)
      have HF : Aside0 (unitG s.K 0 c = (f, decide (f ≠ 0))) := ⟨by rw [HU.out, hT]; rfl⟩
      clear hT
      go_wp2
      go_ret2
      exact ⟨by rw [HF.out]; (by_cases hf : f = 0 <;> simp [hf]), HW.out⟩
end Go.Proofs.YtcblijcalhaffaaGreatDoor
namespace Go.Proofs.YtcblijcalhaffaaGreatDoor
open Go Go.BigFrame Go.RowKit Go.Proofs.YtcblijcalhaffaaGreatDoorW.PrintWords Go.Proofs.YtcblijcalhaffaaGreatDoorW.PrintLast Go.Proofs.YtcblijcalhaffaaGreatDoorW.PrintMore PCheckSound

/-! rup.Store, as it is read; a round. -/
abbrev kRow : Kd (List Int) := Kd.slice 3 (Kd.int .i64)
/-- A store that is read: its number of variables, its clauses. -/
def RS (w : World) (b V : Nat) (cs : List (List Int)) : Prop := ∃ A cap, w.heap[b]? = some (.cells #[.int .i64 V, .slice A cs.length cap] 107 (0, 0)) ∧ kRow.C w A cs.length cs
theorem RS.below {w w' : World} {b V : Nat} {cs : List (List Int)} (h : RS w b V cs) (hb : Below w.heap.size w w') : RS w' b V cs := by
  obtain ⟨A, cap, h1, h2⟩ := h
  exact ⟨A, cap, (hb.block b (blk_lt h1)).trans h1, Kd.C_below h2 hb⟩
theorem at_row {w : World} {A : Option Addr} {n : Nat} {xs : List (List Int)} (h : kRow.C w A n xs) (j : Nat) (hj : j < n) : ∃ ad A0 c0, A = some ad ∧ w.cell? (ad.add j) = some (.slice A0 (nth xs [] j).length c0) ∧ (nth xs [] j).length ≤ c0 ∧ (Kd.int .i64).C w A0 (nth xs [] j).length (nth xs [] j) := by
  obtain ⟨ad, A0, c0, h1, h2, h3, h4⟩ := at_L2 h (j : Int) (by omega) (by omega)
  exact ⟨ad, A0, c0, h1, h2, h3, h4⟩
def AllR (V : Nat) (cs : List (List Int)) : Prop := ∀ c ∈ cs, ∀ x ∈ c, rightV V x = true
theorem KnAt.clash {B kb V : Nat} {s : Kn} {w : World} (h : KnAt B w kb V s) : KnAt B (w.setCell ⟨kb, 1, none⟩ (.bool true)) kb V { s with cl := true } := by
  obtain ⟨g, gcap, cur, h1, h2, h3, h4, h5⟩ := h
  have hne : kb ≠ g := blk_ne h1 h2 (by decide)
  refine ⟨g, gcap, cur, ?_, blk_far h2 (p := ⟨kb, 1, none⟩) (Ne.symm hne) _, h3, h4, h5⟩
  have e1 := blk_set h1 1 (.bool true)
  have e2 : (#[Value.slice (some ⟨g, 0, none⟩) (2 * V) gcap, Value.bool s.cl]).setIfInBounds 1 (.bool true) = #[Value.slice (some ⟨g, 0, none⟩) (2 * V) gcap, Value.bool true] := rfl
  rw [e2] at e1
  exact e1
theorem KnAt.cells {B kb V : Nat} {s : Kn} {w : World} (h : KnAt B w kb V s) : w.cell? ⟨kb, 1, none⟩ = some (.bool s.cl) ∧ w.frozen? ⟨kb, 1, none⟩ = false ∧ B ≤ kb := by
  obtain ⟨g, gcap, cur, h1, h2, h3, h4, h5⟩ := h
  exact ⟨blk_cell h1 1, blk_frozen h1 1, h3⟩
theorem KnAt.drewN {B kb V : Nat} {s : Kn} {w : World} (h : KnAt B w kb V s) (n : Nat) : KnAt B (w.drewN n) kb V s := h
theorem Kn.set_same (s : Kn) (h : s.cl = true) : { s with cl := true } = s := by
  cases s; simp at h; simp [h]

set_option maxRecDepth 100000 in
set_option maxHeartbeats 4000000 in
theorem round_any {b kb V : Nat} {cs : List (List Int)} {s : Kn} {w0 w : World} (HS : RS w0 b V cs) (hb : Below w0.heap.size w0 w) (H : KnAt w0.heap.size w kb V s) (hV : V ≤ 100000) (ha : AllR V cs) :
    Calls Tryz.prog 72 #[.pointer (some ⟨b, 0, none⟩), .pointer (some ⟨kb, 0, none⟩)] w fun e w' => e = .returned (.bool (roundG cs s false).2) ∧ KnAt w0.heap.size w' kb V (roundG cs s false).1 ∧ Below w0.heap.size w0 w' := by
  obtain ⟨A, cap, h1, h2⟩ := HS
  have m1 : w.cell? ⟨b, 1, none⟩ = some (.slice A cs.length cap) := (hb.cell (p := ⟨b, 1, none⟩) (blk_lt h1)).trans (blk_cell h1 1)
  have hm := h2.2.1
  have HR := Aside0.mk h2
  have HB0 := Aside0.mk hb
  have HA := Aside0.mk ha
  have HK0 := Aside0.mk H
  clear h1 h2 hb ha H
  go_enter Tryz.func72, Tryz.ntmps72
  go_wp2
  go_loopg [5, 15] cs.length (fun gk v5 v15 w' => ∃ (j : Nat) (m : Bool) (t : Kn), v5 = .bool m ∧ v15 = .int .i64 j ∧ j + gk = cs.length ∧ Aside0 (KnAt w0.heap.size w' kb V t) ∧ Aside0 (Below w0.heap.size w0 w') ∧ Aside0 (roundG cs s false = roundG (cs.drop j) t m))
  case atStart => exact ⟨0, false, s, rfl, rfl, by omega, HK0, HB0, ⟨rfl⟩⟩
  case round =>
    clear HK0 HB0 m1
    obtain ⟨j, m, t, rfl, rfl, hj, HK, HB, HG⟩ := hrel
    by_cases hjl : j < cs.length
    · obtain ⟨ad, A1, c1, e0, hx, hl1, hi1⟩ := at_row HR.out j hjl
      cases e0
      replace hx := (HB.out.cell (World.block_lt_of_cell? w0 _ hx)).trans hx
      have q1 : ((j : Int) < (cs.length : Int)) = True := eq_true (by omega)
      have q2 : (0 ≤ (j : Int)) = True := eq_true (by omega)
      have HGD : Aside0 (roundG (cs.drop j) t m = if (unitG t.K 0 (nth cs [] j)).2 = false ∨ t.cl = true then ({ t with cl := true }, false) else
          if (unitG t.K 0 (nth cs [] j)).1 ≠ 0 then roundG (cs.drop (j + 1)) (t.add (unitG t.K 0 (nth cs [] j)).1) true else roundG (cs.drop (j + 1)) t m) := ⟨by rw [drop_nth hjl []]; rfl⟩
      have hcr : ∀ x ∈ nth cs [] j, rightV V x = true := HA.out _ (nth_mem hjl [])
      have CU := kunit_any HK.out hV A1 c1 (nth cs [] j) (Kd.C_below hi1 HB.out) hcr
      have HU : Aside0 ((unitG t.K 0 (nth cs [] j)).1 ≠ 0 → rightV V (unitG t.K 0 (nth cs [] j)).1 = true) := ⟨fun h => hcr _ (unitG_in t.K _ 0 h (fun h => absurd rfl h))⟩
      clear hi1 hl1 hcr
      generalize nth cs [] j = c at *
      generalize hu : unitG t.K 0 c = u at *
      clear hu
      obtain ⟨x, ok⟩ := u
      go_wp2_with fail
      with_reducible refine CU.mono ?_
      rintro e w1 ⟨rfl, hn⟩
      have HK1 : Aside0 (KnAt w0.heap.size w1 kb V t) := ⟨by obtain ⟨n, rfl⟩ := hn; exact HK.out.drewN n⟩
      have HB1 : Aside0 (Below w0.heap.size w0 w1) := ⟨by obtain ⟨n, rfl⟩ := hn; exact pw_below_drewN HB.out n⟩
      clear hn HK HB CU hx
      obtain ⟨z1, z2, z3⟩ := HK1.out.cells
      cases ok with
      | false =>
        have HF : Aside0 (roundG cs s false = ({ t with cl := true }, false)) := ⟨by rw [HG.out, HGD.out]; rfl⟩
        clear HG HGD HU
        go_wp2
        go_ret
        rw [HF.out]
        exact ⟨rfl, HK1.out.clash, Below.setCell HB1.out (p := ⟨kb, 1, none⟩) z3 _⟩
      | true =>
        by_cases hcl : t.cl = true
        · have HF : Aside0 (roundG cs s false = ({ t with cl := true }, false)) := ⟨by rw [HG.out, HGD.out, if_pos (.inr hcl)]⟩
          have HC := Aside0.mk hcl
          rw [hcl] at z1
          clear HG HGD HU hcl
          go_wp2
          go_ret
          rw [HF.out, Kn.set_same t HC.out]
          exact ⟨rfl, HK1.out, HB1.out⟩
        · have hcl : t.cl = false := by simpa using hcl
          have HC := Aside0.mk hcl
          rw [hcl] at z1
          by_cases hx0 : x = 0
          · subst hx0
            have HG2 : Aside0 (roundG cs s false = roundG (cs.drop (j + 1)) t m) := ⟨by rw [HG.out, HGD.out, if_neg (by simp [hcl]), if_neg (by simp)]⟩
            clear HG HGD HU hcl
            go_wp2
            go_roundg (cs.length - (j + 1))
            case measure => omega
            case rel => exact ⟨j + 1, m, t, rfl, by go_num, by omega, HK1, HB1, HG2⟩
          · have HG2 : Aside0 (roundG cs s false = roundG (cs.drop (j + 1)) (t.add x) true) := ⟨by rw [HG.out, HGD.out, if_neg (by simp [hcl]), if_pos hx0]⟩
            have hx1 : (x != 0) = true := by simp [hx0]
            have CA := kadd_any HK1.out hV x (HU.out hx0)
            clear HG HGD HU hcl
            go_wp2_with fail
            with_reducible refine CA.mono ?_
            rintro e w2 ⟨rfl, hk2, hb2⟩
            have HK2 := Aside0.mk hk2
            have HB2 := Aside0.mk (HB1.out.trans hb2)
            clear hk2 hb2 CA HK1 HB1 z1 z2
            go_wp2
            go_roundg (cs.length - (j + 1))
            case measure => omega
            case rel => exact ⟨j + 1, true, t.add x, rfl, by go_num, by omega, HK2, HB2, HG2⟩
    · have q1 : ((j : Int) < (cs.length : Int)) = False := eq_false (by omega)
      have hT : cs.drop j = [] := List.drop_of_length_le (by omega)
      have HF : Aside0 (roundG cs s false = (t, m)) := ⟨by rw [HG.out, hT]; rfl⟩
      clear hT
      go_wp2
      go_ret
      rw [HF.out]
      exact ⟨rfl, HK.out, HB.out⟩
end Go.Proofs.YtcblijcalhaffaaGreatDoor
namespace Go.Proofs.YtcblijcalhaffaaGreatDoor
open Go Go.BigFrame Go.RowKit Go.Proofs.YtcblijcalhaffaaGreatDoorW.PrintWords Go.Proofs.YtcblijcalhaffaaGreatDoorW.PrintLast Go.Proofs.YtcblijcalhaffaaGreatDoorW.PrintMore PCheckSound

/-! rup.Store.Follow. -/
/-- How many literals of the clauses do not follow yet. -/
def unk (cs : List (List Int)) (s : Kn) : Nat := (cs.flatten.filter fun x => !s.K x).length
theorem filter_lt {α : Type} (p q : α → Bool) : ∀ l : List α, (∀ x, q x = true → p x = true) → (∃ x ∈ l, p x = true ∧ q x = false) → (l.filter q).length < (l.filter p).length
  | [], _, ⟨x, hx, _⟩ => by simp at hx
  | y :: l, h, ⟨x, hx, h1, h2⟩ => by
    have hle : (l.filter q).length ≤ (l.filter p).length := by
      clear hx h1 h2
      induction l with
      | nil => simp
      | cons z l ih =>
        rw [List.filter_cons, List.filter_cons]
        by_cases hq : q z = true
        · rw [if_pos hq, if_pos (h z hq)]; simp; exact ih
        · rw [if_neg hq]
          by_cases hp : p z = true
          · rw [if_pos hp]; simp; omega
          · rw [if_neg hp]; exact ih
    rw [List.filter_cons, List.filter_cons]
    rcases List.mem_cons.1 hx with rfl | hx
    · rw [if_pos h1, if_neg (by simp [h2])]; simp; omega
    · have ih := filter_lt p q l h ⟨x, hx, h1, h2⟩
      by_cases hq : q y = true
      · rw [if_pos hq, if_pos (h y hq)]; simp; exact ih
      · rw [if_neg hq]
        by_cases hp : p y = true
        · rw [if_pos hp]; simp; omega
        · rw [if_neg hp]; exact ih
theorem unk_less {cs : List (List Int)} {s : Kn} (hf : Fine cs) (h : (roundG cs s false).2 = true) : unk cs (roundG cs s false).1 < unk cs s := by
  rcases round_grows cs s false hf h with h1 | ⟨c, hc, x, hx, h1, h2⟩
  · cases h1
  · refine filter_lt _ _ _ (fun y hy => ?_) ⟨x, List.mem_flatten.2 ⟨c, hc, hx⟩, by simp [h1], by simp [h2]⟩
    simp only [Bool.not_eq_true'] at hy ⊢
    cases hK : s.K y with
    | false => rfl
    | true => rw [round_mono cs s false hK] at hy; cases hy
theorem KnAt.new {w W : World} (hg : w.grownBy W none) {V : Nat} {cap : Nat} (ho : W.ownsRow w.heap.size 4 1 (.slice (some ⟨w.heap.size, 0, none⟩) (2 * V) cap) (2 * V) (madeCells #[.bool false] (2 * V)).toList) :
    KnAt w.heap.size (W.alloc (.cells #[.slice (some ⟨w.heap.size, 0, none⟩) (2 * V) cap, .bool false] 123)) W.heap.size V ⟨fun _ => false, false⟩ := by
  rcases ho.2 with ⟨h0, _⟩ | ⟨g, c, cur, hv, hb, hh, h1, h2, h3, h4⟩
  · simp at h0
  · simp only [Value.slice.injEq, Option.some.injEq, Addr.mk.injEq] at hv
    obtain ⟨⟨rfl, _⟩, _, rfl⟩ := hv
    refine ⟨w.heap.size, cap, cur, heap_alloc_new _ _, (Below.heap_alloc W _ _ (blk_lt hh)).trans hh, hg.size, Nat.le_refl _, fun l hl => ?_⟩
    have hlt := pl_lt hl
    have h5 : (cur.toList.take (2 * V * 1))[pl l]? = some (.bool false) := by
      rw [h4]
      simp [madeCells, hlt, Nat.mod_one]
    rw [List.getElem?_take, if_pos (by omega), Array.getElem?_toList] at h5
    exact h5
theorem bool_info : (Tryz.prog.info? 4).map (fun i => (i.zero, i.size, i.bytes)) = some (some (.bool false), 1, 1) := by kernel_rfl
theorem int_info : (Tryz.prog.info? 3).map (fun i => (i.zero, i.size, i.bytes)) = some (some (.int .i64 0), 1, 8) := by kernel_rfl
theorem pl_at {V i : Nat} (h : i < 2 * V) : ∃ l, rightV V l = true ∧ pl l = i := by
  rcases Nat.mod_two_eq_zero_or_one i with h1 | h1
  · refine ⟨(i / 2 : Nat) + 1, rightV_iff.2 (by omega), ?_⟩
    unfold pl lidx
    rw [if_neg (by omega)]
    omega
  · refine ⟨-((i / 2 : Nat) + 1), rightV_iff.2 (by omega), ?_⟩
    unfold pl lidx
    rw [if_pos (by omega)]
    omega
theorem KnAt.bits {B kb V : Nat} {s : Kn} {w : World} (h : KnAt B w kb V s) : ∃ g gcap, w.cell? ⟨kb, 0, none⟩ = some (.slice (some ⟨g, 0, none⟩) (2 * V) gcap) ∧ ∀ i, i < 2 * V → ∃ v, w.cell? ⟨g, i, none⟩ = some (.bool v) := by
  obtain ⟨g, gcap, cur, h1, h2, h3, h4, h5⟩ := h
  refine ⟨g, gcap, blk_cell h1 0, fun i hi => ?_⟩
  obtain ⟨l, hl, e⟩ := pl_at hi
  exact ⟨s.K l, by rw [blk_cell h2, ← e]; exact h5 l hl⟩
set_option maxRecDepth 100000 in
set_option maxHeartbeats 4000000 in
theorem lit_at_any (i : Nat) (hi : i ≤ 1000000) (w : World) : Calls Tryz.prog 73 #[.int .i64 i] w (fun e w' => ∃ y, e = .returned (.int .i64 y) ∧ w = w') := by
  go_enter Tryz.func73, Tryz.ntmps73
  go_wp2
  all_goals
    go_ret
    exact ⟨_, rfl, rfl⟩
/-- Whole clauses' search: what is had, and that it is right. -/
structure FolI (cs : List (List Int)) (l : List Int) (s : Kn) : Prop where
  ok : s.Ok cs l
  all : ∀ x ∈ l, s.K x = true
theorem FolI.round {cs : List (List Int)} {l : List Int} {s : Kn} (h : FolI cs l s) (hf : Fine cs) : FolI cs l (roundG cs s false).1 :=
  ⟨round_ok cs s false (fun _ h => h) hf h.ok, fun x hx => round_mono cs s false (h.all x hx)⟩

set_option maxRecDepth 100000 in
set_option maxHeartbeats 8000000 in
theorem follow_any {b V : Nat} {cs : List (List Int)} {w : World} (HS : RS w b V cs) (hV : V ≤ 100000) (ha : AllR V cs) (hf : Fine cs) (A : Option Addr) (cap : Nat) (l : List Int) (hr : Kd.C (Kd.int .i64) w A l.length l) (hl : ∀ x ∈ l, rightV V x = true) :
    Calls Tryz.prog 54 #[.pointer (some ⟨b, 0, none⟩), .slice A l.length cap] w fun e w' => ∃ v ok, e = .returned (.tuple #[v, .bool ok]) ∧ (ok = false ↔ Clash cs l) ∧ Below w.heap.size w w' := by
  obtain ⟨i0, ii, iz, is, ib⟩ := info_parts bool_info
  have HSA := Aside0.mk HS
  obtain ⟨SA, scap, h1, h2⟩ := HS
  have m0 : w.cell? ⟨b, 0, none⟩ = some (.int .i64 V) := blk_cell h1 0
  have hm := hr.2.1
  have HR := Aside0.mk hr
  have HA := Aside0.mk ha
  have HF := Aside0.mk hf
  have HL := Aside0.mk hl
  have hw2 : wrap64 (2 * (V : Int)) = ((2 * V : Nat) : Int) := by unfold wrap64; omega
  have H0 := Aside0.mk (start_all cs l (fun h0 => by have := hl 0 h0; rw [rightV_iff] at this; exact this.1 rfl))
  clear h1 h2 hr ha hf hl
  go_enter Tryz.func54, Tryz.ntmps54
  go_wp2_with (at_make; go_must (refine wpList_make_full _ rfl _ _ 81 rfl w.heap.size 4 i0 _ 1 Tryz.underlying81 ii iz is .i64 .i64 _ _ (2 * V) rfl rfl (by omega) (by omega) (by rw [ib]; omega) (by unfold maxLen; omega) (Nat.le_refl _) ?_))
  intro W1 hown hgr
  have HK := Aside0.mk (KnAt.new hgr hown)
  have HB : Aside0 (Below w.heap.size w (W1.alloc (.cells #[.slice (some ⟨w.heap.size, 0, none⟩) (2 * V) (2 * V), .bool false] 123))) := ⟨((Below.refl _ w).grown hgr (Nat.le_refl _) (fun k hk => by cases hk)).alloc hgr.size _⟩
  clear hown hgr m0 hw2
  go_wp2
  generalize W1.alloc (.cells #[.slice (some ⟨w.heap.size, 0, none⟩) (2 * V) (2 * V), .bool false] 123) = W2 at *
  generalize W1.heap.size = kb at *
  go_loopg [22] l.length (fun gk v22 w' => ∃ (j : Nat) (t : Kn), v22 = .int .i64 j ∧ j + gk = l.length ∧ Aside0 (KnAt w.heap.size w' kb V t) ∧ Aside0 (Below w.heap.size w w') ∧ Aside0 ((l.take j).foldl Kn.add ⟨fun _ => false, false⟩ = t))
  case atStart => exact ⟨0, _, rfl, by omega, HK, HB, ⟨rfl⟩⟩
  case round =>
    clear HK HB W2
    obtain ⟨j, t, rfl, hj, HK, HB, HT⟩ := hrel
    by_cases hjl : j < l.length
    · obtain ⟨ad, e0, hx⟩ := at_num HR.out j hjl
      cases e0
      replace hx := (HB.out.cell (World.block_lt_of_cell? w _ hx)).trans hx
      have q1 : ((j : Int) < (l.length : Int)) = True := eq_true (by omega)
      have q2 : (0 ≤ (j : Int)) = True := eq_true (by omega)
      have HT2 : Aside0 ((l.take (j + 1)).foldl Kn.add ⟨fun _ => false, false⟩ = t.add (nth l 0 j)) := ⟨by rw [take_snoc hjl 0, List.foldl_append, HT.out]; rfl⟩
      have CA := kadd_any HK.out hV (nth l 0 j) (HL.out _ (nth_mem hjl 0))
      clear HT
      generalize nth l 0 j = x at *
      go_wp2_with fail
      with_reducible refine CA.mono ?_
      rintro e w2 ⟨rfl, hk2, hb2⟩
      have HK2 := Aside0.mk hk2
      have HB2 := Aside0.mk (HB.out.trans hb2)
      clear hk2 hb2 CA HK HB hx
      go_wp2
      go_roundg (l.length - (j + 1))
      case measure => omega
      case rel => exact ⟨j + 1, t.add x, by go_num, by omega, HK2, HB2, HT2⟩
    · have q1 : ((j : Int) < (l.length : Int)) = False := eq_false (by omega)
      have hT : l.take j = l := List.take_of_length_le (by omega)
      have HI : Aside0 (FolI cs l t) := ⟨by
        have h1 := HT.out
        rw [hT] at h1
        rw [← h1]
        exact ⟨H0.out.1, H0.out.2⟩⟩
      clear hT HT
      go_wp2
      go_loopg [39] (unk cs t) (fun gk v39 w' => ∃ (t : Kn), Aside0 (unk cs t = gk) ∧ Aside0 (KnAt w.heap.size w' kb V t) ∧ Aside0 (Below w.heap.size w w') ∧ Aside0 (FolI cs l t))
      case atStart => exact ⟨t, ⟨rfl⟩, HK, HB, HI⟩
      case round =>
        clear HK HB HI
        obtain ⟨t, HM, HK, HB, HI⟩ := hrel
        obtain ⟨z1, z2, z3⟩ := HK.out.cells
        cases hcl : t.cl with
        | true =>
          rw [hcl] at z1
          have HC : Aside0 (Clash cs l) := ⟨HI.out.ok.cla hcl⟩
          clear hcl
          go_wp2
          go_ret2
          exact ⟨_, false, rfl, ⟨fun _ => HC.out, fun _ => rfl⟩, HB.out⟩
        | false =>
          rw [hcl] at z1
          have HCL := Aside0.mk hcl
          have CR := round_any HSA.out HB.out HK.out hV HA.out
          have HI2 := Aside0.mk (HI.out.round HF.out)
          have HML : Aside0 ((roundG cs t false).2 = true → unk cs (roundG cs t false).1 < unk cs t) := ⟨fun h => unk_less HF.out h⟩
          have HD : Aside0 ((roundG cs t false).2 = false → (roundG cs t false).1.cl = false → ¬ Clash cs l) := ⟨fun h1 h2 => (follow_done HF.out HI.out.ok HI.out.all h1 h2).2⟩
          clear hcl HI
          generalize roundG cs t false = r at *
          obtain ⟨t2, more⟩ := r
          go_wp2_with fail
          with_reducible refine CR.mono ?_
          rintro e w2 ⟨rfl, hk2, hb2⟩
          have HK2 := Aside0.mk hk2
          have HB2 := Aside0.mk hb2
          clear hk2 hb2 CR HK HB z1 z2
          obtain ⟨z1, z2, _⟩ := HK2.out.cells
          cases more with
          | true =>
            go_wp2
            go_roundg (unk cs t2)
            case measure => have h1 : unk cs t2 < unk cs t := HML.out (by trivial); have h2 := HM.out; omega
            case rel => exact ⟨t2, ⟨rfl⟩, HK2, HB2, HI2⟩
          | false =>
            cases hcl2 : t2.cl with
            | true =>
              have HC : Aside0 (Clash cs l) := ⟨HI2.out.ok.cla hcl2⟩
              replace z1 : w2.cell? ⟨kb, 1, none⟩ = some (.bool true) := by rw [z1]; exact congrArg (fun b => some (Value.bool b)) hcl2
              clear hcl2 HML HD
              go_wp2
              go_ret2
              exact ⟨_, false, rfl, ⟨fun _ => HC.out, fun _ => rfl⟩, HB2.out⟩
            | false =>
              have HC : Aside0 (¬ Clash cs l) := ⟨HD.out (by trivial) hcl2⟩
              replace z1 : w2.cell? ⟨kb, 1, none⟩ = some (.bool false) := by rw [z1]; exact congrArg (fun b => some (Value.bool b)) hcl2
              clear hcl2 HML HD HM HI2 HCL
              obtain ⟨g, gcap, k0, kb2⟩ := HK2.out.bits
              have KB := Aside0.mk kb2
              clear kb2 z3
              go_wp2
              have HN : Aside0 (w2.ownsRow w2.heap.size 3 1 (.slice none 0 0) ([] : List Int).length (nums .i64 [])) := ⟨own_nil _ _ _ _⟩
              have HB3 := Aside0.mk (Below.refl w2.heap.size w2)
              go_loopg [9, 49] (2 * V) (fun gk v9 v49 w' => ∃ (j : Nat) (xs : List Int), v49 = .int .i64 j ∧ j + gk = 2 * V ∧ xs.length ≤ j ∧ Aside0 (w'.ownsRow w2.heap.size 3 1 v9 xs.length (nums .i64 xs)) ∧ Aside0 (Below w2.heap.size w2 w'))
              case atStart => exact ⟨0, [], rfl, by omega, by simp, HN, HB3⟩
              case round =>
                clear HN HB3
                obtain ⟨j, xs, rfl, hj, hlen, HO, HB3⟩ := hrel
                obtain ⟨A9, c9, rfl⟩ := own_slice HO.out
                by_cases hjl : j < 2 * V
                · obtain ⟨bv, hbv⟩ := KB.out j hjl
                  replace hbv := (HB3.out.cell (World.block_lt_of_cell? w2 _ hbv)).trans hbv
                  have q1 : ((j : Int) < 2 * (V : Int)) = True := eq_true (by omega)
                  have q2 : (0 ≤ (j : Int)) = True := eq_true (by omega)
                  have C3 := lit_at_any j (by omega)
                  cases bv with
                  | false =>
                    go_wp2
                    go_roundg (2 * V - (j + 1))
                    case measure => omega
                    case rel => exact ⟨j + 1, xs, by go_num, by omega, by omega, HO, HB3⟩
                  | true =>
                    have hsz := HB3.out.size
                    go_wp2_with (first
                      | (go_at_call 73; refine (C3 _).mono ?_; rintro e w7 ⟨y, rfl, rfl⟩)
                      | (at_builtin; refine print_append_num (w0 := w2) w2.heap.size rfl (.tmp 55) (.tmp 58) 34 3 .i64 8 rfl Tryz.underlying34 int_info (by decide) _ xs _ rfl rfl HO.out HB3.out hsz (by omega) ?_; intro v1 w8 hown hb8 _ _; obtain ⟨A10, c10, rfl⟩ := own_slice hown; have HO2 := Aside0.mk hown; have HB8 := Aside0.mk hb8; clear hown hb8))
                    go_roundg (2 * V - (j + 1))
                    case measure => omega
                    case rel => exact ⟨j + 1, xs ++ [y], by go_num, by omega, (by simp; omega), ⟨by have h := HO2.out; simp only [List.length_append, List.length_singleton] at h ⊢; exact h⟩, HB8⟩
                · have q1 : ((j : Int) < 2 * (V : Int)) = False := eq_false (by omega)
                  go_wp2
                  go_ret2
                  exact ⟨_, true, rfl, ⟨(fun h => by cases h), (fun h => absurd h HC.out)⟩, HB2.out.trans (HB3.out.mono HB2.out.size)⟩
end Go.Proofs.YtcblijcalhaffaaGreatDoor
namespace Go.Proofs.YtcblijcalhaffaaGreatDoor
open Go Go.BigFrame Go.RowKit Go.Proofs.YtcblijcalhaffaaGreatDoorW.PrintWords Go.Proofs.YtcblijcalhaffaaGreatDoorW.PrintLast Go.Proofs.YtcblijcalhaffaaGreatDoorW.PrintMore PCheckSound

/-! rup.Store.Implied. -/
theorem ownI_C {w : World} {B : Nat} {A : Option Addr} {cap : Nat} {xs : List Int} (h : OwnI w B A cap xs) : (Kd.int .i64).C w A xs.length xs ∧ xs.length ≤ cap := by
  have h2 : w.ownsRow B 3 1 (.slice A xs.length cap) xs.length (encs (Value.int .i64) xs) := h
  obtain ⟨A', c', e, h3, h4⟩ := Kd.R_reads (Kd.R_of_own (h1 := fun _ => rfl) (ok := fun _ => True) h2 (fun _ _ => trivial))
  cases e
  exact ⟨h4, h3⟩
open Classical in
noncomputable def impB (cs : List (List Int)) (c : List Int) : Bool := decide (Clash cs (negs c))
theorem impB_of {cs : List (List Int)} {c : List Int} {ok : Bool} (h : ok = false ↔ Clash cs (negs c)) : (!ok) = impB cs c := by
  unfold impB
  cases ok with
  | false => simp [h.1 rfl]
  | true =>
    have : ¬ Clash cs (negs c) := fun hc => by have := h.2 hc; cases this
    simp [this]
theorem negs_snoc (xs : List Int) (x : Int) : negs (xs ++ [x]) = negs xs ++ [-x] := by simp [negs]

set_option maxRecDepth 100000 in
set_option maxHeartbeats 8000000 in
theorem implied_any {b V : Nat} {cs : List (List Int)} {w : World} (HS : RS w b V cs) (hV : V ≤ 100000) (ha : AllR V cs) (hf : Fine cs) (A : Option Addr) (cap : Nat) (c : List Int) (hr : Kd.C (Kd.int .i64) w A c.length c) (hc : ∀ x ∈ c, rightV V x = true) (hlen : c.length ≤ 1000000000) :
    Calls Tryz.prog 34 #[.pointer (some ⟨b, 0, none⟩), .slice A c.length cap] w (Said w (.bool (impB cs c))) := by
  have hm := hr.2.1
  have HR := Aside0.mk hr
  have HSA := Aside0.mk HS
  have HA := Aside0.mk ha
  have HF := Aside0.mk hf
  have HC := Aside0.mk hc
  have HN : Aside0 (OwnI w w.heap.size none 0 []) := ⟨own_nil _ _ _ _⟩
  have HB := Aside0.mk (Below.refl w.heap.size w)
  clear hr HS ha hf hc
  go_enter Tryz.func34, Tryz.ntmps34
  go_wp2
  go_loopg [5, 12] c.length (fun gk v5 v12 w' => ∃ (j : Nat) (A5 : Option Addr) (c5 : Nat), v5 = .slice A5 j c5 ∧ v12 = .int .i64 j ∧ j + gk = c.length ∧ Aside0 (OwnI w' w.heap.size A5 c5 (negs (c.take j))) ∧ Aside0 (Below w.heap.size w w'))
  case atStart => exact ⟨0, none, 0, rfl, rfl, by omega, HN, HB⟩
  case round =>
    clear HN HB
    obtain ⟨j, A5, c5, rfl, rfl, hj, HO, HB⟩ := hrel
    by_cases hjl : j < c.length
    · obtain ⟨ad, e0, hx⟩ := at_num HR.out j hjl
      cases e0
      replace hx := (HB.out.cell (World.block_lt_of_cell? w _ hx)).trans hx
      have q1 : ((j : Int) < (c.length : Int)) = True := eq_true (by omega)
      have q2 : (0 ≤ (j : Int)) = True := eq_true (by omega)
      have hb := rightV_iff.1 (HC.out _ (nth_mem hjl 0))
      have HT := Aside0.mk (negs_snoc (c.take j) (nth c 0 j))
      rw [← take_snoc hjl 0] at HT
      have hlj : (negs (c.take j)).length = j := by simp [negs]; omega
      have HLJ := Aside0.mk hlj
      have hsz := HB.out.size
      have b1 : nth c 0 j ≤ 100000 := by omega
      have b2 : -100000 ≤ nth c 0 j := by omega
      clear hlj hb
      generalize nth c 0 j = x at *
      have HO1 : Aside0 (wr.ownsRow w.heap.size 3 1 (.slice A5 j c5) (negs (c.take j)).length (nums .i64 (negs (c.take j)))) := ⟨by have h := HO.out; unfold OwnI at h; rw [HLJ.out] at h ⊢; exact h⟩
      clear HO
      go_wp2_with (at_builtin; refine print_append_num (w0 := w) w.heap.size rfl (.tmp 16) (.tmp 19) 34 3 .i64 8 rfl Tryz.underlying34 int_info (by decide) _ (negs (c.take j)) _ rfl rfl HO1.out HB.out hsz (by rw [HLJ.out]; omega) ?_; intro v1 w8 hown hb8 _ _; obtain ⟨A10, c10, rfl⟩ := own_slice hown; have HO2 := Aside0.mk hown; have HB8 := Aside0.mk hb8; clear hown hb8)
      go_roundg (c.length - (j + 1))
      case measure => omega
      case rel =>
        have e1 : (negs (c.take j) ++ [-x]).length = j + 1 := by have := HLJ.out; simp; omega
        refine ⟨j + 1, A10, c10, by first | rfl | (rw [← e1]; simp), by go_num, by omega, ⟨?_⟩, HB8⟩
        have h := HO2.out
        unfold OwnI
        rw [HT.out]
        exact h
    · have q1 : ((j : Int) < (c.length : Int)) = False := eq_false (by omega)
      obtain rfl : j = c.length := by omega
      have hT : c.take c.length = c := List.take_length
      have HO1 := HO.out
      rw [hT] at HO1
      have hnl : (negs c).length = c.length := by simp [negs]
      have CF := follow_any (HSA.out.below HB.out) hV HA.out HF.out A5 c5 (negs c) (ownI_C HO1).1 (fun x hx => by
        obtain ⟨y, hy, rfl⟩ := List.mem_map.1 hx
        exact rightV_neg (HC.out y hy))
      rw [hnl] at CF
      clear HO HO1 hT hnl
      go_wp2_with fail
      with_reducible refine CF.mono ?_
      rintro e w2 ⟨v, ok, rfl, hok, hb2⟩
      have HOK := Aside0.mk (impB_of hok)
      have HB2 := Aside0.mk (below_step HB.out hb2)
      clear hok hb2 CF
      go_wp2
      go_ret
      exact ⟨by rw [← HOK.out]; rfl, HB2.out⟩
end Go.Proofs.YtcblijcalhaffaaGreatDoor
