import Derived.Test.YtdbdilajjmijaaaGreatDoorDnReader
import Derived.Deep.RegionLaw
import Derived.BigRegion
namespace Go.Proofs.YtdbdilajjmijaaaGreatDoor
open Go Go.RowKit Go.Proofs.YtdbdilajjmijaaaGreatDoorW.PrintWords Go.Proofs.YtdbdilajjmijaaaGreatDoorW.PrintLast Go.Proofs.YtdbdilajjmijaaaGreatDoorW.PrintMore PDimacsCuts

/-! word -/
theorem cell_more {w : World} {a : Addr} {v : Value} (h : w.cell? a = some v) (o : Obj) : (w.alloc o).cell? a = some v := (World.cell?_alloc_lt _ _ _ (World.block_lt_of_cell? w a h)).trans h
theorem litW_bound {x : List UInt8} {l : Int} (h : litW x = some l) : -1000000000 < l ∧ l < 1000000000 := by
  unfold litW at h
  split at h
  · rename_i r
    cases hn : numW r with
    | none => rw [hn] at h; cases h
    | some n =>
      rw [hn, Option.bind_some] at h
      have := numW_lt hn
      split at h
      · cases h
      · injection h with h; omega
  · cases hn : numW x with
    | none => rw [hn] at h; cases h
    | some n =>
      rw [hn] at h
      have := numW_lt hn
      have h2 : some (n : Int) = some l := h
      injection h2 with h2
      omega

theorem RdIs.closed {w w1 : World} {base b : Nat} {Vc Vo v1 : Value} {r : Rdr} (h : RdIs w base b Vc Vo r) (ho : Kd.R kForm 46 w1 base (fun _ => True) v1 (r.cls ++ [r.opn])) (hg : w.grownBy w1 Vc.ownBlock) :
    w1.cell? ⟨b, 1, none⟩ = some Vc ∧ w1.cell? ⟨b, 4, none⟩ = some Vo ∧ w1.frozen? ⟨b, 1, none⟩ = false ∧ w1.frozen? ⟨b, 4, none⟩ = false ∧
    RdIs ((w1.setCell ⟨b, 1, none⟩ v1).setCell ⟨b, 4, none⟩ (.slice none 0 0)) base b v1 (.slice none 0 0) { r with cls := r.cls ++ [r.opn], opn := [] } ∧
    Stands 9 w ((w1.setCell ⟨b, 1, none⟩ v1).setCell ⟨b, 4, none⟩ (.slice none 0 0)) := by
  have hb1 := blk_grown h.blk hg (Kd.R_ne h.cls h.blk (by decide))
  have hb2 := blk_put (cs' := #[.int .i64 (r.vars : Int), v1, .int .i64 (r.n : Int), .int .i64 (r.lits : Int), Vo, .bool r.head]) hb1 1 v1 rfl
  have hb3 := blk_put (cs' := #[.int .i64 (r.vars : Int), v1, .int .i64 (r.n : Int), .int .i64 (r.lits : Int), .slice none 0 0, .bool r.head]) hb2 4 (.slice none 0 0) rfl
  refine ⟨(blk_cell hb1 1).trans rfl, (blk_cell hb1 4).trans rfl, blk_frozen hb1 1, blk_frozen hb1 4, ⟨hb3, h.low, ?_, Kd.R_nil _ _ _ _ _⟩, ?_⟩
  · exact Kd.R_apart_nil (Kd.R_set (Kd.R_set ho hb1 (by decide) 1 _) hb2 (by decide) 4 _)
  · exact ((Stands.append h.cls (by decide) hg).trans (Stands.set hb1 (by decide) 1 _)).trans (Stands.set hb2 (by decide) 4 _)

theorem RdIs.opened {w w1 : World} {base b : Nat} {Vc Vo v1 : Value} {r : Rdr} {l : Int} (h : RdIs w base b Vc Vo r) (ho : Kd.R (Kd.int .i64) 3 w1 base (fun _ => True) v1 (r.opn ++ [l])) (hg : w.grownBy w1 Vo.ownBlock) (hat : v1.ownBlock = Vo.ownBlock ∨ ∃ b, v1.ownBlock = some b ∧ w.heap.size ≤ b) :
    w1.cell? ⟨b, 4, none⟩ = some Vo ∧ w1.frozen? ⟨b, 4, none⟩ = false ∧
    RdIs (w1.setCell ⟨b, 4, none⟩ v1) base b Vc v1 { r with opn := r.opn ++ [l] } ∧ Stands 9 w (w1.setCell ⟨b, 4, none⟩ v1) := by
  have hb1 := blk_grown h.blk hg (Kd.R_ne h.opn h.blk (by decide))
  have hb2 := blk_put (cs' := #[.int .i64 (r.vars : Int), Vc, .int .i64 (r.n : Int), .int .i64 (r.lits : Int), v1, .bool r.head]) hb1 4 v1 rfl
  have hc := Kd.R_after h.cls hg hat
  refine ⟨(blk_cell hb1 4).trans rfl, blk_frozen hb1 4, ⟨hb2, h.low, ?_, ?_⟩, ?_⟩
  · exact Kd.R_set hc hb1 (by decide) 4 _
  · exact Kd.R_set ho hb1 (by decide) 4 _
  · exact (Stands.append h.opn (by decide) hg).trans (Stands.set hb1 (by decide) 4 _)

set_option maxRecDepth 100000 in
set_option maxHeartbeats 4000000 in
theorem word_any (w : World) (base b : Nat) (r : Rdr) (x : List UInt8) (h : RdAt w base b r) (hB : base ≤ w.heap.size) (hx : x.length ≤ 1099511627776)
    (h1 : r.cls.length ≤ 1000000) (h2 : r.opn.length ≤ 1000001) (h3 : r.lits ≤ 1000001) :
    Calls Tryz.prog 33 #[.pointer (some ⟨b, 0, none⟩), strV x] w (MethSaid w base b (wordR r x)) := by
  obtain ⟨Vc, Vo, hI⟩ := h
  have C := literal_any x w hx
  have hxs : strV x = .string (bs x) := rfl
  rw [hxs] at C ⊢
  obtain ⟨A1, k1, rfl⟩ := Kd.R_slice hI.cls
  obtain ⟨A4, k4, rfl⟩ := Kd.R_slice hI.opn
  have HI := Aside0.mk hI
  have all : ∀ (k : Nat) w', Below w.heap.size w w' → MethSaid w base b (k, r) (.returned (.int .i64 (k : Int))) w' := fun k w' hb => ⟨rfl, ⟨_, _, HI.out.below hb⟩, hb.mono hB, Stands.of_below hb⟩
  have ALL := Aside0.mk all
  clear all hI hxs
  cases hl : litW x with
  | none =>
    have e : wordR r x = (3, r) := by unfold wordR; rw [hl]
    rw [hl] at C
    rw [e]
    clear e hl hx
    generalize bs x = X at *
    go_enter Tryz.func33, Tryz.ntmps33
    go_wp2_with (go_at_call 44; refine C.mono ?_)
    rintro e w2 ⟨hb, rfl⟩
    have HB := Aside0.mk hb
    clear C hb
    go_wp2
    go_ret
    exact ALL.out 3 _ HB.out
  | some l =>
    obtain ⟨hl0, hl1⟩ := litW_bound hl
    have e : wordR r x = if r.cls.length = r.n then (5, r) else if (r.vars : Int) < max l (-l) then (4, r) else
      if l = 0 then (0, { r with cls := r.cls ++ [r.opn], opn := [] }) else
      if 1000000 < r.lits + 1 then (8, { r with lits := r.lits + 1 }) else (0, { r with lits := r.lits + 1, opn := r.opn ++ [l] }) := by unfold wordR; rw [hl]
    rw [hl] at C
    have HG := Aside0.mk e
    clear e hl hx
    generalize wordR r x = G at *
    generalize bs x = X at *
    go_enter Tryz.func33, Tryz.ntmps33
    go_wp2_with (go_at_call 44; refine C.mono ?_)
    rintro e w2 ⟨hb, rfl⟩
    have HB := Aside0.mk hb
    have HI2 := Aside0.mk (HI.out.below hb)
    clear C hb
    have p0 := HI2.out.c0
    have p1 := HI2.out.c1
    have p2 := HI2.out.c2
    have p3 := HI2.out.c3
    have p4 := HI2.out.c4
    have f1 := blk_frozen HI2.out.blk 1
    have f3 := blk_frozen HI2.out.blk 3
    have f4 := blk_frozen HI2.out.blk 4
    by_cases h6 : r.cls.length = r.n
    · have hG : G = (5, r) := by rw [HG.out, if_pos h6]
      have q6 : ((r.cls.length : Int) == (r.n : Int)) = true := by simp; omega
      have q6' : (r.cls.length == r.n) = true := by simp; omega
      subst hG
      clear h6 HG
      go_wp2
      go_quiet (fail)
      go_wp2
      go_ret
      exact ALL.out 5 _ (below_drewN HB.out _)
    · have q6 : ((r.cls.length : Int) == (r.n : Int)) = false := by simp; omega
      have q6' : (r.cls.length == r.n) = false := by simp; omega
      by_cases h7 : (r.vars : Int) < max l (-l)
      · have hG : G = (4, r) := by rw [HG.out, if_neg h6, if_pos h7]
        subst hG
        clear h6 HG
        go_wp2
        go_quiet (fail)
        go_wp2
        go_ret
        exact ALL.out 4 _ (below_drewN HB.out _)
      · by_cases h8 : l = 0
        · have hG : G = (0, { r with cls := r.cls ++ [r.opn], opn := [] }) := by rw [HG.out, if_neg h6, if_neg h7, if_pos h8]
          subst hG h8
          clear h6 HG
          have g1 := fun n o => cell_more (show (w2.drewN n).cell? ⟨b, 1, none⟩ = _ from p1) o
          have g4 := fun n o => cell_more (show (w2.drewN n).cell? ⟨b, 4, none⟩ = _ from p4) o
          go_wp2
          go_quiet (fail)
          go_wp2
          have hop : Kd.R (Kd.int .i64) 3 w2 base (fun k => True ∧ some k ≠ (Value.slice A1 r.cls.length k1).ownBlock) (.slice A4 r.opn.length k4) r.opn := Kd.R_apart' HI2.out.opn (Kd.R_typed HI2.out.cls) (by decide)
          have HOP := Aside0.mk hop
          clear hop
          go_region_law (refine Kd.R_append_step kForm (w0 := w) base rfl (.tmp 47) (.tmp 52) 27 46 (.slice none 0 0) 24 rfl Tryz.underlying27 ints_info rfl (by decide) (by decide) _ r.cls r.opn [.slice A4 r.opn.length k4] (fun _ => True) (fun k => True ∧ some k ≠ (Value.slice A1 r.cls.length k1).ownBlock) rfl rfl ⟨_, rfl, Kd.R_drewN HOP.out _⟩ (fun _ hk => hk) (fun _ _ => trivial) (Kd.R_mono (Kd.R_drewN HI2.out.cls _) (fun _ _ => trivial)) (pw_below_drewN (HB.out.mono hB) _) (Nat.le_trans hB HB.out.size) (by omega) ?_; intro v1 w3 ho hb hg hat; obtain ⟨Av, kv, rfl⟩ := Kd.R_slice ho; rw [show (r.cls ++ [r.opn]).length = r.cls.length + 1 by simp] at ho ⊢; have CL := Aside0.mk (RdIs.closed (HI2.out.drewN _) ho hg); have HB3 := Aside0.mk hb; have p1' := CL.out.1; have p4' := CL.out.2.1; have f1' := CL.out.2.2.1; have f4' := CL.out.2.2.2.1; clear ho hb hg hat)
          all_goals
            go_wp2
            go_ret
            exact ⟨rfl, ⟨_, _, CL.out.2.2.2.2.1⟩, (HB3.out.setCell (p := ⟨b, 1, none⟩) HI.out.low _).setCell (p := ⟨b, 4, none⟩) HI.out.low _, ((Stands.of_below HB.out).drewN _).trans CL.out.2.2.2.2.2⟩
        · by_cases h9 : 1000000 < r.lits + 1
          · have hG : G = (8, { r with lits := r.lits + 1 }) := by rw [HG.out, if_neg h6, if_neg h7, if_neg h8, if_pos h9]
            have q8 : (l == 0) = false := by simpa using h8
            have q9 : (1000000 < (r.lits : Int) + 1) = True := eq_true (by omega)
            subst hG
            clear h6 HG h8 h9
            go_wp2
            go_quiet (fail)
            go_wp2
            go_ret
            exact ⟨rfl, ⟨_, _, (HI2.out.drewN _).set 3 _ rfl rfl rfl⟩, (pw_below_drewN (HB.out.mono hB) _).setCell (p := ⟨b, 3, none⟩) HI.out.low _, ((Stands.of_below HB.out).drewN _).trans (Stands.set (HI2.out.drewN _).blk (by decide) 3 _)⟩
          · have hG : G = (0, { r with lits := r.lits + 1, opn := r.opn ++ [l] }) := by rw [HG.out, if_neg h6, if_neg h7, if_neg h8, if_neg h9]
            have q8 : (l == 0) = false := by simpa using h8
            have q9 : (1000000 < (r.lits : Int) + 1) = False := eq_false (by omega)
            subst hG
            clear h6 HG h8 h9
            have hi3 : ∀ n, RdIs ((w2.drewN n).setCell ⟨b, 3, none⟩ (.int .i64 ((r.lits : Int) + 1))) base b (.slice A1 r.cls.length k1) (.slice A4 r.opn.length k4) { r with lits := r.lits + 1 } := fun n => (HI2.out.drewN n).set 3 _ rfl rfl rfl
            have HI3 := Aside0.mk hi3
            clear hi3
            go_wp2_with fail
            go_quiet (fail)
            go_wp2_with ((with_reducible refine gate_builtin (b := .append) (xs := #[.tmp 75, .tmp 77]) rfl ?_); at_builtin; refine Kd.R_append (Kd.int .i64) (w0 := w) base rfl (.tmp 75) (.tmp 77) 46 3 (.int .i64 0) 8 rfl Tryz.underlying46 int_info rfl (by decide) (by decide) _ r.opn l [.int .i64 l] (fun _ => True) (fun _ => False) rfl ?aX rfl (fun _ hk => hk.elim) (fun _ _ => trivial) ?aO ?aB ?aS ?aL ?_; (case aX => first | rfl | (simp [Act.eval]; done)); (case aO => exact (HI3.out _).opn); (case aB => exact (pw_below_drewN (HB.out.mono hB) _).setCell (p := ⟨b, 3, none⟩) HI.out.low _); (case aS => exact Nat.le_trans hB (by have := HB.out.size; simp [World.setCell]; exact this)); (case aL => omega))
            intro v1 w3 ho hb hg hat
            obtain ⟨Av, kv, rfl⟩ := Kd.R_slice ho
            rw [show (r.opn ++ [l]).length = r.opn.length + 1 by simp] at ho hat ⊢
            have CL := Aside0.mk (RdIs.opened (HI3.out _) ho hg (by simpa [World.setCell] using hat))
            have HB3 := Aside0.mk hb
            have p4' := CL.out.1
            have f4' := CL.out.2.1
            clear ho hb hg hat
            go_wp2
            go_ret
            exact ⟨rfl, ⟨_, _, CL.out.2.2.1⟩, HB3.out.setCell (p := ⟨b, 4, none⟩) HI.out.low _, (((Stands.of_below HB.out).drewN _).trans (Stands.set (HI2.out.drewN _).blk (by decide) 3 _)).trans CL.out.2.2.2⟩
end Go.Proofs.YtdbdilajjmijaaaGreatDoor
