import Derived.Test.YtcblijcalhaffaaGreatDoorCmKnowQS
import Derived.Deep.RegionLaw
import Derived.Lib.SliceRun
namespace Go.Proofs.YtcblijcalhaffaaGreatDoor
open Go Go.BigFrame Go.RowKit Go.Proofs.YtcblijcalhaffaaGreatDoorW.PrintWords Go.Proofs.YtcblijcalhaffaaGreatDoorW.PrintLast Go.Proofs.YtcblijcalhaffaaGreatDoorW.PrintMore PCheckSound

/-! rup.Store, as it is written: New, Add. -/
/-- A store whose memory was made from B on. -/
def StoreAt (B : Nat) (w : World) (b V : Nat) (cs : List (List Int)) : Prop := ∃ A cap, w.heap[b]? = some (.cells #[.int .i64 V, .slice A cs.length cap] 107 (0, 0)) ∧ B ≤ b ∧ kRow.R 34 w B (fun _ => True) (.slice A cs.length cap) cs
theorem StoreAt.below {B b V : Nat} {cs : List (List Int)} {w w' : World} (h : StoreAt B w b V cs) (hb : Below w.heap.size w w') : StoreAt B w' b V cs := by
  obtain ⟨A, cap, h1, h2, h3⟩ := h
  exact ⟨A, cap, (hb.block b (blk_lt h1)).trans h1, h2, Kd.R_below h3 hb⟩
theorem StoreAt.rs {B b V : Nat} {cs : List (List Int)} {w : World} (h : StoreAt B w b V cs) : RS w b V cs := by
  obtain ⟨A, cap, h1, h2, h3⟩ := h
  obtain ⟨A', c', e, h4, h5⟩ := Kd.R_reads h3
  cases e
  exact ⟨A, cap, h1, h5⟩
theorem row_info : (Tryz.prog.info? 34).map (fun i => (i.zero, i.size, i.bytes)) = some (some (.slice none 0 0), 1, 24) := by kernel_rfl
/-- A made row as an element. -/
theorem ownI_R {w : World} {B B' : Nat} {A : Option Addr} {cap : Nat} {xs : List Int} (h : OwnI w B A cap xs) (hb : B' ≤ B) : (Kd.int .i64).R 3 w B' (fun _ => True) (.slice A xs.length cap) xs :=
  Kd.R_lower (Kd.R_of_own (h1 := fun _ => rfl) (ok := fun _ => True) (show w.ownsRow B 3 1 (.slice A xs.length cap) xs.length (encs (Value.int .i64) xs) from h) (fun _ _ => trivial)) hb
/-- Behind an append to a store's clauses, and its store. -/
theorem StoreAt.grown {B b V : Nat} {cs : List (List Int)} {w w6 : World} {A : Option Addr} {cap : Nat} (h1 : w.heap[b]? = some (.cells #[.int .i64 V, .slice A cs.length cap] 107 (0, 0))) (h2 : B ≤ b) (hR : kRow.R 34 w B (fun _ => True) (.slice A cs.length cap) cs)
    {v1 : Value} {p : List Int} (hn : kRow.R 34 w6 B (fun _ => True) v1 (cs ++ [p])) (hg : w.grownBy w6 (Value.slice A cs.length cap).ownBlock) :
    w6.heap[b]? = some (.cells #[.int .i64 V, .slice A cs.length cap] 107 (0, 0)) ∧ StoreAt B (w6.setCell ⟨b, 1, none⟩ v1) b V (cs ++ [p]) := by
  have hb6 : w6.heap[b]? = some (.cells #[.int .i64 V, .slice A cs.length cap] 107 (0, 0)) := blk_grown h1 hg (Kd.R_ne hR h1 (by decide))
  refine ⟨hb6, ?_⟩
  obtain ⟨A', c', rfl⟩ := Kd.R_slice hn
  refine ⟨A', c', ?_, h2, Kd.R_set hn hb6 (by decide) 1 _⟩
  have e1 := blk_set hb6 1 (.slice A' (cs ++ [p]).length c')
  have e2 : (#[Value.int .i64 V, Value.slice A cs.length cap]).setIfInBounds 1 (.slice A' (cs ++ [p]).length c') = #[Value.int .i64 V, Value.slice A' (cs ++ [p]).length c'] := rfl
  rw [e2] at e1
  exact e1

set_option maxRecDepth 100000 in
set_option maxHeartbeats 4000000 in
theorem new_any (V : Nat) (w : World) : Calls Tryz.prog 30 #[.int .i64 V] w fun e w' => ∃ b, e = .returned (.pointer (some ⟨b, 0, none⟩)) ∧ StoreAt w.heap.size w' b V [] ∧ Below w.heap.size w w' := by
  go_enter Tryz.func30, Tryz.ntmps30
  go_wp2
  go_ret
  exact ⟨w.heap.size, rfl, ⟨none, 0, heap_alloc_new _ _, Nat.le_refl _, Kd.R_nil _ _ _ _ _⟩, (Below.refl _ w).alloc (Nat.le_refl _) _⟩

theorem cell_more {w : World} {a : Addr} {v : Value} (h : w.cell? a = some v) (o : Obj) : (w.alloc o).cell? a = some v := (World.cell?_alloc_lt _ _ _ (World.block_lt_of_cell? w a h)).trans h
theorem below_undrew {B : Nat} {w w' : World} (h : Below B w.drew w') : Below B w w' := ⟨h.os, h.tape, h.output, h.size, h.block⟩
/-- Are all literals of the store's variables? -/
def rightC (V : Nat) (c : List Int) : Bool := c.all (rightV V)
theorem rightC_any (V : Nat) (c : List Int) : (c.any fun x => !rightV V x) = !rightC V c := by unfold rightC; rw [List.not_all_eq_any_not]
theorem rightC_iff {V : Nat} {c : List Int} : rightC V c = true ↔ ∀ x ∈ c, rightV V x = true := by unfold rightC; rw [List.all_eq_true]

set_option maxRecDepth 100000 in
set_option maxHeartbeats 8000000 in
theorem add_any {B b V : Nat} {cs : List (List Int)} {w : World} (H : StoreAt B w b V cs) (hB : B ≤ w.heap.size) (hV : V ≤ 100000) (A : Option Addr) (cap : Nat) (c : List Int) (hr : Kd.C (Kd.int .i64) w A c.length c) (hlen : c.length ≤ 1000000000) (hcs : cs.length ≤ 1000000000) :
    Calls Tryz.prog 31 #[.pointer (some ⟨b, 0, none⟩), .slice A c.length cap] w fun e w' => e = .returned (.bool (rightC V c)) ∧ StoreAt B w' b V (if rightC V c then cs ++ [normC c] else cs) ∧ Below B w w' := by
  obtain ⟨SA, scap, h1, h2, h3⟩ := H
  have m0 : (w.alloc (.cells #[.pointer (some ⟨b, 0, none⟩)] 32)).cell? ⟨w.heap.size, 0, none⟩ = some (.pointer (some ⟨b, 0, none⟩)) := (blk_cell (heap_alloc_new w _) 0).trans rfl
  have hb0 : Below w.heap.size w (w.alloc (.cells #[.pointer (some ⟨b, 0, none⟩)] 32)) := (Below.refl _ w).alloc (Nat.le_refl _) _
  have hblk : (w.alloc (.cells #[.pointer (some ⟨b, 0, none⟩)] 32)).heap[w.heap.size]? = some (.cells #[.pointer (some ⟨b, 0, none⟩)] 32 (0, 0)) := heap_alloc_new w _
  have h1' := (hb0.block b (blk_lt h1)).trans h1
  have h3' := Kd.R_below h3 hb0
  have hr' := Kd.C_below hr hb0
  have C1 := fun W (hW : Below (w.alloc (.cells #[.pointer (some ⟨b, 0, none⟩)] 32)).heap.size (w.alloc (.cells #[.pointer (some ⟨b, 0, none⟩)] 32)) W) =>
    hasF_add (fun x => !rightV V x) w.heap.size A cap c W (fun x w' hw' => add1_any x V b w.heap.size hV w' ((Below.cell (below_step hW hw') (p := ⟨w.heap.size, 0, none⟩) (blk_lt hblk)).trans m0) ((Below.cell (below_step hW hw') (p := ⟨b, 0, none⟩) (blk_lt h1')).trans (blk_cell h1' 0))) (Kd.C_below hr' hW)
  rw [rightC_any] at C1
  have HB0 := Aside0.mk hb0
  have hsz0 : w.heap.size < (w.alloc (.cells #[.pointer (some ⟨b, 0, none⟩)] 32)).heap.size := blk_lt hblk
  have H1 := Aside0.mk h1'
  have H3 := Aside0.mk h3'
  have HR := Aside0.mk hr'
  have HBK := Aside0.mk hblk
  have HRC := Aside0.mk (@rightC_iff V c)
  clear h1 h3 hr h1' h3' hr' hblk m0 hb0
  generalize hW1 : w.alloc (.cells #[.pointer (some ⟨b, 0, none⟩)] 32) = W1 at *
  have HW1 := Aside0.mk hW1
  clear hW1
  cases hc : rightC V c with
  | false =>
    have C2 := C1 W1 (Below.refl _ _)
    rw [hc] at C2
    clear hc C1
    go_enter Tryz.func31, Tryz.ntmps31
    go_wp2_with fail
    rw [HW1.out]
    with_reducible refine C2.mono ?_
    rintro e w2 ⟨rfl, hb⟩
    have HB := Aside0.mk hb
    clear hb C2
    go_wp2
    go_ret
    exact ⟨rfl, ⟨SA, scap, (HB.out.block b (blk_lt H1.out)).trans H1.out, h2, Kd.R_below H3.out HB.out⟩, (HB0.out.trans (HB.out.mono (Nat.le_of_lt hsz0))).mono hB⟩
  | true =>
    have C2 := C1 W1 (Below.refl _ _)
    rw [hc] at C2
    have HC := Aside0.mk (HRC.out.1 hc)
    clear hc C1
    go_enter Tryz.func31, Tryz.ntmps31
    go_wp2_with fail
    rw [HW1.out]
    with_reducible refine C2.mono ?_
    rintro e w2 ⟨rfl, hb⟩
    have HB := Aside0.mk hb
    have H1' := Aside0.mk ((HB.out.block b (blk_lt H1.out)).trans H1.out)
    have H3' := Aside0.mk (Kd.R_below H3.out HB.out)
    have HR' := Aside0.mk (Kd.C_below HR.out HB.out)
    have HBK' := Aside0.mk ((HB.out.block _ (blk_lt HBK.out)).trans HBK.out)
    have hbw : Below B w w2 := (HB0.out.trans (HB.out.mono (Nat.le_of_lt hsz0))).mono hB
    have HBW := Aside0.mk hbw
    clear hb C2 H1 H3 HR HBK HW1 HB0 hsz0 HB hbw
    have hpw : w.heap.size < w2.heap.size := blk_lt HBK'.out
    generalize w.heap.size = pb at *
    have CC := clause_any A cap c w2.drew (Kd.C_below HR'.out (below_drew1 (Below.refl _ _))) (by omega) (fun x hx => by have := rightV_iff.1 (HC.out x hx); omega)
    have f8 : w2.cell? ⟨pb, 0, none⟩ = some (.pointer (some ⟨b, 0, none⟩)) := (blk_cell HBK'.out 0).trans rfl
    have f12 : w2.cell? ⟨b, 1, none⟩ = some (.slice SA cs.length scap) := (blk_cell H1'.out 1).trans rfl
    have HCC := Aside0.mk CC
    clear CC
    go_wp2
    go_region_law (first
      | ((rw [if_pos (by rfl)]); go_simp; (go_at_call 53; refine HCC.out.mono ?_; rintro e w5 ⟨A5, c5, rfl, ho, hb5⟩; have hb6 := below_undrew hb5; have hB5 : B ≤ w5.heap.size := Nat.le_trans hB (Nat.le_trans (Nat.le_of_lt hpw) hb6.size); have HO5 := Aside0.mk (Kd.R_below H3'.out hb6); have HN5 := Aside0.mk (Kd.R_apart' (ownI_R (B' := B) ho (Nat.le_trans hB (Nat.le_trans (Nat.le_of_lt hpw) (Nat.le_refl _)))) (Kd.R_typed HO5.out) (by decide)); have H15 := Aside0.mk ((hb6.block b (blk_lt H1'.out)).trans H1'.out); have HK5 := Aside0.mk ((hb6.block _ (blk_lt HBK'.out)).trans HBK'.out); have HB5 := Aside0.mk (HBW.out.trans (hb6.mono (Nat.le_trans hB (Nat.le_of_lt hpw)))); have g8 : w5.cell? ⟨pb, 0, none⟩ = some (.pointer (some ⟨b, 0, none⟩)) := (blk_cell HK5.out 0).trans rfl; have g12 : w5.cell? ⟨b, 1, none⟩ = some (.slice SA cs.length scap) := (blk_cell H15.out 1).trans rfl; have g8' := fun o => cell_more g8 o; have g12' := fun o => cell_more g12 o; clear ho hb5 hb6))
      | (refine Kd.R_append_step kRow (w0 := w) B rfl (.tmp 12) (.tmp 15) 28 34 (.slice none 0 0) 24 rfl Tryz.underlying28 row_info rfl (by decide) (by decide) _ cs (normC c) [.slice A5 (normC c).length c5] (fun _ => True) (fun k => True ∧ some k ≠ (Value.slice SA cs.length scap).ownBlock) rfl rfl ⟨_, rfl, HN5.out⟩ (fun _ hk => hk) (fun _ _ => trivial) HO5.out HB5.out hB5 (by omega) ?_; intro v1 w6 hn hb6 hg _; have G := Aside0.mk (StoreAt.grown H15.out h2 HO5.out hn hg); have HB6 := Aside0.mk hb6; have HK6 := blk_grown HK5.out hg (Kd.R_ne HO5.out HK5.out (by decide)); have g8 : w6.cell? ⟨pb, 0, none⟩ = some (.pointer (some ⟨b, 0, none⟩)) := (blk_cell HK6 0).trans rfl; have k12 : w6.cell? ⟨b, 1, none⟩ = some (.slice SA cs.length scap) := (blk_cell G.out.1 1).trans rfl; have k13 := blk_frozen G.out.1 1; obtain ⟨A6, c6, rfl⟩ := Kd.R_slice hn; have G3 := G.out.2; rw [show (cs ++ [normC c]).length = cs.length + 1 by simp] at G3; have G4 := Aside0.mk G3; clear hn hb6 hg HK6 G3))
    all_goals
      go_wp2
      go_ret
      exact ⟨rfl, G4.out, HB6.out.setCell (p := ⟨b, 1, none⟩) h2 _⟩
end Go.Proofs.YtcblijcalhaffaaGreatDoor
namespace Go.Proofs.YtcblijcalhaffaaGreatDoor
open Go Go.BigFrame Go.RowKit Go.Proofs.YtcblijcalhaffaaGreatDoorW.PrintWords Go.Proofs.YtcblijcalhaffaaGreatDoorW.PrintLast Go.Proofs.YtcblijcalhaffaaGreatDoorW.PrintMore PCheckSound

/-! rup.Store.find. -/
theorem C_at {w : World} {A : Option Addr} {xs : List Int} (h : (Kd.int .i64).C w A xs.length xs) (h0 : 0 < xs.length) : ∃ b off, A = some ⟨b, off, none⟩ ∧ ∀ j, j < xs.length → w.cell? ⟨b, off + j, none⟩ = some (.int .i64 (xs.getD j 0)) := by
  obtain ⟨ad, rfl, hx⟩ := at_num h 0 h0
  rw [show ad.add 0 = ad from by unfold Addr.add; simp] at hx
  obtain ⟨b, off, sp⟩ := ad
  have hsp : sp = none := by simpa using World.cell?_spot hx
  subst hsp
  refine ⟨b, off, rfl, fun j hj => ?_⟩
  obtain ⟨ad', h1, hx⟩ := at_num h j hj
  cases h1
  have e1 : (⟨b, off, none⟩ : Addr).add j = ⟨b, off + j, none⟩ := by
    unfold Addr.add
    split
    · rename_i h; subst h; rfl
    · rfl
  rw [e1] at hx
  exact hx
/-- slices.Equal over whole numbers. -/
theorem equal_any (A B : Option Addr) (c d : Nat) (xs ys : List Int) (w : World) (h : (Kd.int .i64).C w A xs.length xs) (k : (Kd.int .i64).C w B ys.length ys) :
    Calls Tryz.prog 78 #[.slice A xs.length c, .slice B ys.length d] w (Said w (.bool (decide (xs = ys)))) := by
  have h1 := h.2.1
  have h2 := k.2.1
  by_cases hl : xs.length = ys.length
  · rcases Nat.eq_zero_or_pos xs.length with h0 | h0
    · obtain rfl := List.length_eq_zero_iff.1 h0
      obtain rfl := List.length_eq_zero_iff.1 (hl.symm.trans h0)
      refine (Tryz.slices_Equal_int_empty A B c 0 d w (by omega)).mono ?_
      rintro e w1 ⟨rfl, rfl⟩
      exact ⟨rfl, Below.refl _ _⟩
    · obtain ⟨b1, o1, rfl, g1⟩ := C_at h h0
      obtain ⟨b2, o2, rfl, g2⟩ := C_at k (by omega)
      refine (Tryz.slices_Equal_int b1 o1 xs.length c b2 o2 ys.length d xs ys w (Nat.le_refl _) (Nat.le_refl _) h1 h2 g1 g2).mono ?_
      rintro e w1 ⟨rfl, q, rfl⟩
      rw [List.take_length, List.take_length]
      exact ⟨by rw [show (xs == ys) = decide (xs = ys) from by rw [Bool.eq_iff_iff]; simp], pw_below_drewN (Below.refl _ _) q⟩
  · refine (Tryz.slices_Equal_int_lens A B xs.length c ys.length d w hl).mono ?_
    rintro e w1 ⟨rfl, rfl⟩
    exact ⟨by rw [decide_eq_false (fun e => hl (by rw [e]))], Below.refl _ _⟩
/-- slices.Contains over whole numbers. -/
theorem hasI_any (A : Option Addr) (c : Nat) (xs : List Int) (x : Int) (w : World) (h : (Kd.int .i64).C w A xs.length xs) :
    Calls Tryz.prog 56 #[.slice A xs.length c, .int .i64 x] w (Said w (.bool (decide (x ∈ xs)))) := by
  have h1 := h.2.1
  rcases Nat.eq_zero_or_pos xs.length with h0 | h0
  · obtain rfl := List.length_eq_zero_iff.1 h0
    refine (Tryz.slices_Contains_int_empty A c x w).mono ?_
    rintro e w1 ⟨rfl, rfl⟩
    exact ⟨rfl, Below.refl _ _⟩
  · obtain ⟨b1, o1, rfl, g1⟩ := C_at h h0
    refine (Tryz.slices_Contains_int b1 o1 xs.length c xs x w (Nat.le_refl _) h1 g1).mono ?_
    rintro e w1 ⟨rfl, rfl⟩
    rw [List.take_length]
    exact ⟨by congr 2; rw [Bool.eq_iff_iff]; simp, Below.refl _ _⟩

/-- Where the first stands of which p holds; below 0: nowhere. -/
def idxR (p : List Int → Bool) (xs : List (List Int)) : Int := match xs.findIdx? p with
  | none => -1
  | some k => (k : Int)
theorem idxR_none (p : List Int → Bool) (xs : List (List Int)) (h : xs.any p = false) : idxR p xs = -1 := by
  unfold idxR
  have : xs.findIdx? p = none := by
    rw [List.findIdx?_eq_none_iff]
    intro x hx
    have := List.any_eq_false.1 h x hx
    simpa using this
  rw [this]
theorem idxR_at (p : List Int → Bool) (xs : List (List Int)) (j : Nat) (hj : j < xs.length) (h : (xs.take j).any p = false) (hp : p (nth xs [] j) = true) : idxR p xs = j := by
  unfold idxR
  have e : nth xs [] j = xs[j] := by unfold nth; rw [List.getD_eq_getElem?_getD, List.getElem?_eq_getElem hj]; rfl
  have : xs.findIdx? p = some j := by
    rw [List.findIdx?_eq_some_iff_getElem]
    refine ⟨hj, by rw [← e]; exact hp, fun k hk => ?_⟩
    have h1 := List.any_eq_false.1 h xs[k] (by rw [List.mem_take_iff_getElem]; exact ⟨k, by omega, rfl⟩)
    simpa using h1
  rw [this]

set_option maxRecDepth 100000 in
set_option maxHeartbeats 4000000 in
theorem find2_any (pd : Nat) (A D : Option Addr) (c dc : Nat) (xs d : List Int) (w : World) (h1 : w.cell? ⟨pd, 0, none⟩ = some (.slice D d.length dc)) (h : (Kd.int .i64).C w A xs.length xs) (k : (Kd.int .i64).C w D d.length d) :
    Calls Tryz.prog 77 #[.slice A xs.length c, .pointer (some ⟨pd, 0, none⟩)] w (Said w (.bool (decide (xs = d)))) := by
  have C := equal_any A D c dc xs d w h k
  generalize decide (xs = d) = r at *
  clear h k
  go_enter Tryz.func77, Tryz.ntmps77
  go_wp2_with (first | (go_at_call 78; refine C.mono ?_; rintro e w1 ⟨rfl, HB⟩))
  go_ret
  exact ⟨rfl, HB⟩

set_option maxRecDepth 100000 in
set_option maxHeartbeats 4000000 in
theorem idxRows_any (pd : Nat) (A D : Option Addr) (c dc : Nat) (xs : List (List Int)) (d : List Int) (w : World) (h1 : w.cell? ⟨pd, 0, none⟩ = some (.slice D d.length dc)) (hr : kRow.C w A xs.length xs) (k : (Kd.int .i64).C w D d.length d) :
    Calls Tryz.prog 76 #[.slice A xs.length c, .func (.func 77) #[] #[.pointer (some ⟨pd, 0, none⟩)]] w (Said w (.int .i64 (idxR (fun x => decide (x = d)) xs))) := by
  have hm := hr.2.1
  have HR := Aside0.mk hr
  have HK := Aside0.mk k
  have H1 := Aside0.mk h1
  clear hr k h1
  have HB := Aside0.mk (Below.refl w.heap.size w)
  go_enter Tryz.func76, Tryz.ntmps76
  go_wp2
  go_loopg [8] xs.length (fun gk v8 w' => ∃ j : Nat, v8 = .int .i64 j ∧ j + gk = xs.length ∧ Aside0 ((xs.take j).any (fun x => decide (x = d)) = false) ∧ Aside0 (Below w.heap.size w w'))
  case atStart => exact ⟨0, rfl, by omega, ⟨by simp⟩, HB⟩
  case round =>
    clear HB
    obtain ⟨j, rfl, hj, HA, HB⟩ := hrel
    by_cases hjl : j < xs.length
    · obtain ⟨ad, A1, c1, e0, hx, hl1, hi1⟩ := at_row HR.out j hjl
      cases e0
      replace hx := (HB.out.cell (World.block_lt_of_cell? w _ hx)).trans hx
      have CF := find2_any pd A1 D c1 dc (nth xs [] j) d wr ((HB.out.cell (World.block_lt_of_cell? w _ H1.out)).trans H1.out) (Kd.C_below hi1 HB.out) (Kd.C_below HK.out HB.out)
      have HI := Aside0.mk (idxR_at (fun x => decide (x = d)) xs j hjl HA.out)
      have q1 : ((j : Int) < (xs.length : Int)) = True := eq_true (by omega)
      have q2 : (0 ≤ (j : Int)) = True := eq_true (by omega)
      have hT := Aside0.mk (take_snoc hjl ([] : List Int))
      clear hi1 hl1
      generalize hb : decide (nth xs [] j = d) = r at *
      have HRR := Aside0.mk hb
      clear hb
      go_wp2_with fail
      with_reducible refine CF.mono ?_
      rintro e w1 ⟨rfl, hb⟩
      have HB2 := Aside0.mk (below_step HB.out hb)
      clear hb CF HB
      cases r with
      | true =>
        have HF := Aside0.mk (HI.out (by first | rfl | exact HRR.out))
        clear HI HRR
        go_wp2
        go_ret
        exact ⟨by rw [HF.out]; rfl, HB2.out⟩
      | false =>
        go_wp2
        go_roundg (xs.length - (j + 1))
        case measure => omega
        case rel => exact ⟨j + 1, by go_num, by omega, ⟨by rw [hT.out, List.any_append, HA.out]; simpa using HRR.out⟩, HB2⟩
    · have q1 : ((j : Int) < (xs.length : Int)) = False := eq_false (by omega)
      have hT : xs.take j = xs := List.take_of_length_le (by omega)
      have HA2 := HA.out
      rw [hT] at HA2
      have HF := Aside0.mk (idxR_none _ xs HA2)
      clear HA2 hT
      go_wp2
      go_ret
      exact ⟨by rw [HF.out]; rfl, HB.out⟩
/-- What find answers. -/
def findR (V : Nat) (cs : List (List Int)) (c : List Int) : Int := if rightC V c then idxR (fun x => decide (x = normC c)) cs else -1

set_option maxRecDepth 100000 in
set_option maxHeartbeats 8000000 in
theorem find_any {b V : Nat} {cs : List (List Int)} {w : World} (H : RS w b V cs) (hV : V ≤ 100000) (A : Option Addr) (cap : Nat) (c : List Int) (hr : Kd.C (Kd.int .i64) w A c.length c) (hlen : c.length ≤ 1000000000) :
    Calls Tryz.prog 58 #[.pointer (some ⟨b, 0, none⟩), .slice A c.length cap] w (Said w (.int .i64 (findR V cs c))) := by
  obtain ⟨SA, scap, h1, h2⟩ := H
  have m0 : (w.alloc (.cells #[.pointer (some ⟨b, 0, none⟩)] 32)).cell? ⟨w.heap.size, 0, none⟩ = some (.pointer (some ⟨b, 0, none⟩)) := (blk_cell (heap_alloc_new w _) 0).trans rfl
  have hb0 : Below w.heap.size w (w.alloc (.cells #[.pointer (some ⟨b, 0, none⟩)] 32)) := (Below.refl _ w).alloc (Nat.le_refl _) _
  have hblk : (w.alloc (.cells #[.pointer (some ⟨b, 0, none⟩)] 32)).heap[w.heap.size]? = some (.cells #[.pointer (some ⟨b, 0, none⟩)] 32 (0, 0)) := heap_alloc_new w _
  have h1' := (hb0.block b (blk_lt h1)).trans h1
  have h2' := Kd.C_below h2 hb0
  have hr' := Kd.C_below hr hb0
  have hm := h2.2.1
  have C1 := fun W (hW : Below (w.alloc (.cells #[.pointer (some ⟨b, 0, none⟩)] 32)).heap.size (w.alloc (.cells #[.pointer (some ⟨b, 0, none⟩)] 32)) W) =>
    hasF_find (fun x => !rightV V x) w.heap.size A cap c W (fun x w' hw' => find1_any x V b w.heap.size hV w' ((Below.cell (below_step hW hw') (p := ⟨w.heap.size, 0, none⟩) (blk_lt hblk)).trans m0) ((Below.cell (below_step hW hw') (p := ⟨b, 0, none⟩) (blk_lt h1')).trans (blk_cell h1' 0))) (Kd.C_below hr' hW)
  rw [rightC_any] at C1
  have C2 := C1 _ (Below.refl _ _)
  have HB0 := Aside0.mk hb0
  have H1 := Aside0.mk h1'
  have H2 := Aside0.mk h2'
  have HR := Aside0.mk hr'
  have HBK := Aside0.mk hblk
  have HRC := Aside0.mk (@rightC_iff V c)
  clear h1 h2 hr h1' h2' hr' hblk m0 hb0 C1
  generalize hW1 : w.alloc (.cells #[.pointer (some ⟨b, 0, none⟩)] 32) = W1 at *
  have HW1 := Aside0.mk hW1
  clear hW1
  unfold findR
  cases hc : rightC V c with
  | false =>
    rw [hc] at C2
    clear hc
    go_enter Tryz.func58, Tryz.ntmps58
    go_wp2_with fail
    rw [HW1.out]
    with_reducible refine C2.mono ?_
    rintro e w2 ⟨rfl, hb⟩
    have HB := Aside0.mk hb
    clear hb C2
    go_wp2
    go_ret
    exact ⟨rfl, below_step HB0.out HB.out⟩
  | true =>
    rw [hc] at C2
    have HC := Aside0.mk (HRC.out.1 hc)
    clear hc
    go_enter Tryz.func58, Tryz.ntmps58
    go_wp2_with fail
    rw [HW1.out]
    with_reducible refine C2.mono ?_
    rintro e w2 ⟨rfl, hb⟩
    have HB := Aside0.mk hb
    have H1' := Aside0.mk ((HB.out.block b (blk_lt H1.out)).trans H1.out)
    have H2' := Aside0.mk (Kd.C_below H2.out HB.out)
    have HBK' := Aside0.mk ((HB.out.block _ (blk_lt HBK.out)).trans HBK.out)
    have HBW0 := Aside0.mk (below_step HB0.out HB.out)
    have CC := clause_any A cap c w2 (Kd.C_below HR.out HB.out) (by omega) (fun x hx => by have := rightV_iff.1 (HC.out x hx); omega)
    clear hb C2 H1 H2 HR HBK HW1 HB0 HB
    generalize hpb : w.heap.size = pb at *
    have HPB := Aside0.mk hpb
    clear hpb
    go_wp2_with fail
    with_reducible refine CC.mono ?_
    rintro e w3 ⟨A5, c5, rfl, ho, hb3⟩
    have hx1 : Below w3.heap.size w3 (w3.alloc (.cells #[.slice A5 (normC c).length c5] 34)) := (Below.refl _ w3).alloc (Nat.le_refl _) _
    have hk3 := ownI_C ho
    have HK := Aside0.mk (Kd.C_below hk3.1 hx1)
    have hb4 := below_step hb3 hx1
    have H1'' := Aside0.mk ((hb4.block b (blk_lt H1'.out)).trans H1'.out)
    have H2'' := Aside0.mk (Kd.C_below H2'.out hb4)
    have HBK'' := Aside0.mk ((hb4.block _ (blk_lt HBK'.out)).trans HBK'.out)
    have HD : Aside0 ((w3.alloc (.cells #[.slice A5 (normC c).length c5] 34)).heap[w3.heap.size]? = some (.cells #[.slice A5 (normC c).length c5] 34 (0, 0))) := ⟨heap_alloc_new w3 _⟩
    have HB4 := Aside0.mk hb4
    have f8 : (w3.alloc (.cells #[.slice A5 (normC c).length c5] 34)).cell? ⟨pb, 0, none⟩ = some (.pointer (some ⟨b, 0, none⟩)) := (blk_cell HBK''.out 0).trans rfl
    have f12 : (w3.alloc (.cells #[.slice A5 (normC c).length c5] 34)).cell? ⟨b, 1, none⟩ = some (.slice SA cs.length scap) := (blk_cell H1''.out 1).trans rfl
    have CI := idxRows_any w3.heap.size SA A5 scap c5 cs (normC c) _ ((blk_cell HD.out 0).trans rfl) H2''.out HK.out
    clear ho hb3 hx1 hk3 hb4 H1' H2' HBK' CC
    go_wp2_with fail
    with_reducible refine CI.mono ?_
    rintro e w5 ⟨rfl, hb5⟩
    have HB5 := Aside0.mk hb5
    clear hb5 CI f8 f12
    go_wp2
    go_ret
    exact ⟨rfl, below_step (by rw [HPB.out]; exact HBW0.out) (below_step HB4.out HB5.out)⟩
end Go.Proofs.YtcblijcalhaffaaGreatDoor
namespace Go.Proofs.YtcblijcalhaffaaGreatDoor
open Go Go.BigFrame Go.RowKit Go.Proofs.YtcblijcalhaffaaGreatDoorW.PrintWords Go.Proofs.YtcblijcalhaffaaGreatDoorW.PrintLast Go.Proofs.YtcblijcalhaffaaGreatDoorW.PrintMore PCheckSound

/-! slices.Delete of one row. -/
theorem blk_setCells {t : TypeId} : ∀ (vs : List Value) (o : Nat) (w : World) (g : Nat) (cs : Array Value), w.heap[g]? = some (.cells cs t (0, 0)) → ∃ cs', (w.setCells g o vs).heap[g]? = some (.cells cs' t (0, 0)) ∧ cs'.size = cs.size ∧ ∀ k, cs'[k]? = if o ≤ k ∧ k < o + vs.length ∧ k < cs.size then vs[k - o]? else cs[k]?
  | [], o, w, g, cs, h => ⟨cs, h, rfl, fun k => by rw [if_neg (by simp; omega)]⟩
  | v :: vs, o, w, g, cs, h => by
    obtain ⟨cs', h1, h2, h3⟩ := blk_setCells vs (o + 1) (w.setCell ⟨g, o, none⟩ v) g _ (blk_set h o v)
    refine ⟨cs', h1, by rw [h2]; simp, fun k => ?_⟩
    rw [h3 k]
    simp only [Array.size_setIfInBounds, List.length_cons]
    by_cases hk : k = o
    · subst hk
      rw [if_neg (by omega), Array.getElem?_setIfInBounds]
      by_cases hs : k < cs.size
      · rw [if_pos rfl, if_pos hs, if_pos (by omega)]; simp
      · rw [if_pos rfl, if_neg hs, if_neg (by omega), Array.getElem?_eq_none (by omega)]
    · rw [Array.getElem?_setIfInBounds_ne (Ne.symm hk)]
      by_cases hin : o + 1 ≤ k ∧ k < o + 1 + vs.length ∧ k < cs.size
      · rw [if_pos hin, if_pos (by omega)]
        have e : k - o = (k - (o + 1)) + 1 := by omega
        rw [e, List.getElem?_cons_succ]
      · rw [if_neg hin, if_neg (by omega)]

theorem reps_erase {α : Type} {R : α → List Value → Prop} {xs : List α} {inner : List Value} (h : Reps R 1 xs inner) (i : Nat) : Reps R 1 (xs.eraseIdx i) (inner.eraseIdx i) := by
  have hl : inner.length = xs.length := by have := h.1; simpa using this
  refine ⟨by rw [List.length_eraseIdx, List.length_eraseIdx, hl]; simp, fun j p hj => ?_⟩
  rw [List.getElem?_eraseIdx] at hj
  rw [Nat.mul_one]
  have key : ∀ (a : List Value) (b : Nat), (a.drop b).take 1 = (a[b]?).toList := fun a b => by
    cases hb : a[b]? with
    | none => rw [List.getElem?_eq_none_iff] at hb; rw [List.drop_of_length_le hb]; rfl
    | some v =>
      obtain ⟨h1, rfl⟩ := List.getElem?_eq_some_iff.1 hb
      rw [List.drop_eq_getElem_cons h1]; rfl
  rw [key, List.getElem?_eraseIdx]
  split at hj
  · rename_i hij
    rw [if_pos hij]
    have := h.2 j p hj
    rw [Nat.mul_one, key] at this
    exact this
  · rename_i hij
    rw [if_neg hij]
    have := h.2 (j + 1) p hj
    rw [Nat.mul_one, key] at this
    exact this

theorem grown_setCells (g : Nat) : ∀ (vs : List Value) (o : Nat) (w : World), w.grownBy (w.setCells g o vs) (some g)
  | [], _, w => World.grownBy.refl w _
  | v :: vs, o, w => by
    have h := grown_setCells g vs (o + 1) (w.setCell ⟨g, o, none⟩ v)
    refine ⟨h.os, h.tape, h.output, ?_, fun k hk hne => ?_⟩
    · exact Nat.le_trans (Nat.le_of_eq (by simp [World.setCell])) h.size
    · have hne' : k ≠ g := fun e => hne (by rw [e])
      exact (h.block k (by simpa [World.setCell] using hk) hne).trans (Below.heap_setCell w ⟨g, o, none⟩ v k hne')
/-- What an element's going leaves. -/
theorem erased {B : Nat} {w W2 : World} {g scap i m : Nat} {cs : List (List Int)} {inner : List Value} {cur cur1 cur2 : Array Value}
    (hb : B ≤ g) (h2 : scap ≤ maxLen) (h1 : cs.length ≤ scap) (hi : i < cs.length) (hm : cs.length - 1 = m) (hcz : cur.size = scap) (hil : inner.length = cs.length) (h4 : ∀ k, k < cs.length → cur[k]? = inner[k]?)
    (hr : Reps (kRow.M w B (fun k => True ∧ some k ≠ (Value.slice (some ⟨g, 0, none⟩) cs.length scap).ownBlock)) 1 cs inner)
    (a2 : cur1.size = cur.size) (a3 : ∀ k, cur1[k]? = if i ≤ k ∧ k < i + (inner.drop (i + 1)).length ∧ k < cur.size then (inner.drop (i + 1))[k - i]? else cur[k]?)
    (b1 : W2.heap[g]? = some (.cells cur2 34 (0, 0))) (b2 : cur2.size = cur1.size) (b3 : ∀ k, cur2[k]? = if m ≤ k ∧ k < m + 1 ∧ k < cur1.size then ([Value.slice none 0 0] : List Value)[k - m]? else cur1[k]?)
    (hg : w.grownBy W2 (some g)) : kRow.R 34 W2 B (fun _ => True) (.slice (some ⟨g, 0, none⟩) m scap) (cs.eraseIdx i) := by
  have hel : (cs.eraseIdx i).length = m := by rw [List.length_eraseIdx_of_lt hi]; exact hm
  refine ⟨fun _ _ => trivial, inner.eraseIdx i, ?_, ?_⟩
  · rw [hel]
    refine ⟨by rw [List.length_eraseIdx_of_lt (by omega), hil, hm]; exact (Nat.mul_one m).symm, .inr ⟨g, scap, cur2, rfl, hb, b1, by omega, h2, by rw [b2, a2, hcz]; exact (Nat.mul_one _).symm, ?_⟩⟩
    rw [show m * kRow.sz = m from Nat.mul_one m]
    apply List.ext_getElem?
    intro k
    rw [List.getElem?_take]
    by_cases hk : k < m
    · rw [if_pos hk, Array.getElem?_toList, b3 k, if_neg (by omega), a3 k, List.getElem?_eraseIdx]
      by_cases hki : k < i
      · rw [if_neg (by omega), if_pos hki]
        exact h4 k (by omega)
      · rw [if_pos (by simp; omega), if_neg hki, List.getElem?_drop]
        congr 1; omega
    · rw [if_neg hk, List.getElem?_eq_none (by rw [List.length_eraseIdx_of_lt (by omega)]; omega)]
  · have h5 := reps_erase hr i
    refine h5.imp_ fun p c hq => ?_
    exact Kd.M_step hq fun k hk hlt => hg.block k hlt (fun e => hk.2 (by rw [e]; rfl))

set_option maxRecDepth 100000 in
set_option maxHeartbeats 4000000 in
theorem delete_any {B : Nat} {w : World} {SA : Option Addr} {scap : Nat} {cs : List (List Int)} (hR : kRow.R 34 w B (fun _ => True) (.slice SA cs.length scap) cs) (i : Nat) (hi : i < cs.length) (hlen : cs.length ≤ 1000000000) :
    Calls Tryz.prog 59 #[.slice SA cs.length scap, .int .i64 i, .int .i64 ((i : Int) + 1)] w fun e w' => e = .returned (.slice SA (cs.length - 1) scap) ∧ kRow.R 34 w' B (fun _ => True) (.slice SA (cs.length - 1) scap) (cs.eraseIdx i) ∧ w.grownBy w' (Value.slice SA cs.length scap).ownBlock := by
  obtain ⟨h0, inner, ho, hr⟩ := hR
  rcases ho.2 with ⟨hn, _⟩ | ⟨g, c', cur, hv, hb, hh, h1, h2, h3, h4⟩
  · simp only [Value.slice.injEq] at hn; omega
  · simp only [Value.slice.injEq] at hv
    obtain ⟨rfl, _, rfl⟩ := hv
    have hil : inner.length = cs.length := by have := hr.1; rwa [show kRow.sz = 1 from rfl, Nat.mul_one] at this
    have hsz : kRow.sz = 1 := rfl
    have hcz : cur.size = scap := by rw [h3, hsz, Nat.mul_one]
    have hcell : ∀ k, k < cs.length → w.cell? ⟨g, k, none⟩ = some (nth inner (.slice none 0 0) k) := fun k hk => by
      rw [blk_cell hh]
      have e1 : inner[k]? = cur.toList[k]? := by
        rw [← h4, List.getElem?_take, if_pos (by rw [hsz]; omega)]
      rw [← Array.getElem?_toList, ← e1]
      unfold nth
      rw [List.getD_eq_getElem?_getD, List.getElem?_eq_getElem (by omega)]; rfl
    have hfr : ∀ k, w.frozen? ⟨g, k, none⟩ = false := fun k => blk_frozen hh k
    have hone : ∀ u ∈ inner, u.oneCell' = true := fun u hu => by
      obtain ⟨k, hk, rfl⟩ := List.mem_iff_getElem.1 hu
      have hk' : k < cs.length := by omega
      have := hr.2 k _ (List.getElem?_eq_getElem hk')
      obtain ⟨v, he, _⟩ := this
      rw [hsz, Nat.mul_one, List.drop_eq_getElem_cons hk, List.take_succ_cons, List.take_zero] at he
      have := kRow.K_one (kRow.K_of_M ⟨v, he, by assumption⟩) inner[k] (by simp)
      exact this
    by_cases hcap : scap = i + 1
    · subst hcap
      have hci : cs.length = i + 1 := by omega
      go_enter Tryz.func59, Tryz.ntmps59
      have q1 : (0 ≤ (i : Int)) = True := eq_true (by omega)
      have q2 : ((i : Int) + 1 ≤ (cs.length : Int)) = True := eq_true (by omega)
      have q3 : ((cs.length : Int) ≤ ((i + 1 : Nat) : Int)) = True := eq_true (by omega)
      have q4 : ((i : Int) ≤ (i : Int) + 1) = True := eq_true (by omega)
      have q5 : ((i : Int) == (i : Int) + 1) = false := by simp; omega
      have q7 : (i ≤ i + 1) = True := eq_true (by omega)
      have q8 : (i + 1 ≤ cs.length) = True := eq_true (by omega)
      have q9 : (i ≤ cs.length) = True := eq_true (by omega)
      have q10 : (0 ≤ (i : Int) + 1) = True := eq_true (by omega)
      have HCI := Aside0.mk hci
      clear hci
      go_wp2
      go_region_law (fail)
      have a1 : w.drew.heap[g]? = some (.cells cur 34 (0, 0)) := hh
      have hcl := fun ty => Lib.run_clear_slice (P := Tryz.prog) w.drew 28 34 ty (.slice none 0 0) Tryz.underlying28 Tryz.zeroValue34 rfl rfl g i 1 1 (by omega) (fun j hj => by rw [blk_cell a1]; rw [Array.getElem?_eq_getElem (by omega)]; rfl) (fun j _ => blk_frozen a1 _)
      have r2 : ((i : Int) ≤ (cs.length : Int)) = True := eq_true (by omega)
      have r4 : (cs.length ≤ i + 1) = True := eq_true (by omega)
      have r5 : (i + 1 = i) = False := eq_false (by omega)
      have r6 : cs.length - i = 1 := by have := HCI.out; omega
      have r7 : i + 1 - i = 1 := by omega
      clear q2 q3 q4 q5 q7 q8 q10
      go_wp2
      go_ret
      obtain ⟨cur2, b1, b2, b3⟩ := blk_setCells (t := 34) [.slice none 0 0] i w.drew g cur a1
      have hg : w.grownBy (w.drew.setCells g i [.slice none 0 0]) (some g) := by
        have := grown_setCells g [.slice none 0 0] i w.drew
        exact ⟨this.os, this.tape, this.output, this.size, this.block⟩
      have hmm : cs.length - 1 = i := by have := HCI.out; omega
      rw [hmm]
      refine ⟨rfl, erased hb h2 h1 hi hmm hcz hil (fun k hk => ?_) hr rfl (fun k => ?_) b1 b2 b3 hg, hg⟩
      · rw [← Array.getElem?_toList, ← h4, List.getElem?_take, if_pos (by rw [hsz]; omega)]
      · rw [if_neg]
        have := HCI.out
        simp; omega
    · go_enter Tryz.func59, Tryz.ntmps59
      have q1 : (0 ≤ (i : Int)) = True := eq_true (by omega)
      have q2 : ((i : Int) + 1 ≤ (cs.length : Int)) = True := eq_true (by omega)
      have q3 : ((cs.length : Int) ≤ (scap : Int)) = True := eq_true (by omega)
      have q4 : ((i : Int) ≤ (i : Int) + 1) = True := eq_true (by omega)
      have q5 : ((i : Int) == (i : Int) + 1) = false := by simp; omega
      have q6 : (scap = i + 1) = False := eq_false hcap
      have q7 : (i ≤ scap) = True := eq_true (by omega)
      have q8 : (i + 1 ≤ cs.length) = True := eq_true (by omega)
      have q9 : (i ≤ cs.length) = True := eq_true (by omega)
      have q10 : (0 ≤ (i : Int) + 1) = True := eq_true (by omega)
      obtain ⟨i0, ii, iz, is, ib⟩ := info_parts row_info
      go_wp2
      have hX : ∀ j u, (inner.drop (i + 1))[j]? = some u → w.drew.cell? ((⟨g, i + 1, none⟩ : Addr).add j) = some u := fun j u hj => by
        rw [List.getElem?_drop] at hj
        have hjl : i + 1 + j < cs.length := by have := (List.getElem?_eq_some_iff.1 hj).1; omega
        have e1 : (⟨g, i + 1, none⟩ : Addr).add j = ⟨g, i + 1 + j, none⟩ := by
          unfold Addr.add
          split
          · rename_i h; subst h; rfl
          · rfl
        rw [e1]
        refine (hcell _ hjl).trans ?_
        unfold nth
        rw [List.getD_eq_getElem?_getD, hj]; rfl
      have hS : ∀ j, j < (inner.drop (i + 1)).length → (w.drew.cell? ⟨g, 0 + i * 1 + j, none⟩).isSome = true ∧ w.drew.frozen? ⟨g, 0 + i * 1 + j, none⟩ = false := fun j hj => by
        have hjl : 0 + i * 1 + j < cs.length := by simp at hj; omega
        have h5 : w.drew.cell? ⟨g, 0 + i * 1 + j, none⟩ = _ := hcell _ hjl
        exact ⟨by rw [h5]; rfl, hfr _⟩
      have HX := Aside0.mk hX
      have HS := Aside0.mk hS
      have hL : (inner.drop (i + 1)).length = (cs.length - (i + 1)) * 1 := by simp; omega
      have HL := Aside0.mk hL
      have HO1 : Aside0 (∀ u ∈ inner.drop (i + 1), u.oneCell' = true) := ⟨fun u hu => hone u (List.mem_of_mem_drop hu)⟩
      clear hX hS hL
      have hroom : i + (cs.length - (i + 1)) ≤ scap := by omega
      go_region_law (refine step_append_room rfl (.tmp 22) (.tmp 25) 28 rfl 34 i0 1 Tryz.underlying28 ii is g 0 i scap rfl ⟨g, i + 1, none⟩ (cs.length - (i + 1)) (scap - (i + 1)) (inner.drop (i + 1)) rfl HL.out HX.out HO1.out hroom HS.out ?_)
      have hm : i + (cs.length - (i + 1)) = cs.length - 1 := by omega
      obtain ⟨W1, hW1⟩ : ∃ W1, W1 = w.drew.setCells g i (inner.drop (i + 1)) := ⟨_, rfl⟩
      obtain ⟨cur1, a1, a2, a3⟩ := blk_setCells (t := 34) (inner.drop (i + 1)) i w.drew g cur hh
      rw [← hW1] at a1
      have HW1 := Aside0.mk hW1
      have HM := Aside0.mk hm
      clear hm hW1
      rw [HM.out, ← HW1.out]
      generalize hmm : cs.length - 1 = m at *
      have HMM := Aside0.mk hmm
      have hcl := fun ty => Lib.run_clear_slice (P := Tryz.prog) W1 28 34 ty (.slice none 0 0) Tryz.underlying28 Tryz.zeroValue34 rfl rfl g m 1 (scap - m) (by omega) (fun j hj => by rw [blk_cell a1]; rw [Array.getElem?_eq_getElem (by omega)]; rfl) (fun j _ => blk_frozen a1 _)
      have r1 : (0 ≤ (m : Int)) = True := eq_true (by omega)
      have r2 : ((m : Int) ≤ (cs.length : Int)) = True := eq_true (by omega)
      have r3 : (m ≤ cs.length) = True := eq_true (by omega)
      have r4 : (cs.length ≤ scap) = True := eq_true (by omega)
      have r5 : (scap = m) = False := eq_false (by omega)
      have r6 : cs.length - m = 1 := by omega
      clear HX HS HL HO1 q1 q2 q3 q4 q5 q6 q7 q8 q9 q10 hmm
      go_wp2
      go_ret
      obtain ⟨cur2, b1, b2, b3⟩ := blk_setCells (t := 34) [.slice none 0 0] m W1 g cur1 a1
      have hg : w.grownBy (W1.setCells g m [.slice none 0 0]) (some g) := by
        have g1 : w.grownBy W1 (some g) := by
          rw [HW1.out]
          have := grown_setCells g (inner.drop (i + 1)) i w.drew
          exact ⟨this.os, this.tape, this.output, this.size, this.block⟩
        exact g1.trans (grown_setCells g _ m W1)
      rw [HMM.out]
      refine ⟨rfl, erased hb h2 h1 hi HMM.out hcz hil (fun k hk => ?_) hr a2 a3 b1 b2 b3 hg, hg⟩
      rw [← Array.getElem?_toList, ← h4, List.getElem?_take, if_pos (by rw [hsz]; omega)]
end Go.Proofs.YtcblijcalhaffaaGreatDoor
