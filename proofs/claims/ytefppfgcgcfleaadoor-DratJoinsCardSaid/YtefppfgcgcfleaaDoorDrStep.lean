import Derived.Test.YtefppfgcgcfleaaDoorDrLit
import Derived.RegionTactic
import Derived.BigRegion
namespace Go.Proofs.YtefppfgcgcfleaaDoor
open Go Go.RowKit Go.Proofs.YtefppfgcgcfleaaDoorW.PrintWords Go.Proofs.YtefppfgcgcfleaaDoorW.PrintLast Go.Proofs.YtefppfgcgcfleaaDoorW.PrintMore PDratJoins

def joinG (ls : List Int) : Got (List Int) → Got (List Int)
  | .ok ms q => .ok (ls ++ ms) q
  | .form => .form
  | .short => .short
def stepG (d : Bool) : Got (List Int) → Got PStep
  | .ok ls q => .ok ⟨d, ls⟩ q
  | .form => .form
  | .short => .short
theorem stepP_G (c : UInt8) (r : List UInt8) (h : c = 97 ∨ c = 100) : stepP (c :: r) = stepG (decide (c = 100)) (litsP (r.length + 1) r) := by
  simp only [stepP]
  rw [if_pos h]
  cases litsP (r.length + 1) r <;> rfl
theorem joinG_nil (g : Got (List Int)) : joinG [] g = g := by cases g <;> rfl
theorem joinG_cons (ls : List Int) (f : Nat) (c : UInt8) (r q : List UInt8) (l : Int) (hc : c ≠ 0) (h : litP (c :: r) = .ok l q) : joinG ls (litsP (f + 1) (c :: r)) = joinG (ls ++ [l]) (litsP f q) := by
  rw [litsP, if_neg hc, h]
  simp only
  cases litsP f q <;> simp [joinG]
theorem joinG_form (ls : List Int) (f : Nat) (c : UInt8) (r : List UInt8) (hc : c ≠ 0) (h : litP (c :: r) = .form) : joinG ls (litsP (f + 1) (c :: r)) = .form := by
  rw [litsP, if_neg hc, h]
  rfl
theorem joinG_short (ls : List Int) (f : Nat) (c : UInt8) (r : List UInt8) (hc : c ≠ 0) (h : litP (c :: r) = .short) : joinG ls (litsP (f + 1) (c :: r)) = .short := by
  rw [litsP, if_neg hc, h]
  rfl
theorem joinG_end (ls : List Int) (f : Nat) (r : List UInt8) : joinG ls (litsP (f + 1) (0 :: r)) = .ok ls r := by
  rw [litsP]
  simp [joinG]

/-- What the next step's call leaves. -/
def StepSaid (w0 w : World) (g : Got PStep) (e : Ending) (w' : World) : Prop := Below w.heap.size w w' ∧ match g with
  | .ok s r => ∃ V A c, e = .returned (.tuple #[.agg #[.bool s.del, V], .slice A r.length c, .int .i64 0]) ∧ r.length ≤ c ∧ Rd w0 A r ∧ Kd.R (Kd.int .i64) 3 w' w.heap.size (fun _ => True) V s.lits
  | .form => ∃ d A n c, e = .returned (.tuple #[.agg #[.bool d, .slice A n c], .slice none 0 0, .int .i64 9])
  | .short => ∃ d A n c, e = .returned (.tuple #[.agg #[.bool d, .slice A n c], .slice none 0 0, .int .i64 10])

theorem add0 (ad : Addr) : ad.add 0 = ad := by unfold Addr.add; split <;> simp_all
theorem byte_ne (c : UInt8) (n : Nat) (h : c ≠ UInt8.ofNat n) : ((c.toNat : Int) == (n : Int)) = false ∧ ((c.toNat : Int) != (n : Int)) = true := by
  have : c.toNat ≠ n := fun e => h (by rw [← e, UInt8.ofNat_toNat])
  constructor
  · simp; omega
  · simp; omega


set_option maxRecDepth 100000 in
set_option maxHeartbeats 3200000 in
theorem step_bad (w0 : World) (A : Option Addr) (c : Nat) (b : List UInt8) (x : UInt8) (r : List UInt8) (hbx : b = x :: r) (w : World) (h0 : Rd w0 A b) (hb : Below w0.heap.size w0 w) (hx : ¬ (x = 97 ∨ x = 100)) :
    Calls Tryd.prog 27 #[.slice A b.length c] w (StepSaid w0 w .form) := by
  have hu := Tryd.underlying36
  obtain ⟨ad, e0, hcell⟩ := at_byte (h0.below hb) 0 (by rw [hbx]; simp)
  cases e0
  rw [hbx, show nth (x :: r) 0 0 = x from rfl, add0] at hcell
  have hm := h0.2.1
  have q3 := byte_ne x 97 (fun h => hx (.inl h))
  have q4 := byte_ne x 100 (fun h => hx (.inr h))
  have e1 : ((x.toNat : Int) == 100) = false := q4.1
  have e2 : ((x.toNat : Int) != 97) = true := q3.2
  have e3 : ((x.toNat : Int) != 100) = true := q4.2
  have q00 : ((0 : Int) < (b.length : Int)) = True := eq_true (by rw [hbx]; simp)
  have q01 : (0 < b.length) = True := eq_true (by rw [hbx]; simp)
  have HB := Aside0.mk (Below.refl w.heap.size w)
  clear h0 hb hx q3 q4 hbx
  have hcl := Aside0.mk (World.block_lt_of_cell? w _ hcell)
  have Hc := Aside0.mk hcell
  clear hcell
  go_enter Tryd.func27, Tryd.ntmps27
  go_wp2_with (first
    | (((with_reducible refine gate_dst (N := 2) rfl ?_); refine box_event ?hg (N := 2) ?hd (cs := #[.bool false, .slice none 0 0]) (t := 36) ?hr ?_; (case hd => rfl); (case hg => rfl); (case hr => first | (go_simp; done) | (go_simp; rfl)); intro ga hg w5 hbox hb; have GEA := Aside0.mk ((by rw [hg]; exact (below_size (by repeat (first | (with_reducible first | exact HB.out | apply below_alloc | apply pw_below_drewN | apply below_drew1) | exact HB.out)))) : w.heap.size ≤ ga); have n0_ := Aside0.mk (below_step (by repeat (first | (with_reducible first | exact HB.out | apply below_alloc | apply pw_below_drewN | apply below_drew1) | exact HB.out)) hb); have BKA := Aside0.mk hbox; clear HB; have HB := n0_; clear n0_ hb hbox hg); have hx5 := (HB.out.cell hcl.out).trans Hc.out)
    | (((with_reducible refine gate_dst (N := 5) rfl ?_); refine box_event ?hg (N := 5) ?hd (cs := #[.bool false, .slice none 0 0]) (t := 36) ?hr ?_; (case hd => rfl); (case hg => rfl); (case hr => first | (go_simp; done) | (go_simp; rfl)); intro gb hg w6 hbox hb; have GEB := Aside0.mk ((by rw [hg]; exact (below_size (by repeat (first | (with_reducible first | exact HB.out | apply below_alloc | apply pw_below_drewN | apply below_drew1) | exact HB.out)))) : w.heap.size ≤ gb); have n0_ := Aside0.mk (below_step (by repeat (first | (with_reducible first | exact HB.out | apply below_alloc | apply pw_below_drewN | apply below_drew1) | exact HB.out)) hb); have BKB := Aside0.mk hbox; have n1_ := Aside0.mk (blk_below BKA.out hb); have hne : ga ≠ gb := (by have := blk_lt BKA.out; rw [hg]; simp; omega); clear HB BKA; have HB := n0_; have BKA := n1_; clear n0_ n1_ hb hbox hg; have ne1 : (ga = gb) = False := eq_false hne; have ne2 : (gb = ga) = False := eq_false (Ne.symm hne); clear hne; have ca0 : w6.cell? ⟨ga, 0, none⟩ = some (.bool false) := (blk_cell BKA.out 0).trans rfl; have ca1 : w6.cell? ⟨ga, 1, none⟩ = some (.slice none 0 0) := (blk_cell BKA.out 1).trans rfl; have fa0 := blk_frozen BKA.out 0; have fa1 := blk_frozen BKA.out 1; have cb0 : w6.cell? ⟨gb, 0, none⟩ = some (.bool false) := (blk_cell BKB.out 0).trans rfl; have cb1 : w6.cell? ⟨gb, 1, none⟩ = some (.slice none 0 0) := (blk_cell BKB.out 1).trans rfl; have fb0 := blk_frozen BKB.out 0; have fb1 := blk_frozen BKB.out 1); have hx6 := (HB.out.cell hcl.out).trans Hc.out; have hx7 : ((w6.setCell ⟨gb, 0, none⟩ (.bool false)).setCell ⟨gb, 1, none⟩ (.slice none 0 0)).cell? ad = some (.int .u8 (x.toNat : Int)) := ((by repeat (first | (with_reducible first | exact HB.out | apply below_alloc | apply pw_below_drewN | apply below_drew1 | refine below_set ?_ GEB.out | refine below_set ?_ GEA.out) | exact HB.out)) : Below w.heap.size w ((w6.setCell ⟨gb, 0, none⟩ (.bool false)).setCell ⟨gb, 1, none⟩ (.slice none 0 0))).cell hcl.out |>.trans Hc.out))
  exact bodyPost_ret (v := .tuple #[.agg #[.bool false, .slice none 0 0], .slice none 0 0, .int .i64 9]) (by simp [results, Tryd.results27, go_sem, *]) rfl ⟨(by repeat (first | (with_reducible first | exact HB.out | apply below_alloc | apply pw_below_drewN | apply below_drew1 | refine below_set ?_ GEB.out | refine below_set ?_ GEA.out) | exact HB.out)), _, _, _, _, rfl⟩

set_option maxRecDepth 100000 in
set_option maxHeartbeats 1600000 in
theorem step_true (w0 : World) (A : Option Addr) (c : Nat) (b : List UInt8) (r : List UInt8) (hbx : b = 100 :: r) (w : World) (h0 : Rd w0 A b) (hb : Below w0.heap.size w0 w) (hc : b.length ≤ c) (hX : b.length ≤ 1099511627776) :
    Calls Tryd.prog 27 #[.slice A b.length c] w (StepSaid w0 w (stepG true (litsP (r.length + 1) r))) := by
  have hu := Tryd.underlying36
  obtain ⟨ad, e0, hcell⟩ := at_byte (h0.below hb) 0 (by rw [hbx]; simp)
  cases e0
  rw [hbx, show nth (100 :: r) 0 0 = 100 from rfl, add0, show ((100 : UInt8).toNat : Int) = 100 from rfl] at hcell
  have hm := h0.2.1
  have q00 : ((0 : Int) < (b.length : Int)) = True := eq_true (by rw [hbx]; simp; try omega)
  have q01 : (0 < b.length) = True := eq_true (by rw [hbx]; simp)
  have HB := Aside0.mk (Below.refl w.heap.size w)
  obtain ⟨A1, k1, hk1, hk2⟩ := cut_bytes (some ad) c b 1 (by omega) (by rw [hbx]; simp; omega) hc
  have hd1 : b.drop (1 : Int).toNat = r := by rw [hbx]; rfl
  rw [hd1] at k1 hk1 hk2
  have HR1 := Aside0.mk (hk1 _ h0)
  have HK2 := Aside0.mk hk2
  have HW0 := Aside0.mk hb
  have HXX : Aside0 (r.length ≤ 1099511627776) := ⟨by rw [hbx] at hX; simp at hX; omega⟩
  have hmr : r.length ≤ 1099511627776 := HXX.out
  have hG : joinG [] (litsP (r.length + 1) r) = litsP (r.length + 1) r := joinG_nil _
  have HG0 := Aside0.mk hG
  clear hd1 hk1 hk2 hX hc hb h0 hbx hG
  obtain ⟨G, hGG⟩ : ∃ G, litsP (r.length + 1) r = G := ⟨_, rfl⟩
  have HGG := Aside0.mk hGG
  rw [hGG]
  clear hGG
  have hcl := Aside0.mk (World.block_lt_of_cell? w _ hcell)
  have Hc := Aside0.mk hcell
  clear hcell
  go_enter Tryd.func27, Tryd.ntmps27
  go_wp2_with (first
    | (((with_reducible refine gate_dst (N := 2) rfl ?_); refine box_event ?hg (N := 2) ?hd (cs := #[.bool false, .slice none 0 0]) (t := 36) ?hr ?_; (case hd => rfl); (case hg => rfl); (case hr => first | (go_simp; done) | (go_simp; rfl)); intro ga hg w5 hbox hb; have GEA := Aside0.mk ((by rw [hg]; exact (below_size (by repeat (first | (with_reducible first | exact HB.out | apply below_alloc | apply pw_below_drewN | apply below_drew1) | exact HB.out)))) : w.heap.size ≤ ga); have n0_ := Aside0.mk (below_step (by repeat (first | (with_reducible first | exact HB.out | apply below_alloc | apply pw_below_drewN | apply below_drew1) | exact HB.out)) hb); have BKA := Aside0.mk hbox; clear HB; have HB := n0_; clear n0_ hb hbox hg); have hx5 := (HB.out.cell hcl.out).trans Hc.out)
    | (((with_reducible refine gate_dst (N := 5) rfl ?_); refine box_event ?hg (N := 5) ?hd (cs := #[.bool false, .slice none 0 0]) (t := 36) ?hr ?_; (case hd => rfl); (case hg => rfl); (case hr => first | (go_simp; done) | (go_simp; rfl)); intro gb hg w6 hbox hb; have GEB := Aside0.mk ((by rw [hg]; exact (below_size (by repeat (first | (with_reducible first | exact HB.out | apply below_alloc | apply pw_below_drewN | apply below_drew1) | exact HB.out)))) : w.heap.size ≤ gb); have n0_ := Aside0.mk (below_step (by repeat (first | (with_reducible first | exact HB.out | apply below_alloc | apply pw_below_drewN | apply below_drew1) | exact HB.out)) hb); have BKB := Aside0.mk hbox; have n1_ := Aside0.mk (blk_below BKA.out hb); have hne : ga ≠ gb := (by have := blk_lt BKA.out; rw [hg]; simp; omega); clear HB BKA; have HB := n0_; have BKA := n1_; clear n0_ n1_ hb hbox hg; have ne1 : (ga = gb) = False := eq_false hne; have ne2 : (gb = ga) = False := eq_false (Ne.symm hne); clear hne; have ca0 : w6.cell? ⟨ga, 0, none⟩ = some (.bool false) := (blk_cell BKA.out 0).trans rfl; have ca1 : w6.cell? ⟨ga, 1, none⟩ = some (.slice none 0 0) := (blk_cell BKA.out 1).trans rfl; have fa0 := blk_frozen BKA.out 0; have fa1 := blk_frozen BKA.out 1; have cb0 : w6.cell? ⟨gb, 0, none⟩ = some (.bool false) := (blk_cell BKB.out 0).trans rfl; have cb1 : w6.cell? ⟨gb, 1, none⟩ = some (.slice none 0 0) := (blk_cell BKB.out 1).trans rfl; have fb0 := blk_frozen BKB.out 0; have fb1 := blk_frozen BKB.out 1); have hx6 := (HB.out.cell hcl.out).trans Hc.out; have hx7 : ((w6.setCell ⟨gb, 0, none⟩ (.bool true)).setCell ⟨gb, 1, none⟩ (.slice none 0 0)).cell? ad = some (.int .u8 100) := ((by repeat (first | (with_reducible first | exact HB.out | apply below_alloc | apply pw_below_drewN | apply below_drew1 | refine below_set ?_ GEB.out | refine below_set ?_ GEA.out) | exact HB.out)) : Below w.heap.size w ((w6.setCell ⟨gb, 0, none⟩ (.bool true)).setCell ⟨gb, 1, none⟩ (.slice none 0 0))).cell hcl.out |>.trans Hc.out))
  clear hx5 hx6 hx7
  go_loopg [0] r.length (fun gk v0 w' => ∃ (q : List UInt8) (A2 : Option Addr) (c2 f : Nat) (ls : List Int) (V : Value), v0 = .slice A2 q.length c2 ∧ q.length = gk ∧ q.length ≤ c2 ∧ q.length < f ∧ Aside0 (ls.length + q.length ≤ r.length) ∧ Aside0 (Rd w0 A2 q) ∧ Aside0 (joinG ls (litsP f q) = G) ∧ Aside0 (Kd.R (Kd.int .i64) 3 w' w.heap.size (fun _ => True) V ls) ∧ Aside0 (w'.heap[ga]? = some (.cells #[.bool false, .slice none 0 0] 36 (0, 0))) ∧ Aside0 (w'.heap[gb]? = some (.cells #[.bool true, V] 36 (0, 0))) ∧ Aside0 (Below w.heap.size w w'))
  case atStart =>
    refine ⟨r, A1, _, r.length + 1, [], .slice none 0 0, rfl, rfl, HK2.out, by omega, ⟨by simp⟩, HR1, ⟨by rw [HGG.out]; exact joinG_nil _⟩, ⟨Kd.R_nil _ _ _ _ _⟩, ⟨blk_far (p := ⟨gb, 1, none⟩) (blk_far (p := ⟨gb, 0, none⟩) BKA.out (by simpa using ne1) (.bool true)) (by simpa using ne1) (.slice none 0 0)⟩, ⟨blk_put (cs := #[.bool true, .slice none 0 0]) (blk_put (cs := #[.bool false, .slice none 0 0]) BKB.out 0 (.bool true) rfl) 1 (.slice none 0 0) rfl⟩, ⟨(by repeat (first | (with_reducible first | exact HB.out | apply below_alloc | apply pw_below_drewN | apply below_drew1 | refine below_set ?_ GEB.out | refine below_set ?_ GEA.out) | exact HB.out))⟩⟩
  case round =>
    clear HB BKA BKB ca0 ca1 fa0 fa1 cb0 cb1 fb0 fb1
    obtain ⟨q, A2, c2, f, ls, V, rfl, hgk, hq2, hqf, HLN, HR2, HJ, HO, BKA, BKB, HB⟩ := hrel
    obtain ⟨AV, cV, rfl⟩ := Kd.R_slice HO.out
    have ca0 : wr.cell? ⟨ga, 0, none⟩ = some (.bool false) := (blk_cell BKA.out 0).trans rfl
    have ca1 : wr.cell? ⟨ga, 1, none⟩ = some (.slice none 0 0) := (blk_cell BKA.out 1).trans rfl
    have fa0 := blk_frozen BKA.out 0
    have fa1 := blk_frozen BKA.out 1
    have cb0 : wr.cell? ⟨gb, 0, none⟩ = some (.bool true) := (blk_cell BKB.out 0).trans rfl
    have cb1 : wr.cell? ⟨gb, 1, none⟩ = some ((.slice AV ls.length cV)) := (blk_cell BKB.out 1).trans rfl
    have fb0 := blk_frozen BKB.out 0
    have fb1 := blk_frozen BKB.out 1
    have hml : ls.length ≤ 1099511627776 := by have := HLN.out; have := HXX.out; omega
    have hmq : q.length ≤ 1099511627776 := by have := HLN.out; have := HXX.out; omega
    have HGK := Aside0.mk hgk
    have HQF := Aside0.mk hqf
    have HQ2 := Aside0.mk hq2
    have HBW := Aside0.mk (below_step HW0.out HB.out)
    clear hgk hqf hq2
    obtain ⟨f, rfl⟩ : ∃ g, f = g + 1 := ⟨f - 1, by have := HQF.out; omega⟩
    obtain hq | ⟨y, q2, hq⟩ : q = [] ∨ ∃ y q2, q = y :: q2 := by cases q with | nil => exact .inl rfl | cons y q2 => exact .inr ⟨y, q2, rfl⟩
    · have hG2 : G = .short := by rw [← HJ.out, hq]; rfl
      subst hG2
      have z1 : (0 < q.length) = False := eq_false (by rw [hq]; simp)
      have z2 : ((q.length : Int) == 0) = true := by rw [hq]; rfl
      clear HGG HJ hq
      go_wp2
      exact bodyPost_ret (v := .tuple #[.agg #[.bool true, .slice AV ls.length cV], .slice none 0 0, .int .i64 10]) (by simp [results, Tryd.results27, go_sem, *]) rfl ⟨(by repeat (first | (with_reducible first | exact HB.out | apply below_alloc | apply pw_below_drewN | apply below_drew1 | refine below_set ?_ GEB.out | refine below_set ?_ GEA.out) | exact HB.out)), _, _, _, _, rfl⟩
    have z1 : (0 < q.length) = True := eq_true (by rw [hq]; simp)
    have z2 : ((q.length : Int) == 0) = false := by rw [hq]; simp; omega
    obtain ⟨ad2, e2, hy⟩ := at_byte HR2.out 0 (by rw [hq]; simp)
    cases e2
    rw [hq, show nth (y :: q2) 0 0 = y from rfl, add0] at hy
    replace hy := (HBW.out.cell (World.block_lt_of_cell? w0 _ hy)).trans hy
    by_cases hy0 : y = 0
    · subst hy0
      have hG2 : G = .ok ls q2 := by rw [← HJ.out, hq]; exact joinG_end ls f q2
      subst hG2
      rw [show ((0 : UInt8).toNat : Int) = 0 from rfl] at hy
      obtain ⟨A3, k3, hk3, hk4⟩ := cut_bytes (some ad2) c2 q 1 (by omega) (by rw [hq]; simp; omega) HQ2.out
      have hd3 : q.drop (1 : Int).toNat = q2 := by rw [hq]; rfl
      rw [hd3] at k3 hk3 hk4
      have HK3 := Aside0.mk (hk3 _ HR2.out)
      have HK4 := Aside0.mk hk4
      clear HGG HJ hq hd3 hk3 hk4 k1
      go_wp2
      go_region
      all_goals go_wp2
      all_goals
        refine bodyPost_ret (v := .tuple #[.agg #[.bool true, .slice AV ls.length cV], .slice A3 q2.length (c2 - 1), .int .i64 0]) (by simp [results, Tryd.results27, go_sem, *]) rfl ⟨(by repeat (first | (with_reducible first | exact HB.out | apply below_alloc | apply pw_below_drewN | apply below_drew1 | refine below_set ?_ GEB.out | refine below_set ?_ GEA.out) | exact HB.out)), .slice AV ls.length cV, A3, _, rfl, HK4.out, HK3.out, ?_⟩
        exact Kd.R_drew (Kd.R_mono (Kd.R_far (p := ⟨ga, 1, none⟩) (Kd.R_far (p := ⟨ga, 0, none⟩) (Kd.R_types HO.out BKA.out (by decide)) (fun _ hk => hk.2) _) (fun _ hk => hk.2) _) (fun _ _ => trivial))
    have z3 : ((y.toNat : Int) != 0) = true := (byte_ne y 0 hy0).2
    have C := literal_any w0 (some ad2) c2 q wr HR2.out HBW.out HQ2.out
    cases hlit : litP q with
    | form =>
      have hG2 : G = .form := by rw [← HJ.out, hq]; rw [hq] at hlit; exact joinG_form ls f y q2 hy0 hlit
      subst hG2
      rw [hlit] at C
      clear HGG HJ hq hlit hy0 k1
      go_wp2_with (go_at_call 41; refine C.mono ?_)
      rintro e w7 ⟨hb, rfl⟩
      clear C hy
      have BKA2 := Aside0.mk (blk_below BKA.out hb)
      have BKB2 := Aside0.mk (blk_below BKB.out hb)
      have HO2 := Aside0.mk (Kd.R_below HO.out hb)
      have HB2 := Aside0.mk (below_step HB.out hb)
      clear HB HO BKA BKB hb ca0 ca1 fa0 fa1 cb0 cb1 fb0 fb1
      have HB := HB2
      have HO := HO2
      have BKA := BKA2
      have BKB := BKB2
      clear HB2 HO2 BKA2 BKB2
      have ca0 : w7.cell? ⟨ga, 0, none⟩ = some (.bool false) := (blk_cell BKA.out 0).trans rfl
      have ca1 : w7.cell? ⟨ga, 1, none⟩ = some (.slice none 0 0) := (blk_cell BKA.out 1).trans rfl
      have fa0 := blk_frozen BKA.out 0
      have fa1 := blk_frozen BKA.out 1
      have cb0 : w7.cell? ⟨gb, 0, none⟩ = some (.bool true) := (blk_cell BKB.out 0).trans rfl
      have cb1 : w7.cell? ⟨gb, 1, none⟩ = some ((.slice AV ls.length cV)) := (blk_cell BKB.out 1).trans rfl
      have fb0 := blk_frozen BKB.out 0
      have fb1 := blk_frozen BKB.out 1
      go_wp2
      exact bodyPost_ret (v := .tuple #[.agg #[.bool true, .slice AV ls.length cV], .slice none 0 0, .int .i64 9]) (by simp [results, Tryd.results27, go_sem, *]) rfl ⟨(by repeat (first | (with_reducible first | exact HB.out | apply below_alloc | apply pw_below_drewN | apply below_drew1 | refine below_set ?_ GEB.out | refine below_set ?_ GEA.out) | exact HB.out)), _, _, _, _, rfl⟩
    | short =>
      have hG2 : G = .short := by rw [← HJ.out, hq]; rw [hq] at hlit; exact joinG_short ls f y q2 hy0 hlit
      subst hG2
      rw [hlit] at C
      clear HGG HJ hq hlit hy0 k1
      go_wp2_with (go_at_call 41; refine C.mono ?_)
      rintro e w7 ⟨hb, rfl⟩
      clear C hy
      have BKA2 := Aside0.mk (blk_below BKA.out hb)
      have BKB2 := Aside0.mk (blk_below BKB.out hb)
      have HO2 := Aside0.mk (Kd.R_below HO.out hb)
      have HB2 := Aside0.mk (below_step HB.out hb)
      clear HB HO BKA BKB hb ca0 ca1 fa0 fa1 cb0 cb1 fb0 fb1
      have HB := HB2
      have HO := HO2
      have BKA := BKA2
      have BKB := BKB2
      clear HB2 HO2 BKA2 BKB2
      have ca0 : w7.cell? ⟨ga, 0, none⟩ = some (.bool false) := (blk_cell BKA.out 0).trans rfl
      have ca1 : w7.cell? ⟨ga, 1, none⟩ = some (.slice none 0 0) := (blk_cell BKA.out 1).trans rfl
      have fa0 := blk_frozen BKA.out 0
      have fa1 := blk_frozen BKA.out 1
      have cb0 : w7.cell? ⟨gb, 0, none⟩ = some (.bool true) := (blk_cell BKB.out 0).trans rfl
      have cb1 : w7.cell? ⟨gb, 1, none⟩ = some ((.slice AV ls.length cV)) := (blk_cell BKB.out 1).trans rfl
      have fb0 := blk_frozen BKB.out 0
      have fb1 := blk_frozen BKB.out 1
      go_wp2
      exact bodyPost_ret (v := .tuple #[.agg #[.bool true, .slice AV ls.length cV], .slice none 0 0, .int .i64 10]) (by simp [results, Tryd.results27, go_sem, *]) rfl ⟨(by repeat (first | (with_reducible first | exact HB.out | apply below_alloc | apply pw_below_drewN | apply below_drew1 | refine below_set ?_ GEB.out | refine below_set ?_ GEA.out) | exact HB.out)), _, _, _, _, rfl⟩
    | ok l q3 =>
      have hG2 : joinG (ls ++ [l]) (litsP f q3) = G := by rw [← HJ.out, hq]; rw [hq] at hlit; exact (joinG_cons ls f y q2 q3 l hy0 hlit).symm
      have hsh : q3.length < q.length := by rw [hq] at hlit ⊢; exact litP_shorter hlit
      rw [hlit] at C
      have HJ2 := Aside0.mk hG2
      have HSH := Aside0.mk hsh
      clear HJ hq hlit hy0 hG2 hsh k1
      go_wp2_with (go_at_call 41; refine C.mono ?_)
      rintro e w7 ⟨hb, A3, c3, rfl, h1, h2⟩
      have H1 := Aside0.mk h1
      have H2 := Aside0.mk h2
      clear C hy h1 h2
      have BKA2 := Aside0.mk (blk_below BKA.out hb)
      have BKB2 := Aside0.mk (blk_below BKB.out hb)
      have HO2 := Aside0.mk (Kd.R_below HO.out hb)
      have HB2 := Aside0.mk (below_step HB.out hb)
      clear HB HO BKA BKB hb ca0 ca1 fa0 fa1 cb0 cb1 fb0 fb1
      have HB := HB2
      have HO := HO2
      have BKA := BKA2
      have BKB := BKB2
      clear HB2 HO2 BKA2 BKB2
      have ca0 : w7.cell? ⟨ga, 0, none⟩ = some (.bool false) := (blk_cell BKA.out 0).trans rfl
      have ca1 : w7.cell? ⟨ga, 1, none⟩ = some (.slice none 0 0) := (blk_cell BKA.out 1).trans rfl
      have fa0 := blk_frozen BKA.out 0
      have fa1 := blk_frozen BKA.out 1
      have cb0 : w7.cell? ⟨gb, 0, none⟩ = some (.bool true) := (blk_cell BKB.out 0).trans rfl
      have cb1 : w7.cell? ⟨gb, 1, none⟩ = some ((.slice AV ls.length cV)) := (blk_cell BKB.out 1).trans rfl
      have fb0 := blk_frozen BKB.out 0
      have fb1 := blk_frozen BKB.out 1
      have hml3 : q3.length ≤ 1099511627776 := by have := HSH.out; omega
      go_wp2_with ((with_reducible refine gate_builtin (b := .append) (xs := #[.tmp 47, .tmp 49]) rfl ?_); at_builtin; refine Kd.R_append (Kd.int .i64) (w0 := w) w.heap.size rfl (.tmp 47) (.tmp 49) 34 3 (.int .i64 0) 8 rfl Tryd.underlying34 info3 rfl (by decide) (by decide) _ ls l [.int .i64 l] (fun _ => True) (fun _ => False) rfl ?aX rfl (fun _ hk => hk.elim) (fun _ _ => trivial) ?aO ?aB ?aS ?aL ?_; (case aX => first | rfl | (simp [Act.eval]; done)); (case aO => exact HO.out); (case aB => exact HB.out); (case aS => exact below_size HB.out); (case aL => omega))
      intro v1 w8 ho hb hg hat
      obtain ⟨A8, c8, rfl⟩ := Kd.R_slice ho
      rw [show (ls ++ [l]).length = ls.length + 1 by simp] at ho
      have BKA2 := Aside0.mk (blk_grown BKA.out hg (Kd.R_ne HO.out BKA.out (by decide)))
      have BKB2 := Aside0.mk (blk_grown BKB.out hg (Kd.R_ne HO.out BKB.out (by decide)))
      have HO2 := Aside0.mk ho
      have HB2 := Aside0.mk hb
      clear HB HO BKA BKB hb hg ho hat ca0 ca1 fa0 fa1 cb0 cb1 fb0 fb1
      have HB := HB2
      have HO := HO2
      have BKA := BKA2
      have BKB := BKB2
      clear HB2 HO2 BKA2 BKB2
      have ca0 : w8.cell? ⟨ga, 0, none⟩ = some (.bool false) := (blk_cell BKA.out 0).trans rfl
      have ca1 : w8.cell? ⟨ga, 1, none⟩ = some (.slice none 0 0) := (blk_cell BKA.out 1).trans rfl
      have fa0 := blk_frozen BKA.out 0
      have fa1 := blk_frozen BKA.out 1
      have cb0 : w8.cell? ⟨gb, 0, none⟩ = some (.bool true) := (blk_cell BKB.out 0).trans rfl
      have cb1 : w8.cell? ⟨gb, 1, none⟩ = some ((.slice AV ls.length cV)) := (blk_cell BKB.out 1).trans rfl
      have fb0 := blk_frozen BKB.out 0
      have fb1 := blk_frozen BKB.out 1
      go_wp2
      go_roundg q3.length
      case measure => have := HSH.out; have := HGK.out; omega
      case rel =>
        refine ⟨q3, A3, c3, f, ls ++ [l], .slice A8 (ls.length + 1) c8, rfl, rfl, H1.out, by have := HSH.out; have := HQF.out; omega, ⟨by have := HSH.out; have := HLN.out; simp; omega⟩, H2, HJ2, ⟨?_⟩, ⟨?_⟩, ⟨?_⟩, ⟨(by repeat (first | (with_reducible first | exact HB.out | apply below_alloc | apply pw_below_drewN | apply below_drew1 | refine below_set ?_ GEB.out | refine below_set ?_ GEA.out) | exact HB.out))⟩⟩
        · exact Kd.R_mono (Kd.R_far (p := ⟨gb, 1, none⟩) (Kd.R_types HO.out BKB.out (by decide)) (fun _ hk => hk.2) _) (fun _ _ => trivial)
        · exact blk_far (p := ⟨gb, 1, none⟩) BKA.out (by simpa using ne1) _
        · exact blk_put (cs := #[.bool true, .slice AV ls.length cV]) BKB.out 1 _ rfl
  

set_option maxRecDepth 100000 in
set_option maxHeartbeats 1600000 in
theorem step_false (w0 : World) (A : Option Addr) (c : Nat) (b : List UInt8) (r : List UInt8) (hbx : b = 97 :: r) (w : World) (h0 : Rd w0 A b) (hb : Below w0.heap.size w0 w) (hc : b.length ≤ c) (hX : b.length ≤ 1099511627776) :
    Calls Tryd.prog 27 #[.slice A b.length c] w (StepSaid w0 w (stepG false (litsP (r.length + 1) r))) := by
  have hu := Tryd.underlying36
  obtain ⟨ad, e0, hcell⟩ := at_byte (h0.below hb) 0 (by rw [hbx]; simp)
  cases e0
  rw [hbx, show nth (97 :: r) 0 0 = 97 from rfl, add0, show ((97 : UInt8).toNat : Int) = 97 from rfl] at hcell
  have hm := h0.2.1
  have q00 : ((0 : Int) < (b.length : Int)) = True := eq_true (by rw [hbx]; simp; try omega)
  have q01 : (0 < b.length) = True := eq_true (by rw [hbx]; simp)
  have HB := Aside0.mk (Below.refl w.heap.size w)
  obtain ⟨A1, k1, hk1, hk2⟩ := cut_bytes (some ad) c b 1 (by omega) (by rw [hbx]; simp; omega) hc
  have hd1 : b.drop (1 : Int).toNat = r := by rw [hbx]; rfl
  rw [hd1] at k1 hk1 hk2
  have HR1 := Aside0.mk (hk1 _ h0)
  have HK2 := Aside0.mk hk2
  have HW0 := Aside0.mk hb
  have HXX : Aside0 (r.length ≤ 1099511627776) := ⟨by rw [hbx] at hX; simp at hX; omega⟩
  have hmr : r.length ≤ 1099511627776 := HXX.out
  have hG : joinG [] (litsP (r.length + 1) r) = litsP (r.length + 1) r := joinG_nil _
  have HG0 := Aside0.mk hG
  clear hd1 hk1 hk2 hX hc hb h0 hbx hG
  obtain ⟨G, hGG⟩ : ∃ G, litsP (r.length + 1) r = G := ⟨_, rfl⟩
  have HGG := Aside0.mk hGG
  rw [hGG]
  clear hGG
  have hcl := Aside0.mk (World.block_lt_of_cell? w _ hcell)
  have Hc := Aside0.mk hcell
  clear hcell
  go_enter Tryd.func27, Tryd.ntmps27
  go_wp2_with (first
    | (((with_reducible refine gate_dst (N := 2) rfl ?_); refine box_event ?hg (N := 2) ?hd (cs := #[.bool false, .slice none 0 0]) (t := 36) ?hr ?_; (case hd => rfl); (case hg => rfl); (case hr => first | (go_simp; done) | (go_simp; rfl)); intro ga hg w5 hbox hb; have GEA := Aside0.mk ((by rw [hg]; exact (below_size (by repeat (first | (with_reducible first | exact HB.out | apply below_alloc | apply pw_below_drewN | apply below_drew1) | exact HB.out)))) : w.heap.size ≤ ga); have n0_ := Aside0.mk (below_step (by repeat (first | (with_reducible first | exact HB.out | apply below_alloc | apply pw_below_drewN | apply below_drew1) | exact HB.out)) hb); have BKA := Aside0.mk hbox; clear HB; have HB := n0_; clear n0_ hb hbox hg); have hx5 := (HB.out.cell hcl.out).trans Hc.out)
    | (((with_reducible refine gate_dst (N := 5) rfl ?_); refine box_event ?hg (N := 5) ?hd (cs := #[.bool false, .slice none 0 0]) (t := 36) ?hr ?_; (case hd => rfl); (case hg => rfl); (case hr => first | (go_simp; done) | (go_simp; rfl)); intro gb hg w6 hbox hb; have GEB := Aside0.mk ((by rw [hg]; exact (below_size (by repeat (first | (with_reducible first | exact HB.out | apply below_alloc | apply pw_below_drewN | apply below_drew1) | exact HB.out)))) : w.heap.size ≤ gb); have n0_ := Aside0.mk (below_step (by repeat (first | (with_reducible first | exact HB.out | apply below_alloc | apply pw_below_drewN | apply below_drew1) | exact HB.out)) hb); have BKB := Aside0.mk hbox; have n1_ := Aside0.mk (blk_below BKA.out hb); have hne : ga ≠ gb := (by have := blk_lt BKA.out; rw [hg]; simp; omega); clear HB BKA; have HB := n0_; have BKA := n1_; clear n0_ n1_ hb hbox hg; have ne1 : (ga = gb) = False := eq_false hne; have ne2 : (gb = ga) = False := eq_false (Ne.symm hne); clear hne; have ca0 : w6.cell? ⟨ga, 0, none⟩ = some (.bool false) := (blk_cell BKA.out 0).trans rfl; have ca1 : w6.cell? ⟨ga, 1, none⟩ = some (.slice none 0 0) := (blk_cell BKA.out 1).trans rfl; have fa0 := blk_frozen BKA.out 0; have fa1 := blk_frozen BKA.out 1; have cb0 : w6.cell? ⟨gb, 0, none⟩ = some (.bool false) := (blk_cell BKB.out 0).trans rfl; have cb1 : w6.cell? ⟨gb, 1, none⟩ = some (.slice none 0 0) := (blk_cell BKB.out 1).trans rfl; have fb0 := blk_frozen BKB.out 0; have fb1 := blk_frozen BKB.out 1); have hx6 := (HB.out.cell hcl.out).trans Hc.out; have hx7 : ((w6.setCell ⟨gb, 0, none⟩ (.bool false)).setCell ⟨gb, 1, none⟩ (.slice none 0 0)).cell? ad = some (.int .u8 97) := ((by repeat (first | (with_reducible first | exact HB.out | apply below_alloc | apply pw_below_drewN | apply below_drew1 | refine below_set ?_ GEB.out | refine below_set ?_ GEA.out) | exact HB.out)) : Below w.heap.size w ((w6.setCell ⟨gb, 0, none⟩ (.bool false)).setCell ⟨gb, 1, none⟩ (.slice none 0 0))).cell hcl.out |>.trans Hc.out))
  clear hx5 hx6 hx7
  go_loopg [0] r.length (fun gk v0 w' => ∃ (q : List UInt8) (A2 : Option Addr) (c2 f : Nat) (ls : List Int) (V : Value), v0 = .slice A2 q.length c2 ∧ q.length = gk ∧ q.length ≤ c2 ∧ q.length < f ∧ Aside0 (ls.length + q.length ≤ r.length) ∧ Aside0 (Rd w0 A2 q) ∧ Aside0 (joinG ls (litsP f q) = G) ∧ Aside0 (Kd.R (Kd.int .i64) 3 w' w.heap.size (fun _ => True) V ls) ∧ Aside0 (w'.heap[ga]? = some (.cells #[.bool false, .slice none 0 0] 36 (0, 0))) ∧ Aside0 (w'.heap[gb]? = some (.cells #[.bool false, V] 36 (0, 0))) ∧ Aside0 (Below w.heap.size w w'))
  case atStart =>
    refine ⟨r, A1, _, r.length + 1, [], .slice none 0 0, rfl, rfl, HK2.out, by omega, ⟨by simp⟩, HR1, ⟨by rw [HGG.out]; exact joinG_nil _⟩, ⟨Kd.R_nil _ _ _ _ _⟩, ⟨blk_far (p := ⟨gb, 1, none⟩) (blk_far (p := ⟨gb, 0, none⟩) BKA.out (by simpa using ne1) (.bool false)) (by simpa using ne1) (.slice none 0 0)⟩, ⟨blk_put (cs := #[.bool false, .slice none 0 0]) (blk_put (cs := #[.bool false, .slice none 0 0]) BKB.out 0 (.bool false) rfl) 1 (.slice none 0 0) rfl⟩, ⟨(by repeat (first | (with_reducible first | exact HB.out | apply below_alloc | apply pw_below_drewN | apply below_drew1 | refine below_set ?_ GEB.out | refine below_set ?_ GEA.out) | exact HB.out))⟩⟩
  case round =>
    clear HB BKA BKB ca0 ca1 fa0 fa1 cb0 cb1 fb0 fb1
    obtain ⟨q, A2, c2, f, ls, V, rfl, hgk, hq2, hqf, HLN, HR2, HJ, HO, BKA, BKB, HB⟩ := hrel
    obtain ⟨AV, cV, rfl⟩ := Kd.R_slice HO.out
    have ca0 : wr.cell? ⟨ga, 0, none⟩ = some (.bool false) := (blk_cell BKA.out 0).trans rfl
    have ca1 : wr.cell? ⟨ga, 1, none⟩ = some (.slice none 0 0) := (blk_cell BKA.out 1).trans rfl
    have fa0 := blk_frozen BKA.out 0
    have fa1 := blk_frozen BKA.out 1
    have cb0 : wr.cell? ⟨gb, 0, none⟩ = some (.bool false) := (blk_cell BKB.out 0).trans rfl
    have cb1 : wr.cell? ⟨gb, 1, none⟩ = some ((.slice AV ls.length cV)) := (blk_cell BKB.out 1).trans rfl
    have fb0 := blk_frozen BKB.out 0
    have fb1 := blk_frozen BKB.out 1
    have hml : ls.length ≤ 1099511627776 := by have := HLN.out; have := HXX.out; omega
    have hmq : q.length ≤ 1099511627776 := by have := HLN.out; have := HXX.out; omega
    have HGK := Aside0.mk hgk
    have HQF := Aside0.mk hqf
    have HQ2 := Aside0.mk hq2
    have HBW := Aside0.mk (below_step HW0.out HB.out)
    clear hgk hqf hq2
    obtain ⟨f, rfl⟩ : ∃ g, f = g + 1 := ⟨f - 1, by have := HQF.out; omega⟩
    obtain hq | ⟨y, q2, hq⟩ : q = [] ∨ ∃ y q2, q = y :: q2 := by cases q with | nil => exact .inl rfl | cons y q2 => exact .inr ⟨y, q2, rfl⟩
    · have hG2 : G = .short := by rw [← HJ.out, hq]; rfl
      subst hG2
      have z1 : (0 < q.length) = False := eq_false (by rw [hq]; simp)
      have z2 : ((q.length : Int) == 0) = true := by rw [hq]; rfl
      clear HGG HJ hq
      go_wp2
      exact bodyPost_ret (v := .tuple #[.agg #[.bool false, .slice AV ls.length cV], .slice none 0 0, .int .i64 10]) (by simp [results, Tryd.results27, go_sem, *]) rfl ⟨(by repeat (first | (with_reducible first | exact HB.out | apply below_alloc | apply pw_below_drewN | apply below_drew1 | refine below_set ?_ GEB.out | refine below_set ?_ GEA.out) | exact HB.out)), _, _, _, _, rfl⟩
    have z1 : (0 < q.length) = True := eq_true (by rw [hq]; simp)
    have z2 : ((q.length : Int) == 0) = false := by rw [hq]; simp; omega
    obtain ⟨ad2, e2, hy⟩ := at_byte HR2.out 0 (by rw [hq]; simp)
    cases e2
    rw [hq, show nth (y :: q2) 0 0 = y from rfl, add0] at hy
    replace hy := (HBW.out.cell (World.block_lt_of_cell? w0 _ hy)).trans hy
    by_cases hy0 : y = 0
    · subst hy0
      have hG2 : G = .ok ls q2 := by rw [← HJ.out, hq]; exact joinG_end ls f q2
      subst hG2
      rw [show ((0 : UInt8).toNat : Int) = 0 from rfl] at hy
      obtain ⟨A3, k3, hk3, hk4⟩ := cut_bytes (some ad2) c2 q 1 (by omega) (by rw [hq]; simp; omega) HQ2.out
      have hd3 : q.drop (1 : Int).toNat = q2 := by rw [hq]; rfl
      rw [hd3] at k3 hk3 hk4
      have HK3 := Aside0.mk (hk3 _ HR2.out)
      have HK4 := Aside0.mk hk4
      clear HGG HJ hq hd3 hk3 hk4 k1
      go_wp2
      go_region
      all_goals go_wp2
      all_goals
        refine bodyPost_ret (v := .tuple #[.agg #[.bool false, .slice AV ls.length cV], .slice A3 q2.length (c2 - 1), .int .i64 0]) (by simp [results, Tryd.results27, go_sem, *]) rfl ⟨(by repeat (first | (with_reducible first | exact HB.out | apply below_alloc | apply pw_below_drewN | apply below_drew1 | refine below_set ?_ GEB.out | refine below_set ?_ GEA.out) | exact HB.out)), .slice AV ls.length cV, A3, _, rfl, HK4.out, HK3.out, ?_⟩
        exact Kd.R_drew (Kd.R_mono (Kd.R_far (p := ⟨ga, 1, none⟩) (Kd.R_far (p := ⟨ga, 0, none⟩) (Kd.R_types HO.out BKA.out (by decide)) (fun _ hk => hk.2) _) (fun _ hk => hk.2) _) (fun _ _ => trivial))
    have z3 : ((y.toNat : Int) != 0) = true := (byte_ne y 0 hy0).2
    have C := literal_any w0 (some ad2) c2 q wr HR2.out HBW.out HQ2.out
    cases hlit : litP q with
    | form =>
      have hG2 : G = .form := by rw [← HJ.out, hq]; rw [hq] at hlit; exact joinG_form ls f y q2 hy0 hlit
      subst hG2
      rw [hlit] at C
      clear HGG HJ hq hlit hy0 k1
      go_wp2_with (go_at_call 41; refine C.mono ?_)
      rintro e w7 ⟨hb, rfl⟩
      clear C hy
      have BKA2 := Aside0.mk (blk_below BKA.out hb)
      have BKB2 := Aside0.mk (blk_below BKB.out hb)
      have HO2 := Aside0.mk (Kd.R_below HO.out hb)
      have HB2 := Aside0.mk (below_step HB.out hb)
      clear HB HO BKA BKB hb ca0 ca1 fa0 fa1 cb0 cb1 fb0 fb1
      have HB := HB2
      have HO := HO2
      have BKA := BKA2
      have BKB := BKB2
      clear HB2 HO2 BKA2 BKB2
      have ca0 : w7.cell? ⟨ga, 0, none⟩ = some (.bool false) := (blk_cell BKA.out 0).trans rfl
      have ca1 : w7.cell? ⟨ga, 1, none⟩ = some (.slice none 0 0) := (blk_cell BKA.out 1).trans rfl
      have fa0 := blk_frozen BKA.out 0
      have fa1 := blk_frozen BKA.out 1
      have cb0 : w7.cell? ⟨gb, 0, none⟩ = some (.bool false) := (blk_cell BKB.out 0).trans rfl
      have cb1 : w7.cell? ⟨gb, 1, none⟩ = some ((.slice AV ls.length cV)) := (blk_cell BKB.out 1).trans rfl
      have fb0 := blk_frozen BKB.out 0
      have fb1 := blk_frozen BKB.out 1
      go_wp2
      exact bodyPost_ret (v := .tuple #[.agg #[.bool false, .slice AV ls.length cV], .slice none 0 0, .int .i64 9]) (by simp [results, Tryd.results27, go_sem, *]) rfl ⟨(by repeat (first | (with_reducible first | exact HB.out | apply below_alloc | apply pw_below_drewN | apply below_drew1 | refine below_set ?_ GEB.out | refine below_set ?_ GEA.out) | exact HB.out)), _, _, _, _, rfl⟩
    | short =>
      have hG2 : G = .short := by rw [← HJ.out, hq]; rw [hq] at hlit; exact joinG_short ls f y q2 hy0 hlit
      subst hG2
      rw [hlit] at C
      clear HGG HJ hq hlit hy0 k1
      go_wp2_with (go_at_call 41; refine C.mono ?_)
      rintro e w7 ⟨hb, rfl⟩
      clear C hy
      have BKA2 := Aside0.mk (blk_below BKA.out hb)
      have BKB2 := Aside0.mk (blk_below BKB.out hb)
      have HO2 := Aside0.mk (Kd.R_below HO.out hb)
      have HB2 := Aside0.mk (below_step HB.out hb)
      clear HB HO BKA BKB hb ca0 ca1 fa0 fa1 cb0 cb1 fb0 fb1
      have HB := HB2
      have HO := HO2
      have BKA := BKA2
      have BKB := BKB2
      clear HB2 HO2 BKA2 BKB2
      have ca0 : w7.cell? ⟨ga, 0, none⟩ = some (.bool false) := (blk_cell BKA.out 0).trans rfl
      have ca1 : w7.cell? ⟨ga, 1, none⟩ = some (.slice none 0 0) := (blk_cell BKA.out 1).trans rfl
      have fa0 := blk_frozen BKA.out 0
      have fa1 := blk_frozen BKA.out 1
      have cb0 : w7.cell? ⟨gb, 0, none⟩ = some (.bool false) := (blk_cell BKB.out 0).trans rfl
      have cb1 : w7.cell? ⟨gb, 1, none⟩ = some ((.slice AV ls.length cV)) := (blk_cell BKB.out 1).trans rfl
      have fb0 := blk_frozen BKB.out 0
      have fb1 := blk_frozen BKB.out 1
      go_wp2
      exact bodyPost_ret (v := .tuple #[.agg #[.bool false, .slice AV ls.length cV], .slice none 0 0, .int .i64 10]) (by simp [results, Tryd.results27, go_sem, *]) rfl ⟨(by repeat (first | (with_reducible first | exact HB.out | apply below_alloc | apply pw_below_drewN | apply below_drew1 | refine below_set ?_ GEB.out | refine below_set ?_ GEA.out) | exact HB.out)), _, _, _, _, rfl⟩
    | ok l q3 =>
      have hG2 : joinG (ls ++ [l]) (litsP f q3) = G := by rw [← HJ.out, hq]; rw [hq] at hlit; exact (joinG_cons ls f y q2 q3 l hy0 hlit).symm
      have hsh : q3.length < q.length := by rw [hq] at hlit ⊢; exact litP_shorter hlit
      rw [hlit] at C
      have HJ2 := Aside0.mk hG2
      have HSH := Aside0.mk hsh
      clear HJ hq hlit hy0 hG2 hsh k1
      go_wp2_with (go_at_call 41; refine C.mono ?_)
      rintro e w7 ⟨hb, A3, c3, rfl, h1, h2⟩
      have H1 := Aside0.mk h1
      have H2 := Aside0.mk h2
      clear C hy h1 h2
      have BKA2 := Aside0.mk (blk_below BKA.out hb)
      have BKB2 := Aside0.mk (blk_below BKB.out hb)
      have HO2 := Aside0.mk (Kd.R_below HO.out hb)
      have HB2 := Aside0.mk (below_step HB.out hb)
      clear HB HO BKA BKB hb ca0 ca1 fa0 fa1 cb0 cb1 fb0 fb1
      have HB := HB2
      have HO := HO2
      have BKA := BKA2
      have BKB := BKB2
      clear HB2 HO2 BKA2 BKB2
      have ca0 : w7.cell? ⟨ga, 0, none⟩ = some (.bool false) := (blk_cell BKA.out 0).trans rfl
      have ca1 : w7.cell? ⟨ga, 1, none⟩ = some (.slice none 0 0) := (blk_cell BKA.out 1).trans rfl
      have fa0 := blk_frozen BKA.out 0
      have fa1 := blk_frozen BKA.out 1
      have cb0 : w7.cell? ⟨gb, 0, none⟩ = some (.bool false) := (blk_cell BKB.out 0).trans rfl
      have cb1 : w7.cell? ⟨gb, 1, none⟩ = some ((.slice AV ls.length cV)) := (blk_cell BKB.out 1).trans rfl
      have fb0 := blk_frozen BKB.out 0
      have fb1 := blk_frozen BKB.out 1
      have hml3 : q3.length ≤ 1099511627776 := by have := HSH.out; omega
      go_wp2_with ((with_reducible refine gate_builtin (b := .append) (xs := #[.tmp 47, .tmp 49]) rfl ?_); at_builtin; refine Kd.R_append (Kd.int .i64) (w0 := w) w.heap.size rfl (.tmp 47) (.tmp 49) 34 3 (.int .i64 0) 8 rfl Tryd.underlying34 info3 rfl (by decide) (by decide) _ ls l [.int .i64 l] (fun _ => True) (fun _ => False) rfl ?aX rfl (fun _ hk => hk.elim) (fun _ _ => trivial) ?aO ?aB ?aS ?aL ?_; (case aX => first | rfl | (simp [Act.eval]; done)); (case aO => exact HO.out); (case aB => exact HB.out); (case aS => exact below_size HB.out); (case aL => omega))
      intro v1 w8 ho hb hg hat
      obtain ⟨A8, c8, rfl⟩ := Kd.R_slice ho
      rw [show (ls ++ [l]).length = ls.length + 1 by simp] at ho
      have BKA2 := Aside0.mk (blk_grown BKA.out hg (Kd.R_ne HO.out BKA.out (by decide)))
      have BKB2 := Aside0.mk (blk_grown BKB.out hg (Kd.R_ne HO.out BKB.out (by decide)))
      have HO2 := Aside0.mk ho
      have HB2 := Aside0.mk hb
      clear HB HO BKA BKB hb hg ho hat ca0 ca1 fa0 fa1 cb0 cb1 fb0 fb1
      have HB := HB2
      have HO := HO2
      have BKA := BKA2
      have BKB := BKB2
      clear HB2 HO2 BKA2 BKB2
      have ca0 : w8.cell? ⟨ga, 0, none⟩ = some (.bool false) := (blk_cell BKA.out 0).trans rfl
      have ca1 : w8.cell? ⟨ga, 1, none⟩ = some (.slice none 0 0) := (blk_cell BKA.out 1).trans rfl
      have fa0 := blk_frozen BKA.out 0
      have fa1 := blk_frozen BKA.out 1
      have cb0 : w8.cell? ⟨gb, 0, none⟩ = some (.bool false) := (blk_cell BKB.out 0).trans rfl
      have cb1 : w8.cell? ⟨gb, 1, none⟩ = some ((.slice AV ls.length cV)) := (blk_cell BKB.out 1).trans rfl
      have fb0 := blk_frozen BKB.out 0
      have fb1 := blk_frozen BKB.out 1
      go_wp2
      go_roundg q3.length
      case measure => have := HSH.out; have := HGK.out; omega
      case rel =>
        refine ⟨q3, A3, c3, f, ls ++ [l], .slice A8 (ls.length + 1) c8, rfl, rfl, H1.out, by have := HSH.out; have := HQF.out; omega, ⟨by have := HSH.out; have := HLN.out; simp; omega⟩, H2, HJ2, ⟨?_⟩, ⟨?_⟩, ⟨?_⟩, ⟨(by repeat (first | (with_reducible first | exact HB.out | apply below_alloc | apply pw_below_drewN | apply below_drew1 | refine below_set ?_ GEB.out | refine below_set ?_ GEA.out) | exact HB.out))⟩⟩
        · exact Kd.R_mono (Kd.R_far (p := ⟨gb, 1, none⟩) (Kd.R_types HO.out BKB.out (by decide)) (fun _ hk => hk.2) _) (fun _ _ => trivial)
        · exact blk_far (p := ⟨gb, 1, none⟩) BKA.out (by simpa using ne1) _
        · exact blk_put (cs := #[.bool false, .slice AV ls.length cV]) BKB.out 1 _ rfl
  

end Go.Proofs.YtefppfgcgcfleaaDoor
