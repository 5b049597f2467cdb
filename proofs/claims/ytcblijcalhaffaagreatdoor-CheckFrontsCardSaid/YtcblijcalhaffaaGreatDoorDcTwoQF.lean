import Derived.Test.YtcblijcalhaffaaGreatDoorDcOneQF
import Derived.Deep.QuietTactic
import Derived.RegionTactic
import Derived.BigRegion
import Derived.Lib.SplitLaws
namespace Go.Proofs.YtcblijcalhaffaaGreatDoor
open Go Go.RowKit Go.Proofs.YtcblijcalhaffaaGreatDoorW.PrintWords Go.Proofs.YtcblijcalhaffaaGreatDoorW.PrintLast Go.Proofs.YtcblijcalhaffaaGreatDoorW.PrintMore PCheckSound

/-- Bytes that are read. -/
def Rd (w : World) (A : Option Addr) (b : List UInt8) : Prop := Kd.C (Kd.int .u8) w A b.length (bts b)
theorem Rd.below {w w' : World} {A : Option Addr} {b : List UInt8} (h : Rd w A b) (B : Below w.heap.size w w') : Rd w' A b := Kd.C_below h B
/-- What the next literal's call leaves. -/
def LitSaid (w0 w : World) (g : Got Int) (e : Ending) (w' : World) : Prop := Below w.heap.size w w' ∧ match g with
  | .ok l r => ∃ A c, e = .returned (.tuple #[.int .i64 l, .slice A r.length c, .int .i64 0]) ∧ r.length ≤ c ∧ Rd w0 A r
  | .form => e = .returned (.tuple #[.int .i64 0, .slice none 0 0, .int .i64 9])
  | .short => e = .returned (.tuple #[.int .i64 0, .slice none 0 0, .int .i64 10])

/-- The literal from its i-th byte on, n so far. -/
def litI (i : Nat) (n : Nat) : List UInt8 → Got Int
  | [] => .short
  | c :: r => if n + c.toNat % 128 * 128 ^ i > 200001 then .form else if c.toNat < 128 then (if c = 0 ∨ n + c.toNat % 128 * 128 ^ i < 2 then .form else .ok (atN (n + c.toNat % 128 * 128 ^ i)) r) else if i = 2 then .form else litI (i + 1) (n + c.toNat % 128 * 128 ^ i) r
theorem drop_cons {α : Type} {b : List α} {j : Nat} (h : j < b.length) (z : α) : b.drop j = nth b z j :: b.drop (j + 1) := by
  unfold nth
  rw [List.getD_eq_getElem?_getD, List.getElem?_eq_getElem h, List.drop_eq_getElem_cons h]; rfl

end Go.Proofs.YtcblijcalhaffaaGreatDoor
namespace Go.Proofs.YtcblijcalhaffaaGreatDoor
open Go Go.RowKit Go.Proofs.YtcblijcalhaffaaGreatDoorW.PrintWords Go.Proofs.YtcblijcalhaffaaGreatDoorW.PrintLast Go.Proofs.YtcblijcalhaffaaGreatDoorW.PrintMore PCheckSound

def joinG (ls : List Int) : Got (List Int) → Got (List Int)
  | .ok ms q => .ok (ls ++ ms) q
  | .form => .form
  | .short => .short
def stepG (d : Bool) : Got (List Int) → Got PStep
  | .ok ls q => .ok ⟨d, ls⟩ q
  | .form => .form
  | .short => .short
/-- What the next step's call leaves. -/
def StepSaid (w0 w : World) (g : Got PStep) (e : Ending) (w' : World) : Prop := Below w.heap.size w w' ∧ match g with
  | .ok s r => ∃ V A c, e = .returned (.tuple #[.agg #[.bool s.del, V], .slice A r.length c, .int .i64 0]) ∧ r.length ≤ c ∧ Rd w0 A r ∧ Kd.R (Kd.int .i64) 3 w' w.heap.size (fun _ => True) V s.lits
  | .form => ∃ d A n c, e = .returned (.tuple #[.agg #[.bool d, .slice A n c], .slice none 0 0, .int .i64 9])
  | .short => ∃ d A n c, e = .returned (.tuple #[.agg #[.bool d, .slice A n c], .slice none 0 0, .int .i64 10])

end Go.Proofs.YtcblijcalhaffaaGreatDoor
namespace Go.Proofs.YtcblijcalhaffaaGreatDoor
open Go Go.RowKit Go.Proofs.YtcblijcalhaffaaGreatDoorW.PrintWords Go.Proofs.YtcblijcalhaffaaGreatDoorW.PrintLast Go.Proofs.YtcblijcalhaffaaGreatDoorW.PrintMore PCheckSound

def ofP (p : PStep) : S41 := ⟨p.del, p.lits⟩
theorem map_toP_ofP (ps : List PStep) : (ps.map ofP).map toP = ps := by rw [List.map_map]; exact List.map_id _
def joinP (ps : List PStep) : Got (List PStep) → Got (List PStep)
  | .ok qs r => .ok (ps ++ qs) r
  | .form => .form
  | .short => .short
/-- What ParseBinary's call leaves. -/
def ParseSaid (w : World) (g : Got (List PStep)) (e : Ending) (w' : World) : Prop := Below w.heap.size w w' ∧ match g with
  | .ok ps _ => ∃ V, e = .returned (.tuple #[V, .int .i64 0]) ∧ Kd.R k41 41 w' w.heap.size (fun _ => True) V (ps.map ofP)
  | .form => e = .returned (.tuple #[.slice none 0 0, .int .i64 9])
  | .short => e = .returned (.tuple #[.slice none 0 0, .int .i64 10])

end Go.Proofs.YtcblijcalhaffaaGreatDoor
namespace Go.Proofs.YtcblijcalhaffaaGreatDoor
open Go Go.RowKit Go.Proofs.YtcblijcalhaffaaGreatDoorW.PrintWords Go.Proofs.YtcblijcalhaffaaGreatDoorW.PrintLast Go.Proofs.YtcblijcalhaffaaGreatDoorW.PrintMore PCheckSound

def strV (l : List UInt8) : Value := .string ⟨l.toArray⟩
theorem split_list (s : List UInt8) (c : UInt8) : (Lib.splitB ⟨#[c]⟩ 0 (Lib.countB ⟨s.toArray⟩ ⟨#[c]⟩) ⟨s.toArray⟩).map Value.string = (cutC c s).map strV ∧ Lib.countB ⟨s.toArray⟩ ⟨#[c]⟩ + 1 = (cutC c s).length := by
  have h1 := Lib.splitB_data ⟨#[c]⟩ 0 (Lib.countB ⟨s.toArray⟩ ⟨#[c]⟩) ⟨s.toArray⟩
  have h2 : Lib.splitK [c] 0 (Lib.countB ⟨s.toArray⟩ ⟨#[c]⟩) s = cutC c s := by rw [← split_one c s]; rfl
  have h3 : (Lib.splitB ⟨#[c]⟩ 0 (Lib.countB ⟨s.toArray⟩ ⟨#[c]⟩) ⟨s.toArray⟩).map (·.data.toList) = cutC c s := h1.trans h2
  constructor
  · rw [← h3, List.map_map]
    apply List.map_congr_left
    intro x _
    show Value.string x = strV x.data.toList
    unfold strV
    cases x
    simp
  · rw [← h3, List.length_map]
    exact (Lib.splitB_all ⟨#[c]⟩ (show 1 ≤ 1 from Nat.le_refl _) 0 _ _ rfl).symm

theorem split_any (s : List UInt8) (c : UInt8) (hs : s.length < 4294967281) (w : World) (E : Env w) :
    Calls Tryz.prog 44 #[strV s, .string ⟨#[c]⟩] w fun e w' => e = .returned (.slice (some ⟨w.heap.size, 0, none⟩) (cutC c s).length (cutC c s).length) ∧ w' = w.alloc (.cells ((cutC c s).map strV).toArray 9) := by
  obtain ⟨m, hm⟩ := E.max
  have h := Tryz.strings_Split ⟨s.toArray⟩ ⟨#[c]⟩ m w hs hm (show 1 ≤ 1 from Nat.le_refl _)
  rw [(split_list s c).1, (split_list s c).2] at h
  exact h

theorem bytes_world_below (w : World) (t : ByteArray) : Below w.heap.size w (Lib.bytesWorld w 5 t) := bytes_below (Below.refl _ _) (Nat.le_refl _) _ _

theorem atoi_any (v : List UInt8) (hv : v.length ≤ 1099511627776) (w : World) (E : Env w) :
    Calls Tryz.prog 62 #[strV v] w fun e w' => Below w.heap.size w w' ∧ ((∃ l, Lib.atoiAll v = .ok l ∧ e = .returned (.tuple #[.int .i64 l, .nilIface])) ∨ ((∀ l, Lib.atoiAll v ≠ .ok l) ∧ ∃ k t a, e = .returned (.tuple #[.int .i64 k, .iface t a]))) := by
  have hsz : (⟨v.toArray⟩ : ByteArray).size = v.length := rfl
  have hd : (⟨v.toArray⟩ : ByteArray).data.toList = v := rfl
  cases h : Lib.atoiAll v with
  | ok l =>
    refine (Tryz.strconv_Atoi_ok ⟨v.toArray⟩ (by rw [hsz]; omega) l (by rw [hd]; exact h) w).mono ?_
    rintro e w' ⟨rfl, hw⟩
    refine ⟨?_, .inl ⟨l, rfl, rfl⟩⟩
    rcases hw with rfl | ⟨t, rfl⟩
    · exact Below.refl _ _
    · exact bytes_world_below w t
  | «syntax» =>
    obtain ⟨tp, p, hp⟩ := E.syn
    refine (Tryz.strconv_Atoi_syntax_var ⟨v.toArray⟩ (by rw [hsz]; omega) (by rw [hd]; exact h) tp p w hp).mono ?_
    rintro e w' ⟨N, rfl, _, _, hb⟩
    exact ⟨hb, .inr ⟨fun l hl => (by cases hl), _, _, _, rfl⟩⟩
  | range =>
    obtain ⟨tp, p, hp⟩ := E.ran
    refine (Tryz.strconv_Atoi_range_var ⟨v.toArray⟩ (by rw [hsz]; omega) (by rw [hd]; exact h) tp p w hp).mono ?_
    rintro e w' ⟨N, rfl, _, _, hb⟩
    exact ⟨hb, .inr ⟨fun l hl => (by cases hl), _, _, _, rfl⟩⟩

theorem cutPrefix_any (x p : List UInt8) (w : World) :
    Calls Tryz.prog 61 #[strV x, strV p] w fun e w' => e = .returned (.tuple #[strV (if Lib.hasPrefix x p then x.drop p.length else x), .bool (Lib.hasPrefix x p)]) ∧ w' = w :=
  Tryz.strings_CutPrefix ⟨x.toArray⟩ ⟨p.toArray⟩ w

end Go.Proofs.YtcblijcalhaffaaGreatDoor
namespace Go.Proofs.YtcblijcalhaffaaGreatDoor
open Go Go.RowKit Go.Proofs.YtcblijcalhaffaaGreatDoorW.PrintWords Go.Proofs.YtcblijcalhaffaaGreatDoorW.PrintLast Go.Proofs.YtcblijcalhaffaaGreatDoorW.PrintMore PCheckSound

theorem split_box (s : List UInt8) (c : UInt8) (hs : s.length < 4294967281) (w : World) (E : Env w) :
    Calls Tryz.prog 44 #[strV s, .string ⟨#[c]⟩] w fun e w' => ∃ g, e = .returned (.slice (some ⟨g, 0, none⟩) (cutC c s).length (cutC c s).length) ∧ w'.heap[g]? = some (.cells ((cutC c s).map strV).toArray 9 (0, 0)) ∧ Below w.heap.size w w' ∧ w.heap.size ≤ g :=
  (split_any s c hs w E).mono fun e w' ⟨he, hw⟩ => ⟨_, he, by rw [hw]; exact blk_new _ _, by rw [hw]; exact (Below.refl _ w).alloc (Nat.le_refl _) _, Nat.le_refl _⟩
theorem cut_len (c : UInt8) (s : List UInt8) : (cutC c s).length ≤ s.length + 1 ∧ ∀ x ∈ cutC c s, x.length ≤ s.length := by
  induction s with
  | nil => simp [cutC]
  | cons b r ih =>
    obtain ⟨h1, h2⟩ := ih
    rw [cutC]
    split
    · refine ⟨by simp; omega, fun x hx => ?_⟩
      simp only [List.mem_cons] at hx
      rcases hx with rfl | hx
      · simp
      · have := h2 x hx; simp; omega
    · cases hcc : cutC c r with
      | nil => exact absurd hcc (cutC_ne c r)
      | cons y ys =>
        rw [hcc] at h1 h2
        refine ⟨by simp at h1 ⊢; omega, fun x hx => ?_⟩
        simp only [List.mem_cons] at hx
        rcases hx with rfl | hx
        · have := h2 y (by simp); simp; omega
        · have := h2 x (by simp [hx]); simp; omega
theorem snoc_of {α : Type} (l : List α) (h : l ≠ []) : ∃ vs z, l = vs ++ [z] := ⟨l.dropLast, l.getLast h, (List.dropLast_concat_getLast h).symm⟩

def lineR (d : Bool) (vs : List (List UInt8)) (z : List UInt8) : Option PStep := match wordsP vs with
  | none => none
  | some ls => if z = [48] then some ⟨d, ls⟩ else none
theorem lineQ_R (d : Bool) (vs : List (List UInt8)) (z : List UInt8) : lineQ d (vs ++ [z]) = lineR d vs z := by
  unfold lineQ lineR
  rw [List.dropLast_concat]
  cases wordsP vs <;> simp
def joinW (ls : List Int) (o : Option (List Int)) : Option (List Int) := o.map (ls ++ ·)
theorem joinW_cons (ls : List Int) (v : List UInt8) (vs : List (List UInt8)) (l : Int) (h : wordP v = some l) : joinW ls (wordsP (v :: vs)) = joinW (ls ++ [l]) (wordsP vs) := by
  rw [wordsP, h]
  simp only
  cases wordsP vs <;> simp [joinW]
theorem joinW_none (ls : List Int) (v : List UInt8) (vs : List (List UInt8)) (h : wordP v = none) : joinW ls (wordsP (v :: vs)) = none := by rw [wordsP, h]; rfl

theorem words_at (vs : List (List UInt8)) (z : List UInt8) (i : Nat) (h : i < vs.length) : ((List.map (fun l => Value.string ⟨l.toArray⟩) (vs ++ [z])).toArray)[i]? = some (.string ⟨(nth vs [] i).toArray⟩) := by
  unfold nth
  rw [List.getElem?_toArray, List.getElem?_map, List.getElem?_append_left h, List.getD_eq_getElem?_getD, List.getElem?_eq_getElem h]
  rfl

/-- What line's call leaves. -/
def LineSaid (w : World) (g : Option PStep) (e : Ending) (w' : World) : Prop := Below w.heap.size w w' ∧ match g with
  | some s => ∃ V, e = .returned (.tuple #[.agg #[.bool s.del, V], .bool true]) ∧ Kd.R (Kd.int .i64) 3 w' w.heap.size (fun _ => True) V s.lits
  | none => ∃ d A n c, e = .returned (.tuple #[.agg #[.bool d, .slice A n c], .bool false])

theorem str_inf : (Tryz.prog.info? 9).map (fun i => i.size) = some 1 := by kernel_rfl
set_option maxRecDepth 100000 in
set_option maxHeartbeats 1600000 in
theorem line_true (x : List UInt8) (w : World) (hp : Lib.hasPrefix x [100, 32] = true) (hX : x.length ≤ 1048576) (E : Env w) :
    Calls Tryz.prog 45 #[strV x] w (LineSaid w (lineQ true (cutC 32 (x.drop 2)))) := by
  have hu := Tryz.underlying41
  have hu2 := Tryz.underlying9
  have HE := Aside0.mk E
  have hRL : (x.drop 2).length ≤ 1048576 := by simp; omega
  have C0 := fun w => cutPrefix_any x [100, 32] w
  rw [hp] at C0
  have C1 := fun w E => split_box (x.drop 2) 32 (by omega) w E
  have hcl := cut_len 32 (x.drop 2)
  obtain ⟨vs, z, hvz⟩ := snoc_of _ (cutC_ne 32 (x.drop 2))
  rw [hvz] at C1 hcl ⊢
  rw [lineQ_R]
  have hvl : vs.length ≤ 1048576 := by have := hcl.1; simp at this; omega
  have HVW : Aside0 (∀ i, i < vs.length → (nth vs [] i).length ≤ 1099511627776) := ⟨fun i hi => by have := hcl.2 (nth vs [] i) (by simp [nth_mem hi]); omega⟩
  rw [show (vs ++ [z]).length = vs.length + 1 by simp] at C1
  have kct := fun g => cut_to (P := Tryz.prog) 87 9 .i64 Tryz.underlying87 (Option.map_eq_some_iff.1 str_inf).choose_spec.1 (some ⟨g, 0, none⟩) (vs.length + 1) (vs.length + 1) (vs.length : Int) (by omega) (by omega) (Nat.le_refl _)
  rw [Int.toNat_natCast] at kct
  have HB := Aside0.mk (Below.refl w.heap.size w)
  clear hcl hvz hp E hX hRL
  have HW : Aside0 (joinW [] (wordsP (vs.drop 0)) = wordsP vs) := ⟨by rw [List.drop_zero]; unfold joinW; cases wordsP vs <;> simp⟩
  unfold lineR
  generalize hWD : wordsP vs = WW at HW ⊢
  clear hWD
  have D0 := C0
  clear C0
  unfold strV at D0 C1
  simp only [if_true, List.length_cons, List.length_nil, Nat.zero_add, Nat.reduceAdd] at D0
  show Calls Tryz.prog 45 #[.string ⟨x.toArray⟩] w _
  go_enter Tryz.func45, Tryz.ntmps45
  go_wp2_with (first
    | ((with_reducible refine gate_dst (N := 2) rfl ?_); refine box_event ?hg (N := 2) ?hd (cs := #[.bool false, .slice none 0 0]) (t := 41) ?hr ?_; (case hd => rfl); (case hg => rfl); (case hr => first | (go_simp; done) | (go_simp; rfl)); intro ga hg w5 hbox hb; have GEA := Aside0.mk ((by rw [hg]; exact (below_size (by repeat (first | (with_reducible first | exact HB.out | apply below_alloc | apply pw_below_drewN | apply below_drew1) | exact HB.out)))) : w.heap.size ≤ ga); have n0_ := Aside0.mk (below_step (by repeat (first | (with_reducible first | exact HB.out | apply below_alloc | apply pw_below_drewN | apply below_drew1) | exact HB.out)) hb); have BKA := Aside0.mk hbox; clear HB; have HB := n0_; clear n0_ hb hbox hg)
    | (go_at_call 61; refine (D0 _).mono ?_; rintro e w1 ⟨rfl, rfl⟩)
    | ((with_reducible refine gate_dst (N := 6) rfl ?_); refine box_event ?hg (N := 6) ?hd (cs := #[.bool false, .slice none 0 0]) (t := 41) ?hr ?_; (case hd => rfl); (case hg => rfl); (case hr => first | (go_simp; done) | (go_simp; rfl)); intro gb hg w6 hbox hb; have GEB := Aside0.mk ((by rw [hg]; exact (below_size (by repeat (first | (with_reducible first | exact HB.out | apply below_alloc | apply pw_below_drewN | apply below_drew1) | exact HB.out)))) : w.heap.size ≤ gb); have n0_ := Aside0.mk (below_step (by repeat (first | (with_reducible first | exact HB.out | apply below_alloc | apply pw_below_drewN | apply below_drew1) | exact HB.out)) hb); have BKB := Aside0.mk hbox; have n1_ := Aside0.mk (blk_below BKA.out hb); have hne : ga ≠ gb := (by have := blk_lt BKA.out; rw [hg]; simp; omega); clear HB BKA; have HB := n0_; have BKA := n1_; clear n0_ n1_ hb hbox hg; have ne1 : (ga = gb) = False := eq_false hne; have ne2 : (gb = ga) = False := eq_false (Ne.symm hne); clear hne; have ca0 : w6.cell? ⟨ga, 0, none⟩ = some (.bool false) := (blk_cell BKA.out 0).trans rfl; have ca1 : w6.cell? ⟨ga, 1, none⟩ = some (.slice none 0 0) := (blk_cell BKA.out 1).trans rfl; have fa0 := blk_frozen BKA.out 0; have fa1 := blk_frozen BKA.out 1; have cb0 : w6.cell? ⟨gb, 0, none⟩ = some (.bool false) := (blk_cell BKB.out 0).trans rfl; have cb1 : w6.cell? ⟨gb, 1, none⟩ = some (.slice none 0 0) := (blk_cell BKB.out 1).trans rfl; have fb0 := blk_frozen BKB.out 0; have fb1 := blk_frozen BKB.out 1)
    | (go_at_call 44; refine (C1 _ (HE.out.below (by repeat (first | (with_reducible first | exact HB.out | apply below_alloc | apply pw_below_drewN | apply below_drew1 | refine below_set ?_ GEB.out | refine below_set ?_ GEA.out) | exact HB.out)))).mono ?_))
  rintro e w9 ⟨gw, rfl, hgw, hb, hge⟩
  have BKA2 := Aside0.mk (blk_below (blk_far (p := ⟨gb, 1, none⟩) (blk_far (p := ⟨gb, 0, none⟩) BKA.out (by simpa using ne1) (.bool true)) (by simpa using ne1) (.slice none 0 0)) hb)
  have BKB2 := Aside0.mk (blk_below (blk_put (cs := #[.bool true, .slice none 0 0]) (blk_put (cs := #[.bool false, .slice none 0 0]) BKB.out 0 (.bool true) rfl) 1 (.slice none 0 0) rfl) hb)
  have HB2 := Aside0.mk (below_step (by repeat (first | (with_reducible first | exact HB.out | apply below_alloc | apply pw_below_drewN | apply below_drew1 | refine below_set ?_ GEB.out | refine below_set ?_ GEA.out) | exact HB.out)) hb)
  have HGW := Aside0.mk hgw
  clear hb hge hgw HB BKA BKB C1 D0 ca0 ca1 fa0 fa1 cb0 cb1 fb0 fb1
  have k2 := kct gw
  clear kct
  go_wp2
  go_loopg [27] vs.length (fun gk v27 w' => ∃ (i : Nat) (ls : List Int) (V : Value), v27 = .int .i64 (i : Int) ∧ i + gk = vs.length ∧ Aside0 (ls.length ≤ i) ∧ Aside0 (joinW ls (wordsP (vs.drop i)) = WW) ∧ Aside0 (Kd.R (Kd.int .i64) 3 w' w.heap.size (fun _ => True) V ls) ∧ Aside0 (w'.heap[ga]? = some (.cells #[.bool false, .slice none 0 0] 41 (0, 0))) ∧ Aside0 (w'.heap[gb]? = some (.cells #[.bool true, V] 41 (0, 0))) ∧ Aside0 (w'.heap[gw]? = some (.cells (List.map (fun l => Value.string ⟨l.toArray⟩) (vs ++ [z])).toArray 9 (0, 0))) ∧ Aside0 (Below w.heap.size w w'))
  case atStart => exact ⟨0, [], .slice none 0 0, rfl, by omega, ⟨by simp⟩, HW, ⟨Kd.R_nil _ _ _ _ _⟩, BKA2, BKB2, HGW, HB2⟩
  case round =>
    clear HB2 BKA2 BKB2 HGW HW
    obtain ⟨i, ls, V, rfl, hi, HLN, HJ, HO, BKA, BKB, HGW, HB⟩ := hrel
    obtain ⟨AV, cV, rfl⟩ := Kd.R_slice HO.out
    have ca0 : wr.cell? ⟨ga, 0, none⟩ = some (.bool false) := (blk_cell BKA.out 0).trans rfl
    have ca1 : wr.cell? ⟨ga, 1, none⟩ = some (.slice none 0 0) := (blk_cell BKA.out 1).trans rfl
    have fa0 := blk_frozen BKA.out 0
    have fa1 := blk_frozen BKA.out 1
    have cb0 : wr.cell? ⟨gb, 0, none⟩ = some (.bool true) := (blk_cell BKB.out 0).trans rfl
    have cb1 : wr.cell? ⟨gb, 1, none⟩ = some ((.slice AV ls.length cV)) := (blk_cell BKB.out 1).trans rfl
    have fb0 := blk_frozen BKB.out 0
    have fb1 := blk_frozen BKB.out 1
    have hml : ls.length ≤ 1048576 := by have := HLN.out; omega
    by_cases hiv : i < vs.length
    · have hx : wr.cell? ⟨gw, i, none⟩ = some (.string ⟨(nth vs [] i).toArray⟩) := by
        rw [blk_cell HGW.out i]
        exact words_at vs z i hiv
      have q1 : ((i : Int) < (vs.length : Int)) = True := eq_true (by omega)
      have q2 : (0 ≤ (i : Int)) = True := eq_true (by omega)
      have C := atoi_any (nth vs [] i) (HVW.out i hiv) wr (HE.out.below HB.out)
      unfold strV at C
      have hdc := drop_cons hiv ([] : List UInt8)
      have HDC := Aside0.mk hdc
      clear hdc
      generalize nth vs [] i = v at *
      go_wp2_with (go_at_call 62; refine C.mono ?_)
      clear C hx
      rintro e w7 ⟨hb, ⟨l, hl, rfl⟩ | ⟨hne, k, t, ai, rfl⟩⟩
      · cases hrl : rightL l
        · have hW2 : WW = none := by
            rw [← HJ.out, HDC.out]
            refine joinW_none ls v _ ?_
            unfold wordP
            rw [hl]
            simp only
            rw [if_neg (fun h : l ≠ 0 ∧ l ≤ 100000 ∧ -100000 ≤ l => by rw [rightL_iff.2 h] at hrl; cases hrl)]
          subst hW2
          have Cr := fun w => lit_right_any l w
          rw [hrl] at Cr
          clear HJ hl hrl HDC k2
          have BKA2 := Aside0.mk (blk_below BKA.out hb)
          have BKB2 := Aside0.mk (blk_below BKB.out hb)
          have HG2 := Aside0.mk (blk_below HGW.out hb)
          have HO2 := Aside0.mk (Kd.R_below HO.out hb)
          have HB2 := Aside0.mk (below_step HB.out hb)
          clear HB HO BKA BKB HGW hb ca0 ca1 fa0 fa1 cb0 cb1 fb0 fb1
          have HB := HB2
          have HO := HO2
          have BKA := BKA2
          have BKB := BKB2
          have HGW := HG2
          clear HB2 HO2 BKA2 BKB2 HG2
          have ca0 : w7.cell? ⟨ga, 0, none⟩ = some (.bool false) := (blk_cell BKA.out 0).trans rfl
          have ca1 : w7.cell? ⟨ga, 1, none⟩ = some (.slice none 0 0) := (blk_cell BKA.out 1).trans rfl
          have fa0 := blk_frozen BKA.out 0
          have fa1 := blk_frozen BKA.out 1
          have cb0 : w7.cell? ⟨gb, 0, none⟩ = some (.bool true) := (blk_cell BKB.out 0).trans rfl
          have cb1 : w7.cell? ⟨gb, 1, none⟩ = some ((.slice AV ls.length cV)) := (blk_cell BKB.out 1).trans rfl
          have fb0 := blk_frozen BKB.out 0
          have fb1 := blk_frozen BKB.out 1
          go_wp2_with (go_at_call 42; refine (Cr _).mono ?_)
          rintro e w8 ⟨rfl, hb⟩
          have BKA2 := Aside0.mk (blk_below BKA.out hb)
          have BKB2 := Aside0.mk (blk_below BKB.out hb)
          have HG2 := Aside0.mk (blk_below HGW.out hb)
          have HO2 := Aside0.mk (Kd.R_below HO.out hb)
          have HB2 := Aside0.mk (below_step HB.out hb)
          clear HB HO BKA BKB HGW hb ca0 ca1 fa0 fa1 cb0 cb1 fb0 fb1
          have HB := HB2
          have HO := HO2
          have BKA := BKA2
          have BKB := BKB2
          have HGW := HG2
          clear HB2 HO2 BKA2 BKB2 HG2
          have ca0 : w8.cell? ⟨ga, 0, none⟩ = some (.bool false) := (blk_cell BKA.out 0).trans rfl
          have ca1 : w8.cell? ⟨ga, 1, none⟩ = some (.slice none 0 0) := (blk_cell BKA.out 1).trans rfl
          have fa0 := blk_frozen BKA.out 0
          have fa1 := blk_frozen BKA.out 1
          have cb0 : w8.cell? ⟨gb, 0, none⟩ = some (.bool true) := (blk_cell BKB.out 0).trans rfl
          have cb1 : w8.cell? ⟨gb, 1, none⟩ = some ((.slice AV ls.length cV)) := (blk_cell BKB.out 1).trans rfl
          have fb0 := blk_frozen BKB.out 0
          have fb1 := blk_frozen BKB.out 1
          clear Cr
          go_wp2
          exact bodyPost_ret (v := .tuple #[.agg #[.bool true, .slice AV ls.length cV], .bool false]) (by simp [results, Tryz.results45, go_sem, *]) rfl ⟨(by repeat (first | (with_reducible first | exact HB.out | apply below_alloc | apply pw_below_drewN | apply below_drew1 | refine below_set ?_ GEB.out | refine below_set ?_ GEA.out) | exact HB.out)), _, _, _, _, rfl⟩
        · have hW2 : joinW (ls ++ [l]) (wordsP (vs.drop (i + 1))) = WW := by
            rw [← HJ.out, HDC.out]
            refine (joinW_cons ls v _ l ?_).symm
            unfold wordP
            rw [hl]
            simp only
            rw [if_pos (show l ≠ 0 ∧ l ≤ 100000 ∧ -100000 ≤ l from rightL_iff.1 hrl)]
          have HJ2 := Aside0.mk hW2
          have Cr := fun w => lit_right_any l w
          rw [hrl] at Cr
          clear HJ hl hrl HDC hW2 k2
          have BKA2 := Aside0.mk (blk_below BKA.out hb)
          have BKB2 := Aside0.mk (blk_below BKB.out hb)
          have HG2 := Aside0.mk (blk_below HGW.out hb)
          have HO2 := Aside0.mk (Kd.R_below HO.out hb)
          have HB2 := Aside0.mk (below_step HB.out hb)
          clear HB HO BKA BKB HGW hb ca0 ca1 fa0 fa1 cb0 cb1 fb0 fb1
          have HB := HB2
          have HO := HO2
          have BKA := BKA2
          have BKB := BKB2
          have HGW := HG2
          clear HB2 HO2 BKA2 BKB2 HG2
          have ca0 : w7.cell? ⟨ga, 0, none⟩ = some (.bool false) := (blk_cell BKA.out 0).trans rfl
          have ca1 : w7.cell? ⟨ga, 1, none⟩ = some (.slice none 0 0) := (blk_cell BKA.out 1).trans rfl
          have fa0 := blk_frozen BKA.out 0
          have fa1 := blk_frozen BKA.out 1
          have cb0 : w7.cell? ⟨gb, 0, none⟩ = some (.bool true) := (blk_cell BKB.out 0).trans rfl
          have cb1 : w7.cell? ⟨gb, 1, none⟩ = some ((.slice AV ls.length cV)) := (blk_cell BKB.out 1).trans rfl
          have fb0 := blk_frozen BKB.out 0
          have fb1 := blk_frozen BKB.out 1
          go_wp2_with (go_at_call 42; refine (Cr _).mono ?_)
          rintro e w8 ⟨rfl, hb⟩
          have BKA2 := Aside0.mk (blk_below BKA.out hb)
          have BKB2 := Aside0.mk (blk_below BKB.out hb)
          have HG2 := Aside0.mk (blk_below HGW.out hb)
          have HO2 := Aside0.mk (Kd.R_below HO.out hb)
          have HB2 := Aside0.mk (below_step HB.out hb)
          clear HB HO BKA BKB HGW hb ca0 ca1 fa0 fa1 cb0 cb1 fb0 fb1
          have HB := HB2
          have HO := HO2
          have BKA := BKA2
          have BKB := BKB2
          have HGW := HG2
          clear HB2 HO2 BKA2 BKB2 HG2
          have ca0 : w8.cell? ⟨ga, 0, none⟩ = some (.bool false) := (blk_cell BKA.out 0).trans rfl
          have ca1 : w8.cell? ⟨ga, 1, none⟩ = some (.slice none 0 0) := (blk_cell BKA.out 1).trans rfl
          have fa0 := blk_frozen BKA.out 0
          have fa1 := blk_frozen BKA.out 1
          have cb0 : w8.cell? ⟨gb, 0, none⟩ = some (.bool true) := (blk_cell BKB.out 0).trans rfl
          have cb1 : w8.cell? ⟨gb, 1, none⟩ = some ((.slice AV ls.length cV)) := (blk_cell BKB.out 1).trans rfl
          have fb0 := blk_frozen BKB.out 0
          have fb1 := blk_frozen BKB.out 1
          clear Cr
          go_wp2_with ((with_reducible refine gate_builtin (b := .append) (xs := #[.tmp 45, .tmp 47]) rfl ?_); at_builtin; refine Kd.R_append (Kd.int .i64) (w0 := w) w.heap.size rfl (.tmp 45) (.tmp 47) 34 3 (.int .i64 0) 8 rfl Tryz.underlying34 info3 rfl (by decide) (by decide) _ ls l [.int .i64 l] (fun _ => True) (fun _ => False) rfl ?aX rfl (fun _ hk => hk.elim) (fun _ _ => trivial) ?aO ?aB ?aS ?aL ?_; (case aX => first | rfl | (simp [Act.eval]; done)); (case aO => exact HO.out); (case aB => exact HB.out); (case aS => exact below_size HB.out); (case aL => omega))
          intro v1 w10 ho hb hg hat
          obtain ⟨A8, c8, rfl⟩ := Kd.R_slice ho
          rw [show (ls ++ [l]).length = ls.length + 1 by simp] at ho
          have BKA2 := Aside0.mk (blk_grown BKA.out hg (Kd.R_ne HO.out BKA.out (by decide)))
          have BKB2 := Aside0.mk (blk_grown BKB.out hg (Kd.R_ne HO.out BKB.out (by decide)))
          have HG2 := Aside0.mk (blk_grown HGW.out hg (Kd.R_ne HO.out HGW.out (by decide)))
          have HO2 := Aside0.mk ho
          have HB2 := Aside0.mk hb
          clear HB HO BKA BKB HGW hb hg ho hat ca0 ca1 fa0 fa1 cb0 cb1 fb0 fb1
          have HB := HB2
          have HO := HO2
          have BKA := BKA2
          have BKB := BKB2
          have HGW := HG2
          clear HB2 HO2 BKA2 BKB2 HG2
          have ca0 : w10.cell? ⟨ga, 0, none⟩ = some (.bool false) := (blk_cell BKA.out 0).trans rfl
          have ca1 : w10.cell? ⟨ga, 1, none⟩ = some (.slice none 0 0) := (blk_cell BKA.out 1).trans rfl
          have fa0 := blk_frozen BKA.out 0
          have fa1 := blk_frozen BKA.out 1
          have cb0 : w10.cell? ⟨gb, 0, none⟩ = some (.bool true) := (blk_cell BKB.out 0).trans rfl
          have cb1 : w10.cell? ⟨gb, 1, none⟩ = some ((.slice AV ls.length cV)) := (blk_cell BKB.out 1).trans rfl
          have fb0 := blk_frozen BKB.out 0
          have fb1 := blk_frozen BKB.out 1
          go_wp2
          go_roundg (vs.length - (i + 1))
          case measure => omega
          case rel =>
            refine ⟨i + 1, ls ++ [l], .slice A8 (ls.length + 1) c8, by go_num, by omega, ⟨by have := HLN.out; simp; omega⟩, HJ2, ⟨?_⟩, ⟨?_⟩, ⟨?_⟩, ⟨?_⟩, ⟨(by repeat (first | (with_reducible first | exact HB.out | apply below_alloc | apply pw_below_drewN | apply below_drew1 | refine below_set ?_ GEB.out | refine below_set ?_ GEA.out) | exact HB.out))⟩⟩
            · exact Kd.R_mono (Kd.R_far (p := ⟨gb, 1, none⟩) (Kd.R_types HO.out BKB.out (by decide)) (fun _ hk => hk.2) _) (fun _ _ => trivial)
            · exact blk_far (p := ⟨gb, 1, none⟩) BKA.out (by simpa using ne1) _
            · exact blk_put (cs := #[.bool true, .slice AV ls.length cV]) BKB.out 1 _ rfl
            · exact blk_far (p := ⟨gb, 1, none⟩) HGW.out (blk_ne HGW.out BKB.out (by decide)) _
      · have hW2 : WW = none := by
          rw [← HJ.out, HDC.out]
          refine joinW_none ls v _ ?_
          unfold wordP
          cases hl : Lib.atoiAll v with
          | ok l => exact absurd hl (hne l)
          | «syntax» => rfl
          | range => rfl
        subst hW2
        clear HJ hne HDC k2
        have BKA2 := Aside0.mk (blk_below BKA.out hb)
        have BKB2 := Aside0.mk (blk_below BKB.out hb)
        have HG2 := Aside0.mk (blk_below HGW.out hb)
        have HO2 := Aside0.mk (Kd.R_below HO.out hb)
        have HB2 := Aside0.mk (below_step HB.out hb)
        clear HB HO BKA BKB HGW hb ca0 ca1 fa0 fa1 cb0 cb1 fb0 fb1
        have HB := HB2
        have HO := HO2
        have BKA := BKA2
        have BKB := BKB2
        have HGW := HG2
        clear HB2 HO2 BKA2 BKB2 HG2
        have ca0 : w7.cell? ⟨ga, 0, none⟩ = some (.bool false) := (blk_cell BKA.out 0).trans rfl
        have ca1 : w7.cell? ⟨ga, 1, none⟩ = some (.slice none 0 0) := (blk_cell BKA.out 1).trans rfl
        have fa0 := blk_frozen BKA.out 0
        have fa1 := blk_frozen BKA.out 1
        have cb0 : w7.cell? ⟨gb, 0, none⟩ = some (.bool true) := (blk_cell BKB.out 0).trans rfl
        have cb1 : w7.cell? ⟨gb, 1, none⟩ = some ((.slice AV ls.length cV)) := (blk_cell BKB.out 1).trans rfl
        have fb0 := blk_frozen BKB.out 0
        have fb1 := blk_frozen BKB.out 1
        go_wp2
        exact bodyPost_ret (v := .tuple #[.agg #[.bool true, .slice AV ls.length cV], .bool false]) (by simp [results, Tryz.results45, go_sem, *]) rfl ⟨(by repeat (first | (with_reducible first | exact HB.out | apply below_alloc | apply pw_below_drewN | apply below_drew1 | refine below_set ?_ GEB.out | refine below_set ?_ GEA.out) | exact HB.out)), _, _, _, _, rfl⟩
    · have q1 : ((i : Int) < (vs.length : Int)) = False := eq_false (by omega)
      have hW2 : WW = some ls := by rw [← HJ.out, List.drop_of_length_le (by omega)]; simp [wordsP, joinW]
      subst hW2
      have hx : wr.cell? ⟨gw, vs.length, none⟩ = some (.string ⟨z.toArray⟩) := by
        rw [blk_cell HGW.out vs.length]
        simp
      have hg1 := blk_ne HGW.out BKA.out (by decide)
      have hg2 := blk_ne HGW.out BKB.out (by decide)
      have ne3 : (gw = ga) = False := eq_false hg1
      have ne4 : (ga = gw) = False := eq_false (Ne.symm hg1)
      have ne5 : (gw = gb) = False := eq_false hg2
      have ne6 : (gb = gw) = False := eq_false (Ne.symm hg2)
      have hwl : IntKind.i64.wrap (vs.length : Int) = (vs.length : Int) := by rw [IntKind.wrap_i64]; omega
      clear HJ hg1 hg2
      go_wp2
      go_region
      all_goals go_wp2
      all_goals
        refine bodyPost_ret (v := .tuple #[.agg #[.bool true, .slice AV ls.length cV], .bool (z == [48])]) (by simp [results, Tryz.results45, go_sem, *]) rfl ?_
        refine ⟨(by repeat (first | (with_reducible first | exact HB.out | apply below_alloc | apply pw_below_drewN | apply below_drew1 | refine below_set ?_ GEB.out | refine below_set ?_ GEA.out) | exact HB.out)), ?_⟩
        first
          | (refine ⟨.slice AV ls.length cV, ?_, Kd.R_drew (Kd.R_mono (Kd.R_far (p := ⟨ga, 1, none⟩) (Kd.R_far (p := ⟨ga, 0, none⟩) (Kd.R_types HO.out BKA.out (by decide)) (fun _ hk => hk.2) _) (fun _ hk => hk.2) _) (fun _ _ => trivial))⟩; (simp [*]; done))
          | (refine ⟨true, AV, ls.length, cV, ?_⟩; (simp [*]; done))

set_option maxRecDepth 100000 in
set_option maxHeartbeats 1600000 in
theorem line_false (x : List UInt8) (w : World) (hp : Lib.hasPrefix x [100, 32] = false) (hX : x.length ≤ 1048576) (E : Env w) :
    Calls Tryz.prog 45 #[strV x] w (LineSaid w (lineQ false (cutC 32 x))) := by
  have hu := Tryz.underlying41
  have hu2 := Tryz.underlying9
  have HE := Aside0.mk E
  have hRL : x.length ≤ 1048576 := hX
  have C0 := fun w => cutPrefix_any x [100, 32] w
  rw [hp] at C0
  have C1 := fun w E => split_box x 32 (by omega) w E
  have hcl := cut_len 32 x
  obtain ⟨vs, z, hvz⟩ := snoc_of _ (cutC_ne 32 x)
  rw [hvz] at C1 hcl ⊢
  rw [lineQ_R]
  have hvl : vs.length ≤ 1048576 := by have := hcl.1; simp at this; omega
  have HVW : Aside0 (∀ i, i < vs.length → (nth vs [] i).length ≤ 1099511627776) := ⟨fun i hi => by have := hcl.2 (nth vs [] i) (by simp [nth_mem hi]); omega⟩
  rw [show (vs ++ [z]).length = vs.length + 1 by simp] at C1
  have kct := fun g => cut_to (P := Tryz.prog) 87 9 .i64 Tryz.underlying87 (Option.map_eq_some_iff.1 str_inf).choose_spec.1 (some ⟨g, 0, none⟩) (vs.length + 1) (vs.length + 1) (vs.length : Int) (by omega) (by omega) (Nat.le_refl _)
  rw [Int.toNat_natCast] at kct
  have HB := Aside0.mk (Below.refl w.heap.size w)
  clear hcl hvz hp E hX hRL
  have HW : Aside0 (joinW [] (wordsP (vs.drop 0)) = wordsP vs) := ⟨by rw [List.drop_zero]; unfold joinW; cases wordsP vs <;> simp⟩
  unfold lineR
  generalize hWD : wordsP vs = WW at HW ⊢
  clear hWD
  have D0 := C0
  clear C0
  unfold strV at D0 C1
  simp only [if_false, Bool.false_eq_true, List.length_cons, List.length_nil, Nat.zero_add, Nat.reduceAdd] at D0
  show Calls Tryz.prog 45 #[.string ⟨x.toArray⟩] w _
  go_enter Tryz.func45, Tryz.ntmps45
  go_wp2_with (first
    | ((with_reducible refine gate_dst (N := 2) rfl ?_); refine box_event ?hg (N := 2) ?hd (cs := #[.bool false, .slice none 0 0]) (t := 41) ?hr ?_; (case hd => rfl); (case hg => rfl); (case hr => first | (go_simp; done) | (go_simp; rfl)); intro ga hg w5 hbox hb; have GEA := Aside0.mk ((by rw [hg]; exact (below_size (by repeat (first | (with_reducible first | exact HB.out | apply below_alloc | apply pw_below_drewN | apply below_drew1) | exact HB.out)))) : w.heap.size ≤ ga); have n0_ := Aside0.mk (below_step (by repeat (first | (with_reducible first | exact HB.out | apply below_alloc | apply pw_below_drewN | apply below_drew1) | exact HB.out)) hb); have BKA := Aside0.mk hbox; clear HB; have HB := n0_; clear n0_ hb hbox hg)
    | (go_at_call 61; refine (D0 _).mono ?_; rintro e w1 ⟨rfl, rfl⟩)
    | ((with_reducible refine gate_dst (N := 6) rfl ?_); refine box_event ?hg (N := 6) ?hd (cs := #[.bool false, .slice none 0 0]) (t := 41) ?hr ?_; (case hd => rfl); (case hg => rfl); (case hr => first | (go_simp; done) | (go_simp; rfl)); intro gb hg w6 hbox hb; have GEB := Aside0.mk ((by rw [hg]; exact (below_size (by repeat (first | (with_reducible first | exact HB.out | apply below_alloc | apply pw_below_drewN | apply below_drew1) | exact HB.out)))) : w.heap.size ≤ gb); have n0_ := Aside0.mk (below_step (by repeat (first | (with_reducible first | exact HB.out | apply below_alloc | apply pw_below_drewN | apply below_drew1) | exact HB.out)) hb); have BKB := Aside0.mk hbox; have n1_ := Aside0.mk (blk_below BKA.out hb); have hne : ga ≠ gb := (by have := blk_lt BKA.out; rw [hg]; simp; omega); clear HB BKA; have HB := n0_; have BKA := n1_; clear n0_ n1_ hb hbox hg; have ne1 : (ga = gb) = False := eq_false hne; have ne2 : (gb = ga) = False := eq_false (Ne.symm hne); clear hne; have ca0 : w6.cell? ⟨ga, 0, none⟩ = some (.bool false) := (blk_cell BKA.out 0).trans rfl; have ca1 : w6.cell? ⟨ga, 1, none⟩ = some (.slice none 0 0) := (blk_cell BKA.out 1).trans rfl; have fa0 := blk_frozen BKA.out 0; have fa1 := blk_frozen BKA.out 1; have cb0 : w6.cell? ⟨gb, 0, none⟩ = some (.bool false) := (blk_cell BKB.out 0).trans rfl; have cb1 : w6.cell? ⟨gb, 1, none⟩ = some (.slice none 0 0) := (blk_cell BKB.out 1).trans rfl; have fb0 := blk_frozen BKB.out 0; have fb1 := blk_frozen BKB.out 1)
    | (go_at_call 44; refine (C1 _ (HE.out.below (by repeat (first | (with_reducible first | exact HB.out | apply below_alloc | apply pw_below_drewN | apply below_drew1 | refine below_set ?_ GEB.out | refine below_set ?_ GEA.out) | exact HB.out)))).mono ?_))
  rintro e w9 ⟨gw, rfl, hgw, hb, hge⟩
  have BKA2 := Aside0.mk (blk_below (blk_far (p := ⟨gb, 1, none⟩) (blk_far (p := ⟨gb, 0, none⟩) BKA.out (by simpa using ne1) (.bool false)) (by simpa using ne1) (.slice none 0 0)) hb)
  have BKB2 := Aside0.mk (blk_below (blk_put (cs := #[.bool false, .slice none 0 0]) (blk_put (cs := #[.bool false, .slice none 0 0]) BKB.out 0 (.bool false) rfl) 1 (.slice none 0 0) rfl) hb)
  have HB2 := Aside0.mk (below_step (by repeat (first | (with_reducible first | exact HB.out | apply below_alloc | apply pw_below_drewN | apply below_drew1 | refine below_set ?_ GEB.out | refine below_set ?_ GEA.out) | exact HB.out)) hb)
  have HGW := Aside0.mk hgw
  clear hb hge hgw HB BKA BKB C1 D0 ca0 ca1 fa0 fa1 cb0 cb1 fb0 fb1
  have k2 := kct gw
  clear kct
  go_wp2
  go_loopg [27] vs.length (fun gk v27 w' => ∃ (i : Nat) (ls : List Int) (V : Value), v27 = .int .i64 (i : Int) ∧ i + gk = vs.length ∧ Aside0 (ls.length ≤ i) ∧ Aside0 (joinW ls (wordsP (vs.drop i)) = WW) ∧ Aside0 (Kd.R (Kd.int .i64) 3 w' w.heap.size (fun _ => True) V ls) ∧ Aside0 (w'.heap[ga]? = some (.cells #[.bool false, .slice none 0 0] 41 (0, 0))) ∧ Aside0 (w'.heap[gb]? = some (.cells #[.bool false, V] 41 (0, 0))) ∧ Aside0 (w'.heap[gw]? = some (.cells (List.map (fun l => Value.string ⟨l.toArray⟩) (vs ++ [z])).toArray 9 (0, 0))) ∧ Aside0 (Below w.heap.size w w'))
  case atStart => exact ⟨0, [], .slice none 0 0, rfl, by omega, ⟨by simp⟩, HW, ⟨Kd.R_nil _ _ _ _ _⟩, BKA2, BKB2, HGW, HB2⟩
  case round =>
    clear HB2 BKA2 BKB2 HGW HW
    obtain ⟨i, ls, V, rfl, hi, HLN, HJ, HO, BKA, BKB, HGW, HB⟩ := hrel
    obtain ⟨AV, cV, rfl⟩ := Kd.R_slice HO.out
    have ca0 : wr.cell? ⟨ga, 0, none⟩ = some (.bool false) := (blk_cell BKA.out 0).trans rfl
    have ca1 : wr.cell? ⟨ga, 1, none⟩ = some (.slice none 0 0) := (blk_cell BKA.out 1).trans rfl
    have fa0 := blk_frozen BKA.out 0
    have fa1 := blk_frozen BKA.out 1
    have cb0 : wr.cell? ⟨gb, 0, none⟩ = some (.bool false) := (blk_cell BKB.out 0).trans rfl
    have cb1 : wr.cell? ⟨gb, 1, none⟩ = some ((.slice AV ls.length cV)) := (blk_cell BKB.out 1).trans rfl
    have fb0 := blk_frozen BKB.out 0
    have fb1 := blk_frozen BKB.out 1
    have hml : ls.length ≤ 1048576 := by have := HLN.out; omega
    by_cases hiv : i < vs.length
    · have hx : wr.cell? ⟨gw, i, none⟩ = some (.string ⟨(nth vs [] i).toArray⟩) := by
        rw [blk_cell HGW.out i]
        exact words_at vs z i hiv
      have q1 : ((i : Int) < (vs.length : Int)) = True := eq_true (by omega)
      have q2 : (0 ≤ (i : Int)) = True := eq_true (by omega)
      have C := atoi_any (nth vs [] i) (HVW.out i hiv) wr (HE.out.below HB.out)
      unfold strV at C
      have hdc := drop_cons hiv ([] : List UInt8)
      have HDC := Aside0.mk hdc
      clear hdc
      generalize nth vs [] i = v at *
      go_wp2_with (go_at_call 62; refine C.mono ?_)
      clear C hx
      rintro e w7 ⟨hb, ⟨l, hl, rfl⟩ | ⟨hne, k, t, ai, rfl⟩⟩
      · cases hrl : rightL l
        · have hW2 : WW = none := by
            rw [← HJ.out, HDC.out]
            refine joinW_none ls v _ ?_
            unfold wordP
            rw [hl]
            simp only
            rw [if_neg (fun h : l ≠ 0 ∧ l ≤ 100000 ∧ -100000 ≤ l => by rw [rightL_iff.2 h] at hrl; cases hrl)]
          subst hW2
          have Cr := fun w => lit_right_any l w
          rw [hrl] at Cr
          clear HJ hl hrl HDC k2
          have BKA2 := Aside0.mk (blk_below BKA.out hb)
          have BKB2 := Aside0.mk (blk_below BKB.out hb)
          have HG2 := Aside0.mk (blk_below HGW.out hb)
          have HO2 := Aside0.mk (Kd.R_below HO.out hb)
          have HB2 := Aside0.mk (below_step HB.out hb)
          clear HB HO BKA BKB HGW hb ca0 ca1 fa0 fa1 cb0 cb1 fb0 fb1
          have HB := HB2
          have HO := HO2
          have BKA := BKA2
          have BKB := BKB2
          have HGW := HG2
          clear HB2 HO2 BKA2 BKB2 HG2
          have ca0 : w7.cell? ⟨ga, 0, none⟩ = some (.bool false) := (blk_cell BKA.out 0).trans rfl
          have ca1 : w7.cell? ⟨ga, 1, none⟩ = some (.slice none 0 0) := (blk_cell BKA.out 1).trans rfl
          have fa0 := blk_frozen BKA.out 0
          have fa1 := blk_frozen BKA.out 1
          have cb0 : w7.cell? ⟨gb, 0, none⟩ = some (.bool false) := (blk_cell BKB.out 0).trans rfl
          have cb1 : w7.cell? ⟨gb, 1, none⟩ = some ((.slice AV ls.length cV)) := (blk_cell BKB.out 1).trans rfl
          have fb0 := blk_frozen BKB.out 0
          have fb1 := blk_frozen BKB.out 1
          go_wp2_with (go_at_call 42; refine (Cr _).mono ?_)
          rintro e w8 ⟨rfl, hb⟩
          have BKA2 := Aside0.mk (blk_below BKA.out hb)
          have BKB2 := Aside0.mk (blk_below BKB.out hb)
          have HG2 := Aside0.mk (blk_below HGW.out hb)
          have HO2 := Aside0.mk (Kd.R_below HO.out hb)
          have HB2 := Aside0.mk (below_step HB.out hb)
          clear HB HO BKA BKB HGW hb ca0 ca1 fa0 fa1 cb0 cb1 fb0 fb1
          have HB := HB2
          have HO := HO2
          have BKA := BKA2
          have BKB := BKB2
          have HGW := HG2
          clear HB2 HO2 BKA2 BKB2 HG2
          have ca0 : w8.cell? ⟨ga, 0, none⟩ = some (.bool false) := (blk_cell BKA.out 0).trans rfl
          have ca1 : w8.cell? ⟨ga, 1, none⟩ = some (.slice none 0 0) := (blk_cell BKA.out 1).trans rfl
          have fa0 := blk_frozen BKA.out 0
          have fa1 := blk_frozen BKA.out 1
          have cb0 : w8.cell? ⟨gb, 0, none⟩ = some (.bool false) := (blk_cell BKB.out 0).trans rfl
          have cb1 : w8.cell? ⟨gb, 1, none⟩ = some ((.slice AV ls.length cV)) := (blk_cell BKB.out 1).trans rfl
          have fb0 := blk_frozen BKB.out 0
          have fb1 := blk_frozen BKB.out 1
          clear Cr
          go_wp2
          exact bodyPost_ret (v := .tuple #[.agg #[.bool false, .slice AV ls.length cV], .bool false]) (by simp [results, Tryz.results45, go_sem, *]) rfl ⟨(by repeat (first | (with_reducible first | exact HB.out | apply below_alloc | apply pw_below_drewN | apply below_drew1 | refine below_set ?_ GEB.out | refine below_set ?_ GEA.out) | exact HB.out)), _, _, _, _, rfl⟩
        · have hW2 : joinW (ls ++ [l]) (wordsP (vs.drop (i + 1))) = WW := by
            rw [← HJ.out, HDC.out]
            refine (joinW_cons ls v _ l ?_).symm
            unfold wordP
            rw [hl]
            simp only
            rw [if_pos (show l ≠ 0 ∧ l ≤ 100000 ∧ -100000 ≤ l from rightL_iff.1 hrl)]
          have HJ2 := Aside0.mk hW2
          have Cr := fun w => lit_right_any l w
          rw [hrl] at Cr
          clear HJ hl hrl HDC hW2 k2
          have BKA2 := Aside0.mk (blk_below BKA.out hb)
          have BKB2 := Aside0.mk (blk_below BKB.out hb)
          have HG2 := Aside0.mk (blk_below HGW.out hb)
          have HO2 := Aside0.mk (Kd.R_below HO.out hb)
          have HB2 := Aside0.mk (below_step HB.out hb)
          clear HB HO BKA BKB HGW hb ca0 ca1 fa0 fa1 cb0 cb1 fb0 fb1
          have HB := HB2
          have HO := HO2
          have BKA := BKA2
          have BKB := BKB2
          have HGW := HG2
          clear HB2 HO2 BKA2 BKB2 HG2
          have ca0 : w7.cell? ⟨ga, 0, none⟩ = some (.bool false) := (blk_cell BKA.out 0).trans rfl
          have ca1 : w7.cell? ⟨ga, 1, none⟩ = some (.slice none 0 0) := (blk_cell BKA.out 1).trans rfl
          have fa0 := blk_frozen BKA.out 0
          have fa1 := blk_frozen BKA.out 1
          have cb0 : w7.cell? ⟨gb, 0, none⟩ = some (.bool false) := (blk_cell BKB.out 0).trans rfl
          have cb1 : w7.cell? ⟨gb, 1, none⟩ = some ((.slice AV ls.length cV)) := (blk_cell BKB.out 1).trans rfl
          have fb0 := blk_frozen BKB.out 0
          have fb1 := blk_frozen BKB.out 1
          go_wp2_with (go_at_call 42; refine (Cr _).mono ?_)
          rintro e w8 ⟨rfl, hb⟩
          have BKA2 := Aside0.mk (blk_below BKA.out hb)
          have BKB2 := Aside0.mk (blk_below BKB.out hb)
          have HG2 := Aside0.mk (blk_below HGW.out hb)
          have HO2 := Aside0.mk (Kd.R_below HO.out hb)
          have HB2 := Aside0.mk (below_step HB.out hb)
          clear HB HO BKA BKB HGW hb ca0 ca1 fa0 fa1 cb0 cb1 fb0 fb1
          have HB := HB2
          have HO := HO2
          have BKA := BKA2
          have BKB := BKB2
          have HGW := HG2
          clear HB2 HO2 BKA2 BKB2 HG2
          have ca0 : w8.cell? ⟨ga, 0, none⟩ = some (.bool false) := (blk_cell BKA.out 0).trans rfl
          have ca1 : w8.cell? ⟨ga, 1, none⟩ = some (.slice none 0 0) := (blk_cell BKA.out 1).trans rfl
          have fa0 := blk_frozen BKA.out 0
          have fa1 := blk_frozen BKA.out 1
          have cb0 : w8.cell? ⟨gb, 0, none⟩ = some (.bool false) := (blk_cell BKB.out 0).trans rfl
          have cb1 : w8.cell? ⟨gb, 1, none⟩ = some ((.slice AV ls.length cV)) := (blk_cell BKB.out 1).trans rfl
          have fb0 := blk_frozen BKB.out 0
          have fb1 := blk_frozen BKB.out 1
          clear Cr
          go_wp2_with ((with_reducible refine gate_builtin (b := .append) (xs := #[.tmp 45, .tmp 47]) rfl ?_); at_builtin; refine Kd.R_append (Kd.int .i64) (w0 := w) w.heap.size rfl (.tmp 45) (.tmp 47) 34 3 (.int .i64 0) 8 rfl Tryz.underlying34 info3 rfl (by decide) (by decide) _ ls l [.int .i64 l] (fun _ => True) (fun _ => False) rfl ?aX rfl (fun _ hk => hk.elim) (fun _ _ => trivial) ?aO ?aB ?aS ?aL ?_; (case aX => first | rfl | (simp [Act.eval]; done)); (case aO => exact HO.out); (case aB => exact HB.out); (case aS => exact below_size HB.out); (case aL => omega))
          intro v1 w10 ho hb hg hat
          obtain ⟨A8, c8, rfl⟩ := Kd.R_slice ho
          rw [show (ls ++ [l]).length = ls.length + 1 by simp] at ho
          have BKA2 := Aside0.mk (blk_grown BKA.out hg (Kd.R_ne HO.out BKA.out (by decide)))
          have BKB2 := Aside0.mk (blk_grown BKB.out hg (Kd.R_ne HO.out BKB.out (by decide)))
          have HG2 := Aside0.mk (blk_grown HGW.out hg (Kd.R_ne HO.out HGW.out (by decide)))
          have HO2 := Aside0.mk ho
          have HB2 := Aside0.mk hb
          clear HB HO BKA BKB HGW hb hg ho hat ca0 ca1 fa0 fa1 cb0 cb1 fb0 fb1
          have HB := HB2
          have HO := HO2
          have BKA := BKA2
          have BKB := BKB2
          have HGW := HG2
          clear HB2 HO2 BKA2 BKB2 HG2
          have ca0 : w10.cell? ⟨ga, 0, none⟩ = some (.bool false) := (blk_cell BKA.out 0).trans rfl
          have ca1 : w10.cell? ⟨ga, 1, none⟩ = some (.slice none 0 0) := (blk_cell BKA.out 1).trans rfl
          have fa0 := blk_frozen BKA.out 0
          have fa1 := blk_frozen BKA.out 1
          have cb0 : w10.cell? ⟨gb, 0, none⟩ = some (.bool false) := (blk_cell BKB.out 0).trans rfl
          have cb1 : w10.cell? ⟨gb, 1, none⟩ = some ((.slice AV ls.length cV)) := (blk_cell BKB.out 1).trans rfl
          have fb0 := blk_frozen BKB.out 0
          have fb1 := blk_frozen BKB.out 1
          go_wp2
          go_roundg (vs.length - (i + 1))
          case measure => omega
          case rel =>
            refine ⟨i + 1, ls ++ [l], .slice A8 (ls.length + 1) c8, by go_num, by omega, ⟨by have := HLN.out; simp; omega⟩, HJ2, ⟨?_⟩, ⟨?_⟩, ⟨?_⟩, ⟨?_⟩, ⟨(by repeat (first | (with_reducible first | exact HB.out | apply below_alloc | apply pw_below_drewN | apply below_drew1 | refine below_set ?_ GEB.out | refine below_set ?_ GEA.out) | exact HB.out))⟩⟩
            · exact Kd.R_mono (Kd.R_far (p := ⟨gb, 1, none⟩) (Kd.R_types HO.out BKB.out (by decide)) (fun _ hk => hk.2) _) (fun _ _ => trivial)
            · exact blk_far (p := ⟨gb, 1, none⟩) BKA.out (by simpa using ne1) _
            · exact blk_put (cs := #[.bool false, .slice AV ls.length cV]) BKB.out 1 _ rfl
            · exact blk_far (p := ⟨gb, 1, none⟩) HGW.out (blk_ne HGW.out BKB.out (by decide)) _
      · have hW2 : WW = none := by
          rw [← HJ.out, HDC.out]
          refine joinW_none ls v _ ?_
          unfold wordP
          cases hl : Lib.atoiAll v with
          | ok l => exact absurd hl (hne l)
          | «syntax» => rfl
          | range => rfl
        subst hW2
        clear HJ hne HDC k2
        have BKA2 := Aside0.mk (blk_below BKA.out hb)
        have BKB2 := Aside0.mk (blk_below BKB.out hb)
        have HG2 := Aside0.mk (blk_below HGW.out hb)
        have HO2 := Aside0.mk (Kd.R_below HO.out hb)
        have HB2 := Aside0.mk (below_step HB.out hb)
        clear HB HO BKA BKB HGW hb ca0 ca1 fa0 fa1 cb0 cb1 fb0 fb1
        have HB := HB2
        have HO := HO2
        have BKA := BKA2
        have BKB := BKB2
        have HGW := HG2
        clear HB2 HO2 BKA2 BKB2 HG2
        have ca0 : w7.cell? ⟨ga, 0, none⟩ = some (.bool false) := (blk_cell BKA.out 0).trans rfl
        have ca1 : w7.cell? ⟨ga, 1, none⟩ = some (.slice none 0 0) := (blk_cell BKA.out 1).trans rfl
        have fa0 := blk_frozen BKA.out 0
        have fa1 := blk_frozen BKA.out 1
        have cb0 : w7.cell? ⟨gb, 0, none⟩ = some (.bool false) := (blk_cell BKB.out 0).trans rfl
        have cb1 : w7.cell? ⟨gb, 1, none⟩ = some ((.slice AV ls.length cV)) := (blk_cell BKB.out 1).trans rfl
        have fb0 := blk_frozen BKB.out 0
        have fb1 := blk_frozen BKB.out 1
        go_wp2
        exact bodyPost_ret (v := .tuple #[.agg #[.bool false, .slice AV ls.length cV], .bool false]) (by simp [results, Tryz.results45, go_sem, *]) rfl ⟨(by repeat (first | (with_reducible first | exact HB.out | apply below_alloc | apply pw_below_drewN | apply below_drew1 | refine below_set ?_ GEB.out | refine below_set ?_ GEA.out) | exact HB.out)), _, _, _, _, rfl⟩
    · have q1 : ((i : Int) < (vs.length : Int)) = False := eq_false (by omega)
      have hW2 : WW = some ls := by rw [← HJ.out, List.drop_of_length_le (by omega)]; simp [wordsP, joinW]
      subst hW2
      have hx : wr.cell? ⟨gw, vs.length, none⟩ = some (.string ⟨z.toArray⟩) := by
        rw [blk_cell HGW.out vs.length]
        simp
      have hg1 := blk_ne HGW.out BKA.out (by decide)
      have hg2 := blk_ne HGW.out BKB.out (by decide)
      have ne3 : (gw = ga) = False := eq_false hg1
      have ne4 : (ga = gw) = False := eq_false (Ne.symm hg1)
      have ne5 : (gw = gb) = False := eq_false hg2
      have ne6 : (gb = gw) = False := eq_false (Ne.symm hg2)
      have hwl : IntKind.i64.wrap (vs.length : Int) = (vs.length : Int) := by rw [IntKind.wrap_i64]; omega
      clear HJ hg1 hg2
      go_wp2
      go_region
      all_goals go_wp2
      all_goals
        refine bodyPost_ret (v := .tuple #[.agg #[.bool false, .slice AV ls.length cV], .bool (z == [48])]) (by simp [results, Tryz.results45, go_sem, *]) rfl ?_
        refine ⟨(by repeat (first | (with_reducible first | exact HB.out | apply below_alloc | apply pw_below_drewN | apply below_drew1 | refine below_set ?_ GEB.out | refine below_set ?_ GEA.out) | exact HB.out)), ?_⟩
        first
          | (refine ⟨.slice AV ls.length cV, ?_, Kd.R_drew (Kd.R_mono (Kd.R_far (p := ⟨ga, 1, none⟩) (Kd.R_far (p := ⟨ga, 0, none⟩) (Kd.R_types HO.out BKA.out (by decide)) (fun _ hk => hk.2) _) (fun _ hk => hk.2) _) (fun _ _ => trivial))⟩; (simp [*]; done))
          | (refine ⟨false, AV, ls.length, cV, ?_⟩; (simp [*]; done))

theorem line_any (x : List UInt8) (w : World) (hX : x.length ≤ 1048576) (E : Env w) : Calls Tryz.prog 45 #[strV x] w (LineSaid w (lineP x)) := by
  unfold lineP
  cases hp : Lib.hasPrefix x [100, 32]
  · exact line_false x w hp hX E
  · exact line_true x w hp hX E

end Go.Proofs.YtcblijcalhaffaaGreatDoor
namespace Go.Proofs.YtcblijcalhaffaaGreatDoor
open Go Go.RowKit Go.Proofs.YtcblijcalhaffaaGreatDoorW.PrintWords Go.Proofs.YtcblijcalhaffaaGreatDoorW.PrintLast Go.Proofs.YtcblijcalhaffaaGreatDoorW.PrintMore PCheckSound

theorem dec_len : ∀ (k u : Nat), u < 10 ^ (k + 1) → (Lib.decDigits u).length ≤ k + 1
  | 0, u, h => by rw [Lib.decDigits, dif_pos (by simpa using h)]; simp
  | k + 1, u, h => by
    rw [Lib.decDigits]
    split
    · simp
    · have := dec_len k (u / 10) (by rw [Nat.pow_succ] at h; omega)
      simp; omega
theorem itoa_len {l : Int} (h : RightL l) : (Lib.itoa l).length ≤ 7 := by
  unfold RightL at h
  unfold Lib.itoa
  split
  · have := dec_len 5 l.natAbs (by omega)
    simp; omega
  · have := dec_len 5 l.toNat (by omega)
    omega
theorem litsT_len : ∀ (ls : List Int), (∀ l ∈ ls, RightL l) → (litsT ls).length ≤ 8 * ls.length
  | [], _ => by simp [litsT]
  | l :: ls, h => by
    have h1 := itoa_len (h l (by simp))
    have h2 := litsT_len ls (fun x hx => h x (by simp [hx]))
    unfold litsT at h2 ⊢
    rw [List.flatMap_cons, List.length_append]
    simp only [List.length_append, List.length_cons, List.length_nil]
    omega
theorem wordsP_len : ∀ (ws : List (List UInt8)) {ls : List Int}, wordsP ws = some ls → ls.length = ws.length
  | [], ls, h => by simp only [wordsP, Option.some.injEq] at h; subst h; rfl
  | w :: ws, ls, h => by
    simp only [wordsP] at h
    cases hw : wordP w with
    | none => rw [hw] at h; simp at h
    | some x =>
      rw [hw] at h
      cases hs : wordsP ws with
      | none => rw [hs] at h; simp at h
      | some xs =>
        rw [hs] at h
        simp only [Option.some.injEq] at h
        subst h
        simp [wordsP_len ws hs]
theorem lineP_len {x : List UInt8} {s : PStep} (h : lineP x = some s) : (lineT s ++ [10]).length ≤ 8 * x.length + 12 := by
  have hr := lineP_right h
  have hl := litsT_len s.lits hr
  have hn : s.lits.length ≤ x.length := by
    unfold lineP lineQ at h
    have hc := (cut_len 32 (if Lib.hasPrefix x [100, 32] then x.drop 2 else x)).1
    have hx : (if Lib.hasPrefix x [100, 32] then x.drop 2 else x).length ≤ x.length := by split <;> simp
    generalize cutC 32 (if Lib.hasPrefix x [100, 32] then x.drop 2 else x) = ws at h hc
    split at h
    · simp at h
    · rename_i ls hw
      have hwl := wordsP_len _ hw
      split at h
      · simp only [Option.some.injEq] at h
        subst h
        rw [List.length_dropLast] at hwl
        simp only
        omega
      · simp at h
  unfold lineT
  simp only [List.length_append, List.length_cons, List.length_nil]
  split <;> simp <;> omega
theorem linesP_text_len (n : Nat) : ∀ (xs : List (List UInt8)) {p : List PStep}, (∀ x ∈ xs, x.length ≤ n) → linesP xs = some p → (textT p).length ≤ xs.length * (8 * n + 12)
  | [], p, _, h => by simp only [linesP, Option.some.injEq] at h; subst h; simp [textT]
  | x :: xs, p, hn, h => by
    simp only [linesP] at h
    cases hx : lineP x with
    | none => rw [hx] at h; simp at h
    | some s =>
      rw [hx] at h
      cases hs : linesP xs with
      | none => rw [hs] at h; simp at h
      | some q =>
        rw [hs] at h
        simp only [Option.some.injEq] at h
        subst h
        have h1 := lineP_len hx
        have h2 := linesP_text_len n xs (fun y hy => hn y (by simp [hy])) hs
        have h3 := hn x (by simp)
        unfold textT at h2 ⊢
        rw [List.flatMap_cons, List.length_append, List.length_cons, Nat.succ_mul]
        omega
def joinL (ps : List PStep) (o : Option (List PStep)) : Option (List PStep) := o.map (ps ++ ·)
theorem joinL_cons (ps : List PStep) (v : List UInt8) (vs : List (List UInt8)) (s : PStep) (h : lineP v = some s) : joinL ps (linesP (v :: vs)) = joinL (ps ++ [s]) (linesP vs) := by
  rw [linesP, h]
  simp only
  cases linesP vs <;> simp [joinL]
theorem joinL_none (ps : List PStep) (v : List UInt8) (vs : List (List UInt8)) (h : lineP v = none) : joinL ps (linesP (v :: vs)) = none := by rw [linesP, h]; rfl

/-- What ParseText's call leaves. -/
def TextSaid (w : World) (g : Option (List PStep)) (e : Ending) (w' : World) : Prop := Below w.heap.size w w' ∧ match g with
  | some ps => ∃ V, e = .returned (.tuple #[V, .int .i64 0]) ∧ Kd.R k41 41 w' w.heap.size (fun _ => True) V (ps.map ofP)
  | none => e = .returned (.tuple #[.slice none 0 0, .int .i64 9])

set_option maxRecDepth 100000 in
set_option maxHeartbeats 1600000 in
theorem parseText_any (x : List UInt8) (w : World) (hX : x.length ≤ 1048576) (E : Env w) :
    Calls Tryz.prog 22 #[strV x] w (TextSaid w (parseT x)) := by
  have hu := Tryz.underlying41
  have hu2 := Tryz.underlying9
  have HE := Aside0.mk E
  have C1 := split_box x 10 (by omega) w E
  have hcl := cut_len 10 x
  obtain ⟨vs, z, hvz⟩ := snoc_of _ (cutC_ne 10 x)
  unfold parseT
  rw [hvz] at C1 hcl ⊢
  rw [List.dropLast_concat]
  have hvl : vs.length ≤ 1048576 := by have := hcl.1; simp at this; omega
  have HVW : Aside0 (∀ i, i < vs.length → (nth vs [] i).length ≤ 1048576) := ⟨fun i hi => by have := hcl.2 (nth vs [] i) (by simp [nth_mem hi]); omega⟩
  have HTL : Aside0 (∀ p, linesP vs = some p → (textT p).length ≤ 140737488355328) := ⟨fun p hp => by
    have h1 := linesP_text_len 1048576 vs (fun y hy => by have := hcl.2 y (by simp [hy]); omega) hp
    have h2 : vs.length * (8 * 1048576 + 12) ≤ 1048576 * (8 * 1048576 + 12) := Nat.mul_le_mul_right _ hvl
    omega⟩
  rw [show (vs ++ [z]).length = vs.length + 1 by simp] at C1
  have kct := fun g => cut_to (P := Tryz.prog) 87 9 .i64 Tryz.underlying87 (Option.map_eq_some_iff.1 str_inf).choose_spec.1 (some ⟨g, 0, none⟩) (vs.length + 1) (vs.length + 1) (vs.length : Int) (by omega) (by omega) (Nat.le_refl _)
  rw [Int.toNat_natCast] at kct
  have HB := Aside0.mk (Below.refl w.heap.size w)
  clear hcl hvz E hX
  have HW : Aside0 (joinL [] (linesP (vs.drop 0)) = linesP vs) := ⟨by rw [List.drop_zero]; unfold joinL; cases linesP vs <;> simp⟩
  have HRT : Aside0 (∀ p, linesP vs = some p → RightP p) := ⟨fun p hp => linesP_right vs hp⟩
  generalize linesP vs = WW at HW HTL HRT ⊢
  unfold strV at C1
  show Calls Tryz.prog 22 #[.string ⟨x.toArray⟩] w _
  go_enter Tryz.func22, Tryz.ntmps22
  go_wp2_with (go_at_call 44; refine C1.mono ?_)
  rintro e w9 ⟨gw, rfl, hgw, hb, hge⟩
  have HGW := Aside0.mk hgw
  have HB2 := Aside0.mk hb
  have k2 := kct gw
  clear kct C1 hgw hb hge HB
  go_wp2
  go_loopg [5, 18] vs.length (fun gk v5 v18 w' => ∃ (i : Nat) (ps : List PStep), v18 = .int .i64 (i : Int) ∧ i + gk = vs.length ∧ Aside0 (ps.length ≤ i) ∧ Aside0 (joinL ps (linesP (vs.drop i)) = WW) ∧ Aside0 (Kd.R k41 41 w' w.heap.size (fun _ => True) v5 (ps.map ofP)) ∧ Aside0 (w'.heap[gw]? = some (.cells (List.map (fun l => Value.string ⟨l.toArray⟩) (vs ++ [z])).toArray 9 (0, 0))) ∧ Aside0 (Below w.heap.size w w'))
  case atStart => exact ⟨0, [], rfl, by omega, ⟨by simp⟩, HW, ⟨Kd.R_nil _ _ _ _ _⟩, HGW, HB2⟩
  case round =>
    clear HB2 HGW HW
    obtain ⟨i, ps, rfl, hi, HLN, HJ, HO, HGW, HB⟩ := hrel
    have hml : (ps.map ofP).length ≤ 1048576 := by rw [List.length_map]; have := HLN.out; omega
    have HML := Aside0.mk hml
    clear hml
    by_cases hiv : i < vs.length
    · have hx : wr.cell? ⟨gw, i, none⟩ = some (.string ⟨(nth vs [] i).toArray⟩) := by
        rw [blk_cell HGW.out i]
        exact words_at vs z i hiv
      have q1 : ((i : Int) < (vs.length : Int)) = True := eq_true (by omega)
      have q2 : (0 ≤ (i : Int)) = True := eq_true (by omega)
      have C := line_any (nth vs [] i) wr (HVW.out i hiv) (HE.out.below HB.out)
      unfold strV at C
      have HDC := Aside0.mk (drop_cons hiv ([] : List UInt8))
      generalize nth vs [] i = v at *
      cases hlp : lineP v with
      | none =>
        have hW2 : WW = none := by
          rw [← HJ.out, HDC.out]
          exact joinL_none ps v _ hlp
        rw [hlp] at C
        subst hW2
        clear HJ HDC hlp k2
        go_wp2_with (go_at_call 45; refine C.mono ?_)
        rintro e w7 ⟨hb, d7, A7, n7, c7, rfl⟩
        have HB2 := Aside0.mk (below_step (by repeat (first | (with_reducible first | exact HB.out | apply below_alloc | apply pw_below_drewN | apply below_drew1) | exact HB.out)) hb); clear HB; have HB := HB2; clear HB2 hb
        clear C hx
        go_wp2_with (first | ((with_reducible refine gate_dst (N := 8) rfl ?_); refine box_event ?hg (N := 8) ?hd (cs := #[.bool false, .slice none 0 0]) (t := 41) ?hr ?_; (case hd => rfl); (case hg => rfl); (case hr => first | (go_simp; done) | (go_simp; rfl)); intro gb hg w5 hbox hb; have GE := Aside0.mk ((by rw [hg]; exact (below_size (by repeat (first | (with_reducible first | exact HB.out | apply below_alloc | apply pw_below_drewN | apply below_drew1) | exact HB.out)))) : w.heap.size ≤ gb); have GN := Aside0.mk hg; have HW5 := Aside0.mk hb; have n0_ := Aside0.mk (below_step (by repeat (first | (with_reducible first | exact HB.out | apply below_alloc | apply pw_below_drewN | apply below_drew1) | exact HB.out)) hb); have BK := Aside0.mk hbox; clear HB; have HB := n0_; clear n0_ hb hbox hg; have hcz0 : w5.cell? ⟨gb, 0, none⟩ = some (.bool false) := (blk_cell BK.out 0).trans rfl; have hcz1 : w5.cell? ⟨gb, 1, none⟩ = some (.slice none 0 0) := (blk_cell BK.out 1).trans rfl; have hfz0 := blk_frozen BK.out 0; have hfz1 := blk_frozen BK.out 1))
        go_ret2
        exact ⟨(by repeat (first | (with_reducible first | exact HB.out | apply below_alloc | apply pw_below_drewN | apply below_drew1 | refine below_set ?_ GE.out) | exact HB.out)), rfl⟩
      | some s =>
        have hW2 : joinL (ps ++ [s]) (linesP (vs.drop (i + 1))) = WW := by
          rw [← HJ.out, HDC.out]
          exact (joinL_cons ps v _ s hlp).symm
        have HJ2 := Aside0.mk hW2
        rw [hlp] at C
        clear HJ HDC hlp hW2 k2
        go_wp2_with (go_at_call 45; refine C.mono ?_)
        rintro e w7 ⟨hb, V1, rfl, h3⟩
        obtain ⟨A8, c8, rfl⟩ := Kd.R_slice h3
        have H3 : Aside0 (Kd.R (Kd.int .i64) 3 w7 w.heap.size (fun k => True ∧ some k ≠ u5.ownBlock) (.slice A8 s.lits.length c8) s.lits) := by
          obtain ⟨inner, ho⟩ := Kd.R_own HO.out
          exact ⟨Kd.R_lower (Kd.R_new h3 ho) HB.out.size⟩
        have HO2 := Aside0.mk (Kd.R_below HO.out hb)
        have HG2 := Aside0.mk (blk_below HGW.out hb)
        have HB2 := Aside0.mk (below_step HB.out hb)
        clear HO HB HGW h3 hb C hx
        have HO := HO2
        have HB := HB2
        have HGW := HG2
        clear HO2 HB2 HG2
        go_wp2_with (first
          | ((with_reducible refine gate_dst (N := 8) rfl ?_); refine box_event ?hg (N := 8) ?hd (cs := #[.bool false, .slice none 0 0]) (t := 41) ?hr ?_; (case hd => rfl); (case hg => rfl); (case hr => first | (go_simp; done) | (go_simp; rfl)); intro gb hg w5 hbox hb; have GE := Aside0.mk ((by rw [hg]; exact (below_size (by repeat (first | (with_reducible first | exact HB.out | apply below_alloc | apply pw_below_drewN | apply below_drew1) | exact HB.out)))) : w.heap.size ≤ gb); have GN := Aside0.mk hg; have HW5 := Aside0.mk hb; have n0_ := Aside0.mk (below_step (by repeat (first | (with_reducible first | exact HB.out | apply below_alloc | apply pw_below_drewN | apply below_drew1) | exact HB.out)) hb); have BK := Aside0.mk hbox; clear HB; have HB := n0_; clear n0_ hb hbox hg; have hcz0 : w5.cell? ⟨gb, 0, none⟩ = some (.bool false) := (blk_cell BK.out 0).trans rfl; have hcz1 : w5.cell? ⟨gb, 1, none⟩ = some (.slice none 0 0) := (blk_cell BK.out 1).trans rfl; have hfz0 := blk_frozen BK.out 0; have hfz1 := blk_frozen BK.out 1)
          | ((with_reducible refine gate_builtin (b := .append) (xs := #[.tmp 29, .tmp 31]) rfl ?_); at_builtin; refine Kd.R_append k41 (w0 := w) w.heap.size rfl (.tmp 29) (.tmp 31) 39 41 (.agg #[(.bool false), (.slice none 0 0)]) 32 rfl Tryz.underlying39 info41 rfl (by decide) (by decide) _ (ps.map ofP) (ofP s) [.bool s.del, .slice A8 s.lits.length c8] (fun _ => True) (fun k => True ∧ some k ≠ u5.ownBlock) rfl ?aX ?aP (fun _ hk => hk) (fun _ _ => trivial) ?aO ?aB ?aS ?aL ?_; (case aX => first | rfl | (simp [Act.eval]; done)); (case aL => have := HML.out; omega); (case aO => exact Kd.R_below HO.out (by repeat (first | exact HW5.out | refine below_set ?_ (by rw [GN.out]; exact Nat.le_refl _)))); (case aP => exact k41_mkM _ _ _ (ofP s) (Kd.R_below H3.out (by repeat (first | exact HW5.out | refine below_set ?_ (by rw [GN.out]; exact Nat.le_refl _))))); (case aB => exact (by repeat (first | (with_reducible first | exact HB.out | apply below_alloc | apply pw_below_drewN | apply below_drew1 | refine below_set ?_ GE.out) | exact HB.out))); (case aS => exact (below_size (by repeat (first | (with_reducible first | exact HB.out | apply below_alloc | apply pw_below_drewN | apply below_drew1 | refine below_set ?_ GE.out) | exact HB.out))))))
        intro v1 w1 ho hb hg hat
        have hG3 := blk_grown (blk_below HGW.out (by repeat (first | exact HW5.out | refine below_set ?_ (by rw [GN.out]; exact Nat.le_refl _)))) hg (Kd.R_ne (Kd.R_below HO.out (by repeat (first | exact HW5.out | refine below_set ?_ (by rw [GN.out]; exact Nat.le_refl _)))) (blk_below HGW.out (by repeat (first | exact HW5.out | refine below_set ?_ (by rw [GN.out]; exact Nat.le_refl _)))) (by decide))
        have HG2 := Aside0.mk hG3
        have e1 : ps.map ofP ++ [ofP s] = (ps ++ [s]).map ofP := by simp
        rw [e1] at ho
        have HO2 := Aside0.mk ho
        have HB2 := Aside0.mk hb
        clear HO HB HGW BK GE GN HW5 hcz0 hcz1 hfz0 hfz1 hb hg hat ho e1 hG3
        go_wp2
        go_roundg (vs.length - (i + 1))
        case measure => omega
        case rel => exact ⟨i + 1, ps ++ [s], by go_num, by omega, ⟨by have := HLN.out; simp; omega⟩, HJ2, HO2, HG2, HB2⟩
    · have q1 : ((i : Int) < (vs.length : Int)) = False := eq_false (by omega)
      have hW2 : WW = some ps := by rw [← HJ.out, List.drop_of_length_le (by omega)]; simp [linesP, joinL]
      subst hW2
      have HRP := HRT.out ps rfl
      have HTX := HTL.out ps rfl
      obtain ⟨A9, c9, rfl, hl9, hr9⟩ := Kd.R_reads HO.out
      have hS : RightS (ps.map ofP) := by
        intro s hs l hl
        obtain ⟨p, hp, rfl⟩ := List.mem_map.1 hs
        exact HRP p hp l hl
      have ht : txt (ps.map ofP) = textT ps := by unfold txt; rw [map_toP_ofP]
      have C := dr_text A9 c9 (ps.map ofP) wr hr9 hl9 hS (by rw [ht]; exact HTX) (HE.out.below HB.out)
      rw [ht, List.length_map] at C
      clear HJ hr9 hS HRP HTX ht hl9 HRT HTL
      have HO1 := HO.out
      rw [List.length_map] at HO1
      have HO3 := Aside0.mk HO1
      clear HO HO1
      by_cases hteq : textT ps = x
      · rw [hteq] at C
        go_wp2_with (go_at_call 28; with_reducible refine C.mono ?_)
        rintro e w7 ⟨rfl, hb⟩
        have HO2 := Aside0.mk (Kd.R_below HO3.out hb)
        have HB2 := Aside0.mk (below_step (by repeat (first | (with_reducible first | exact HB.out | apply below_alloc | apply pw_below_drewN | apply below_drew1) | exact HB.out)) hb); clear HB; have HB := HB2; clear HB2 hb
        clear C
        go_wp2
        go_ret2
        exact ⟨HB.out, _, rfl, HO2.out⟩
      · have q5 : (textT ps == x) = false := by simpa using hteq
        obtain ⟨T, hT⟩ : ∃ T, textT ps = T := ⟨_, rfl⟩
        rw [hT] at C q5
        clear hT
        go_wp2_with (go_at_call 28; with_reducible refine C.mono ?_)
        rintro e w7 ⟨rfl, hb⟩
        have HB2 := Aside0.mk (below_step (by repeat (first | (with_reducible first | exact HB.out | apply below_alloc | apply pw_below_drewN | apply below_drew1) | exact HB.out)) hb); clear HB; have HB := HB2; clear HB2 hb
        clear C
        go_wp2
        go_ret2
        exact ⟨HB.out, rfl⟩

end Go.Proofs.YtcblijcalhaffaaGreatDoor
namespace Go.Proofs.YtcblijcalhaffaaGreatDoor
open Go Go.RowKit Go.Proofs.YtcblijcalhaffaaGreatDoorW.PrintWords Go.Proofs.YtcblijcalhaffaaGreatDoorW.PrintLast Go.Proofs.YtcblijcalhaffaaGreatDoorW.PrintMore PCheckSound

/-! The contracts over proofs as plain data. -/
/-- A proof that is read. -/
def PC (w : World) (A : Option Addr) (ps : List PStep) : Prop := Kd.C k41 w A ps.length (ps.map ofP)
theorem PC.below {w w' : World} {A : Option Addr} {ps : List PStep} (h : PC w A ps) (B : Below w.heap.size w w') : PC w' A ps := Kd.C_below h B
theorem PC.c {w : World} {A : Option Addr} {ps : List PStep} (h : PC w A ps) : Kd.C k41 w A (ps.map ofP).length (ps.map ofP) := by rw [List.length_map]; exact h
theorem PC.of {w : World} {A : Option Addr} {l : List S41} (h : Kd.C k41 w A l.length l) : PC w A (l.map toP) := by
  unfold PC
  rw [List.length_map, List.map_map]
  have : (ofP ∘ toP) = id := rfl
  rw [this, List.map_id]; exact h
/-- Numbers of steps and literals within bounds. -/
def Few (ps : List PStep) : Prop := ps.length ≤ 4611686018427387904 ∧ ∀ s ∈ ps, s.lits.length ≤ 4611686018427387904
/-- What a parser's call leaves: a proof that is read, or an error. -/
def Parsed (w : World) (g : Got (List PStep)) (e : Ending) (w' : World) : Prop := Below w.heap.size w w' ∧ match g with
  | .ok ps _ => ∃ A c, e = .returned (.tuple #[.slice A ps.length c, .int .i64 0]) ∧ ps.length ≤ c ∧ PC w' A ps
  | .form => e = .returned (.tuple #[.slice none 0 0, .int .i64 9])
  | .short => e = .returned (.tuple #[.slice none 0 0, .int .i64 10])
def optG : Option (List PStep) → Got (List PStep)
  | some ps => .ok ps []
  | none => .form
theorem p_parseText (x : List UInt8) (w : World) (hX : x.length ≤ 1048576) (E : Env w) :
    Calls Tryz.prog 22 #[strV x] w (Parsed w (optG (parseT x))) := by
  refine (parseText_any x w hX E).mono ?_
  cases parseT x with
  | none => exact fun e w' h => h
  | some ps =>
    rintro e w' ⟨hb, V, rfl, hv⟩
    obtain ⟨A3, c3, rfl, hc3, hr3⟩ := Kd.R_reads hv
    rw [List.length_map] at hc3 hr3
    exact ⟨hb, A3, c3, by rw [List.length_map], hc3, hr3⟩
end Go.Proofs.YtcblijcalhaffaaGreatDoor
