import Derived.Test.YtefppfgcgcfleaaDoorDrParseB
import Derived.Test.YtefppfgcgcfleaaDoorDrSplit
namespace Go.Proofs.YtefppfgcgcfleaaDoor
open Go Go.RowKit Go.Proofs.YtefppfgcgcfleaaDoorW.PrintWords Go.Proofs.YtefppfgcgcfleaaDoorW.PrintLast Go.Proofs.YtefppfgcgcfleaaDoorW.PrintMore PDratJoins

theorem split_box (s : List UInt8) (c : UInt8) (hs : s.length < 4294967281) (w : World) (E : Env w) :
    Calls Tryd.prog 24 #[strV s, .string ⟨#[c]⟩] w fun e w' => ∃ g, e = .returned (.slice (some ⟨g, 0, none⟩) (cutC c s).length (cutC c s).length) ∧ w'.heap[g]? = some (.cells ((cutC c s).map strV).toArray 9 (0, 0)) ∧ Below w.heap.size w w' ∧ w.heap.size ≤ g :=
  (split_any s c hs w E).mono fun e w' ⟨he, hw⟩ => ⟨_, he, by rw [hw]; exact blk_new _ _, by rw [hw]; exact (Below.refl _ w).alloc (Nat.le_refl _) _, Nat.le_refl _⟩
theorem cut_len (c : UInt8) (s : List UInt8) : (cutC c s).length ≤ s.length + 1 ∧ ∀ x ∈ cutC c s, x.length ≤ s.length := by
  induction s with
  | nil => simp [cutC]
  | cons b r ih =>
    obtain ⟨h1, h2⟩ := ih
    rw [cutC]
    split
    · refine ⟨by simp; omega, fun x hx => ?_⟩
      simp only [List.mem_cons] at hx
      rcases hx with rfl | hx
      · simp
      · have := h2 x hx; simp; omega
    · cases hcc : cutC c r with
      | nil => exact absurd hcc (cutC_ne c r)
      | cons y ys =>
        rw [hcc] at h1 h2
        refine ⟨by simp at h1 ⊢; omega, fun x hx => ?_⟩
        simp only [List.mem_cons] at hx
        rcases hx with rfl | hx
        · have := h2 y (by simp); simp; omega
        · have := h2 x (by simp [hx]); simp; omega
theorem snoc_of {α : Type} (l : List α) (h : l ≠ []) : ∃ vs z, l = vs ++ [z] := ⟨l.dropLast, l.getLast h, (List.dropLast_concat_getLast h).symm⟩

def lineR (d : Bool) (vs : List (List UInt8)) (z : List UInt8) : Option PStep := match wordsP vs with
  | none => none
  | some ls => if z = [48] then some ⟨d, ls⟩ else none
theorem lineQ_R (d : Bool) (vs : List (List UInt8)) (z : List UInt8) : lineQ d (vs ++ [z]) = lineR d vs z := by
  unfold lineQ lineR
  rw [List.dropLast_concat]
  cases wordsP vs <;> simp
def joinW (ls : List Int) (o : Option (List Int)) : Option (List Int) := o.map (ls ++ ·)
theorem joinW_cons (ls : List Int) (v : List UInt8) (vs : List (List UInt8)) (l : Int) (h : wordP v = some l) : joinW ls (wordsP (v :: vs)) = joinW (ls ++ [l]) (wordsP vs) := by
  rw [wordsP, h]
  simp only
  cases wordsP vs <;> simp [joinW]
theorem joinW_none (ls : List Int) (v : List UInt8) (vs : List (List UInt8)) (h : wordP v = none) : joinW ls (wordsP (v :: vs)) = none := by rw [wordsP, h]; rfl

theorem words_at (vs : List (List UInt8)) (z : List UInt8) (i : Nat) (h : i < vs.length) : ((List.map (fun l => Value.string ⟨l.toArray⟩) (vs ++ [z])).toArray)[i]? = some (.string ⟨(nth vs [] i).toArray⟩) := by
  unfold nth
  rw [List.getElem?_toArray, List.getElem?_map, List.getElem?_append_left h, List.getD_eq_getElem?_getD, List.getElem?_eq_getElem h]
  rfl

/-- What line's call leaves. -/
def LineSaid (w : World) (g : Option PStep) (e : Ending) (w' : World) : Prop := Below w.heap.size w w' ∧ match g with
  | some s => ∃ V, e = .returned (.tuple #[.agg #[.bool s.del, V], .bool true]) ∧ Kd.R (Kd.int .i64) 3 w' w.heap.size (fun _ => True) V s.lits
  | none => ∃ d A n c, e = .returned (.tuple #[.agg #[.bool d, .slice A n c], .bool false])

theorem str_inf : (Tryd.prog.info? 9).map (fun i => i.size) = some 1 := by kernel_rfl
set_option maxRecDepth 100000 in
set_option maxHeartbeats 1600000 in
theorem line_true (x : List UInt8) (w : World) (hp : Lib.hasPrefix x [100, 32] = true) (hX : x.length ≤ 1048576) (E : Env w) :
    Calls Tryd.prog 25 #[strV x] w (LineSaid w (lineQ true (cutC 32 (x.drop 2)))) := by
  have hu := Tryd.underlying36
  have hu2 := Tryd.underlying9
  have HE := Aside0.mk E
  have hRL : (x.drop 2).length ≤ 1048576 := by simp; omega
  have C0 := fun w => cutPrefix_any x [100, 32] w
  rw [hp] at C0
  have C1 := fun w E => split_box (x.drop 2) 32 (by omega) w E
  have hcl := cut_len 32 (x.drop 2)
  obtain ⟨vs, z, hvz⟩ := snoc_of _ (cutC_ne 32 (x.drop 2))
  rw [hvz] at C1 hcl ⊢
  rw [lineQ_R]
  have hvl : vs.length ≤ 1048576 := by have := hcl.1; simp at this; omega
  have HVW : Aside0 (∀ i, i < vs.length → (nth vs [] i).length ≤ 1099511627776) := ⟨fun i hi => by have := hcl.2 (nth vs [] i) (by simp [nth_mem hi]); omega⟩
  rw [show (vs ++ [z]).length = vs.length + 1 by simp] at C1
  have kct := fun g => cut_to (P := Tryd.prog) 32 9 .i64 Tryd.underlying32 (Option.map_eq_some_iff.1 str_inf).choose_spec.1 (some ⟨g, 0, none⟩) (vs.length + 1) (vs.length + 1) (vs.length : Int) (by omega) (by omega) (Nat.le_refl _)
  rw [Int.toNat_natCast] at kct
  have HB := Aside0.mk (Below.refl w.heap.size w)
  clear hcl hvz hp E hX hRL
  have HW : Aside0 (joinW [] (wordsP (vs.drop 0)) = wordsP vs) := ⟨by rw [List.drop_zero]; unfold joinW; cases wordsP vs <;> simp⟩
  unfold lineR
  generalize hWD : wordsP vs = WW at HW ⊢
  clear hWD
  have D0 := C0
  clear C0
  unfold strV at D0 C1
  simp only [if_true, List.length_cons, List.length_nil, Nat.zero_add, Nat.reduceAdd] at D0
  show Calls Tryd.prog 25 #[.string ⟨x.toArray⟩] w _
  go_enter Tryd.func25, Tryd.ntmps25
  go_wp2_with (first
    | ((with_reducible refine gate_dst (N := 2) rfl ?_); refine box_event ?hg (N := 2) ?hd (cs := #[.bool false, .slice none 0 0]) (t := 36) ?hr ?_; (case hd => rfl); (case hg => rfl); (case hr => first | (go_simp; done) | (go_simp; rfl)); intro ga hg w5 hbox hb; have GEA := Aside0.mk ((by rw [hg]; exact (below_size (by repeat (first | (with_reducible first | exact HB.out | apply below_alloc | apply pw_below_drewN | apply below_drew1) | exact HB.out)))) : w.heap.size ≤ ga); have n0_ := Aside0.mk (below_step (by repeat (first | (with_reducible first | exact HB.out | apply below_alloc | apply pw_below_drewN | apply below_drew1) | exact HB.out)) hb); have BKA := Aside0.mk hbox; clear HB; have HB := n0_; clear n0_ hb hbox hg)
    | (go_at_call 38; refine (D0 _).mono ?_; rintro e w1 ⟨rfl, rfl⟩)
    | ((with_reducible refine gate_dst (N := 6) rfl ?_); refine box_event ?hg (N := 6) ?hd (cs := #[.bool false, .slice none 0 0]) (t := 36) ?hr ?_; (case hd => rfl); (case hg => rfl); (case hr => first | (go_simp; done) | (go_simp; rfl)); intro gb hg w6 hbox hb; have GEB := Aside0.mk ((by rw [hg]; exact (below_size (by repeat (first | (with_reducible first | exact HB.out | apply below_alloc | apply pw_below_drewN | apply below_drew1) | exact HB.out)))) : w.heap.size ≤ gb); have n0_ := Aside0.mk (below_step (by repeat (first | (with_reducible first | exact HB.out | apply below_alloc | apply pw_below_drewN | apply below_drew1) | exact HB.out)) hb); have BKB := Aside0.mk hbox; have n1_ := Aside0.mk (blk_below BKA.out hb); have hne : ga ≠ gb := (by have := blk_lt BKA.out; rw [hg]; simp; omega); clear HB BKA; have HB := n0_; have BKA := n1_; clear n0_ n1_ hb hbox hg; have ne1 : (ga = gb) = False := eq_false hne; have ne2 : (gb = ga) = False := eq_false (Ne.symm hne); clear hne; have ca0 : w6.cell? ⟨ga, 0, none⟩ = some (.bool false) := (blk_cell BKA.out 0).trans rfl; have ca1 : w6.cell? ⟨ga, 1, none⟩ = some (.slice none 0 0) := (blk_cell BKA.out 1).trans rfl; have fa0 := blk_frozen BKA.out 0; have fa1 := blk_frozen BKA.out 1; have cb0 : w6.cell? ⟨gb, 0, none⟩ = some (.bool false) := (blk_cell BKB.out 0).trans rfl; have cb1 : w6.cell? ⟨gb, 1, none⟩ = some (.slice none 0 0) := (blk_cell BKB.out 1).trans rfl; have fb0 := blk_frozen BKB.out 0; have fb1 := blk_frozen BKB.out 1)
    | (go_at_call 24; refine (C1 _ (HE.out.below (by repeat (first | (with_reducible first | exact HB.out | apply below_alloc | apply pw_below_drewN | apply below_drew1 | refine below_set ?_ GEB.out | refine below_set ?_ GEA.out) | exact HB.out)))).mono ?_))
  rintro e w9 ⟨gw, rfl, hgw, hb, hge⟩
  have BKA2 := Aside0.mk (blk_below (blk_far (p := ⟨gb, 1, none⟩) (blk_far (p := ⟨gb, 0, none⟩) BKA.out (by simpa using ne1) (.bool true)) (by simpa using ne1) (.slice none 0 0)) hb)
  have BKB2 := Aside0.mk (blk_below (blk_put (cs := #[.bool true, .slice none 0 0]) (blk_put (cs := #[.bool false, .slice none 0 0]) BKB.out 0 (.bool true) rfl) 1 (.slice none 0 0) rfl) hb)
  have HB2 := Aside0.mk (below_step (by repeat (first | (with_reducible first | exact HB.out | apply below_alloc | apply pw_below_drewN | apply below_drew1 | refine below_set ?_ GEB.out | refine below_set ?_ GEA.out) | exact HB.out)) hb)
  have HGW := Aside0.mk hgw
  clear hb hge hgw HB BKA BKB C1 D0 ca0 ca1 fa0 fa1 cb0 cb1 fb0 fb1
  have k2 := kct gw
  clear kct
  go_wp2
  go_loopg [27] vs.length (fun gk v27 w' => ∃ (i : Nat) (ls : List Int) (V : Value), v27 = .int .i64 (i : Int) ∧ i + gk = vs.length ∧ Aside0 (ls.length ≤ i) ∧ Aside0 (joinW ls (wordsP (vs.drop i)) = WW) ∧ Aside0 (Kd.R (Kd.int .i64) 3 w' w.heap.size (fun _ => True) V ls) ∧ Aside0 (w'.heap[ga]? = some (.cells #[.bool false, .slice none 0 0] 36 (0, 0))) ∧ Aside0 (w'.heap[gb]? = some (.cells #[.bool true, V] 36 (0, 0))) ∧ Aside0 (w'.heap[gw]? = some (.cells (List.map (fun l => Value.string ⟨l.toArray⟩) (vs ++ [z])).toArray 9 (0, 0))) ∧ Aside0 (Below w.heap.size w w'))
  case atStart => exact ⟨0, [], .slice none 0 0, rfl, by omega, ⟨by simp⟩, HW, ⟨Kd.R_nil _ _ _ _ _⟩, BKA2, BKB2, HGW, HB2⟩
  case round =>
    clear HB2 BKA2 BKB2 HGW HW
    obtain ⟨i, ls, V, rfl, hi, HLN, HJ, HO, BKA, BKB, HGW, HB⟩ := hrel
    obtain ⟨AV, cV, rfl⟩ := Kd.R_slice HO.out
    have ca0 : wr.cell? ⟨ga, 0, none⟩ = some (.bool false) := (blk_cell BKA.out 0).trans rfl
    have ca1 : wr.cell? ⟨ga, 1, none⟩ = some (.slice none 0 0) := (blk_cell BKA.out 1).trans rfl
    have fa0 := blk_frozen BKA.out 0
    have fa1 := blk_frozen BKA.out 1
    have cb0 : wr.cell? ⟨gb, 0, none⟩ = some (.bool true) := (blk_cell BKB.out 0).trans rfl
    have cb1 : wr.cell? ⟨gb, 1, none⟩ = some ((.slice AV ls.length cV)) := (blk_cell BKB.out 1).trans rfl
    have fb0 := blk_frozen BKB.out 0
    have fb1 := blk_frozen BKB.out 1
    have hml : ls.length ≤ 1048576 := by have := HLN.out; omega
    by_cases hiv : i < vs.length
    · have hx : wr.cell? ⟨gw, i, none⟩ = some (.string ⟨(nth vs [] i).toArray⟩) := by
        rw [blk_cell HGW.out i]
        exact words_at vs z i hiv
      have q1 : ((i : Int) < (vs.length : Int)) = True := eq_true (by omega)
      have q2 : (0 ≤ (i : Int)) = True := eq_true (by omega)
      have C := atoi_any (nth vs [] i) (HVW.out i hiv) wr (HE.out.below HB.out)
      unfold strV at C
      have hdc := drop_cons hiv ([] : List UInt8)
      have HDC := Aside0.mk hdc
      clear hdc
      generalize nth vs [] i = v at *
      go_wp2_with (go_at_call 39; refine C.mono ?_)
      clear C hx
      rintro e w7 ⟨hb, ⟨l, hl, rfl⟩ | ⟨hne, k, t, ai, rfl⟩⟩
      · cases hrl : rightL l
        · have hW2 : WW = none := by
            rw [← HJ.out, HDC.out]
            refine joinW_none ls v _ ?_
            unfold wordP
            rw [hl]
            simp only
            rw [if_neg (fun h : l ≠ 0 ∧ l ≤ 100000 ∧ -100000 ≤ l => by rw [rightL_iff.2 h] at hrl; cases hrl)]
          subst hW2
          have Cr := fun w => lit_right_any l w
          rw [hrl] at Cr
          clear HJ hl hrl HDC k2
          have BKA2 := Aside0.mk (blk_below BKA.out hb)
          have BKB2 := Aside0.mk (blk_below BKB.out hb)
          have HG2 := Aside0.mk (blk_below HGW.out hb)
          have HO2 := Aside0.mk (Kd.R_below HO.out hb)
          have HB2 := Aside0.mk (below_step HB.out hb)
          clear HB HO BKA BKB HGW hb ca0 ca1 fa0 fa1 cb0 cb1 fb0 fb1
          have HB := HB2
          have HO := HO2
          have BKA := BKA2
          have BKB := BKB2
          have HGW := HG2
          clear HB2 HO2 BKA2 BKB2 HG2
          have ca0 : w7.cell? ⟨ga, 0, none⟩ = some (.bool false) := (blk_cell BKA.out 0).trans rfl
          have ca1 : w7.cell? ⟨ga, 1, none⟩ = some (.slice none 0 0) := (blk_cell BKA.out 1).trans rfl
          have fa0 := blk_frozen BKA.out 0
          have fa1 := blk_frozen BKA.out 1
          have cb0 : w7.cell? ⟨gb, 0, none⟩ = some (.bool true) := (blk_cell BKB.out 0).trans rfl
          have cb1 : w7.cell? ⟨gb, 1, none⟩ = some ((.slice AV ls.length cV)) := (blk_cell BKB.out 1).trans rfl
          have fb0 := blk_frozen BKB.out 0
          have fb1 := blk_frozen BKB.out 1
          go_wp2_with (go_at_call 30; refine (Cr _).mono ?_)
          rintro e w8 ⟨rfl, hb⟩
          have BKA2 := Aside0.mk (blk_below BKA.out hb)
          have BKB2 := Aside0.mk (blk_below BKB.out hb)
          have HG2 := Aside0.mk (blk_below HGW.out hb)
          have HO2 := Aside0.mk (Kd.R_below HO.out hb)
          have HB2 := Aside0.mk (below_step HB.out hb)
          clear HB HO BKA BKB HGW hb ca0 ca1 fa0 fa1 cb0 cb1 fb0 fb1
          have HB := HB2
          have HO := HO2
          have BKA := BKA2
          have BKB := BKB2
          have HGW := HG2
          clear HB2 HO2 BKA2 BKB2 HG2
          have ca0 : w8.cell? ⟨ga, 0, none⟩ = some (.bool false) := (blk_cell BKA.out 0).trans rfl
          have ca1 : w8.cell? ⟨ga, 1, none⟩ = some (.slice none 0 0) := (blk_cell BKA.out 1).trans rfl
          have fa0 := blk_frozen BKA.out 0
          have fa1 := blk_frozen BKA.out 1
          have cb0 : w8.cell? ⟨gb, 0, none⟩ = some (.bool true) := (blk_cell BKB.out 0).trans rfl
          have cb1 : w8.cell? ⟨gb, 1, none⟩ = some ((.slice AV ls.length cV)) := (blk_cell BKB.out 1).trans rfl
          have fb0 := blk_frozen BKB.out 0
          have fb1 := blk_frozen BKB.out 1
          clear Cr
          go_wp2
          exact bodyPost_ret (v := .tuple #[.agg #[.bool true, .slice AV ls.length cV], .bool false]) (by simp [results, Tryd.results25, go_sem, *]) rfl ⟨(by repeat (first | (with_reducible first | exact HB.out | apply below_alloc | apply pw_below_drewN | apply below_drew1 | refine below_set ?_ GEB.out | refine below_set ?_ GEA.out) | exact HB.out)), _, _, _, _, rfl⟩
        · have hW2 : joinW (ls ++ [l]) (wordsP (vs.drop (i + 1))) = WW := by
            rw [← HJ.out, HDC.out]
            refine (joinW_cons ls v _ l ?_).symm
            unfold wordP
            rw [hl]
            simp only
            rw [if_pos (show l ≠ 0 ∧ l ≤ 100000 ∧ -100000 ≤ l from rightL_iff.1 hrl)]
          have HJ2 := Aside0.mk hW2
          have Cr := fun w => lit_right_any l w
          rw [hrl] at Cr
          clear HJ hl hrl HDC hW2 k2
          have BKA2 := Aside0.mk (blk_below BKA.out hb)
          have BKB2 := Aside0.mk (blk_below BKB.out hb)
          have HG2 := Aside0.mk (blk_below HGW.out hb)
          have HO2 := Aside0.mk (Kd.R_below HO.out hb)
          have HB2 := Aside0.mk (below_step HB.out hb)
          clear HB HO BKA BKB HGW hb ca0 ca1 fa0 fa1 cb0 cb1 fb0 fb1
          have HB := HB2
          have HO := HO2
          have BKA := BKA2
          have BKB := BKB2
          have HGW := HG2
          clear HB2 HO2 BKA2 BKB2 HG2
          have ca0 : w7.cell? ⟨ga, 0, none⟩ = some (.bool false) := (blk_cell BKA.out 0).trans rfl
          have ca1 : w7.cell? ⟨ga, 1, none⟩ = some (.slice none 0 0) := (blk_cell BKA.out 1).trans rfl
          have fa0 := blk_frozen BKA.out 0
          have fa1 := blk_frozen BKA.out 1
          have cb0 : w7.cell? ⟨gb, 0, none⟩ = some (.bool true) := (blk_cell BKB.out 0).trans rfl
          have cb1 : w7.cell? ⟨gb, 1, none⟩ = some ((.slice AV ls.length cV)) := (blk_cell BKB.out 1).trans rfl
          have fb0 := blk_frozen BKB.out 0
          have fb1 := blk_frozen BKB.out 1
          go_wp2_with (go_at_call 30; refine (Cr _).mono ?_)
          rintro e w8 ⟨rfl, hb⟩
          have BKA2 := Aside0.mk (blk_below BKA.out hb)
          have BKB2 := Aside0.mk (blk_below BKB.out hb)
          have HG2 := Aside0.mk (blk_below HGW.out hb)
          have HO2 := Aside0.mk (Kd.R_below HO.out hb)
          have HB2 := Aside0.mk (below_step HB.out hb)
          clear HB HO BKA BKB HGW hb ca0 ca1 fa0 fa1 cb0 cb1 fb0 fb1
          have HB := HB2
          have HO := HO2
          have BKA := BKA2
          have BKB := BKB2
          have HGW := HG2
          clear HB2 HO2 BKA2 BKB2 HG2
          have ca0 : w8.cell? ⟨ga, 0, none⟩ = some (.bool false) := (blk_cell BKA.out 0).trans rfl
          have ca1 : w8.cell? ⟨ga, 1, none⟩ = some (.slice none 0 0) := (blk_cell BKA.out 1).trans rfl
          have fa0 := blk_frozen BKA.out 0
          have fa1 := blk_frozen BKA.out 1
          have cb0 : w8.cell? ⟨gb, 0, none⟩ = some (.bool true) := (blk_cell BKB.out 0).trans rfl
          have cb1 : w8.cell? ⟨gb, 1, none⟩ = some ((.slice AV ls.length cV)) := (blk_cell BKB.out 1).trans rfl
          have fb0 := blk_frozen BKB.out 0
          have fb1 := blk_frozen BKB.out 1
          clear Cr
          go_wp2_with ((with_reducible refine gate_builtin (b := .append) (xs := #[.tmp 45, .tmp 47]) rfl ?_); at_builtin; refine Kd.R_append (Kd.int .i64) (w0 := w) w.heap.size rfl (.tmp 45) (.tmp 47) 34 3 (.int .i64 0) 8 rfl Tryd.underlying34 info3 rfl (by decide) (by decide) _ ls l [.int .i64 l] (fun _ => True) (fun _ => False) rfl ?aX rfl (fun _ hk => hk.elim) (fun _ _ => trivial) ?aO ?aB ?aS ?aL ?_; (case aX => first | rfl | (simp [Act.eval]; done)); (case aO => exact HO.out); (case aB => exact HB.out); (case aS => exact below_size HB.out); (case aL => omega))
          intro v1 w10 ho hb hg hat
          obtain ⟨A8, c8, rfl⟩ := Kd.R_slice ho
          rw [show (ls ++ [l]).length = ls.length + 1 by simp] at ho
          have BKA2 := Aside0.mk (blk_grown BKA.out hg (Kd.R_ne HO.out BKA.out (by decide)))
          have BKB2 := Aside0.mk (blk_grown BKB.out hg (Kd.R_ne HO.out BKB.out (by decide)))
          have HG2 := Aside0.mk (blk_grown HGW.out hg (Kd.R_ne HO.out HGW.out (by decide)))
          have HO2 := Aside0.mk ho
          have HB2 := Aside0.mk hb
          clear HB HO BKA BKB HGW hb hg ho hat ca0 ca1 fa0 fa1 cb0 cb1 fb0 fb1
          have HB := HB2
          have HO := HO2
          have BKA := BKA2
          have BKB := BKB2
          have HGW := HG2
          clear HB2 HO2 BKA2 BKB2 HG2
          have ca0 : w10.cell? ⟨ga, 0, none⟩ = some (.bool false) := (blk_cell BKA.out 0).trans rfl
          have ca1 : w10.cell? ⟨ga, 1, none⟩ = some (.slice none 0 0) := (blk_cell BKA.out 1).trans rfl
          have fa0 := blk_frozen BKA.out 0
          have fa1 := blk_frozen BKA.out 1
          have cb0 : w10.cell? ⟨gb, 0, none⟩ = some (.bool true) := (blk_cell BKB.out 0).trans rfl
          have cb1 : w10.cell? ⟨gb, 1, none⟩ = some ((.slice AV ls.length cV)) := (blk_cell BKB.out 1).trans rfl
          have fb0 := blk_frozen BKB.out 0
          have fb1 := blk_frozen BKB.out 1
          go_wp2
          go_roundg (vs.length - (i + 1))
          case measure => omega
          case rel =>
            refine ⟨i + 1, ls ++ [l], .slice A8 (ls.length + 1) c8, by go_num, by omega, ⟨by have := HLN.out; simp; omega⟩, HJ2, ⟨?_⟩, ⟨?_⟩, ⟨?_⟩, ⟨?_⟩, ⟨(by repeat (first | (with_reducible first | exact HB.out | apply below_alloc | apply pw_below_drewN | apply below_drew1 | refine below_set ?_ GEB.out | refine below_set ?_ GEA.out) | exact HB.out))⟩⟩
            · exact Kd.R_mono (Kd.R_far (p := ⟨gb, 1, none⟩) (Kd.R_types HO.out BKB.out (by decide)) (fun _ hk => hk.2) _) (fun _ _ => trivial)
            · exact blk_far (p := ⟨gb, 1, none⟩) BKA.out (by simpa using ne1) _
            · exact blk_put (cs := #[.bool true, .slice AV ls.length cV]) BKB.out 1 _ rfl
            · exact blk_far (p := ⟨gb, 1, none⟩) HGW.out (blk_ne HGW.out BKB.out (by decide)) _
      · have hW2 : WW = none := by
          rw [← HJ.out, HDC.out]
          refine joinW_none ls v _ ?_
          unfold wordP
          cases hl : Lib.atoiAll v with
          | ok l => exact absurd hl (hne l)
          | «syntax» => rfl
          | range => rfl
        subst hW2
        clear HJ hne HDC k2
        have BKA2 := Aside0.mk (blk_below BKA.out hb)
        have BKB2 := Aside0.mk (blk_below BKB.out hb)
        have HG2 := Aside0.mk (blk_below HGW.out hb)
        have HO2 := Aside0.mk (Kd.R_below HO.out hb)
        have HB2 := Aside0.mk (below_step HB.out hb)
        clear HB HO BKA BKB HGW hb ca0 ca1 fa0 fa1 cb0 cb1 fb0 fb1
        have HB := HB2
        have HO := HO2
        have BKA := BKA2
        have BKB := BKB2
        have HGW := HG2
        clear HB2 HO2 BKA2 BKB2 HG2
        have ca0 : w7.cell? ⟨ga, 0, none⟩ = some (.bool false) := (blk_cell BKA.out 0).trans rfl
        have ca1 : w7.cell? ⟨ga, 1, none⟩ = some (.slice none 0 0) := (blk_cell BKA.out 1).trans rfl
        have fa0 := blk_frozen BKA.out 0
        have fa1 := blk_frozen BKA.out 1
        have cb0 : w7.cell? ⟨gb, 0, none⟩ = some (.bool true) := (blk_cell BKB.out 0).trans rfl
        have cb1 : w7.cell? ⟨gb, 1, none⟩ = some ((.slice AV ls.length cV)) := (blk_cell BKB.out 1).trans rfl
        have fb0 := blk_frozen BKB.out 0
        have fb1 := blk_frozen BKB.out 1
        go_wp2
        exact bodyPost_ret (v := .tuple #[.agg #[.bool true, .slice AV ls.length cV], .bool false]) (by simp [results, Tryd.results25, go_sem, *]) rfl ⟨(by repeat (first | (with_reducible first | exact HB.out | apply below_alloc | apply pw_below_drewN | apply below_drew1 | refine below_set ?_ GEB.out | refine below_set ?_ GEA.out) | exact HB.out)), _, _, _, _, rfl⟩
    · have q1 : ((i : Int) < (vs.length : Int)) = False := eq_false (by omega)
      have hW2 : WW = some ls := by rw [← HJ.out, List.drop_of_length_le (by omega)]; simp [wordsP, joinW]
      subst hW2
      have hx : wr.cell? ⟨gw, vs.length, none⟩ = some (.string ⟨z.toArray⟩) := by
        rw [blk_cell HGW.out vs.length]
        simp
      have hg1 := blk_ne HGW.out BKA.out (by decide)
      have hg2 := blk_ne HGW.out BKB.out (by decide)
      have ne3 : (gw = ga) = False := eq_false hg1
      have ne4 : (ga = gw) = False := eq_false (Ne.symm hg1)
      have ne5 : (gw = gb) = False := eq_false hg2
      have ne6 : (gb = gw) = False := eq_false (Ne.symm hg2)
      have hwl : IntKind.i64.wrap (vs.length : Int) = (vs.length : Int) := by rw [IntKind.wrap_i64]; omega
      clear HJ hg1 hg2
      go_wp2
      go_region
      all_goals go_wp2
      all_goals
        refine bodyPost_ret (v := .tuple #[.agg #[.bool true, .slice AV ls.length cV], .bool (z == [48])]) (by simp [results, Tryd.results25, go_sem, *]) rfl ?_
        refine ⟨(by repeat (first | (with_reducible first | exact HB.out | apply below_alloc | apply pw_below_drewN | apply below_drew1 | refine below_set ?_ GEB.out | refine below_set ?_ GEA.out) | exact HB.out)), ?_⟩
        first
          | (refine ⟨.slice AV ls.length cV, ?_, Kd.R_drew (Kd.R_mono (Kd.R_far (p := ⟨ga, 1, none⟩) (Kd.R_far (p := ⟨ga, 0, none⟩) (Kd.R_types HO.out BKA.out (by decide)) (fun _ hk => hk.2) _) (fun _ hk => hk.2) _) (fun _ _ => trivial))⟩; (simp [*]; done))
          | (refine ⟨true, AV, ls.length, cV, ?_⟩; (simp [*]; done))

set_option maxRecDepth 100000 in
set_option maxHeartbeats 1600000 in
theorem line_false (x : List UInt8) (w : World) (hp : Lib.hasPrefix x [100, 32] = false) (hX : x.length ≤ 1048576) (E : Env w) :
    Calls Tryd.prog 25 #[strV x] w (LineSaid w (lineQ false (cutC 32 x))) := by
  have hu := Tryd.underlying36
  have hu2 := Tryd.underlying9
  have HE := Aside0.mk E
  have hRL : x.length ≤ 1048576 := hX
  have C0 := fun w => cutPrefix_any x [100, 32] w
  rw [hp] at C0
  have C1 := fun w E => split_box x 32 (by omega) w E
  have hcl := cut_len 32 x
  obtain ⟨vs, z, hvz⟩ := snoc_of _ (cutC_ne 32 x)
  rw [hvz] at C1 hcl ⊢
  rw [lineQ_R]
  have hvl : vs.length ≤ 1048576 := by have := hcl.1; simp at this; omega
  have HVW : Aside0 (∀ i, i < vs.length → (nth vs [] i).length ≤ 1099511627776) := ⟨fun i hi => by have := hcl.2 (nth vs [] i) (by simp [nth_mem hi]); omega⟩
  rw [show (vs ++ [z]).length = vs.length + 1 by simp] at C1
  have kct := fun g => cut_to (P := Tryd.prog) 32 9 .i64 Tryd.underlying32 (Option.map_eq_some_iff.1 str_inf).choose_spec.1 (some ⟨g, 0, none⟩) (vs.length + 1) (vs.length + 1) (vs.length : Int) (by omega) (by omega) (Nat.le_refl _)
  rw [Int.toNat_natCast] at kct
  have HB := Aside0.mk (Below.refl w.heap.size w)
  clear hcl hvz hp E hX hRL
  have HW : Aside0 (joinW [] (wordsP (vs.drop 0)) = wordsP vs) := ⟨by rw [List.drop_zero]; unfold joinW; cases wordsP vs <;> simp⟩
  unfold lineR
  generalize hWD : wordsP vs = WW at HW ⊢
  clear hWD
  have D0 := C0
  clear C0
  unfold strV at D0 C1
  simp only [if_false, Bool.false_eq_true, List.length_cons, List.length_nil, Nat.zero_add, Nat.reduceAdd] at D0
  show Calls Tryd.prog 25 #[.string ⟨x.toArray⟩] w _
  go_enter Tryd.func25, Tryd.ntmps25
  go_wp2_with (first
    | ((with_reducible refine gate_dst (N := 2) rfl ?_); refine box_event ?hg (N := 2) ?hd (cs := #[.bool false, .slice none 0 0]) (t := 36) ?hr ?_; (case hd => rfl); (case hg => rfl); (case hr => first | (go_simp; done) | (go_simp; rfl)); intro ga hg w5 hbox hb; have GEA := Aside0.mk ((by rw [hg]; exact (below_size (by repeat (first | (with_reducible first | exact HB.out | apply below_alloc | apply pw_below_drewN | apply below_drew1) | exact HB.out)))) : w.heap.size ≤ ga); have n0_ := Aside0.mk (below_step (by repeat (first | (with_reducible first | exact HB.out | apply below_alloc | apply pw_below_drewN | apply below_drew1) | exact HB.out)) hb); have BKA := Aside0.mk hbox; clear HB; have HB := n0_; clear n0_ hb hbox hg)
    | (go_at_call 38; refine (D0 _).mono ?_; rintro e w1 ⟨rfl, rfl⟩)
    | ((with_reducible refine gate_dst (N := 6) rfl ?_); refine box_event ?hg (N := 6) ?hd (cs := #[.bool false, .slice none 0 0]) (t := 36) ?hr ?_; (case hd => rfl); (case hg => rfl); (case hr => first | (go_simp; done) | (go_simp; rfl)); intro gb hg w6 hbox hb; have GEB := Aside0.mk ((by rw [hg]; exact (below_size (by repeat (first | (with_reducible first | exact HB.out | apply below_alloc | apply pw_below_drewN | apply below_drew1) | exact HB.out)))) : w.heap.size ≤ gb); have n0_ := Aside0.mk (below_step (by repeat (first | (with_reducible first | exact HB.out | apply below_alloc | apply pw_below_drewN | apply below_drew1) | exact HB.out)) hb); have BKB := Aside0.mk hbox; have n1_ := Aside0.mk (blk_below BKA.out hb); have hne : ga ≠ gb := (by have := blk_lt BKA.out; rw [hg]; simp; omega); clear HB BKA; have HB := n0_; have BKA := n1_; clear n0_ n1_ hb hbox hg; have ne1 : (ga = gb) = False := eq_false hne; have ne2 : (gb = ga) = False := eq_false (Ne.symm hne); clear hne; have ca0 : w6.cell? ⟨ga, 0, none⟩ = some (.bool false) := (blk_cell BKA.out 0).trans rfl; have ca1 : w6.cell? ⟨ga, 1, none⟩ = some (.slice none 0 0) := (blk_cell BKA.out 1).trans rfl; have fa0 := blk_frozen BKA.out 0; have fa1 := blk_frozen BKA.out 1; have cb0 : w6.cell? ⟨gb, 0, none⟩ = some (.bool false) := (blk_cell BKB.out 0).trans rfl; have cb1 : w6.cell? ⟨gb, 1, none⟩ = some (.slice none 0 0) := (blk_cell BKB.out 1).trans rfl; have fb0 := blk_frozen BKB.out 0; have fb1 := blk_frozen BKB.out 1)
    | (go_at_call 24; refine (C1 _ (HE.out.below (by repeat (first | (with_reducible first | exact HB.out | apply below_alloc | apply pw_below_drewN | apply below_drew1 | refine below_set ?_ GEB.out | refine below_set ?_ GEA.out) | exact HB.out)))).mono ?_))
  rintro e w9 ⟨gw, rfl, hgw, hb, hge⟩
  have BKA2 := Aside0.mk (blk_below (blk_far (p := ⟨gb, 1, none⟩) (blk_far (p := ⟨gb, 0, none⟩) BKA.out (by simpa using ne1) (.bool false)) (by simpa using ne1) (.slice none 0 0)) hb)
  have BKB2 := Aside0.mk (blk_below (blk_put (cs := #[.bool false, .slice none 0 0]) (blk_put (cs := #[.bool false, .slice none 0 0]) BKB.out 0 (.bool false) rfl) 1 (.slice none 0 0) rfl) hb)
  have HB2 := Aside0.mk (below_step (by repeat (first | (with_reducible first | exact HB.out | apply below_alloc | apply pw_below_drewN | apply below_drew1 | refine below_set ?_ GEB.out | refine below_set ?_ GEA.out) | exact HB.out)) hb)
  have HGW := Aside0.mk hgw
  clear hb hge hgw HB BKA BKB C1 D0 ca0 ca1 fa0 fa1 cb0 cb1 fb0 fb1
  have k2 := kct gw
  clear kct
  go_wp2
  go_loopg [27] vs.length (fun gk v27 w' => ∃ (i : Nat) (ls : List Int) (V : Value), v27 = .int .i64 (i : Int) ∧ i + gk = vs.length ∧ Aside0 (ls.length ≤ i) ∧ Aside0 (joinW ls (wordsP (vs.drop i)) = WW) ∧ Aside0 (Kd.R (Kd.int .i64) 3 w' w.heap.size (fun _ => True) V ls) ∧ Aside0 (w'.heap[ga]? = some (.cells #[.bool false, .slice none 0 0] 36 (0, 0))) ∧ Aside0 (w'.heap[gb]? = some (.cells #[.bool false, V] 36 (0, 0))) ∧ Aside0 (w'.heap[gw]? = some (.cells (List.map (fun l => Value.string ⟨l.toArray⟩) (vs ++ [z])).toArray 9 (0, 0))) ∧ Aside0 (Below w.heap.size w w'))
  case atStart => exact ⟨0, [], .slice none 0 0, rfl, by omega, ⟨by simp⟩, HW, ⟨Kd.R_nil _ _ _ _ _⟩, BKA2, BKB2, HGW, HB2⟩
  case round =>
    clear HB2 BKA2 BKB2 HGW HW
    obtain ⟨i, ls, V, rfl, hi, HLN, HJ, HO, BKA, BKB, HGW, HB⟩ := hrel
    obtain ⟨AV, cV, rfl⟩ := Kd.R_slice HO.out
    have ca0 : wr.cell? ⟨ga, 0, none⟩ = some (.bool false) := (blk_cell BKA.out 0).trans rfl
    have ca1 : wr.cell? ⟨ga, 1, none⟩ = some (.slice none 0 0) := (blk_cell BKA.out 1).trans rfl
    have fa0 := blk_frozen BKA.out 0
    have fa1 := blk_frozen BKA.out 1
    have cb0 : wr.cell? ⟨gb, 0, none⟩ = some (.bool false) := (blk_cell BKB.out 0).trans rfl
    have cb1 : wr.cell? ⟨gb, 1, none⟩ = some ((.slice AV ls.length cV)) := (blk_cell BKB.out 1).trans rfl
    have fb0 := blk_frozen BKB.out 0
    have fb1 := blk_frozen BKB.out 1
    have hml : ls.length ≤ 1048576 := by have := HLN.out; omega
    by_cases hiv : i < vs.length
    · have hx : wr.cell? ⟨gw, i, none⟩ = some (.string ⟨(nth vs [] i).toArray⟩) := by
        rw [blk_cell HGW.out i]
        exact words_at vs z i hiv
      have q1 : ((i : Int) < (vs.length : Int)) = True := eq_true (by omega)
      have q2 : (0 ≤ (i : Int)) = True := eq_true (by omega)
      have C := atoi_any (nth vs [] i) (HVW.out i hiv) wr (HE.out.below HB.out)
      unfold strV at C
      have hdc := drop_cons hiv ([] : List UInt8)
      have HDC := Aside0.mk hdc
      clear hdc
      generalize nth vs [] i = v at *
      go_wp2_with (go_at_call 39; refine C.mono ?_)
      clear C hx
      rintro e w7 ⟨hb, ⟨l, hl, rfl⟩ | ⟨hne, k, t, ai, rfl⟩⟩
      · cases hrl : rightL l
        · have hW2 : WW = none := by
            rw [← HJ.out, HDC.out]
            refine joinW_none ls v _ ?_
            unfold wordP
            rw [hl]
            simp only
            rw [if_neg (fun h : l ≠ 0 ∧ l ≤ 100000 ∧ -100000 ≤ l => by rw [rightL_iff.2 h] at hrl; cases hrl)]
          subst hW2
          have Cr := fun w => lit_right_any l w
          rw [hrl] at Cr
          clear HJ hl hrl HDC k2
          have BKA2 := Aside0.mk (blk_below BKA.out hb)
          have BKB2 := Aside0.mk (blk_below BKB.out hb)
          have HG2 := Aside0.mk (blk_below HGW.out hb)
          have HO2 := Aside0.mk (Kd.R_below HO.out hb)
          have HB2 := Aside0.mk (below_step HB.out hb)
          clear HB HO BKA BKB HGW hb ca0 ca1 fa0 fa1 cb0 cb1 fb0 fb1
          have HB := HB2
          have HO := HO2
          have BKA := BKA2
          have BKB := BKB2
          have HGW := HG2
          clear HB2 HO2 BKA2 BKB2 HG2
          have ca0 : w7.cell? ⟨ga, 0, none⟩ = some (.bool false) := (blk_cell BKA.out 0).trans rfl
          have ca1 : w7.cell? ⟨ga, 1, none⟩ = some (.slice none 0 0) := (blk_cell BKA.out 1).trans rfl
          have fa0 := blk_frozen BKA.out 0
          have fa1 := blk_frozen BKA.out 1
          have cb0 : w7.cell? ⟨gb, 0, none⟩ = some (.bool false) := (blk_cell BKB.out 0).trans rfl
          have cb1 : w7.cell? ⟨gb, 1, none⟩ = some ((.slice AV ls.length cV)) := (blk_cell BKB.out 1).trans rfl
          have fb0 := blk_frozen BKB.out 0
          have fb1 := blk_frozen BKB.out 1
          go_wp2_with (go_at_call 30; refine (Cr _).mono ?_)
          rintro e w8 ⟨rfl, hb⟩
          have BKA2 := Aside0.mk (blk_below BKA.out hb)
          have BKB2 := Aside0.mk (blk_below BKB.out hb)
          have HG2 := Aside0.mk (blk_below HGW.out hb)
          have HO2 := Aside0.mk (Kd.R_below HO.out hb)
          have HB2 := Aside0.mk (below_step HB.out hb)
          clear HB HO BKA BKB HGW hb ca0 ca1 fa0 fa1 cb0 cb1 fb0 fb1
          have HB := HB2
          have HO := HO2
          have BKA := BKA2
          have BKB := BKB2
          have HGW := HG2
          clear HB2 HO2 BKA2 BKB2 HG2
          have ca0 : w8.cell? ⟨ga, 0, none⟩ = some (.bool false) := (blk_cell BKA.out 0).trans rfl
          have ca1 : w8.cell? ⟨ga, 1, none⟩ = some (.slice none 0 0) := (blk_cell BKA.out 1).trans rfl
          have fa0 := blk_frozen BKA.out 0
          have fa1 := blk_frozen BKA.out 1
          have cb0 : w8.cell? ⟨gb, 0, none⟩ = some (.bool false) := (blk_cell BKB.out 0).trans rfl
          have cb1 : w8.cell? ⟨gb, 1, none⟩ = some ((.slice AV ls.length cV)) := (blk_cell BKB.out 1).trans rfl
          have fb0 := blk_frozen BKB.out 0
          have fb1 := blk_frozen BKB.out 1
          clear Cr
          go_wp2
          exact bodyPost_ret (v := .tuple #[.agg #[.bool false, .slice AV ls.length cV], .bool false]) (by simp [results, Tryd.results25, go_sem, *]) rfl ⟨(by repeat (first | (with_reducible first | exact HB.out | apply below_alloc | apply pw_below_drewN | apply below_drew1 | refine below_set ?_ GEB.out | refine below_set ?_ GEA.out) | exact HB.out)), _, _, _, _, rfl⟩
        · have hW2 : joinW (ls ++ [l]) (wordsP (vs.drop (i + 1))) = WW := by
            rw [← HJ.out, HDC.out]
            refine (joinW_cons ls v _ l ?_).symm
            unfold wordP
            rw [hl]
            simp only
            rw [if_pos (show l ≠ 0 ∧ l ≤ 100000 ∧ -100000 ≤ l from rightL_iff.1 hrl)]
          have HJ2 := Aside0.mk hW2
          have Cr := fun w => lit_right_any l w
          rw [hrl] at Cr
          clear HJ hl hrl HDC hW2 k2
          have BKA2 := Aside0.mk (blk_below BKA.out hb)
          have BKB2 := Aside0.mk (blk_below BKB.out hb)
          have HG2 := Aside0.mk (blk_below HGW.out hb)
          have HO2 := Aside0.mk (Kd.R_below HO.out hb)
          have HB2 := Aside0.mk (below_step HB.out hb)
          clear HB HO BKA BKB HGW hb ca0 ca1 fa0 fa1 cb0 cb1 fb0 fb1
          have HB := HB2
          have HO := HO2
          have BKA := BKA2
          have BKB := BKB2
          have HGW := HG2
          clear HB2 HO2 BKA2 BKB2 HG2
          have ca0 : w7.cell? ⟨ga, 0, none⟩ = some (.bool false) := (blk_cell BKA.out 0).trans rfl
          have ca1 : w7.cell? ⟨ga, 1, none⟩ = some (.slice none 0 0) := (blk_cell BKA.out 1).trans rfl
          have fa0 := blk_frozen BKA.out 0
          have fa1 := blk_frozen BKA.out 1
          have cb0 : w7.cell? ⟨gb, 0, none⟩ = some (.bool false) := (blk_cell BKB.out 0).trans rfl
          have cb1 : w7.cell? ⟨gb, 1, none⟩ = some ((.slice AV ls.length cV)) := (blk_cell BKB.out 1).trans rfl
          have fb0 := blk_frozen BKB.out 0
          have fb1 := blk_frozen BKB.out 1
          go_wp2_with (go_at_call 30; refine (Cr _).mono ?_)
          rintro e w8 ⟨rfl, hb⟩
          have BKA2 := Aside0.mk (blk_below BKA.out hb)
          have BKB2 := Aside0.mk (blk_below BKB.out hb)
          have HG2 := Aside0.mk (blk_below HGW.out hb)
          have HO2 := Aside0.mk (Kd.R_below HO.out hb)
          have HB2 := Aside0.mk (below_step HB.out hb)
          clear HB HO BKA BKB HGW hb ca0 ca1 fa0 fa1 cb0 cb1 fb0 fb1
          have HB := HB2
          have HO := HO2
          have BKA := BKA2
          have BKB := BKB2
          have HGW := HG2
          clear HB2 HO2 BKA2 BKB2 HG2
          have ca0 : w8.cell? ⟨ga, 0, none⟩ = some (.bool false) := (blk_cell BKA.out 0).trans rfl
          have ca1 : w8.cell? ⟨ga, 1, none⟩ = some (.slice none 0 0) := (blk_cell BKA.out 1).trans rfl
          have fa0 := blk_frozen BKA.out 0
          have fa1 := blk_frozen BKA.out 1
          have cb0 : w8.cell? ⟨gb, 0, none⟩ = some (.bool false) := (blk_cell BKB.out 0).trans rfl
          have cb1 : w8.cell? ⟨gb, 1, none⟩ = some ((.slice AV ls.length cV)) := (blk_cell BKB.out 1).trans rfl
          have fb0 := blk_frozen BKB.out 0
          have fb1 := blk_frozen BKB.out 1
          clear Cr
          go_wp2_with ((with_reducible refine gate_builtin (b := .append) (xs := #[.tmp 45, .tmp 47]) rfl ?_); at_builtin; refine Kd.R_append (Kd.int .i64) (w0 := w) w.heap.size rfl (.tmp 45) (.tmp 47) 34 3 (.int .i64 0) 8 rfl Tryd.underlying34 info3 rfl (by decide) (by decide) _ ls l [.int .i64 l] (fun _ => True) (fun _ => False) rfl ?aX rfl (fun _ hk => hk.elim) (fun _ _ => trivial) ?aO ?aB ?aS ?aL ?_; (case aX => first | rfl | (simp [Act.eval]; done)); (case aO => exact HO.out); (case aB => exact HB.out); (case aS => exact below_size HB.out); (case aL => omega))
          intro v1 w10 ho hb hg hat
          obtain ⟨A8, c8, rfl⟩ := Kd.R_slice ho
          rw [show (ls ++ [l]).length = ls.length + 1 by simp] at ho
          have BKA2 := Aside0.mk (blk_grown BKA.out hg (Kd.R_ne HO.out BKA.out (by decide)))
          have BKB2 := Aside0.mk (blk_grown BKB.out hg (Kd.R_ne HO.out BKB.out (by decide)))
          have HG2 := Aside0.mk (blk_grown HGW.out hg (Kd.R_ne HO.out HGW.out (by decide)))
          have HO2 := Aside0.mk ho
          have HB2 := Aside0.mk hb
          clear HB HO BKA BKB HGW hb hg ho hat ca0 ca1 fa0 fa1 cb0 cb1 fb0 fb1
          have HB := HB2
          have HO := HO2
          have BKA := BKA2
          have BKB := BKB2
          have HGW := HG2
          clear HB2 HO2 BKA2 BKB2 HG2
          have ca0 : w10.cell? ⟨ga, 0, none⟩ = some (.bool false) := (blk_cell BKA.out 0).trans rfl
          have ca1 : w10.cell? ⟨ga, 1, none⟩ = some (.slice none 0 0) := (blk_cell BKA.out 1).trans rfl
          have fa0 := blk_frozen BKA.out 0
          have fa1 := blk_frozen BKA.out 1
          have cb0 : w10.cell? ⟨gb, 0, none⟩ = some (.bool false) := (blk_cell BKB.out 0).trans rfl
          have cb1 : w10.cell? ⟨gb, 1, none⟩ = some ((.slice AV ls.length cV)) := (blk_cell BKB.out 1).trans rfl
          have fb0 := blk_frozen BKB.out 0
          have fb1 := blk_frozen BKB.out 1
          go_wp2
          go_roundg (vs.length - (i + 1))
          case measure => omega
          case rel =>
            refine ⟨i + 1, ls ++ [l], .slice A8 (ls.length + 1) c8, by go_num, by omega, ⟨by have := HLN.out; simp; omega⟩, HJ2, ⟨?_⟩, ⟨?_⟩, ⟨?_⟩, ⟨?_⟩, ⟨(by repeat (first | (with_reducible first | exact HB.out | apply below_alloc | apply pw_below_drewN | apply below_drew1 | refine below_set ?_ GEB.out | refine below_set ?_ GEA.out) | exact HB.out))⟩⟩
            · exact Kd.R_mono (Kd.R_far (p := ⟨gb, 1, none⟩) (Kd.R_types HO.out BKB.out (by decide)) (fun _ hk => hk.2) _) (fun _ _ => trivial)
            · exact blk_far (p := ⟨gb, 1, none⟩) BKA.out (by simpa using ne1) _
            · exact blk_put (cs := #[.bool false, .slice AV ls.length cV]) BKB.out 1 _ rfl
            · exact blk_far (p := ⟨gb, 1, none⟩) HGW.out (blk_ne HGW.out BKB.out (by decide)) _
      · have hW2 : WW = none := by
          rw [← HJ.out, HDC.out]
          refine joinW_none ls v _ ?_
          unfold wordP
          cases hl : Lib.atoiAll v with
          | ok l => exact absurd hl (hne l)
          | «syntax» => rfl
          | range => rfl
        subst hW2
        clear HJ hne HDC k2
        have BKA2 := Aside0.mk (blk_below BKA.out hb)
        have BKB2 := Aside0.mk (blk_below BKB.out hb)
        have HG2 := Aside0.mk (blk_below HGW.out hb)
        have HO2 := Aside0.mk (Kd.R_below HO.out hb)
        have HB2 := Aside0.mk (below_step HB.out hb)
        clear HB HO BKA BKB HGW hb ca0 ca1 fa0 fa1 cb0 cb1 fb0 fb1
        have HB := HB2
        have HO := HO2
        have BKA := BKA2
        have BKB := BKB2
        have HGW := HG2
        clear HB2 HO2 BKA2 BKB2 HG2
        have ca0 : w7.cell? ⟨ga, 0, none⟩ = some (.bool false) := (blk_cell BKA.out 0).trans rfl
        have ca1 : w7.cell? ⟨ga, 1, none⟩ = some (.slice none 0 0) := (blk_cell BKA.out 1).trans rfl
        have fa0 := blk_frozen BKA.out 0
        have fa1 := blk_frozen BKA.out 1
        have cb0 : w7.cell? ⟨gb, 0, none⟩ = some (.bool false) := (blk_cell BKB.out 0).trans rfl
        have cb1 : w7.cell? ⟨gb, 1, none⟩ = some ((.slice AV ls.length cV)) := (blk_cell BKB.out 1).trans rfl
        have fb0 := blk_frozen BKB.out 0
        have fb1 := blk_frozen BKB.out 1
        go_wp2
        exact bodyPost_ret (v := .tuple #[.agg #[.bool false, .slice AV ls.length cV], .bool false]) (by simp [results, Tryd.results25, go_sem, *]) rfl ⟨(by repeat (first | (with_reducible first | exact HB.out | apply below_alloc | apply pw_below_drewN | apply below_drew1 | refine below_set ?_ GEB.out | refine below_set ?_ GEA.out) | exact HB.out)), _, _, _, _, rfl⟩
    · have q1 : ((i : Int) < (vs.length : Int)) = False := eq_false (by omega)
      have hW2 : WW = some ls := by rw [← HJ.out, List.drop_of_length_le (by omega)]; simp [wordsP, joinW]
      subst hW2
      have hx : wr.cell? ⟨gw, vs.length, none⟩ = some (.string ⟨z.toArray⟩) := by
        rw [blk_cell HGW.out vs.length]
        simp
      have hg1 := blk_ne HGW.out BKA.out (by decide)
      have hg2 := blk_ne HGW.out BKB.out (by decide)
      have ne3 : (gw = ga) = False := eq_false hg1
      have ne4 : (ga = gw) = False := eq_false (Ne.symm hg1)
      have ne5 : (gw = gb) = False := eq_false hg2
      have ne6 : (gb = gw) = False := eq_false (Ne.symm hg2)
      have hwl : IntKind.i64.wrap (vs.length : Int) = (vs.length : Int) := by rw [IntKind.wrap_i64]; omega
      clear HJ hg1 hg2
      go_wp2
      go_region
      all_goals go_wp2
      all_goals
        refine bodyPost_ret (v := .tuple #[.agg #[.bool false, .slice AV ls.length cV], .bool (z == [48])]) (by simp [results, Tryd.results25, go_sem, *]) rfl ?_
        refine ⟨(by repeat (first | (with_reducible first | exact HB.out | apply below_alloc | apply pw_below_drewN | apply below_drew1 | refine below_set ?_ GEB.out | refine below_set ?_ GEA.out) | exact HB.out)), ?_⟩
        first
          | (refine ⟨.slice AV ls.length cV, ?_, Kd.R_drew (Kd.R_mono (Kd.R_far (p := ⟨ga, 1, none⟩) (Kd.R_far (p := ⟨ga, 0, none⟩) (Kd.R_types HO.out BKA.out (by decide)) (fun _ hk => hk.2) _) (fun _ hk => hk.2) _) (fun _ _ => trivial))⟩; (simp [*]; done))
          | (refine ⟨false, AV, ls.length, cV, ?_⟩; (simp [*]; done))

theorem line_any (x : List UInt8) (w : World) (hX : x.length ≤ 1048576) (E : Env w) : Calls Tryd.prog 25 #[strV x] w (LineSaid w (lineP x)) := by
  unfold lineP
  cases hp : Lib.hasPrefix x [100, 32]
  · exact line_false x w hp hX E
  · exact line_true x w hp hX E

end Go.Proofs.YtefppfgcgcfleaaDoor
