import Derived.Test.YtcblijcalhaffaaGreatDoorCmStoreQS
import Derived.Test.YtcblijcalhaffaaGreatDoorCmByQS
import Derived.Test.YtcblijcalhaffaaGreatDoorDcTwoQS
namespace Go.Proofs.YtcblijcalhaffaaGreatDoor
open Go Go.BigFrame Go.RowKit Go.Proofs.YtcblijcalhaffaaGreatDoorW.PrintWords Go.Proofs.YtcblijcalhaffaaGreatDoorW.PrintLast Go.Proofs.YtcblijcalhaffaaGreatDoorW.PrintMore PCheckSound
open Go.Sort Go.Shelf
attribute [local go_sem] Oper.semAt_some

/-! rup.Store.Remove. -/
/-- What stands behind Remove. -/
def remC (V : Nat) (cs : List (List Int)) (c : List Int) : List (List Int) := if rightC V c then cs.eraseP fun d => decide (d = normC c) else cs
theorem erase_find (p : List Int → Bool) : ∀ cs : List (List Int), (cs.findIdx? p = none ∧ cs.eraseP p = cs) ∨ ∃ i, i < cs.length ∧ cs.findIdx? p = some i ∧ cs.eraseP p = cs.eraseIdx i
  | [] => .inl ⟨rfl, rfl⟩
  | d :: cs => by
    by_cases h : p d = true
    · exact .inr ⟨0, by simp, by simp [List.findIdx?_cons, h], by simp [h]⟩
    · have h' : p d = false := by simpa using h
      rcases erase_find p cs with ⟨h1, h2⟩ | ⟨i, hi, h1, h2⟩
      · exact .inl ⟨by simp [List.findIdx?_cons, h', h1], by simp [h', h2]⟩
      · exact .inr ⟨i + 1, by simp; omega, by simp [List.findIdx?_cons, h', h1], by simp [h', h2]⟩
theorem rem_find (V : Nat) (cs : List (List Int)) (c : List Int) : (findR V cs c = -1 ∧ remC V cs c = cs) ∨ ∃ i : Nat, i < cs.length ∧ findR V cs c = i ∧ remC V cs c = cs.eraseIdx i := by
  unfold findR remC
  by_cases h : rightC V c = true
  · rw [if_pos h, if_pos h]
    rcases erase_find (fun d => decide (d = normC c)) cs with ⟨h1, h2⟩ | ⟨i, hi, h1, h2⟩
    · exact .inl ⟨by unfold idxR; rw [h1], h2⟩
    · exact .inr ⟨i, hi, by unfold idxR; rw [h1], h2⟩
  · rw [if_neg h, if_neg h]
    exact .inl ⟨rfl, rfl⟩
set_option maxRecDepth 100000 in
set_option maxHeartbeats 8000000 in
theorem remove_any {B b V : Nat} {cs : List (List Int)} {w : World} (H : StoreAt B w b V cs) (hB : B ≤ w.heap.size) (hV : V ≤ 100000) (A : Option Addr) (cap : Nat) (c : List Int) (hr : Kd.C (Kd.int .i64) w A c.length c) (hlen : c.length ≤ 1000000000) (hcs : cs.length ≤ 1000000000) :
    Calls Tryz.prog 43 #[.pointer (some ⟨b, 0, none⟩), .slice A c.length cap] w fun e w' => (∃ r, e = .returned (.bool r)) ∧ StoreAt B w' b V (remC V cs c) ∧ Below B w w' := by
  have CF := find_any H.rs hV A cap c hr hlen
  have HH := Aside0.mk H
  clear H hr
  rcases rem_find V cs c with ⟨h1, h2⟩ | ⟨i, hi, h1, h2⟩
  · rw [h1] at CF
    rw [h2]
    clear h1 h2
    go_enter Tryz.func43, Tryz.ntmps43
    go_wp2_with (go_at_call 58; refine CF.mono ?_; rintro e w2 ⟨rfl, hb⟩; have HB := Aside0.mk hb; clear hb)
    go_ret
    exact ⟨⟨_, rfl⟩, HH.out.below HB.out, HB.out.mono hB⟩
  · rw [h1] at CF
    have HE := Aside0.mk h2
    rw [h2]
    clear h1 h2
    have q1 : ((i : Int) < 0) = False := eq_false (by omega)
    go_enter Tryz.func43, Tryz.ntmps43
    go_wp2_with (first
      | (go_at_call 58
         refine CF.mono ?_
         rintro e w2 ⟨rfl, hb⟩
         have HB := Aside0.mk hb
         obtain ⟨SA, scap, g1, g2, g3⟩ := HH.out.below hb
         have k1 : w2.cell? ⟨b, 1, none⟩ = some (.slice SA cs.length scap) := (blk_cell g1 1).trans rfl
         have HG1 := Aside0.mk g1
         have HG3 := Aside0.mk g3
         have kd1 : w2.drew.cell? ⟨b, 1, none⟩ = some (.slice SA cs.length scap) := k1
         clear hb g1 g3)
      | (go_at_call 59
         refine (delete_any HG3.out i hi hcs).mono ?_
         rintro e w3 ⟨rfl, hR, hg⟩
         have hb3 := blk_grown HG1.out hg (Kd.R_ne HG3.out HG1.out (by decide))
         have k3 : w3.cell? ⟨b, 1, none⟩ = some (.slice SA cs.length scap) := (blk_cell hb3 1).trans rfl
         have k4 : w3.frozen? ⟨b, 1, none⟩ = false := blk_frozen hb3 1
         have HB3 := Aside0.mk ((HB.out.mono hB).grown hg (Nat.le_trans hB HB.out.size) (fun k hk => Kd.R_base HG3.out k hk))
         have HK3 := Aside0.mk hb3
         have HR3 := Aside0.mk hR
         clear hb3 hR hg))
    go_ret
    have el : (cs.eraseIdx i).length = cs.length - 1 := by rw [List.length_eraseIdx, if_pos hi]
    refine ⟨⟨_, rfl⟩, ⟨SA, scap, ?_, g2, ?_⟩, HB3.out.setCell (p := ⟨b, 1, none⟩) g2 _⟩
    · rw [el]; exact blk_put HK3.out 1 _ rfl
    · rw [el]; exact Kd.R_set HR3.out HK3.out (by decide) 1 _
end Go.Proofs.YtcblijcalhaffaaGreatDoor
namespace Go.Proofs.YtcblijcalhaffaaGreatDoor
open Go Go.BigFrame Go.RowKit Go.Proofs.YtcblijcalhaffaaGreatDoorW.PrintWords Go.Proofs.YtcblijcalhaffaaGreatDoorW.PrintLast Go.Proofs.YtcblijcalhaffaaGreatDoorW.PrintMore PCheckSound

/-! What check.Check's loops come to. -/
theorem normC_len (c : List Int) : (normC c).length ≤ c.length := by
  have h : ∀ (l m : List Int), l.Nodup → (∀ x ∈ l, x ∈ m) → l.length ≤ m.length := by
    intro l
    induction l with
    | nil => intro m _ _; simp
    | cons x l ih =>
      intro m hn hs
      have hx : x ∈ m := hs x (by simp)
      have h1 := ih (m.erase x) (List.nodup_cons.1 hn).2 (fun y hy => (List.mem_erase_of_ne (fun e => (List.nodup_cons.1 hn).1 (by rw [← e]; exact hy))).2 (hs y (by simp [hy])))
      have h2 := List.length_erase_of_mem hx
      have h3 : 0 < m.length := List.length_pos_of_mem hx
      rw [List.length_cons]
      omega
  exact h _ _ (asc_nodup (normC_asc c)) (fun x hx => (normC_mem c x).1 hx)
/-- A store's clauses: of its variables, each in its one form. -/
structure Nice (V : Nat) (cs : List (List Int)) : Prop where
  r : AllR V cs
  f : Fine cs
  n : ∀ d ∈ cs, normC d = d
  l : ∀ d ∈ cs, d.length ≤ 1000000
theorem Nice.add {V : Nat} {cs : List (List Int)} (h : Nice V cs) {c : List Int} (hc : rightC V c = true) (hl : c.length ≤ 1000000) : Nice V (cs ++ [normC c]) := by
  have hr := rightC_iff.1 hc
  refine ⟨fun d hd => ?_, fun d hd => ?_, fun d hd => ?_, fun d hd => ?_⟩
  all_goals rcases List.mem_append.1 hd with hd | hd
  · exact h.r d hd
  · simp only [List.mem_singleton] at hd; subst hd; exact fun x hx => hr x ((normC_mem c x).1 hx)
  · exact h.f d hd
  · simp only [List.mem_singleton] at hd; subst hd
    exact ⟨fun h0 => by have := rightV_iff.1 (hr 0 ((normC_mem c 0).1 h0)); omega, asc_nodup (normC_asc c)⟩
  · exact h.n d hd
  · simp only [List.mem_singleton] at hd; subst hd; exact normC_normC c
  · exact h.l d hd
  · simp only [List.mem_singleton] at hd; subst hd; exact Nat.le_trans (normC_len c) hl
theorem remC_sub {V : Nat} {cs : List (List Int)} {c : List Int} : ∀ d ∈ remC V cs c, d ∈ cs := fun d hd => by
  unfold remC at hd
  split at hd
  · exact List.mem_of_mem_eraseP hd
  · exact hd
theorem Nice.rem {V : Nat} {cs : List (List Int)} (h : Nice V cs) (c : List Int) : Nice V (remC V cs c) :=
  ⟨fun d hd => h.r d (remC_sub d hd), fun d hd => h.f d (remC_sub d hd), fun d hd => h.n d (remC_sub d hd), fun d hd => h.l d (remC_sub d hd)⟩
theorem remC_len (V : Nat) (cs : List (List Int)) (c : List Int) : (remC V cs c).length ≤ cs.length := by
  unfold remC
  split
  · exact (List.eraseP_sublist).length_le
  · exact Nat.le_refl _
theorem Nice.nil (V : Nat) : Nice V [] := ⟨fun d hd => by simp at hd, fun d hd => by simp at hd, fun d hd => by simp at hd, fun d hd => by simp at hd⟩
theorem eraseP_congr' {p q : List Int → Bool} : ∀ {cs : List (List Int)}, (∀ d ∈ cs, p d = q d) → cs.eraseP p = cs.eraseP q
  | [], _ => rfl
  | d :: cs, h => by
    rw [List.eraseP_cons, List.eraseP_cons, h d (by simp), eraseP_congr' (fun e he => h e (by simp [he]))]
theorem remC_eq {V : Nat} {cs : List (List Int)} (h : Nice V cs) {c : List Int} (hc : rightC V c = true) : remC V cs c = remP cs c := by
  unfold remC remP
  rw [if_pos hc]
  exact eraseP_congr' fun d hd => by rw [h.n d hd]
theorem mayB_iff {cs : List (List Int)} {c : List Int} : mayB cs c = true ↔ May cs c := by
  unfold mayB impB blkB May
  simp
/-- The steps of a proof. -/
def pairs (l : List S41) : List (Bool × List Int) := l.map fun s => (s.f0, s.f1)
theorem pairs_at {l : List S41} {j : Nat} (h : j < l.length) : (pairs l).drop j = ((nth l z41 j).f0, (nth l z41 j).f1) :: (pairs l).drop (j + 1) := by
  have e : nth l z41 j = l[j] := by unfold nth; rw [List.getD_eq_getElem?_getD, List.getElem?_eq_getElem h]; rfl
  rw [e, List.drop_eq_getElem_cons (by unfold pairs; rw [List.length_map]; exact h)]
  unfold pairs
  rw [List.getElem_map]
theorem chk_done {ds : List (List Int)} {l : List S41} {k : Nat} (h : l.length ≤ k) : chk ds ((pairs l).drop k) k = (-1, -1) := by
  rw [List.drop_eq_nil_of_le (by unfold pairs; rw [List.length_map]; exact h)]
  simp only [chk]
theorem chk_add {ds : List (List Int)} {c : List Int} (ss : List (Bool × List Int)) (i : Nat) : chk (ds ++ [normC c]) ss i = chk (ds ++ [c]) ss i :=
  chk_like ss _ _ i (by unfold Like0; simp [normC_normC])
theorem chk_norm (cs : List (List Int)) (ss : List (Bool × List Int)) (i : Nat) : chk (cs.map normC) ss i = chk cs ss i :=
  chk_like ss _ _ i (by unfold Like0; rw [List.map_map]; exact List.map_congr_left fun c _ => normC_normC c)
/-- A report, of the places that chk gives. -/
def repV (r : Int × Int) : Value := .agg #[.bool (decide (0 ≤ r.1)), .int .i64 r.1, .int .i64 r.2]
/-- What Check answers. -/
noncomputable def chkV (V : Nat) (cs : List (List Int)) (l : List S41) : Value :=
  if l.all (fun s => rightC V s.f1) then .tuple #[repV (chk cs (pairs l) 0), .int .i64 0] else .tuple #[.agg #[.bool false, .int .i64 0, .int .i64 0], .int .i64 1]
/-- A formula's rows, read. -/
def rowR (l : List S41) (V : Nat) : Bool := l.all fun s => rightC V s.f1
theorem nice_rows {V : Nat} {cs : List (List Int)} (h : AllR V cs) (hl : ∀ c ∈ cs, c.length ≤ 1000000) : Nice V (cs.map normC) := by
  refine ⟨fun d hd => ?_, fine_norm fun c hc h0 => by have := rightV_iff.1 (h c hc 0 h0); omega, fun d hd => ?_, fun d hd => ?_⟩
  all_goals obtain ⟨c, hc, rfl⟩ := List.mem_map.1 hd
  · exact fun x hx => h c hc x ((normC_mem c x).1 hx)
  · exact normC_normC c
  · exact Nat.le_trans (normC_len c) (hl c hc)
end Go.Proofs.YtcblijcalhaffaaGreatDoor
namespace Go.Proofs.YtcblijcalhaffaaGreatDoor
open Go Go.BigFrame Go.RowKit Go.Proofs.YtcblijcalhaffaaGreatDoorW.PrintWords Go.Proofs.YtcblijcalhaffaaGreatDoorW.PrintLast Go.Proofs.YtcblijcalhaffaaGreatDoorW.PrintMore PCheckSound
open Go.Sort Go.Shelf
attribute [local go_sem] Oper.semAt_some

/-! check.Check. -/
theorem hasC_check (V pf : Nat) (hV : V ≤ 100000) (A : Option Addr) (c : Nat) (xs : List Int) (W : World) (hk : W.cell? ⟨pf, 0, none⟩ = some (.int .i64 V)) (hr : Kd.C (Kd.int .i64) W A xs.length xs) :
    Calls Tryz.prog 40 #[.slice A xs.length c, .func (.func 41) #[] #[.pointer (some ⟨pf, 0, none⟩)]] W (Said W (.bool (!rightC V xs))) := by
  rw [← rightC_any]
  exact hasF_check (fun x => !rightV V x) pf A c xs W (fun x w' hw' => check1_any x V pf hV w' ((hw'.cell (World.block_lt_of_cell? W _ hk)).trans hk)) hr
theorem blk3 {w W : World} {pr t : Nat} {a b c : Value} (h : w.heap[pr]? = some (.cells #[a, b, c] t (0, 0))) (hb : Below w.heap.size w W) :
    W.heap[pr]? = some (.cells #[a, b, c] t (0, 0)) := (hb.block pr (blk_lt h)).trans h
theorem set3 {w : World} {pr t : Nat} {a b c : Value} (h : w.heap[pr]? = some (.cells #[a, b, c] t (0, 0))) (x y z : Value) : (((w.setCell ⟨pr, 0, none⟩ x).setCell ⟨pr, 1, none⟩ y).setCell ⟨pr, 2, none⟩ z).heap[pr]? = some (.cells #[x, y, z] t (0, 0)) :=
  blk_put (blk_put (blk_put h 0 x rfl) 1 y rfl) 2 z rfl
theorem below_set3 {w W : World} {pr : Nat} (h : Below w.heap.size w W) (hp : w.heap.size ≤ pr) (x y z : Value) : Below w.heap.size w (((W.setCell ⟨pr, 0, none⟩ x).setCell ⟨pr, 1, none⟩ y).setCell ⟨pr, 2, none⟩ z) :=
  below_set (below_set (below_set h hp) hp) hp
set_option maxRecDepth 100000 in
set_option maxHeartbeats 16000000 in
theorem chkF_any (V : Nat) (hV : V ≤ 100000) (FA SA : Option Addr) (fc sc : Nat) (cs : List (List Int)) (l : List S41) (v : World)
    (hF : kRow.C v FA cs.length cs) (hS : Kd.C k41 v SA l.length l) (hr : AllR V cs) (hcl : ∀ c ∈ cs, c.length ≤ 1000000) (hsl : ∀ s ∈ l, s.f1.length ≤ 1000000) (hcn : cs.length ≤ 100000000) (hln : l.length ≤ 100000000) :
    Calls Tryz.prog 19 #[.agg #[.int .i64 V, .slice FA cs.length fc], .slice SA l.length sc] v (Said v (chkV V cs l)) := by
  have hm := hS.2.1
  have hm2 := hF.2.1
  have hu := Tryz.underlying41
  have kF : ((v.alloc (.cells #[.int .i64 V, .slice FA cs.length fc] 30)).alloc (.cells #[.bool false, .int .i64 0, .int .i64 0] 43)).heap[v.heap.size]? = some (.cells #[.int .i64 V, .slice FA cs.length fc] 30 (0, 0)) := (Below.heap_alloc _ _ _ (by simp)).trans (heap_alloc_new v _)
  have kR : ((v.alloc (.cells #[.int .i64 V, .slice FA cs.length fc] 30)).alloc (.cells #[.bool false, .int .i64 0, .int .i64 0] 43)).heap[v.heap.size + 1]? = some (.cells #[.bool false, .int .i64 0, .int .i64 0] 43 (0, 0)) := by
    have := heap_alloc_new (v.alloc (.cells #[.int .i64 V, .slice FA cs.length fc] 30)) (.cells #[.bool false, .int .i64 0, .int .i64 0] 43)
    rwa [World.size_alloc] at this
  have hB0 : Below v.heap.size v ((v.alloc (.cells #[.int .i64 V, .slice FA cs.length fc] 30)).alloc (.cells #[.bool false, .int .i64 0, .int .i64 0] 43)) := ((Below.refl _ v).alloc (Nat.le_refl _) _).alloc (by simp) _
  have HF := Aside0.mk (Kd.C_below hF hB0)
  have HS := Aside0.mk (Kd.C_below hS hB0)
  have HAR := Aside0.mk hr
  have HCL := Aside0.mk hcl
  have HSL := Aside0.mk hsl
  have KF := Aside0.mk kF
  have KR := Aside0.mk kR
  have HB0 := Aside0.mk hB0
  clear kF kR hB0 hF hS hr hcl hsl
  go_enter Tryz.func19, Tryz.ntmps19
  go_wp2
  generalize hW0 : (v.alloc (.cells #[.int .i64 V, .slice FA cs.length fc] 30)).alloc (.cells #[.bool false, .int .i64 0, .int .i64 0] 43) = w at *
  clear hW0
  have HPR : Aside0 (v.heap.size + 1 ≠ v.heap.size ∧ v.heap.size ≤ v.heap.size + 1) := ⟨by omega, by omega⟩
  generalize hpr : v.heap.size + 1 = pr at *
  have HB := Aside0.mk (Below.refl w.heap.size w)
  go_loopg [15] l.length (fun gk v15 w' => ∃ j : Nat, v15 = .int .i64 j ∧ j + gk = l.length ∧ Aside0 ((l.take j).all (fun s => rightC V s.f1) = true) ∧ Aside0 (Below w.heap.size w w'))
  case atStart => exact ⟨0, rfl, by omega, ⟨rfl⟩, HB⟩
  case round =>
    clear HB
    obtain ⟨j, rfl, hj, HA, HB⟩ := hrel
    by_cases hjl : j < l.length
    · obtain ⟨ad, A1, c1, e0, hx0, hx1, hl1, hi1⟩ := at_step HS.out j hjl
      cases e0
      replace hx0 := (HB.out.cell (World.block_lt_of_cell? w _ hx0)).trans hx0
      replace hx1 := (HB.out.cell (World.block_lt_of_cell? w _ hx1)).trans hx1
      have HI := Aside0.mk hi1
      have HL := Aside0.mk hl1
      have q1 : ((j : Int) < (l.length : Int)) = True := eq_true (by omega)
      have q2 : (0 ≤ (j : Int)) = True := eq_true (by omega)
      have hT := Aside0.mk (take_snoc hjl z41)
      clear hi1 hl1
      go_wp2_with (first
        | ((with_reducible refine gate_dst (N := 7) rfl ?_); refine box_event ?hg (N := 7) ?hd (cs := #[.bool false, .slice none 0 0]) (t := 41) ?hr ?_; (case hd => rfl); (case hg => rfl); (case hr => first | (go_simp; done) | (go_simp; rfl)); intro gb hg w5 hbox hb; have GE := Aside0.mk ((by rw [hg]; exact (below_size (by repeat (first | (with_reducible first | exact HB.out | apply below_alloc | apply pw_below_drewN | apply below_drew1) | exact HB.out)))) : w.heap.size ≤ gb); have GN := Aside0.mk hg; have HW5 := Aside0.mk hb; have n0_ := Aside0.mk (below_step (by repeat (first | (with_reducible first | exact HB.out | apply below_alloc | apply pw_below_drewN | apply below_drew1) | exact HB.out)) hb); have BK := Aside0.mk hbox; clear HB; have HB := n0_; clear n0_ hb hbox hg; have hcz0 : w5.cell? ⟨gb, 0, none⟩ = some (.bool false) := (blk_cell BK.out 0).trans rfl; have hcz1 : w5.cell? ⟨gb, 1, none⟩ = some (.slice none 0 0) := (blk_cell BK.out 1).trans rfl; have hfz0 := blk_frozen BK.out 0; have hfz1 := blk_frozen BK.out 1)
        | (go_at_call 40
           refine (hasC_check V v.heap.size hV A1 c1 _ _ ((blk_cell ((Below.block (by repeat (first | (with_reducible first | exact HB.out | apply below_alloc | apply pw_below_drewN | apply below_drew1 | refine below_set ?_ GE.out) | exact HB.out)) _ (blk_lt KF.out)).trans KF.out) 0).trans rfl) (Kd.C_below HI.out (by repeat (first | (with_reducible first | exact HB.out | apply below_alloc | apply pw_below_drewN | apply below_drew1 | refine below_set ?_ GE.out) | exact HB.out)))).mono ?_
           rintro e w1 ⟨rfl, hb⟩
           have HB2 := Aside0.mk (below_step (by repeat (first | (with_reducible first | exact HB.out | apply below_alloc | apply pw_below_drewN | apply below_drew1 | refine below_set ?_ GE.out) | exact HB.out)) hb); clear HB; have HB := HB2; clear HB2 hb
           have KR2 := Aside0.mk (blk3 KR.out HB.out)
           have kr0 := blk_cell KR2.out 0
           have kr1 := blk_cell KR2.out 1
           have kr2 := blk_cell KR2.out 2
           have kf0 := blk_frozen KR2.out 0
           have kf1 := blk_frozen KR2.out 1
           have kf2 := blk_frozen KR2.out 2))
      · have hpx : (!rightC V (nth l z41 j).f1) = true := by assumption
        have KR3 := set3 KR2.out (.bool false) (.int .i64 0) (.int .i64 0)
        have r0 := blk_cell KR3 0
        have r1 := blk_cell KR3 1
        have r2 := blk_cell KR3 2
        clear kr0 kr1 kr2 kf0 kf1 kf2
        refine bodyPost_ret (v := .tuple #[.agg #[.bool false, .int .i64 0, .int .i64 0], .int .i64 1]) (by simp [results, Tryz.f19, go_sem, r0, r1, r2]) rfl ?_
        refine ⟨?_, below_set3 (below_step HB0.out HB.out) HPR.out.2 _ _ _⟩
        unfold chkV
        rw [if_neg (fun h => by
          have h1 := List.all_eq_true.1 h _ (nth_mem hjl z41)
          rw [h1] at hpx
          cases hpx)]
        try rfl
      · have hpx : (!rightC V (nth l z41 j).f1) = false := by assumption
        go_roundg (l.length - (j + 1))
        case measure => omega
        case rel =>
          refine ⟨j + 1, by go_num, by omega, ⟨?_⟩, ⟨(by repeat (first | (with_reducible first | exact HB.out | apply below_alloc | apply pw_below_drewN | apply below_drew1 | refine below_set ?_ GE.out) | exact HB.out))⟩⟩
          have h1 := HA.out
          rw [hT.out, List.all_append, h1, List.all_cons, List.all_nil]
          simpa using hpx
    · have q1 : ((j : Int) < (l.length : Int)) = False := eq_false (by omega)
      have hT : l.take j = l := List.take_of_length_le (by omega)
      have HA2 := HA.out
      rw [hT] at HA2
      have KF2 := Aside0.mk ((HB.out.block _ (blk_lt KF.out)).trans KF.out)
      have kv0 := blk_cell KF2.out 0
      have kv1 := blk_cell KF2.out 1
      have HAL := Aside0.mk HA2
      clear hT HA2 HA
      go_wp2_with (go_at_call 30
                   refine (new_any V _).mono ?_
                   rintro e w1 ⟨b, rfl, hst, hb⟩
                   have HST := Aside0.mk hst
                   have HBW := Aside0.mk hb
                   have HB1 := Aside0.mk (below_step HB.out hb)
                   have KF3 := Aside0.mk ((HB1.out.block _ (blk_lt KF.out)).trans KF.out)
                   have kv2 := blk_cell KF3.out 0
                   have kv3 := blk_cell KF3.out 1
                   clear hst hb)
      clear kv0 kv1 kv2 kv3 KF2 KF3
      have HBS : Aside0 (w.heap.size ≤ wr.heap.size ∧ wr.heap.size ≤ w1.heap.size) := ⟨HB.out.size, HBW.out.size⟩
      clear HBW HB
      generalize wr.heap.size = B at *
      go_loopg [31] cs.length (fun gk v31 w' => ∃ i : Nat, v31 = .int .i64 i ∧ i + gk = cs.length ∧ Aside0 (StoreAt B w' b V ((cs.take i).map normC)) ∧ Aside0 (Below w.heap.size w w' ∧ B ≤ w'.heap.size))
      case atStart => exact ⟨0, rfl, by omega, HST, ⟨HB1.out, HBS.out.2⟩⟩
      case round =>
        clear HST HB1
        obtain ⟨i, rfl, hi, HST, HBB⟩ := hrel
        by_cases hil : i < cs.length
        · obtain ⟨ad, A1, c1, e0, hx, hl1, hi1⟩ := at_row HF.out i hil
          cases e0
          replace hx := (HBB.out.1.cell (World.block_lt_of_cell? w _ hx)).trans hx
          have q1 : ((i : Int) < (cs.length : Int)) = True := eq_true (by omega)
          have q2 : (0 ≤ (i : Int)) = True := eq_true (by omega)
          have hrc : rightC V (nth cs [] i) = true := rightC_iff.2 (HAR.out _ (nth_mem hil []))
          have CA := add_any HST.out HBB.out.2 hV A1 c1 (nth cs [] i) (Kd.C_below hi1 HBB.out.1) (by have := HCL.out _ (nth_mem hil []); omega) (by rw [List.length_map, List.length_take]; omega)
          rw [if_pos hrc, hrc] at CA
          have hT := Aside0.mk (take_snoc hil ([] : List Int))
          clear hi1 hl1 hrc
          go_wp2_with (go_at_call 31
                       refine CA.mono ?_
                       rintro e w2 ⟨rfl, hst, hb⟩
                       have HST2 := Aside0.mk hst
                       have HBB2 : Aside0 (Below w.heap.size w w2 ∧ B ≤ w2.heap.size) := ⟨HBB.out.1.trans (hb.mono HBS.out.1), Nat.le_trans HBB.out.2 hb.size⟩
                       clear hst hb)
          clear CA hx
          go_roundg (cs.length - (i + 1))
          case measure => omega
          case rel =>
            refine ⟨i + 1, by go_num, by omega, ⟨?_⟩, HBB2⟩
            rw [hT.out, List.map_append]
            exact HST2.out
        · have q1 : ((i : Int) < (cs.length : Int)) = False := eq_false (by omega)
          have HST2 := HST.out
          rw [List.take_of_length_le (by omega)] at HST2
          have HSA := Aside0.mk HST2
          clear HST2 HST
          go_wp2
          have HCH : Aside0 (chk cs (pairs l) 0 = chk (cs.map normC) ((pairs l).drop 0) 0) := ⟨by rw [chk_norm, List.drop_zero]⟩
          have HNI : Aside0 (Nice V (cs.map normC) ∧ (cs.map normC).length ≤ cs.length + 0) := ⟨nice_rows HAR.out HCL.out, by simp⟩
          generalize cs.map normC = ds0 at *
          clear HF HAR HCL
          go_loopg [41] l.length (fun gk v41 w' => ∃ (i : Nat) (ds : List (List Int)), v41 = .int .i64 i ∧ i + gk = l.length ∧ Aside0 (StoreAt B w' b V ds) ∧ Aside0 (Nice V ds ∧ ds.length ≤ cs.length + i) ∧ Aside0 (chk cs (pairs l) 0 = chk ds ((pairs l).drop i) i) ∧ Aside0 (Below w.heap.size w w' ∧ B ≤ w'.heap.size))
          case atStart => exact ⟨0, ds0, rfl, by omega, HSA, HNI, HCH, HBB⟩
          case round =>
            clear HSA HNI HCH HBB
            obtain ⟨k, ds, rfl, hk, HST, HNI, HCH, HBB⟩ := hrel
            have KRW := Aside0.mk (blk3 KR.out HBB.out.1)
            by_cases hkl : k < l.length
            · obtain ⟨ad, A1, c1, e0, hx0, hx1, hl1, hi1⟩ := at_step HS.out k hkl
              cases e0
              replace hx0 := (HBB.out.1.cell (World.block_lt_of_cell? w _ hx0)).trans hx0
              replace hx1 := (HBB.out.1.cell (World.block_lt_of_cell? w _ hx1)).trans hx1
              have HI := Aside0.mk (Kd.C_below hi1 HBB.out.1)
              have q1 : ((k : Int) < (l.length : Int)) = True := eq_true (by omega)
              have q2 : (0 ≤ (k : Int)) = True := eq_true (by omega)
              have hrc : rightC V (nth l z41 k).f1 = true := List.all_eq_true.1 HAL.out _ (nth_mem hkl z41)
              have hle := HSL.out _ (nth_mem hkl z41)
              have HPA := Aside0.mk (pairs_at hkl)
              rw [HPA.out] at HCH
              clear hi1 HPA
              generalize nth l z41 k = s at *
              obtain ⟨del, c⟩ := s
              dsimp only at hx0 hx1 HI hrc hle HCH hl1
              obtain ⟨w, hw⟩ : ∃ w, w = wr := ⟨_, rfl⟩
              subst hw
              have HB := Aside0.mk (Below.refl w.heap.size w)
              have HRC := Aside0.mk hrc
              have HLE := Aside0.mk hle
              clear hrc hle
              cases del with
              | true =>
                have hch : chk ds ((true, c) :: (pairs l).drop (k + 1)) k = chk (remC V ds c) ((pairs l).drop (k + 1)) (k + 1) := by
                  rw [remC_eq HNI.out.1 HRC.out]; simp only [chk]
                rw [hch] at HCH
                clear hch
                go_wp2_with (first
                  | ((with_reducible refine gate_dst (N := 12) rfl ?_); refine box_event ?hg (N := 12) ?hd (cs := #[.bool false, .slice none 0 0]) (t := 41) ?hr ?_; (case hd => rfl); (case hg => rfl); (case hr => first | (go_simp; done) | (go_simp; rfl)); intro gb hg w5 hbox hb; have GE := Aside0.mk ((by rw [hg]; exact (below_size (by repeat (first | (with_reducible first | exact HB.out | apply below_alloc | apply pw_below_drewN | apply below_drew1) | exact HB.out)))) : w.heap.size ≤ gb); have GN := Aside0.mk hg; have HW5 := Aside0.mk hb; have n0_ := Aside0.mk (below_step (by repeat (first | (with_reducible first | exact HB.out | apply below_alloc | apply pw_below_drewN | apply below_drew1) | exact HB.out)) hb); have BK := Aside0.mk hbox; clear HB; have HB := n0_; clear n0_ hb hbox hg; have hcz0 : w5.cell? ⟨gb, 0, none⟩ = some (.bool false) := (blk_cell BK.out 0).trans rfl; have hcz1 : w5.cell? ⟨gb, 1, none⟩ = some (.slice none 0 0) := (blk_cell BK.out 1).trans rfl; have hfz0 := blk_frozen BK.out 0; have hfz1 := blk_frozen BK.out 1)
                  | (go_at_call 43
                     refine (remove_any (HST.out.below (by repeat (first | (with_reducible first | exact HB.out | apply below_alloc | apply pw_below_drewN | apply below_drew1 | refine below_set ?_ GE.out) | exact HB.out))) (Nat.le_trans HBB.out.2 (Below.size (by repeat (first | (with_reducible first | exact HB.out | apply below_alloc | apply pw_below_drewN | apply below_drew1 | refine below_set ?_ GE.out) | exact HB.out)))) hV A1 c1 c (Kd.C_below HI.out (by repeat (first | (with_reducible first | exact HB.out | apply below_alloc | apply pw_below_drewN | apply below_drew1 | refine below_set ?_ GE.out) | exact HB.out))) (by have := HLE.out; omega) (by have := HNI.out.2; omega)).mono ?_
                     rintro e w2 ⟨⟨r, rfl⟩, hst, hb⟩
                     have HST2 := Aside0.mk hst
                     have HBB2 : Aside0 (Below _ _ w2 ∧ B ≤ w2.heap.size) := ⟨(below_step HBB.out.1 (by repeat (first | (with_reducible first | exact HB.out | apply below_alloc | apply pw_below_drewN | apply below_drew1 | refine below_set ?_ GE.out) | exact HB.out))).trans (hb.mono HBS.out.1), Nat.le_trans (Nat.le_trans HBB.out.2 (Below.size (by repeat (first | (with_reducible first | exact HB.out | apply below_alloc | apply pw_below_drewN | apply below_drew1 | refine below_set ?_ GE.out) | exact HB.out)))) hb.size⟩
                     clear hst hb))
                go_roundg (l.length - (k + 1))
                case measure => omega
                case rel =>
                  exact ⟨k + 1, _, by go_num, by omega, HST2, ⟨HNI.out.1.rem c, by have := remC_len V ds c; have := HNI.out.2; omega⟩, HCH, HBB2⟩
              | false =>
                by_cases hmay : mayB ds c = true
                · by_cases hc0 : c = []
                  · subst hc0
                    have hch : chk ds ((false, []) :: (pairs l).drop (k + 1)) k = ((k : Int), -1) := by
                      simp only [chk]; rw [if_pos (mayB_iff.1 hmay)]; simp
                    have HM := Aside0.mk hmay
                    have HH := Aside0.mk hch
                    have qz : (([] : List Int).length) = 0 := rfl
                    clear hmay hch
                    go_wp2_with (first
                  | ((with_reducible refine gate_dst (N := 12) rfl ?_); refine box_event ?hg (N := 12) ?hd (cs := #[.bool false, .slice none 0 0]) (t := 41) ?hr ?_; (case hd => rfl); (case hg => rfl); (case hr => first | (go_simp; done) | (go_simp; rfl)); intro gb hg w5 hbox hb; have GE := Aside0.mk ((by rw [hg]; exact (below_size (by repeat (first | (with_reducible first | exact HB.out | apply below_alloc | apply pw_below_drewN | apply below_drew1) | exact HB.out)))) : w.heap.size ≤ gb); have GN := Aside0.mk hg; have HW5 := Aside0.mk hb; have n0_ := Aside0.mk (below_step (by repeat (first | (with_reducible first | exact HB.out | apply below_alloc | apply pw_below_drewN | apply below_drew1) | exact HB.out)) hb); have BK := Aside0.mk hbox; clear HB; have HB := n0_; clear n0_ hb hbox hg; have hcz0 : w5.cell? ⟨gb, 0, none⟩ = some (.bool false) := (blk_cell BK.out 0).trans rfl; have hcz1 : w5.cell? ⟨gb, 1, none⟩ = some (.slice none 0 0) := (blk_cell BK.out 1).trans rfl; have hfz0 := blk_frozen BK.out 0; have hfz1 := blk_frozen BK.out 1)
                  | (go_at_call 16
                     go_loud (refine (may_any (HST.out.below (by repeat (first | (with_reducible first | exact HB.out | apply below_alloc | apply pw_below_drewN | apply below_drew1 | refine below_set ?_ GE.out) | exact HB.out))).rs hV HNI.out.1.r HNI.out.1.f HNI.out.1.l A1 c1 [] (Kd.C_below HI.out (by repeat (first | (with_reducible first | exact HB.out | apply below_alloc | apply pw_below_drewN | apply below_drew1 | refine below_set ?_ GE.out) | exact HB.out))) (rightC_iff.1 HRC.out) HLE.out).mono ?_)
                     rintro e w3 ⟨rfl, hb⟩
                     go_loud (have KG := Aside0.mk ((hb.block _ (blk_lt (blk_put (blk_put BK.out 0 (.bool false) rfl) 1 (.slice A1 ([] : List Int).length c1) rfl))).trans (blk_put (blk_put BK.out 0 (.bool false) rfl) 1 (.slice A1 ([] : List Int).length c1) rfl)))
                     have kg1 := blk_cell KG.out 1
                     have HST3 := Aside0.mk (HST.out.below (below_step (by repeat (first | (with_reducible first | exact HB.out | apply below_alloc | apply pw_below_drewN | apply below_drew1 | refine below_set ?_ GE.out) | exact HB.out)) hb))
                     have HB2 := Aside0.mk (below_step (by repeat (first | (with_reducible first | exact HB.out | apply below_alloc | apply pw_below_drewN | apply below_drew1 | refine below_set ?_ GE.out) | exact HB.out)) hb); clear HB; have HB := HB2; clear HB2 hb
                     have KRX := Aside0.mk (blk3 KRW.out HB.out)
                     have kr0 := blk_cell KRX.out 0
                     have kr1 := blk_cell KRX.out 1
                     have kr2 := blk_cell KRX.out 2
                     have kf0 := blk_frozen KRX.out 0
                     have kf1 := blk_frozen KRX.out 1
                     have kf2 := blk_frozen KRX.out 2
                     rw [HM.out]))
                    have KR3 := set3 KRX.out (.bool true) (.int .i64 (k)) (.int .i64 (-1))
                    have r0 := blk_cell KR3 0
                    have r1 := blk_cell KR3 1
                    have r2 := blk_cell KR3 2
                    clear kr0 kr1 kr2 kf0 kf1 kf2 kg1
                    refine bodyPost_ret (v := .tuple #[.agg #[.bool true, .int .i64 (k), .int .i64 (-1)], .int .i64 0]) (by simp [results, Tryz.f19, go_sem, r0, r1, r2]) rfl ?_
                    refine ⟨?_, below_set3 (below_step HB0.out (below_step HBB.out.1 HB.out)) HPR.out.2 _ _ _⟩
                    unfold chkV
                    rw [if_pos HAL.out, HCH.out, HH.out]
                    simp [repV]
                  · have hch : chk ds ((false, c) :: (pairs l).drop (k + 1)) k = chk (ds ++ [normC c]) ((pairs l).drop (k + 1)) (k + 1) := by
                      rw [chk_add]; simp only [chk]; rw [if_pos (mayB_iff.1 hmay), if_neg hc0]
                    have HM := Aside0.mk hmay
                    have HH := Aside0.mk hch
                    have qz : ((c.length : Int) == 0) = false := by
                      have : 0 < c.length := List.length_pos_iff.2 hc0
                      simp; omega
                    clear hmay hch
                    go_wp2_with (first
                  | ((with_reducible refine gate_dst (N := 12) rfl ?_); refine box_event ?hg (N := 12) ?hd (cs := #[.bool false, .slice none 0 0]) (t := 41) ?hr ?_; (case hd => rfl); (case hg => rfl); (case hr => first | (go_simp; done) | (go_simp; rfl)); intro gb hg w5 hbox hb; have GE := Aside0.mk ((by rw [hg]; exact (below_size (by repeat (first | (with_reducible first | exact HB.out | apply below_alloc | apply pw_below_drewN | apply below_drew1) | exact HB.out)))) : w.heap.size ≤ gb); have GN := Aside0.mk hg; have HW5 := Aside0.mk hb; have n0_ := Aside0.mk (below_step (by repeat (first | (with_reducible first | exact HB.out | apply below_alloc | apply pw_below_drewN | apply below_drew1) | exact HB.out)) hb); have BK := Aside0.mk hbox; clear HB; have HB := n0_; clear n0_ hb hbox hg; have hcz0 : w5.cell? ⟨gb, 0, none⟩ = some (.bool false) := (blk_cell BK.out 0).trans rfl; have hcz1 : w5.cell? ⟨gb, 1, none⟩ = some (.slice none 0 0) := (blk_cell BK.out 1).trans rfl; have hfz0 := blk_frozen BK.out 0; have hfz1 := blk_frozen BK.out 1)
                  | (go_at_call 16
                     go_loud (refine (may_any (HST.out.below (by repeat (first | (with_reducible first | exact HB.out | apply below_alloc | apply pw_below_drewN | apply below_drew1 | refine below_set ?_ GE.out) | exact HB.out))).rs hV HNI.out.1.r HNI.out.1.f HNI.out.1.l A1 c1 c (Kd.C_below HI.out (by repeat (first | (with_reducible first | exact HB.out | apply below_alloc | apply pw_below_drewN | apply below_drew1 | refine below_set ?_ GE.out) | exact HB.out))) (rightC_iff.1 HRC.out) HLE.out).mono ?_)
                     rintro e w3 ⟨rfl, hb⟩
                     go_loud (have KG := Aside0.mk ((hb.block _ (blk_lt (blk_put (blk_put BK.out 0 (.bool false) rfl) 1 (.slice A1 c.length c1) rfl))).trans (blk_put (blk_put BK.out 0 (.bool false) rfl) 1 (.slice A1 c.length c1) rfl)))
                     have kg1 := blk_cell KG.out 1
                     have HST3 := Aside0.mk (HST.out.below (below_step (by repeat (first | (with_reducible first | exact HB.out | apply below_alloc | apply pw_below_drewN | apply below_drew1 | refine below_set ?_ GE.out) | exact HB.out)) hb))
                     have HB2 := Aside0.mk (below_step (by repeat (first | (with_reducible first | exact HB.out | apply below_alloc | apply pw_below_drewN | apply below_drew1 | refine below_set ?_ GE.out) | exact HB.out)) hb); clear HB; have HB := HB2; clear HB2 hb
                     have KRX := Aside0.mk (blk3 KRW.out HB.out)
                     have kr0 := blk_cell KRX.out 0
                     have kr1 := blk_cell KRX.out 1
                     have kr2 := blk_cell KRX.out 2
                     have kf0 := blk_frozen KRX.out 0
                     have kf1 := blk_frozen KRX.out 1
                     have kf2 := blk_frozen KRX.out 2
                     rw [HM.out])
                  | (go_at_call 31
                     refine (add_any HST3.out (Nat.le_trans HBB.out.2 (Below.size (by repeat (first | (with_reducible first | exact HB.out | apply below_alloc | apply pw_below_drewN | apply below_drew1 | refine below_set ?_ GE.out) | exact HB.out)))) hV A1 c1 c (Kd.C_below HI.out (by repeat (first | (with_reducible first | exact HB.out | apply below_alloc | apply pw_below_drewN | apply below_drew1 | refine below_set ?_ GE.out) | exact HB.out))) (by have := HLE.out; omega) (by have := HNI.out.2; omega)).mono ?_
                     rintro e w2 ⟨rfl, hst, hb⟩
                     rw [if_pos HRC.out] at hst
                     have HST4 := Aside0.mk hst
                     have HBB2 : Aside0 (Below _ _ w2 ∧ B ≤ w2.heap.size) := ⟨(below_step HBB.out.1 HB.out).trans (hb.mono HBS.out.1), Nat.le_trans (Nat.le_trans HBB.out.2 HB.out.size) hb.size⟩
                     clear hst hb))
                    clear kr0 kr1 kr2 kf0 kf1 kf2 kg1
                    go_roundg (l.length - (k + 1))
                    case measure => omega
                    case rel =>
                      exact ⟨k + 1, _, by go_num, by omega, HST4, ⟨HNI.out.1.add HRC.out HLE.out, by have := HNI.out.2; simp; omega⟩, ⟨HCH.out.trans HH.out⟩, HBB2⟩
                · have hch : chk ds ((false, c) :: (pairs l).drop (k + 1)) k = (-1, (k : Int)) := by
                    simp only [chk]; rw [if_neg (fun h => hmay (mayB_iff.2 h))]
                  have HM := Aside0.mk (Bool.eq_false_iff.2 hmay)
                  have HH := Aside0.mk hch
                  clear hmay hch
                  go_wp2_with (first
                  | ((with_reducible refine gate_dst (N := 12) rfl ?_); refine box_event ?hg (N := 12) ?hd (cs := #[.bool false, .slice none 0 0]) (t := 41) ?hr ?_; (case hd => rfl); (case hg => rfl); (case hr => first | (go_simp; done) | (go_simp; rfl)); intro gb hg w5 hbox hb; have GE := Aside0.mk ((by rw [hg]; exact (below_size (by repeat (first | (with_reducible first | exact HB.out | apply below_alloc | apply pw_below_drewN | apply below_drew1) | exact HB.out)))) : w.heap.size ≤ gb); have GN := Aside0.mk hg; have HW5 := Aside0.mk hb; have n0_ := Aside0.mk (below_step (by repeat (first | (with_reducible first | exact HB.out | apply below_alloc | apply pw_below_drewN | apply below_drew1) | exact HB.out)) hb); have BK := Aside0.mk hbox; clear HB; have HB := n0_; clear n0_ hb hbox hg; have hcz0 : w5.cell? ⟨gb, 0, none⟩ = some (.bool false) := (blk_cell BK.out 0).trans rfl; have hcz1 : w5.cell? ⟨gb, 1, none⟩ = some (.slice none 0 0) := (blk_cell BK.out 1).trans rfl; have hfz0 := blk_frozen BK.out 0; have hfz1 := blk_frozen BK.out 1)
                  | (go_at_call 16
                     go_loud (refine (may_any (HST.out.below (by repeat (first | (with_reducible first | exact HB.out | apply below_alloc | apply pw_below_drewN | apply below_drew1 | refine below_set ?_ GE.out) | exact HB.out))).rs hV HNI.out.1.r HNI.out.1.f HNI.out.1.l A1 c1 c (Kd.C_below HI.out (by repeat (first | (with_reducible first | exact HB.out | apply below_alloc | apply pw_below_drewN | apply below_drew1 | refine below_set ?_ GE.out) | exact HB.out))) (rightC_iff.1 HRC.out) HLE.out).mono ?_)
                     rintro e w3 ⟨rfl, hb⟩
                     go_loud (have KG := Aside0.mk ((hb.block _ (blk_lt (blk_put (blk_put BK.out 0 (.bool false) rfl) 1 (.slice A1 c.length c1) rfl))).trans (blk_put (blk_put BK.out 0 (.bool false) rfl) 1 (.slice A1 c.length c1) rfl)))
                     have kg1 := blk_cell KG.out 1
                     have HST3 := Aside0.mk (HST.out.below (below_step (by repeat (first | (with_reducible first | exact HB.out | apply below_alloc | apply pw_below_drewN | apply below_drew1 | refine below_set ?_ GE.out) | exact HB.out)) hb))
                     have HB2 := Aside0.mk (below_step (by repeat (first | (with_reducible first | exact HB.out | apply below_alloc | apply pw_below_drewN | apply below_drew1 | refine below_set ?_ GE.out) | exact HB.out)) hb); clear HB; have HB := HB2; clear HB2 hb
                     have KRX := Aside0.mk (blk3 KRW.out HB.out)
                     have kr0 := blk_cell KRX.out 0
                     have kr1 := blk_cell KRX.out 1
                     have kr2 := blk_cell KRX.out 2
                     have kf0 := blk_frozen KRX.out 0
                     have kf1 := blk_frozen KRX.out 1
                     have kf2 := blk_frozen KRX.out 2
                     rw [HM.out]))
                  have KR3 := set3 KRX.out (.bool false) (.int .i64 (-1)) (.int .i64 (k))
                  have r0 := blk_cell KR3 0
                  have r1 := blk_cell KR3 1
                  have r2 := blk_cell KR3 2
                  clear kr0 kr1 kr2 kf0 kf1 kf2 kg1
                  refine bodyPost_ret (v := .tuple #[.agg #[.bool false, .int .i64 (-1), .int .i64 (k)], .int .i64 0]) (by simp [results, Tryz.f19, go_sem, r0, r1, r2]) rfl ?_
                  refine ⟨?_, below_set3 (below_step HB0.out (below_step HBB.out.1 HB.out)) HPR.out.2 _ _ _⟩
                  unfold chkV
                  rw [if_pos HAL.out, HCH.out, HH.out]
                  simp [repV]
            · have q1 : ((k : Int) < (l.length : Int)) = False := eq_false (by omega)
              have r1 := chk_done (k := k) (ds := ds) (l := l) (by omega)
              rw [r1] at HCH
              have kr0 := blk_cell KRW.out 0
              have kr1 := blk_cell KRW.out 1
              have kr2 := blk_cell KRW.out 2
              have kf0 := blk_frozen KRW.out 0
              have kf1 := blk_frozen KRW.out 1
              have kf2 := blk_frozen KRW.out 2
              go_wp2
              have KR3 := set3 KRW.out (.bool false) (.int .i64 (-1)) (.int .i64 (-1))
              have r0 := blk_cell KR3 0
              have r1 := blk_cell KR3 1
              have r2 := blk_cell KR3 2
              clear kr0 kr1 kr2 kf0 kf1 kf2
              refine bodyPost_ret (v := .tuple #[.agg #[.bool false, .int .i64 (-1), .int .i64 (-1)], .int .i64 0]) (by simp [results, Tryz.f19, go_sem, r0, r1, r2]) rfl ?_
              refine ⟨?_, below_set3 (below_step HB0.out HBB.out.1) HPR.out.2 _ _ _⟩
              unfold chkV
              rw [if_pos HAL.out, HCH.out]
              rfl
end Go.Proofs.YtcblijcalhaffaaGreatDoor
namespace Go.Proofs.YtcblijcalhaffaaGreatDoor
open Go Go.BigFrame Go.RowKit Go.Proofs.YtcblijcalhaffaaGreatDoorW.PrintWords Go.Proofs.YtcblijcalhaffaaGreatDoorW.PrintLast Go.Proofs.YtcblijcalhaffaaGreatDoorW.PrintMore PCheckSound
open Go.Sort Go.Shelf
attribute [local go_sem] Oper.semAt_some

/-! check.Text, check.Binary. -/
theorem flat_len_ge {α : Type} (f : α → List UInt8) (hf : ∀ x, 1 ≤ (f x).length) : ∀ l : List α, l.length ≤ (l.flatMap f).length
  | [] => by simp
  | x :: l => by have := flat_len_ge f hf l; have := hf x; rw [List.flatMap_cons, List.length_append, List.length_cons]; omega
theorem flat_len_mem {α : Type} (f : α → List UInt8) : ∀ (l : List α) (x : α), x ∈ l → (f x).length ≤ (l.flatMap f).length
  | y :: l, x, h => by
    rcases List.mem_cons.1 h with rfl | h
    · rw [List.flatMap_cons, List.length_append]; omega
    · have := flat_len_mem f l x h; rw [List.flatMap_cons, List.length_append]; omega
theorem text_few (ps : List PStep) : ps.length ≤ (textT ps).length ∧ ∀ s ∈ ps, s.lits.length ≤ (textT ps).length := by
  refine ⟨flat_len_ge _ (fun s => by simp) ps, fun s hs => Nat.le_trans ?_ (flat_len_mem _ ps s hs)⟩
  have h1 : s.lits.length ≤ (litsT s.lits).length := flat_len_ge _ (fun x => by simp) s.lits
  unfold lineT
  simp only [List.length_append]
  omega
theorem bin_few (ps : List PStep) : ps.length ≤ (binT ps).length ∧ ∀ s ∈ ps, s.lits.length ≤ (binT ps).length := by
  refine ⟨flat_len_ge _ (fun s => stepB_len s) ps, fun s hs => Nat.le_trans ?_ (flat_len_mem _ ps s hs)⟩
  have h1 : s.lits.length ≤ (s.lits.flatMap fun l => encN (numL l)).length := flat_len s.lits
  unfold stepB
  simp only [List.length_append, List.length_cons]
  omega
/-- What Text and Binary answer. -/
noncomputable def parsedV (V : Nat) (cs : List (List Int)) : Got (List PStep) → Value
  | .ok ps _ => chkV V cs (ps.map ofP)
  | .form => .tuple #[.agg #[.bool false, .int .i64 0, .int .i64 0], .int .i64 9]
  | .short => .tuple #[.agg #[.bool false, .int .i64 0, .int .i64 0], .int .i64 10]
/-- The formula as it's read. -/
structure FormI (w : World) (V : Nat) (FA : Option Addr) (cs : List (List Int)) : Prop where
  v : V ≤ 100000
  r : kRow.C w FA cs.length cs
  a : AllR V cs
  l : ∀ c ∈ cs, c.length ≤ 1000000
  n : cs.length ≤ 100000000
theorem FormI.below {w w' : World} {V : Nat} {FA : Option Addr} {cs : List (List Int)} (h : FormI w V FA cs) (hb : Below w.heap.size w w') : FormI w' V FA cs := ⟨h.v, Kd.C_below h.r hb, h.a, h.l, h.n⟩
/-- Check of a proof as plain data. -/
theorem p_check {w : World} {V : Nat} {FA : Option Addr} {cs : List (List Int)} (hF : FormI w V FA cs) (fc : Nat) (SA : Option Addr) (sc : Nat) (ps : List PStep) (hS : PC w SA ps) (hn : ps.length ≤ 100000000) (hl : ∀ s ∈ ps, s.lits.length ≤ 1000000) :
    Calls Tryz.prog 19 #[.agg #[.int .i64 V, .slice FA cs.length fc], .slice SA ps.length sc] w (Said w (chkV V cs (ps.map ofP))) := by
  have := chkF_any V hF.v FA SA fc sc cs (ps.map ofP) w hF.r hS.c hF.a hF.l (fun s hs => by obtain ⟨p, hp, rfl⟩ := List.mem_map.1 hs; exact hl p hp) hF.n (by rw [List.length_map]; exact hn)
  rw [List.length_map] at this
  exact this
theorem chkV_shape (V : Nat) (cs : List (List Int)) (l : List S41) : ∃ r x y n, chkV V cs l = .tuple #[.agg #[.bool r, .int .i64 x, .int .i64 y], .int .i64 n] := by
  unfold chkV repV
  split
  · exact ⟨_, _, _, _, rfl⟩
  · exact ⟨_, _, _, _, rfl⟩
/-- The boxes that Check, Text and Binary start with. -/
structure Boxes (v w : World) (V : Nat) (FA : Option Addr) (n fc : Nat) : Prop where
  f : w.heap[v.heap.size]? = some (.cells #[.int .i64 V, .slice FA n fc] 30 (0, 0))
  r : w.heap[v.heap.size + 1]? = some (.cells #[.bool false, .int .i64 0, .int .i64 0] 43 (0, 0))
  b : Below v.heap.size v w
theorem Boxes.mk' (v : World) (V : Nat) (FA : Option Addr) (n fc : Nat) : Boxes v ((v.alloc (.cells #[.int .i64 V, .slice FA n fc] 30)).alloc (.cells #[.bool false, .int .i64 0, .int .i64 0] 43)) V FA n fc :=
  ⟨(Below.heap_alloc _ _ _ (by simp)).trans (heap_alloc_new v _), by
    have := heap_alloc_new (v.alloc (.cells #[.int .i64 V, .slice FA n fc] 30)) (.cells #[.bool false, .int .i64 0, .int .i64 0] 43)
    rwa [World.size_alloc] at this, ((Below.refl _ v).alloc (Nat.le_refl _) _).alloc (by simp) _⟩
theorem Boxes.below {v w w' : World} {V : Nat} {FA : Option Addr} {n fc : Nat} (h : Boxes v w V FA n fc) (hb : Below w.heap.size w w') : Boxes v w' V FA n fc :=
  ⟨(hb.block _ (blk_lt h.f)).trans h.f, (hb.block _ (blk_lt h.r)).trans h.r, below_step h.b hb⟩
set_option maxRecDepth 100000 in
set_option maxHeartbeats 4000000 in
theorem p_ctext {v : World} {V : Nat} {FA : Option Addr} {cs : List (List Int)} (hF : FormI v V FA cs) (fc : Nat) (x : List UInt8) (hX : x.length ≤ 1000000) (E : Env v) :
    Calls Tryz.prog 23 #[.agg #[.int .i64 V, .slice FA cs.length fc], strV x] v (Said v (parsedV V cs (optG (parseT x)))) := by
  have C := fun W (hW : Below v.heap.size v W) => p_parseText x W (by omega) (E.below hW)
  have HK : Aside0 (∀ ps, parseT x = some ps → ps.length ≤ 100000000 ∧ ∀ s ∈ ps, s.lits.length ≤ 1000000) := ⟨fun ps h => by
    obtain ⟨_, h2⟩ := parseT_sound h
    have h3 := text_few ps
    rw [h2] at h3
    exact ⟨by omega, fun s hs => by have := h3.2 s hs; omega⟩⟩
  clear E hX
  generalize strV x = sv at *
  have HF := Aside0.mk hF
  have BX := Aside0.mk (Boxes.mk' v V FA cs.length fc)
  clear hF
  unfold Parsed at C
  go_enter Tryz.func23, Tryz.ntmps23
  cases hp : parseT x with
  | none =>
    rw [hp] at C
    clear HK hp
    dsimp only [optG] at C
    go_wp2_with fail
    generalize hW0 : (v.alloc (.cells #[.int .i64 V, .slice FA cs.length fc] 30)).alloc (.cells #[.bool false, .int .i64 0, .int .i64 0] 43) = w at *
    clear hW0
    have D := C w BX.out.b
    refine D.mono ?_
    rintro e w2 ⟨hb, rfl⟩
    have BX2 := Aside0.mk (BX.out.below hb)
    have kv0 := blk_cell BX2.out.f 0
    have kv1 := blk_cell BX2.out.f 1
    have kr0 := blk_cell BX2.out.r 0
    have kr1 := blk_cell BX2.out.r 1
    have kr2 := blk_cell BX2.out.r 2
    have kf0 := blk_frozen BX2.out.r 0
    have kf1 := blk_frozen BX2.out.r 1
    have kf2 := blk_frozen BX2.out.r 2
    clear hb D C
    go_wp2
    have KR3 := set3 BX2.out.r (.bool false) (.int .i64 0) (.int .i64 0)
    have r0 := blk_cell KR3 0
    have r1 := blk_cell KR3 1
    have r2 := blk_cell KR3 2
    clear kr0 kr1 kr2 kf0 kf1 kf2 kv0 kv1
    refine bodyPost_ret (v := .tuple #[.agg #[.bool false, .int .i64 0, .int .i64 0], .int .i64 9]) (by simp [results, Tryz.f23, go_sem, r0, r1, r2]) rfl ?_
    exact ⟨rfl, below_set3 BX2.out.b (by omega) _ _ _⟩
  | some ps =>
    rw [hp] at C
    have HK2 := Aside0.mk (HK.out ps hp)
    clear HK hp
    dsimp only [optG] at C
    go_wp2_with fail
    generalize hW0 : (v.alloc (.cells #[.int .i64 V, .slice FA cs.length fc] 30)).alloc (.cells #[.bool false, .int .i64 0, .int .i64 0] 43) = w at *
    clear hW0
    have D := C w BX.out.b
    refine D.mono ?_
    rintro e w2 ⟨hb, A2, c2, rfl, hc2, hpc⟩
    have HP := Aside0.mk hpc
    have BX2 := Aside0.mk (BX.out.below hb)
    have kv0 := blk_cell BX2.out.f 0
    have kv1 := blk_cell BX2.out.f 1
    have kr0 := blk_cell BX2.out.r 0
    have kr1 := blk_cell BX2.out.r 1
    have kr2 := blk_cell BX2.out.r 2
    have kf0 := blk_frozen BX2.out.r 0
    have kf1 := blk_frozen BX2.out.r 1
    have kf2 := blk_frozen BX2.out.r 2
    clear hb D C hpc hc2
    obtain ⟨r, x1, x2, nn, hsh⟩ := chkV_shape V cs (ps.map ofP)
    have CC := fun W (hW : Below w2.heap.size w2 W) => p_check (HF.out.below (below_step BX2.out.b hW)) fc A2 c2 ps (HP.out.below hW) HK2.out.1 HK2.out.2
    have HSH := Aside0.mk hsh
    rw [hsh] at CC
    clear hsh
    go_wp2_with (go_at_call 19
                 refine (CC _ (Below.refl _ _)).mono ?_
                 rintro e w3 ⟨rfl, hb⟩
                 have BX3 := Aside0.mk (BX2.out.below hb)
                 have kv0 := blk_cell BX3.out.f 0
                 have kv1 := blk_cell BX3.out.f 1
                 have kr0 := blk_cell BX3.out.r 0
                 have kr1 := blk_cell BX3.out.r 1
                 have kr2 := blk_cell BX3.out.r 2
                 have kf0 := blk_frozen BX3.out.r 0
                 have kf1 := blk_frozen BX3.out.r 1
                 have kf2 := blk_frozen BX3.out.r 2
                 clear hb CC)
    have KR3 := set3 BX3.out.r (.bool r) (.int .i64 x1) (.int .i64 x2)
    have r0 := blk_cell KR3 0
    have r1 := blk_cell KR3 1
    have r2 := blk_cell KR3 2
    clear kr0 kr1 kr2 kf0 kf1 kf2 kv0 kv1
    refine bodyPost_ret (v := .tuple #[.agg #[.bool r, .int .i64 x1, .int .i64 x2], .int .i64 nn]) (by simp [results, Tryz.f23, go_sem, r0, r1, r2]) rfl ?_
    exact ⟨congrArg Ending.returned HSH.out.symm, below_set3 BX3.out.b (by omega) _ _ _⟩
set_option maxRecDepth 100000 in
set_option maxHeartbeats 4000000 in
theorem p_cbin {v : World} {V : Nat} {FA : Option Addr} {cs : List (List Int)} (hF : FormI v V FA cs) (fc : Nat) (XA : Option Addr) (xc : Nat) (x : List UInt8) (hX : x.length ≤ 1000000) (hx : Rd v XA x) (hxc : x.length ≤ xc) :
    Calls Tryz.prog 25 #[.agg #[.int .i64 V, .slice FA cs.length fc], .slice XA x.length xc] v (Said v (parsedV V cs (parseB x))) := by
  have C := fun W (hW : Below v.heap.size v W) => p_parseBin XA xc x W (Kd.C_below hx hW) hxc (by omega)
  have HK : Aside0 (∀ ps r, parseB x = .ok ps r → ps.length ≤ 100000000 ∧ ∀ s ∈ ps, s.lits.length ≤ 1000000) := ⟨fun ps r h => by
    obtain ⟨_, h2, _⟩ := parseB_sound h
    have h3 := bin_few ps
    rw [← h2] at h3
    exact ⟨by omega, fun s hs => by have := h3.2 s hs; omega⟩⟩
  clear hx hX hxc
  have HF := Aside0.mk hF
  have BX := Aside0.mk (Boxes.mk' v V FA cs.length fc)
  clear hF
  unfold Parsed at C
  go_enter Tryz.func25, Tryz.ntmps25
  cases hp : parseB x with
  | form =>
    rw [hp] at C
    clear HK hp
    dsimp only at C
    go_wp2_with fail
    generalize hW0 : (v.alloc (.cells #[.int .i64 V, .slice FA cs.length fc] 30)).alloc (.cells #[.bool false, .int .i64 0, .int .i64 0] 43) = w at *
    clear hW0
    have D := C w BX.out.b
    refine D.mono ?_
    rintro e w2 ⟨hb, rfl⟩
    have BX2 := Aside0.mk (BX.out.below hb)
    have kv0 := blk_cell BX2.out.f 0
    have kv1 := blk_cell BX2.out.f 1
    have kr0 := blk_cell BX2.out.r 0
    have kr1 := blk_cell BX2.out.r 1
    have kr2 := blk_cell BX2.out.r 2
    have kf0 := blk_frozen BX2.out.r 0
    have kf1 := blk_frozen BX2.out.r 1
    have kf2 := blk_frozen BX2.out.r 2
    clear hb D C
    go_wp2
    have KR3 := set3 BX2.out.r (.bool false) (.int .i64 0) (.int .i64 0)
    have r0 := blk_cell KR3 0
    have r1 := blk_cell KR3 1
    have r2 := blk_cell KR3 2
    clear kr0 kr1 kr2 kf0 kf1 kf2 kv0 kv1
    refine bodyPost_ret (v := .tuple #[.agg #[.bool false, .int .i64 0, .int .i64 0], .int .i64 9]) (by simp [results, Tryz.f25, go_sem, r0, r1, r2]) rfl ?_
    exact ⟨rfl, below_set3 BX2.out.b (by omega) _ _ _⟩
  | short =>
    rw [hp] at C
    clear HK hp
    dsimp only at C
    go_wp2_with fail
    generalize hW0 : (v.alloc (.cells #[.int .i64 V, .slice FA cs.length fc] 30)).alloc (.cells #[.bool false, .int .i64 0, .int .i64 0] 43) = w at *
    clear hW0
    have D := C w BX.out.b
    refine D.mono ?_
    rintro e w2 ⟨hb, rfl⟩
    have BX2 := Aside0.mk (BX.out.below hb)
    have kv0 := blk_cell BX2.out.f 0
    have kv1 := blk_cell BX2.out.f 1
    have kr0 := blk_cell BX2.out.r 0
    have kr1 := blk_cell BX2.out.r 1
    have kr2 := blk_cell BX2.out.r 2
    have kf0 := blk_frozen BX2.out.r 0
    have kf1 := blk_frozen BX2.out.r 1
    have kf2 := blk_frozen BX2.out.r 2
    clear hb D C
    go_wp2
    have KR3 := set3 BX2.out.r (.bool false) (.int .i64 0) (.int .i64 0)
    have r0 := blk_cell KR3 0
    have r1 := blk_cell KR3 1
    have r2 := blk_cell KR3 2
    clear kr0 kr1 kr2 kf0 kf1 kf2 kv0 kv1
    refine bodyPost_ret (v := .tuple #[.agg #[.bool false, .int .i64 0, .int .i64 0], .int .i64 10]) (by simp [results, Tryz.f25, go_sem, r0, r1, r2]) rfl ?_
    exact ⟨rfl, below_set3 BX2.out.b (by omega) _ _ _⟩
  | ok ps rr =>
    rw [hp] at C
    have HK2 := Aside0.mk (HK.out ps rr hp)
    clear HK hp
    dsimp only at C
    go_wp2_with fail
    generalize hW0 : (v.alloc (.cells #[.int .i64 V, .slice FA cs.length fc] 30)).alloc (.cells #[.bool false, .int .i64 0, .int .i64 0] 43) = w at *
    clear hW0
    have D := C w BX.out.b
    refine D.mono ?_
    rintro e w2 ⟨hb, A2, c2, rfl, hc2, hpc⟩
    have HP := Aside0.mk hpc
    have BX2 := Aside0.mk (BX.out.below hb)
    have kv0 := blk_cell BX2.out.f 0
    have kv1 := blk_cell BX2.out.f 1
    have kr0 := blk_cell BX2.out.r 0
    have kr1 := blk_cell BX2.out.r 1
    have kr2 := blk_cell BX2.out.r 2
    have kf0 := blk_frozen BX2.out.r 0
    have kf1 := blk_frozen BX2.out.r 1
    have kf2 := blk_frozen BX2.out.r 2
    clear hb D C hpc hc2
    obtain ⟨r, x1, x2, nn, hsh⟩ := chkV_shape V cs (ps.map ofP)
    have CC := fun W (hW : Below w2.heap.size w2 W) => p_check (HF.out.below (below_step BX2.out.b hW)) fc A2 c2 ps (HP.out.below hW) HK2.out.1 HK2.out.2
    have HSH := Aside0.mk hsh
    rw [hsh] at CC
    clear hsh
    go_wp2_with (go_at_call 19
                 refine (CC _ (Below.refl _ _)).mono ?_
                 rintro e w3 ⟨rfl, hb⟩
                 have BX3 := Aside0.mk (BX2.out.below hb)
                 have kv0 := blk_cell BX3.out.f 0
                 have kv1 := blk_cell BX3.out.f 1
                 have kr0 := blk_cell BX3.out.r 0
                 have kr1 := blk_cell BX3.out.r 1
                 have kr2 := blk_cell BX3.out.r 2
                 have kf0 := blk_frozen BX3.out.r 0
                 have kf1 := blk_frozen BX3.out.r 1
                 have kf2 := blk_frozen BX3.out.r 2
                 clear hb CC)
    have KR3 := set3 BX3.out.r (.bool r) (.int .i64 x1) (.int .i64 x2)
    have r0 := blk_cell KR3 0
    have r1 := blk_cell KR3 1
    have r2 := blk_cell KR3 2
    clear kr0 kr1 kr2 kf0 kf1 kf2 kv0 kv1
    refine bodyPost_ret (v := .tuple #[.agg #[.bool r, .int .i64 x1, .int .i64 x2], .int .i64 nn]) (by simp [results, Tryz.f25, go_sem, r0, r1, r2]) rfl ?_
    exact ⟨congrArg Ending.returned HSH.out.symm, below_set3 BX3.out.b (by omega) _ _ _⟩
end Go.Proofs.YtcblijcalhaffaaGreatDoor
namespace Go.Proofs.YtcblijcalhaffaaGreatDoor
open Go Go.BigFrame Go.RowKit Go.Proofs.YtcblijcalhaffaaGreatDoorW.PrintWords Go.Proofs.YtcblijcalhaffaaGreatDoorW.PrintLast Go.Proofs.YtcblijcalhaffaaGreatDoorW.PrintMore PCheckSound
open Go.Sort Go.Shelf
attribute [local go_sem] Oper.semAt_some

/-! law08.fit. -/
theorem C_nums {W : World} {g : Nat} {e : TypeId} {k : IntKind} (xs : List Int) (hm : xs.length ≤ 9223372036854775807) (h : W.heap[g]? = some (.cells (nums k xs).toArray e (0, 0))) : Kd.C (Kd.int k) W (some ⟨g, 0, none⟩) xs.length xs := by
  refine ⟨rfl, hm, fun _ => ⟨_, rfl, fun j p hj => ⟨[.int k p], rfl, rfl, fun i u hu => ?_⟩⟩⟩
  obtain ⟨rfl, rfl⟩ : i = 0 ∧ u = .int k p := by
    cases i with
    | zero => simp at hu; exact ⟨rfl, hu.symm⟩
    | succ i => simp at hu
  rw [add_plain, blk_cell h]
  show ((nums k xs).toArray)[j * 1 + 0]? = _
  rw [Nat.mul_one, Nat.add_zero, List.getElem?_toArray]
  simp [nums, hj]
theorem C_steps {W : World} {g : Nat} (xs : List S41) (hm : xs.length ≤ 9223372036854775807) (cs : List Value) (h : W.heap[g]? = some (.cells cs.toArray 41 (0, 0)))
    (hc : ∀ j s, xs[j]? = some s → ∃ A c, cs[j * 2]? = some (.bool s.f0) ∧ cs[j * 2 + 1]? = some (.slice A s.f1.length c) ∧ s.f1.length ≤ c ∧ Kd.C (Kd.int .i64) W A s.f1.length s.f1) : Kd.C k41 W (some ⟨g, 0, none⟩) xs.length xs := by
  refine ⟨rfl, hm, fun _ => ⟨_, rfl, fun j s hj => ?_⟩⟩
  obtain ⟨A, c, h1, h2, h3, h4⟩ := hc j s hj
  refine ⟨[.bool s.f0, .slice A s.f1.length c], rfl, k41_mk W s h3 h4, fun i u hu => ?_⟩
  rw [add_plain, blk_cell h]
  show (cs.toArray)[j * 2 + i]? = _
  rw [List.getElem?_toArray]
  match i, hu with
  | 0, hu => rw [Nat.add_zero, h1]; simpa using hu
  | 1, hu => rw [h2]; simpa using hu
  | i + 2, hu => simp at hu
theorem C_rows {W : World} {g : Nat} (xs : List (List Int)) (hm : xs.length ≤ 9223372036854775807) (cs : List Value) (h : W.heap[g]? = some (.cells cs.toArray 34 (0, 0)))
    (hc : ∀ (j : Nat) s, xs[j]? = some s → ∃ A c, cs[j]? = some (.slice A s.length c) ∧ s.length ≤ c ∧ Kd.C (Kd.int .i64) W A s.length s) : kRow.C W (some ⟨g, 0, none⟩) xs.length xs := by
  refine ⟨rfl, hm, fun _ => ⟨_, rfl, fun j s hj => ?_⟩⟩
  obtain ⟨A, c, h1, h3, h4⟩ := hc j s hj
  refine ⟨[.slice A s.length c], rfl, ⟨A, c, rfl, h3, h4⟩, fun i u hu => ?_⟩
  rw [add_plain, blk_cell h]
  show (cs.toArray)[j * 1 + i]? = _
  rw [List.getElem?_toArray]
  match i, hu with
  | 0, hu => rw [Nat.mul_one, Nat.add_zero, h1]; simpa using hu
  | i + 1, hu => simp at hu
theorem pc_one {W : World} {g : Nat} (p : PStep) (A : Option Addr) (c : Nat) (h : W.heap[g]? = some (.cells #[.bool p.del, .slice A p.lits.length c] 41 (0, 0))) (hc : p.lits.length ≤ c) (hC : Kd.C (Kd.int .i64) W A p.lits.length p.lits) : PC W (some ⟨g, 0, none⟩) [p] := by
  refine C_steps [ofP p] (by simp) [.bool p.del, .slice A p.lits.length c] h (fun j s hj => ?_)
  cases j with
  | zero =>
    simp only [List.getElem?_cons_zero, Option.some.injEq] at hj
    subst hj
    exact ⟨A, c, rfl, rfl, hc, hC⟩
  | succ j => simp at hj
theorem C_empty (w : World) (A : Option Addr) : Kd.C (Kd.int .i64) w A 0 [] := ⟨rfl, by simp, fun h => absurd h (by simp)⟩
def csFit : List (List Int) := [[1], [-1]]
theorem fit_unit {cs : List (List Int)} {y : Int} (h : [y] ∈ cs) : Der cs [] y := .unit h (by simp) (fun z hz hne => absurd (by simpa using hz) hne)
theorem fit_may : May csFit [] := .inl (.inl ⟨1, fit_unit (by simp [csFit]), fit_unit (by simp [csFit])⟩)
theorem fit_not : ¬ May [[-1]] [] := by
  rintro (h | h)
  · refine no_clash (K := fun x => x = -1) ⟨fun x hx => by simp [negs] at hx, fun c hc x hx _ => ?_⟩ (fun x h1 h2 => by omega) (fun c hc => ?_) h
    · simp only [List.mem_singleton] at hc; subst hc; simpa using hx
    · simp only [List.mem_singleton] at hc; subst hc; exact ⟨-1, by simp, by decide⟩
  · exact h
theorem fit_one : chkV 1 csFit ([⟨false, []⟩] : List S41) = .tuple #[.agg #[.bool true, .int .i64 0, .int .i64 (-1)], .int .i64 0] := by
  have h : chk csFit (pairs [⟨false, []⟩]) 0 = (0, -1) := by
    simp only [pairs, List.map_cons, List.map_nil, chk]
    rw [if_pos fit_may]
    simp
  unfold chkV
  rw [h, if_pos (by decide)]
  rfl
def psFit : List PStep := [⟨true, [1]⟩, ⟨false, []⟩]
theorem psFit_right : RightP psFit := fun s hs l hl => by
  simp only [psFit, List.mem_cons, List.not_mem_nil, or_false] at hs
  rcases hs with rfl | rfl
  · simp only [List.mem_singleton] at hl; subst hl; unfold RightL; omega
  · simp at hl
theorem psFit_text : textT psFit = [100, 32, 49, 32, 48, 10, 48, 10] := by decide +kernel
theorem fit_two : parsedV 1 csFit (optG (parseT [100, 32, 49, 32, 48, 10, 48, 10])) = .tuple #[.agg #[.bool false, .int .i64 (-1), .int .i64 1], .int .i64 0] := by
  rw [← psFit_text, parseT_textT psFit_right]
  have hrem : remP csFit [1] = [[-1]] := by decide
  have h : chk csFit (pairs (psFit.map ofP)) 0 = (-1, 1) := by
    simp only [psFit, ofP, pairs, List.map_cons, List.map_nil, chk]
    rw [hrem, if_neg fit_not]
    rfl
  show chkV 1 csFit (psFit.map ofP) = _
  unfold chkV
  rw [h, if_pos (by decide)]
  rfl
set_option maxRecDepth 100000 in
set_option maxHeartbeats 4000000 in
theorem fit_any (w : World) (E : Env w) : Calls Tryz.prog 9 #[] w (Said w (.bool true)) := by
  have hu := Tryz.underlying41
  obtain ⟨v, hv⟩ : ∃ v, v = (((((w.alloc (.cells #[.int .i64 1] 3)).alloc (.cells #[.int .i64 (-1)] 3)).alloc (.cells #[.slice (some ⟨w.heap.size, 0, none⟩) 1 1, .slice (some ⟨w.heap.size + 1, 0, none⟩) 1 1] 34)).alloc (.cells #[.int .i64 1, .slice (some ⟨w.heap.size + 1 + 1, 0, none⟩) 2 2] 30)).alloc (.cells #[.bool false, .slice none 0 0] 41)) := ⟨_, rfl⟩
  have b1 : v.heap[w.heap.size]? = some (.cells #[.int .i64 1] 3 (0, 0)) := by rw [hv]; exact blk_alloc (blk_alloc (blk_alloc (blk_alloc (blk_new w _) _) _) _) _
  have b2 : v.heap[w.heap.size + 1]? = some (.cells #[.int .i64 (-1)] 3 (0, 0)) := by
    have h := blk_new (w.alloc (.cells #[.int .i64 1] 3)) (.cells #[.int .i64 (-1)] 3)
    rw [World.size_alloc] at h
    rw [hv]; exact blk_alloc (blk_alloc (blk_alloc h _) _) _
  have b3 : v.heap[w.heap.size + 1 + 1]? = some (.cells #[.slice (some ⟨w.heap.size, 0, none⟩) 1 1, .slice (some ⟨w.heap.size + 1, 0, none⟩) 1 1] 34 (0, 0)) := by
    have h := blk_new ((w.alloc (.cells #[.int .i64 1] 3)).alloc (.cells #[.int .i64 (-1)] 3)) (.cells #[.slice (some ⟨w.heap.size, 0, none⟩) 1 1, .slice (some ⟨w.heap.size + 1, 0, none⟩) 1 1] 34)
    simp only [World.size_alloc] at h
    rw [hv]; exact blk_alloc (blk_alloc h _) _
  have b4 : v.heap[w.heap.size + 1 + 1 + 1]? = some (.cells #[.int .i64 1, .slice (some ⟨w.heap.size + 1 + 1, 0, none⟩) 2 2] 30 (0, 0)) := by
    have h := blk_new (((w.alloc (.cells #[.int .i64 1] 3)).alloc (.cells #[.int .i64 (-1)] 3)).alloc (.cells #[.slice (some ⟨w.heap.size, 0, none⟩) 1 1, .slice (some ⟨w.heap.size + 1, 0, none⟩) 1 1] 34)) (.cells #[.int .i64 1, .slice (some ⟨w.heap.size + 1 + 1, 0, none⟩) 2 2] 30)
    simp only [World.size_alloc] at h
    rw [hv]; exact blk_alloc h _
  have b5 : v.heap[w.heap.size + 1 + 1 + 1 + 1]? = some (.cells #[.bool false, .slice none 0 0] 41 (0, 0)) := by
    have h := blk_new ((((w.alloc (.cells #[.int .i64 1] 3)).alloc (.cells #[.int .i64 (-1)] 3)).alloc (.cells #[.slice (some ⟨w.heap.size, 0, none⟩) 1 1, .slice (some ⟨w.heap.size + 1, 0, none⟩) 1 1] 34)).alloc (.cells #[.int .i64 1, .slice (some ⟨w.heap.size + 1 + 1, 0, none⟩) 2 2] 30)) (.cells #[.bool false, .slice none 0 0] 41)
    simp only [World.size_alloc] at h
    rw [hv]; exact h
  have hb : Below w.heap.size w v := by rw [hv]; exact (((((Below.refl _ w).alloc (Nat.le_refl _) _).alloc (by simp) _).alloc (by simp; omega) _).alloc (by simp; omega) _).alloc (by simp; omega) _
  have hF : FormI v 1 (some ⟨w.heap.size + 1 + 1, 0, none⟩) csFit := ⟨by omega, C_rows csFit (by decide) _ b3 (fun j s hj => by
      match j, hj with
      | 0, hj => simp only [csFit, List.getElem?_cons_zero, Option.some.injEq] at hj; subst hj; exact ⟨_, _, rfl, Nat.le_refl _, C_nums [1] (by simp) b1⟩
      | 1, hj => simp only [csFit, List.getElem?_cons_succ, List.getElem?_cons_zero, Option.some.injEq] at hj; subst hj; exact ⟨_, _, rfl, Nat.le_refl _, C_nums [-1] (by simp) b2⟩
      | j + 2, hj => simp [csFit] at hj), by
    intro c hc x hx
    simp only [csFit, List.mem_cons, List.not_mem_nil, or_false] at hc
    rcases hc with rfl | rfl
    · simp only [List.mem_singleton] at hx; subst hx; decide
    · simp only [List.mem_singleton] at hx; subst hx; decide, by
    intro c hc
    simp only [csFit, List.mem_cons, List.not_mem_nil, or_false] at hc
    rcases hc with rfl | rfl <;> simp, by decide⟩
  have hS : PC v (some ⟨w.heap.size + 1 + 1 + 1 + 1, 0, none⟩) [⟨false, []⟩] := pc_one ⟨false, []⟩ none 0 b5 (Nat.le_refl _) (C_empty v none)
  have C1 := p_check hF 2 (some ⟨w.heap.size + 1 + 1 + 1 + 1, 0, none⟩) 1 [⟨false, []⟩] hS (by simp) (fun s hs => by simp only [List.mem_singleton] at hs; subst hs; simp)
  rw [show chkV 1 csFit (([⟨false, []⟩] : List PStep).map ofP) = _ from fit_one] at C1
  have C2 := fun W (hW : Below v.heap.size v W) => p_ctext (hF.below hW) 2 [100, 32, 49, 32, 48, 10, 48, 10] (by decide) (E.below (below_step hb hW))
  simp only [fit_two] at C2
  have HB := Aside0.mk hb
  have HC2 := Aside0.mk C2
  have HV := Aside0.mk hv
  have k4 : v.cell? ⟨w.heap.size + 1 + 1 + 1, 0, none⟩ = some (.int .i64 1) := (blk_cell b4 0).trans rfl
  have k5 : v.cell? ⟨w.heap.size + 1 + 1 + 1, 1, none⟩ = some (.slice (some ⟨w.heap.size + 1 + 1, 0, none⟩) 2 2) := (blk_cell b4 1).trans rfl
  clear C2 E hF hS hv b1 b2 b3 b4 b5 hb
  go_enter Tryz.func9, Tryz.ntmps9
  go_wp2_with fail
  rw [← HV.out]
  refine C1.mono ?_
  rintro e w2 ⟨rfl, hb2⟩
  have HB2 := Aside0.mk hb2
  have k6 := (hb2.cell (World.block_lt_of_cell? v _ k4)).trans k4
  have k7 := (hb2.cell (World.block_lt_of_cell? v _ k5)).trans k5
  have k8 := fun o => cell_more k6 o
  have k9 := fun o => cell_more k7 o
  clear k4 k5 hb2
  go_wp2_with (go_at_call 23
               refine (HC2.out _ (below_alloc HB2.out _)).mono ?_
               rintro e w3 ⟨rfl, hb3⟩
               have HB3 := Aside0.mk (below_step (below_step HB.out (below_alloc HB2.out _)) hb3)
               have r0 : w3.cell? ⟨w2.heap.size, 0, none⟩ = some (.bool true) := ((hb3.cell (p := ⟨w2.heap.size, 0, none⟩) (by simp)).trans (blk_cell (blk_new w2 (.cells #[.bool true, .int .i64 0, .int .i64 (-1)] 43)) 0)).trans rfl
               have s0 := fun o => cell_more r0 o
               have r1 : w3.cell? ⟨w2.heap.size, 1, none⟩ = some (.int .i64 0) := ((hb3.cell (p := ⟨w2.heap.size, 1, none⟩) (by simp)).trans (blk_cell (blk_new w2 (.cells #[.bool true, .int .i64 0, .int .i64 (-1)] 43)) 1)).trans rfl
               have s1 := fun o => cell_more r1 o
               have r2 : w3.cell? ⟨w2.heap.size, 2, none⟩ = some (.int .i64 (-1)) := ((hb3.cell (p := ⟨w2.heap.size, 2, none⟩) (by simp)).trans (blk_cell (blk_new w2 (.cells #[.bool true, .int .i64 0, .int .i64 (-1)] 43)) 2)).trans rfl
               have s2 := fun o => cell_more r2 o
               clear hb3)
  go_ret
  exact ⟨rfl, below_alloc HB3.out _⟩
end Go.Proofs.YtcblijcalhaffaaGreatDoor
