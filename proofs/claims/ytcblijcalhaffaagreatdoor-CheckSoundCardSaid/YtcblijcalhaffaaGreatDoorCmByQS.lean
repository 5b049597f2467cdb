import Derived.RangeFuncNested
import Derived.RangeFuncBound
import Derived.RangeFuncCalls
import Derived.RangeFuncLeaves
import Derived.RowKit
import Derived.WalkKit
import Derived.Test.YtcblijcalhaffaaGreatDoorCmStoreQS
import Derived.Shelf.Abstract
import Derived.Shelf.RegionOpen
import Derived.OwnWalkIn
import Derived.TacticsInMore
import Derived.LoopNIn
import Derived.LoopIn
import Derived.Sort.LoopGhostIn
namespace Go.Proofs.YtcblijcalhaffaaGreatDoor
open Go Go.RowKit

/-! A range over a function whose body is told what lies at its element (Ok), round by round. -/
section
variable {P : Program} {F : Fence} {n : Nat}
/-- The stability that a loop's words must have: blocks that are no cells, from B on, may turn. -/
def Firm (B : Nat) (I : World → Prop) : Prop := ∀ (W : World) (l : Nat) (o o' : Obj), B ≤ l → W.heap[l]? = some o → o.isCells = false → I W → I (W.putObj l o')
/-- How a round's body may be left: it goes on, or it returns. -/
def leftO (n₀ : Nat) (I Ix : World → Prop) (W : World) : Exit → Act → World → Prop
  | .normal, _, W' => KeepsOthers W W' ∧ Below n₀ W W' ∧ I W'
  | .ret, _, W' => KeepsOthers W W' ∧ Ix W'
  | _, _, _ => False
/-- The iterator's word: N rounds at most, each told of its element; what it keeps between them. -/
def Told (F : Fence) (n : Nat) (P : Program) (gf : Nat) (lb : Array Value) (n₀ N : Nat) (skip : Nat → Prop) (Ok : Nat → Value → World → Prop) (w : World) : Prop :=
  ∀ (l : Nat) (J : Nat → World → Prop) (Jx : World → Prop) (W : World), Below w.heap.size w W →
    (∀ i V V', J i V → Below V.heap.size V V' → J i V') → (∀ i V, i < N → skip i → J i V → J (i + 1) V) →
    (∀ i x V, i < N → Ok i x V → J i V → YieldAt F (n - 1) P l #[x] V fun e V' => (e = .returned (.bool true) ∧ J (i + 1) V' ∧ Below n₀ V V') ∨ (e = .returned (.bool false) ∧ Jx V')) →
    J 0 W → CallsIn F n P gf (#[.func (.yield l) #[] #[]] ++ lb) W fun e V' => (∃ v, e = .returned v) ∧ (J N V' ∨ Jx V')
theorem wpIn_range_told {g : Operand} {p : Tmp} {assign body : Code} {Q : Exit → Act → World → Prop} {a : Act} {w : World}
    (hro : F.round = none) (h1 : 1 ≤ n) {gf : Nat} {lb : Array Value} (hg : a.eval g = .func (.func gf) #[] lb) (hFg : F.fn gf) (eg : ∀ args w, (callFunc gf args).run P w = .ok (.enter gf args) w)
    {n₀ N : Nat} {skip : Nat → Prop} {Ok : Nat → Value → World → Prop} (hn0 : n₀ ≤ w.heap.size) (hseq : Told F (n - 1) P gf lb n₀ N skip Ok w)
    (I : Nat → World → Prop) (Ix : World → Prop) (hI : ∀ i, Firm w.heap.size (I i)) (hIx : Firm w.heap.size Ix) (hOk : ∀ i x, Firm w.heap.size (Ok i x))
    (hIb : ∀ i V V', I i V → Below V.heap.size V V' → I i V') (hsk : ∀ i V, i < N → skip i → I i V → I (i + 1) V) (h0 : I 0 w) (a₁ : Value → Act)
    (hassign : ∀ (l : Nat) (x : Value) (W : World) (K : Act → World → Prop), K (a₁ x) W →
      assign.wpIn (F.inRound l) (n - 1 - 1) P (Exit.then K (fun _ _ _ => False)) { tmps := a.tmps.setIfInBounds p x, defers := [] } W)
    (hbody : ∀ (l i : Nat) (x : Value) (W : World), i < N → Ok i x W → I i W → body.wpIn (F.inRound l) (n - 1 - 1) P (leftO n₀ (I (i + 1)) Ix W) (a₁ x) W)
    (hdone : ∀ (D : Nat) (W : World), w.heap.size ≤ D → I N W → W.heap[D]? = some (.deferred (some [])) → Q .normal { a with defers := { target := .collected D, args := #[] } :: a.defers } W)
    (hstop : ∀ (D : Nat) (W : World), w.heap.size ≤ D → Ix W → W.heap[D]? = some (.deferred (some [])) → Code.ret.wpIn F n P Q { a with defers := { target := .collected D, args := #[] } :: a.defers } W) :
    (Code.rangeFunc g #[p] assign body).wpIn F n P Q a w := by
  refine wpIn_rangeFunc fun fn hfn => ?_
  rw [hro]
  let R : LoopState → Option Code → Loop := fun st pe => { state := st, pending := pe, fn, tmps := a.tmps, params := #[p], assign, body, defers := w.heap.size }
  let W1 : World := (w.alloc (.deferred (some []))).alloc (.loop (R .ready none))
  have hb1 : Below w.heap.size w W1 := ((Below.refl _ w).alloc (Nat.le_refl _) _).alloc (by simp) _
  have hL1 : W1.heap[w.heap.size + 1]? = some (.loop (R .ready none)) := by
    have := World.alloc_heap_new (w.alloc (.deferred (some []))) (.loop (R .ready none)); rwa [World.size_alloc] at this
  have hK1 : W1.heap[w.heap.size]? = some (.deferred (some [])) := (Below.heap_alloc _ _ _ (by simp)).trans (World.alloc_heap_new w _)
  refine ⟨w.heap.size + 1, [{ target := .collected w.heap.size, args := #[] }], W1, { target := .fn (.func gf) lb, args := #[.func (.yield (w.heap.size + 1)) #[] #[]] }, W1, gf,
    #[.func (.yield (w.heap.size + 1)) #[] #[]] ++ lb, W1, run_enterLoop_outer _ _ _ _ _, ?_, ?_, ?_, fun _ => h1, ?_⟩
  · simp only [resolve, hg]; simp [go_sem]
  · intro f' hf'; simp [Target.leads] at hf'; subst hf'; exact hFg
  · simp [invoke, go_sem, eg]
  let Bk : LoopState → Option Code → World → Prop := fun st pe V => V.heap[w.heap.size + 1]? = some (.loop (R st pe)) ∧ V.heap[w.heap.size]? = some (.deferred (some []))
  have hBb : ∀ st pe V V', Bk st pe V → Below V.heap.size V V' → Bk st pe V' := fun st pe V V' ⟨h2, h3⟩ hb =>
    ⟨(hb.block _ (Array.getElem?_eq_some_iff.1 h2).1).trans h2, (hb.block _ (Array.getElem?_eq_some_iff.1 h3).1).trans h3⟩
  refine (hseq (w.heap.size + 1) (fun i V => I i V ∧ Bk .ready none V) (fun V => Ix V ∧ Bk .done (some .ret) V) W1 hb1
    (fun i V V' h hb => ⟨hIb i V V' h.1 hb, hBb _ _ V V' h.2 hb⟩) (fun i V hi hs h => ⟨hsk i V hi hs h.1, h.2⟩) ?_ ⟨hIb 0 w W1 h0 hb1, hL1, hK1⟩).mono ?_
  · rintro i x V hi hx ⟨hIi, hl, hk⟩
    have hlt : w.heap.size + 1 < V.heap.size := (Array.getElem?_eq_some_iff.1 hl).1
    have hy0 := run_yield (P := P) (args := #[x]) hl (by rfl)
    have hy : (Instr.yield (w.heap.size + 1) #[x]).run P V = .ok (.round (w.heap.size + 1) fn (a.tmps.setIfInBounds p x) assign body) V := by rw [hy0]; simp [R]
    refine ⟨fn, a.tmps.setIfInBounds p x, assign, body, hy, roundIn_of_wpIn hfn (hassign _ x V _ ⟨_, run_beginRound hl rfl, ?_⟩)⟩
    let B2 : Obj := .loop { R .ready none with state := .busy }
    have hl2 : (V.putObj (w.heap.size + 1) B2).heap[w.heap.size + 1]? = some B2 := World.putObj_heap_same hlt
    have hk2 : (V.putObj (w.heap.size + 1) B2).heap[w.heap.size]? = some (.deferred (some [])) := (World.putObj_heap_other (by omega)).trans hk
    have hw2 : Below n₀ V (V.putObj (w.heap.size + 1) B2) := belowK_b (w := w) hn0 V _ _ _ (by omega) hl rfl rfl
    refine wpIn_mono (hbody _ i x _ hi (hOk i x V _ _ _ (by omega) hl rfl hx) (hI i V _ _ _ (by omega) hl rfl hIi)) ?_
    rintro e a3 W3 hp
    cases e with
    | normal =>
      obtain ⟨hk3, hb3, hi3⟩ := hp
      have hl3 := hk3.same _ _ hl2 rfl
      have hr := run_endRound (P := P) none hl3
      refine ⟨_, _, hr, .inl ⟨rfl, ⟨hI _ W3 _ _ _ (by omega) hl3 rfl hi3, World.putObj_heap_same (Array.getElem?_eq_some_iff.1 hl3).1, (World.putObj_heap_other (by omega)).trans (hk3.same _ _ hk2 rfl)⟩, ?_⟩⟩
      exact (hw2.trans hb3).trans (belowK_b (w := w) hn0 W3 _ _ _ (by omega) hl3 rfl rfl)
    | ret =>
      obtain ⟨hk3, hi3⟩ := hp
      have hl3 := hk3.same _ _ hl2 rfl
      have hr := run_endRound (P := P) (some .ret) hl3
      exact ⟨_, _, hr, .inr ⟨rfl, hIx W3 _ _ _ (by omega) hl3 rfl hi3, World.putObj_heap_same (Array.getElem?_eq_some_iff.1 hl3).1, (World.putObj_heap_other (by omega)).trans (hk3.same _ _ hk2 rfl)⟩⟩
    | exit id => exact hp.elim
    | goto t => exact hp.elim
    | panic ch => exact hp.elim
    | outgrown => exact hp.elim
  · rintro e W2 ⟨⟨v, rfl⟩, (⟨hi, hl, hk⟩ | ⟨hi, hl, hk⟩)⟩
    · exact ⟨none, _, run_endLoop (P := P) hl (by simp [R]), hdone _ _ (Nat.le_refl _) (hI _ W2 _ _ _ (by omega) hl rfl hi) ((World.putObj_heap_other (by omega)).trans hk)⟩
    · exact ⟨some .ret, _, run_endLoop (P := P) hl (by simp [R]), hstop _ _ (Nat.le_refl _) (hIx W2 _ _ _ (by omega) hl rfl hi) ((World.putObj_heap_other (by omega)).trans hk)⟩
end
end Go.Proofs.YtcblijcalhaffaaGreatDoor
namespace Go.Proofs.YtcblijcalhaffaaGreatDoor
open Go Go.BigFrame Go.RowKit Go.Proofs.YtcblijcalhaffaaGreatDoorW.PrintWords Go.Proofs.YtcblijcalhaffaaGreatDoorW.PrintLast Go.Proofs.YtcblijcalhaffaaGreatDoorW.PrintMore PCheckSound
open Go.Sort Go.Shelf
attribute [local go_sem] Oper.semAt_some

/-! rup.Store.With, and its iterator; what check.By does in a round. -/
/-- slices.DeleteFunc by check.By's closure. -/
theorem delF_any (x0 : Int) (hx0 : -1000000 ≤ x0 ∧ x0 ≤ 1000000) (pb n c : Nat) (ad : Addr) (hn : 0 < n) (A : Option Addr) (cap B : Nat) (xs : List Int) (w : World) (ho : OwnI w B A cap xs) (hne : xs ≠ []) (hlen : xs.length ≤ 1000000000)
    (h1 : w.cell? ⟨pb, 0, none⟩ = some (.slice (some ad) n c)) (h2 : w.cell? ad = some (.int .i64 x0)) (hB : pb < B ∧ ad.block < B) :
    Calls Tryz.prog 36 #[.slice A xs.length cap, .func (.func 37) #[] #[.pointer (some ⟨pb, 0, none⟩)]] w fun e w' => e = .returned (.slice A (xs.filter fun x => !decide (x = -x0)).length cap) ∧ OwnI w' B A cap (xs.filter fun x => !decide (x = -x0)) ∧ Below B w w' ∧ w.grownBy w' (Value.slice A xs.length cap).ownBlock := by
  rcases ho.cases with rfl | ⟨g, rfl, hg, h3, h4, hH⟩
  · exact absurd rfl hne
  · have eg : ∀ args w, (callFunc 37 args).run Tryz.prog w = .ok (.enter 37 args) w := enters_of Tryz.func37 (by kernel_rfl) rfl
    have hgB : B ≤ g := own_base ho g rfl
    have hcl : ∀ W x, W.cell? ⟨pb, 0, none⟩ = some (.slice (some ad) n c) → W.cell? ad = some (.int .i64 x0) → FnGives Tryz.prog 37 #[.pointer (some ⟨pb, 0, none⟩)] #[.int .i64 x] (.bool (decide (x = -x0))) W := fun W x g1 g2 =>
      (by1_quiet x x0 hx0 pb n c ad W g1 hn g2)
    have hp : PredAt Tryz.prog 37 #[.pointer (some ⟨pb, 0, none⟩)] (Value.int .i64) (fun x => decide (x = -x0)) w := fun W x hb =>
      hcl W x ((hb.cell (p := ⟨pb, 0, none⟩) (World.block_lt_of_cell? w _ h1)).trans h1) ((hb.cell (World.block_lt_of_cell? w _ h2)).trans h2)
    have hsw : ∀ (k : Nat) (os : Array Obj) (dk : Array Int) (a : Addr) v, a.block < B → w.cell? a = some v → (sortWorld (Value.int .i64) w g 0 k dk os).cell? a = some v := fun k os dk a v hlt hc => by
      have hbl : (sortWorld (Value.int .i64) w g 0 k dk os).heap[a.block]? = w.heap[a.block]? := by
        have h5 : a.block < w.heap.size := World.block_lt_of_cell? w _ hc
        have hsz : (putRow (Value.int .i64) (Sort.ahead w k) g 0 dk).heap.size = w.heap.size := by unfold putRow mapBlock; simp [Sort.ahead]
        unfold sortWorld grow
        rw [Array.getElem?_append_left (by rw [hsz]; exact h5), putRow_far _ _ _ _ _ (by omega)]
        rfl
      rw [World.cell?_of_block hbl]; exact hc
    have hpo : PredOver Tryz.prog 37 #[.pointer (some ⟨pb, 0, none⟩)] (Value.int .i64) (fun x => decide (x = -x0)) g 0 xs.toArray.size w := fun k os dk x _ =>
      hcl _ x (hsw k os dk _ _ hB.1 h1) (hsw k os dk _ _ hB.2 h2)
    have hD := Tryz.slices_DeleteFunc (Value.int .i64) (fun _ => rfl) (fun x => decide (x = -x0)) 37 #[.pointer (some ⟨pb, 0, none⟩)] eg 0 Tryz.zeroValue3 g 0 cap xs.toArray w hp hpo hH (by simp; omega) (by simp; omega)
    rw [List.size_toArray] at hD
    simp only at hD
    refine hD.mono ?_
    rintro e w1 ⟨rfl, q, rfl⟩
    have hle : (xs.filter fun x => !decide (x = -x0)).length ≤ xs.length := List.length_filter_le _ _
    obtain ⟨o1, o2⟩ := own_put (ys := (xs.filter fun x => !decide (x = -x0)) ++ List.replicate (xs.length - (xs.filter fun x => !decide (x = -x0)).length) 0) ho (by simp; omega) q #[]
    rw [grow_empty] at o1 o2
    have h6 := own_take o1 (m := (xs.filter fun x => !decide (x = -x0)).length) hle
    refine ⟨rfl, ?_, o2, ⟨rfl, rfl, rfl, o2.size, fun k hk hne2 => ?_⟩⟩
    · unfold OwnI
      have e1 : (List.map (Value.int .i64) ((xs.filter fun x => !decide (x = -x0)) ++ List.replicate (xs.length - (xs.filter fun x => !decide (x = -x0)).length) 0)).take ((xs.filter fun x => !decide (x = -x0)).length * 1) = i64s (xs.filter fun x => !decide (x = -x0)) := by
        rw [Nat.mul_one, List.map_append, List.take_left' (by simp)]; rfl
      rw [e1] at h6
      exact h6
    · exact putRow_far _ _ _ _ _ (fun e => hne2 (by rw [e]; rfl))
set_option maxRecDepth 100000 in
set_option maxHeartbeats 4000000 in
theorem with_any (b : Nat) (x : Int) (w : World) : Calls Tryz.prog 35 #[.pointer (some ⟨b, 0, none⟩), .int .i64 x] w fun e w' => e = .returned (.func (.func 55) #[] #[.pointer (some ⟨w.heap.size, 0, none⟩), .pointer (some ⟨w.heap.size + 1, 0, none⟩)]) ∧ w' = (w.alloc (.cells #[.pointer (some ⟨b, 0, none⟩)] 32)).alloc (.cells #[.int .i64 x] 3) := by
  go_enter Tryz.func35, Tryz.ntmps35
  go_wp2
  go_ret
  exact ⟨rfl, rfl⟩
end Go.Proofs.YtcblijcalhaffaaGreatDoor
namespace Go.Proofs.YtcblijcalhaffaaGreatDoor
open Go Go.BigFrame Go.RowKit Go.Proofs.YtcblijcalhaffaaGreatDoorW.PrintWords Go.Proofs.YtcblijcalhaffaaGreatDoorW.PrintLast Go.Proofs.YtcblijcalhaffaaGreatDoorW.PrintMore PCheckSound
open Go.Sort Go.Shelf
attribute [local go_sem] Oper.semAt_some

/-! The iterator of rup.Store.With. -/
/-- What a round is told: its clause, in memory of its own. -/
def OkC (n₀ : Nat) (cs : List (List Int)) (x : Int) (i : Nat) (v : Value) (W : World) : Prop := x ∈ nth cs [] i ∧ ∃ A cap, v = .slice A (nth cs [] i).length cap ∧ OwnI W n₀ A cap (nth cs [] i)

set_option maxRecDepth 100000 in
set_option maxHeartbeats 4000000 in
theorem with1_told (n b1 b2 b V : Nat) (x : Int) (cs : List (List Int)) (w : World) (hn : 1 ≤ n) (h1 : w.cell? ⟨b1, 0, none⟩ = some (.pointer (some ⟨b, 0, none⟩))) (h2 : w.cell? ⟨b2, 0, none⟩ = some (.int .i64 x)) (hS : RS w b V cs) (hl : ∀ c ∈ cs, c.length ≤ 1000000000) :
    Told Fence.wide n Tryz.prog 55 #[.pointer (some ⟨b1, 0, none⟩), .pointer (some ⟨b2, 0, none⟩)] w.heap.size cs.length (fun i => x ∉ nth cs [] i) (OkC w.heap.size cs x) w := by
  intro l J Jx W hW hJb hsk hY hJ0
  obtain ⟨SA, scap, g1, g2⟩ := hS
  have hm := g2.2.1
  have HG1 := Aside0.mk g1
  have HG2 := Aside0.mk g2
  have H1 := Aside0.mk h1
  have H2 := Aside0.mk h2
  have HL := Aside0.mk hl
  have HJB := Aside0.mk hJb
  have HSK := Aside0.mk hsk
  have HY := Aside0.mk hY
  have HJ0 := Aside0.mk hJ0
  have HW := Aside0.mk hW
  clear g1 g2 h1 h2 hl hJb hsk hY hJ0 hW
  refine callsIn_of_wp Tryz.func55 rfl trivial ?_ rfl
  simp only [Tryz.ntmps55, List.size_toArray, List.length_cons, List.length_nil, Nat.reduceAdd, Nat.reduceSub, Array.replicate_succ, Array.replicate_zero, List.push_toArray, List.append_toArray, List.nil_append, List.cons_append]
  gi_wp2
  gi_loopg [4] cs.length (fun gk v4 w' => ∃ j : Nat, v4 = .int .i64 j ∧ j + gk = cs.length ∧ Aside0 (J j w') ∧ Aside0 (Below w.heap.size w w'))
  case atStart => exact ⟨0, rfl, by omega, HJ0, HW⟩
  case round =>
    clear HJ0 HW
    obtain ⟨j, rfl, hj, HJ, HB⟩ := hrel
    have m1 : wr.cell? ⟨b1, 0, none⟩ = some (.pointer (some ⟨b, 0, none⟩)) := (HB.out.cell (World.block_lt_of_cell? w _ H1.out)).trans H1.out
    have m3 : wr.cell? ⟨b, 1, none⟩ = some (.slice SA cs.length scap) := (HB.out.cell (p := ⟨b, 1, none⟩) (blk_lt HG1.out)).trans (blk_cell HG1.out 1)
    by_cases hjl : j < cs.length
    · obtain ⟨ad, A1, c1, e0, hx, hl1, hi1⟩ := at_row HG2.out j hjl
      cases e0
      replace hx := (HB.out.cell (World.block_lt_of_cell? w _ hx)).trans hx
      have m2 : wr.cell? ⟨b2, 0, none⟩ = some (.int .i64 x) := (HB.out.cell (World.block_lt_of_cell? w _ H2.out)).trans H2.out
      have q1 : ((j : Int) < (cs.length : Int)) = True := eq_true (by omega)
      have q2 : (0 ≤ (j : Int)) = True := eq_true (by omega)
      have CH := hasI_any A1 c1 (nth cs [] j) x wr (Kd.C_below hi1 HB.out)
      have HI1 := Aside0.mk hi1
      have HLJ := Aside0.mk (HL.out _ (nth_mem hjl []))
      clear hi1 hl1
      by_cases hin : x ∈ nth cs [] j
      · rw [decide_eq_true hin] at CH
        have HYJ := Aside0.mk (fun v V => HY.out j v V hjl)
        unfold OkC at HYJ
        generalize nth cs [] j = c at *
        gi_wp2_with (refine ⟨trivial, ?_⟩; gi_at_call 56; refine (callsIn_wide.2 CH).mono ?_; rintro e w2 ⟨rfl, hb2⟩)
        refine ⟨trivial, ?_⟩
        refine (callsIn_wide.2 (clone_any A1 c1 c w2 (Kd.C_below HI1.out (below_step HB.out hb2)) (by have := HLJ.out; omega))).mono ?_
        rintro e w3 ⟨A7, c7, rfl, ho, hb3⟩
        have hb13 := below_step hb2 hb3
        have hBn : w.heap.size ≤ w2.heap.size := Nat.le_trans HB.out.size hb2.size
        obtain ⟨fn, tmps, assign, body, hy, hR⟩ := HYJ.out (.slice A7 c.length c7) w3 ⟨hin, A7, c7, rfl, by
          unfold OwnI at ho ⊢
          exact own_weaken ho hBn⟩ (HJB.out j wr w3 HJ.out hb13)
        have HR := Aside0.mk hR
        have HB3 := Aside0.mk (below_step HB.out hb13)
        clear ho hb2 hb3 hb13 hR
        gi_wp2
        refine HR.out.mono ?_
        rintro e w4 (⟨rfl, hJ4, hb4⟩ | ⟨rfl, hJx⟩)
        · have HJ4 := Aside0.mk hJ4
          have HB4 := Aside0.mk (HB3.out.trans hb4)
          clear hJ4 hb4 hy HR HB3 HB HJ m1 m2 m3 hx
          gi_wp2
          gi_roundg (cs.length - (j + 1))
          case measure => omega
          case rel => exact ⟨j + 1, by go_num, by omega, HJ4, HB4⟩
        · have HJX := Aside0.mk hJx
          clear hJx hy HR m1 m2 m3 hx
          gi_wp2
          refine bodyPost_ret (results_none rfl _ _ _) rfl ?_
          exact ⟨⟨_, rfl⟩, .inr HJX.out⟩
      · rw [decide_eq_false hin] at CH
        have HJ2 := Aside0.mk (fun V => HSK.out j V hjl hin)
        generalize nth cs [] j = c at *
        gi_wp2_with (refine ⟨trivial, ?_⟩; gi_at_call 56; refine (callsIn_wide.2 CH).mono ?_; rintro e w2 ⟨rfl, hb2⟩; have HJ3 := Aside0.mk (HJ2.out w2 (HJB.out j wr w2 HJ.out hb2)); have HB3 := Aside0.mk (below_step HB.out hb2); clear hb2)
        refine ⟨trivial, ?_⟩
        gi_wp2
        refine ⟨fun _ h => (by cases h), ?_⟩
        gi_wp2
        gi_roundg (cs.length - (j + 1))
        case measure => omega
        case rel => exact ⟨j + 1, by go_num, by omega, HJ3, HB3⟩
    · have q1 : ((j : Int) < (cs.length : Int)) = False := eq_false (by omega)
      obtain rfl : j = cs.length := by omega
      gi_wp2
      first
        | (go_end0; exact ⟨⟨_, rfl⟩, .inl HJ.out⟩)
        | (refine bodyPost_ret (results_none rfl _ _ _) rfl ?_; exact ⟨⟨_, rfl⟩, .inl HJ.out⟩)
end Go.Proofs.YtcblijcalhaffaaGreatDoor
namespace Go.Proofs.YtcblijcalhaffaaGreatDoor
open Go Go.BigFrame Go.RowKit Go.Proofs.YtcblijcalhaffaaGreatDoorW.PrintWords Go.Proofs.YtcblijcalhaffaaGreatDoorW.PrintLast Go.Proofs.YtcblijcalhaffaaGreatDoorW.PrintMore PCheckSound
open Go.Sort Go.Shelf
attribute [local go_sem] Oper.semAt_some

/-! check.By. -/
open Classical in
noncomputable def blkB (cs : List (List Int)) (c : List Int) : Bool := decide (Blocked cs c)
/-- What By asks of one clause. -/
def asks (c : List Int) (x0 : Int) (d : List Int) : List Int := c ++ d.filter fun x => !decide (x = -x0)
open Classical in
theorem blkB_of {cs : List (List Int)} {p : Int} {r : List Int} : blkB cs (p :: r) = true ↔ ∀ k, k < cs.length → -p ∈ nth cs [] k → impB cs (asks (p :: r) p (nth cs [] k)) = true := by
  unfold blkB
  rw [decide_eq_true_iff]
  have e : ∀ d, asks (p :: r) p d = (p :: r) ++ d.filter fun x => x ≠ -p := fun d => by
    unfold asks
    congr 2
    funext x
    simp
  constructor
  · intro h k hk hin
    unfold impB
    rw [decide_eq_true_iff, e]
    exact h _ (nth_mem hk []) hin
  · intro h d hd hin
    obtain ⟨k, hk, rfl⟩ := List.mem_iff_getElem.1 hd
    have h1 := h k hk
    have en : nth cs [] k = cs[k] := by unfold nth; rw [List.getD_eq_getElem?_getD, List.getElem?_eq_getElem hk]; rfl
    rw [en] at h1
    have h2 := h1 hin
    unfold impB at h2
    rw [decide_eq_true_iff, e] at h2
    exact h2
theorem blkB_nil (cs : List (List Int)) : blkB cs [] = false := by
  unfold blkB
  exact @decide_eq_false _ (Classical.propDecidable _) (fun h => h)
/-- What stands between two rounds. -/
structure ByI (w : World) (pb b : Nat) (cv : Value) (rv : Bool) (W : World) : Prop where
  s : W.heap[pb]? = some (.cells #[.pointer (some ⟨b, 0, none⟩)] 32 (0, 0))
  c : W.heap[pb + 1]? = some (.cells #[cv] 34 (0, 0))
  r : W.heap[pb + 2]? = some (.cells #[.bool rv] 4 (0, 0))
  b : Below w.heap.size w W
theorem ByI.firm {w : World} {pb b B : Nat} {cv : Value} {rv : Bool} (hB : pb + 2 < B) (hw : w.heap.size ≤ pb) : Firm B (ByI w pb b cv rv) := fun W l o o' hl ho hc h => by
  have hlt : l < W.heap.size := (Array.getElem?_eq_some_iff.1 ho).1
  exact ⟨(World.putObj_heap_other (by omega)).trans h.s, (World.putObj_heap_other (by omega)).trans h.c, (World.putObj_heap_other (by omega)).trans h.r,
    h.b.trans ((Below.refl _ W).grown (grownBy_putObj' W l o') (by omega) (fun k e => by cases e; omega))⟩
theorem ByI.below {w : World} {pb b : Nat} {cv : Value} {rv : Bool} {V V' : World} (h : ByI w pb b cv rv V) (hb : Below V.heap.size V V') : ByI w pb b cv rv V' :=
  ⟨(hb.block _ (blk_lt h.s)).trans h.s, (hb.block _ (blk_lt h.c)).trans h.c, (hb.block _ (blk_lt h.r)).trans h.r, below_step h.b hb⟩
theorem ByI.kept {w : World} {pb b B : Nat} {cv : Value} {rv : Bool} {V V' : World} (h : ByI w pb b cv rv V) (hB : pb + 2 < B) (hw : w.heap.size ≤ pb) (hb : Below B V V') : ByI w pb b cv rv V' :=
  ⟨(hb.block _ (by omega)).trans h.s, (hb.block _ (by omega)).trans h.c, (hb.block _ hB).trans h.r, h.b.trans (hb.mono (by omega))⟩
theorem ByI.put {w : World} {pb b : Nat} {cv : Value} {rv : Bool} {V : World} (h : ByI w pb b cv rv V) (u : Bool) (hw : w.heap.size ≤ pb := by exact Nat.le_refl _) : ByI w pb b cv u (V.setCell ⟨pb + 1 + 1, 0, none⟩ (.bool u)) :=
  ⟨blk_far h.s (by simp; omega) _, blk_far h.c (by simp) _, blk_put h.r 0 (.bool u) rfl, h.b.setCell (p := ⟨pb + 1 + 1, 0, none⟩) (by simp; omega) _⟩
theorem OkC.firm {n₀ B : Nat} {cs : List (List Int)} {x : Int} (i : Nat) (v : Value) : Firm B (OkC n₀ cs x i v) := fun W l o o' hl ho hc ⟨h1, A, cap, h2, h3⟩ => by
  refine ⟨h1, A, cap, h2, own_move h3 fun k hk => World.putObj_heap_other fun e => ?_⟩
  obtain ⟨cells, h4⟩ := own_typed h3 k hk
  rw [e] at h4
  rw [h4] at ho
  cases ho
  cases hc

theorem RS.belowW {w W : World} {b V : Nat} {cs : List (List Int)} (h : RS w b V cs) (hb : Below w.heap.size w W) : RS W b V cs := h.below hb
set_option maxRecDepth 100000 in
/-- An append of a row in memory of its own (Clone's) and a row that lies apart. -/
theorem app_two {c d : List Int} {B : Nat} (hc : c.length ≤ 100000000) (hd : d.length ≤ 100000000) (w2 w3 : World) (A8 : Option Addr) (c8 g7 c7 : Nat) (ho3 : OwnI w3 w2.heap.size A8 c8 c) (hb3 : Below w2.heap.size w2 w3) (ho2 : OwnI w2 B (some ⟨g7, 0, none⟩) c7 d) :
    ∃ A6 c6 w6, (Builtin.append_ #[34, 34] 34 #[.slice A8 c.length c8, .slice (some ⟨g7, 0, none⟩) d.length c7]).run Tryz.prog w3 = .ok (.slice A6 (c ++ d).length c6) w6 ∧ OwnI w6 w2.heap.size A6 c6 (c ++ d) ∧ Below w2.heap.size w3 w6 := by
  obtain ⟨ii, hi, he⟩ := Option.map_eq_some_iff.1 int_info
  injection he with e1 e2
  injection e2 with e2 e3
  obtain ⟨v', w6, h1, h2, h3, _⟩ := run_append_own (P := Tryz.prog) w3 w2.heap.size 34 34 3 ii _ 1 8 Tryz.underlying34 hi e1 e2 e3 rfl (by decide) _ _ _ ho3 ⟨g7, 0, none⟩ d.length c7 (i64s d) (by simp [i64s])
    (fun j u hu => by
      have hg : g7 < w2.heap.size := by obtain ⟨cells, h4⟩ := own_typed ho2 g7 rfl; exact (Array.getElem?_eq_some_iff.1 h4).1
      exact (hb3.cell (by unfold Addr.add; split <;> exact hg)).trans (ho2.cells (g := g7) rfl j u hu))
    (fun u hu => by obtain ⟨y, _, rfl⟩ := List.mem_map.1 hu; rfl) (by simp only [maxLen]; omega) (by omega) hb3.size
  obtain ⟨A6, c6, rfl⟩ := own_slice h2
  rw [← List.length_append] at h1 h2
  refine ⟨A6, c6, w6, h1, ?_, ?_⟩
  · unfold OwnI
    rw [show i64s (c ++ d) = i64s c ++ i64s d from List.map_append]
    exact h2
  · exact (Below.refl _ _).grown h3 hb3.size (fun k hk => own_base ho3 k hk)
theorem KO_below {W W' : World} (h : Below W.heap.size W W') : KeepsOthers W W' := ⟨h.size, fun k _ hk _ => (h.block k (Array.getElem?_eq_some_iff.1 hk).1).trans hk⟩
set_option maxRecDepth 100000 in
set_option maxHeartbeats 8000000 in
theorem by_nil {b : Nat} {w : World} (A : Option Addr) (cap : Nat) : Calls Tryz.prog 17 #[.pointer (some ⟨b, 0, none⟩), .slice A 0 cap] w (Said w (.bool false)) := by
  have hb : Below w.heap.size w (((w.alloc (.cells #[.pointer (some ⟨b, 0, none⟩)] 32)).alloc (.cells #[.slice A 0 cap] 34)).alloc (.cells #[.bool false] 4)) := (((Below.refl _ w).alloc (Nat.le_refl _) _).alloc (by simp) _).alloc (by simp; omega) _
  have HB := Aside0.mk hb
  clear hb
  go_enter Tryz.func17, Tryz.ntmps17
  go_wp2
  exact bodyPost_ret (v := .bool false) (by simp [results, Tryz.f17, go_sem]) rfl ⟨rfl, HB.out⟩

attribute [-go_sem] Builtin.append_
set_option maxRecDepth 100000 in
set_option maxHeartbeats 8000000 in
theorem by_cons {b V : Nat} {cs : List (List Int)} {w : World} (HS : RS w b V cs) (hV : V ≤ 100000) (ha : AllR V cs) (hf : Fine cs) (hl : ∀ c ∈ cs, c.length ≤ 1000000) (ad : Addr) (cap : Nat) (p : Int) (r : List Int) (hr : Kd.C (Kd.int .i64) w (some ad) (p :: r).length (p :: r)) (hc : ∀ x ∈ p :: r, rightV V x = true) (hlen : (p :: r).length ≤ 1000000) :
    Calls Tryz.prog 17 #[.pointer (some ⟨b, 0, none⟩), .slice (some ad) (p :: r).length cap] w (Said w (.bool (blkB cs (p :: r)))) := by
  have hx0 : w.cell? ad = some (.int .i64 p) := by
    obtain ⟨ad', h1, hx⟩ := at_num hr 0 (by simp)
    cases h1
    rw [show ad.add 0 = ad from by unfold Addr.add; simp] at hx
    exact hx
  have hpb := rightV_iff.1 (hc p (by simp))
  obtain ⟨w1, hw1⟩ : ∃ w1, w1 = (((w.alloc (.cells #[.pointer (some ⟨b, 0, none⟩)] 32)).alloc (.cells #[.slice (some ad) (p :: r).length cap] 34)).alloc (.cells #[.bool false] 4)) := ⟨_, rfl⟩
  have hI0 : ByI w w.heap.size b (.slice (some ad) (p :: r).length cap) false w1 := by
    rw [hw1]
    have e1 := heap_alloc_new w (.cells #[.pointer (some ⟨b, 0, none⟩)] 32)
    have e2 := heap_alloc_new (w.alloc (.cells #[.pointer (some ⟨b, 0, none⟩)] 32)) (.cells #[.slice (some ad) (p :: r).length cap] 34)
    have e3 := heap_alloc_new ((w.alloc (.cells #[.pointer (some ⟨b, 0, none⟩)] 32)).alloc (.cells #[.slice (some ad) (p :: r).length cap] 34)) (.cells #[.bool false] 4)
    simp only [World.size_alloc] at e1 e2 e3
    exact ⟨(Below.heap_alloc _ _ _ (by simp; omega)).trans ((Below.heap_alloc _ _ _ (by simp)).trans e1), (Below.heap_alloc _ _ _ (by simp)).trans e2, e3,
      (((Below.refl _ w).alloc (Nat.le_refl _) _).alloc (by simp) _).alloc (by simp; omega) _⟩
  have hsz1 : w1.heap.size = w.heap.size + 3 := by rw [hw1]; simp
  have HS1 := Aside0.mk HS
  have HA := Aside0.mk ha
  have HF := Aside0.mk hf
  have HL := Aside0.mk hl
  have HR := Aside0.mk hr
  have HC := Aside0.mk hc
  have HI0 := Aside0.mk hI0
  have HX0 := Aside0.mk hx0
  have HW1 := Aside0.mk hw1
  have HSZ1 := Aside0.mk hsz1
  have HLEN := Aside0.mk hlen
  have k2 : w1.cell? ⟨w.heap.size, 0, none⟩ = some (.pointer (some ⟨b, 0, none⟩)) := (blk_cell hI0.s 0).trans rfl
  have k3 : w1.cell? ⟨w.heap.size + 1, 0, none⟩ = some (.slice (some ad) (p :: r).length cap) := (blk_cell hI0.c 0).trans rfl
  have k5 : w1.cell? ad = some (.int .i64 p) := (hI0.b.cell (World.block_lt_of_cell? w _ hx0)).trans hx0
  have k6 : w1.cell? (ad.add 0) = some (.int .i64 p) := by rw [show ad.add 0 = ad from by unfold Addr.add; simp]; exact k5
  have b1 : p ≤ 100000 := by omega
  have b2 : -100000 ≤ p := by omega
  have q1 : ((0 : Int) < ((p :: r).length : Int)) = True := eq_true (by simp)
  have q2 : (((p :: r).length : Int) == 0) = false := by simp; omega
  clear HS ha hf hl hr hc hI0 hx0 hw1 hsz1 hpb hlen
  have q3 : p :: r ≠ [] := by simp
  have q4 : 0 < (p :: r).length := by simp
  generalize hcc : p :: r = c at *
  have HCC := Aside0.mk hcc
  clear hcc
  refine (callsIn_wide (n := 9)).1 ?_
  refine callsIn_of_wp_marks Tryz.func17 rfl trivial ?_ rfl
  simp only [Tryz.ntmps17, List.size_toArray, List.length_cons, List.length_nil, Nat.reduceAdd, Nat.reduceSub, Array.replicate_succ, Array.replicate_zero, List.push_toArray, List.append_toArray, List.nil_append, List.cons_append]
  gi_wp2
  rw [← HW1.out]
  refine wpIn_wide.2 ?_
  refine wp_region_qtail 5 (by kernel_rfl) (by kernel_rfl) ?_
  simp only [List.take_succ_cons, List.take_zero, List.drop_succ_cons, List.drop_zero]
  repeat
    first
      | go_big_quiet_skip
      | (go_big_quiet_want; go_big_quiet_op; go_big_quiet_on)
      | (go_big_quiet_want
         go_big_quiet_op
         apply Exists.intro
         refine ⟨?_, ?_⟩
         · fail
         go_big_quiet_on)
  refine wpQuiet_nil ?_
  go_wp2_with (go_at_call 35; refine (with_any b (-p) _).mono ?_; rintro e w2 ⟨rfl, rfl⟩)
  obtain ⟨W5, hW5⟩ : ∃ W5, W5 = ((w1.alloc (.cells #[.pointer (some ⟨b, 0, none⟩)] 32)).alloc (.cells #[.int .i64 (-p)] 3)).drew := ⟨_, rfl⟩
  have hb15 : Below w1.heap.size w1 W5 := by rw [hW5]; exact below_drew1 (((Below.refl _ w1).alloc (Nat.le_refl _) _).alloc (by simp) _)
  have m1 : W5.cell? ⟨w1.heap.size, 0, none⟩ = some (.pointer (some ⟨b, 0, none⟩)) := by
    rw [hW5]
    have e1 := heap_alloc_new w1 (.cells #[.pointer (some ⟨b, 0, none⟩)] 32)
    have e2 := (Below.heap_alloc (w1.alloc (.cells #[.pointer (some ⟨b, 0, none⟩)] 32)) (.cells #[.int .i64 (-p)] 3) w1.heap.size (by simp)).trans e1
    exact (blk_cell (w := (w1.alloc (.cells #[.pointer (some ⟨b, 0, none⟩)] 32)).alloc (.cells #[.int .i64 (-p)] 3)) e2 0).trans rfl
  have m2 : W5.cell? ⟨w1.heap.size + 1, 0, none⟩ = some (.int .i64 (-p)) := by
    rw [hW5]
    have e1 := heap_alloc_new (w1.alloc (.cells #[.pointer (some ⟨b, 0, none⟩)] 32)) (.cells #[.int .i64 (-p)] 3)
    rw [World.size_alloc] at e1
    exact (blk_cell (w := (w1.alloc (.cells #[.pointer (some ⟨b, 0, none⟩)] 32)).alloc (.cells #[.int .i64 (-p)] 3)) e1 0).trans rfl
  have hs5 : W5.heap.size = w.heap.size + 5 := by rw [hW5]; simp [HSZ1.out]
  have HI5 := Aside0.mk (HI0.out.below hb15)
  have HW5 := Aside0.mk hW5
  have HT := Aside0.mk (with1_told (9 - 1) w1.heap.size (w1.heap.size + 1) b V (-p) cs W5 (by omega) m1 m2 (HS1.out.below HI5.out.b) (fun c hc => by have := HL.out c hc; omega))
  have HS5 := Aside0.mk hs5
  clear hW5 hb15 m1 m2 hs5 k2 k3 k5 k6
  gi_wp2
  rw [← HW5.out]
  refine wpIn_range_told (n := 9) rfl (by omega) (gf := 55) (lb := #[.pointer (some ⟨w1.heap.size, 0, none⟩), .pointer (some ⟨w1.heap.size + 1, 0, none⟩)]) rfl trivial (enters_of Tryz.func55 (by kernel_rfl) rfl) (Nat.le_refl _) HT.out
    (fun i W => ByI w w.heap.size b (.slice (some ad) c.length cap) false W ∧ Aside0 (∀ k, k < i → -p ∈ nth cs [] k → impB cs (asks c p (nth cs [] k)) = true))
    (fun W => ByI w w.heap.size b (.slice (some ad) c.length cap) false W ∧ Aside0 (∃ k, k < cs.length ∧ -p ∈ nth cs [] k ∧ impB cs (asks c p (nth cs [] k)) = false))
    (fun i W l o o' h1 h2 h3 h4 => ⟨ByI.firm (B := W5.heap.size) (by rw [HS5.out]; omega) (Nat.le_refl _) W l o o' h1 h2 h3 h4.1, h4.2⟩)
    (fun W l o o' h1 h2 h3 h4 => ⟨ByI.firm (B := W5.heap.size) (by rw [HS5.out]; omega) (Nat.le_refl _) W l o o' h1 h2 h3 h4.1, h4.2⟩)
    (fun i x => OkC.firm i x) (fun i V V' h1 h2 => ⟨h1.1.below h2, h1.2⟩)
    (fun i V hi hs h => ⟨h.1, ⟨fun k hk hin => by
      by_cases hki : k < i
      · exact h.2.out k hki hin
      · obtain rfl : k = i := by omega
        exact absurd hin hs⟩⟩)
    ⟨HI5.out, ⟨fun k hk => by omega⟩⟩
    (fun x => { tmps := #[.pointer (some ⟨b, 0, none⟩), .slice (some ad) c.length cap, .pointer (some ⟨w.heap.size, 0, none⟩), .pointer (some ⟨w.heap.size + 1, 0, none⟩), .pointer (some ⟨w.heap.size + 1 + 1, 0, none⟩), x, undef, .slice (some ad) c.length cap, .int .i64 c.length, .bool false, .pointer (some ⟨b, 0, none⟩), .slice (some ad) c.length cap, .pointer (some ad), .int .i64 p, .int .i64 (-p), .func (.func 55) #[] #[.pointer (some ⟨w1.heap.size, 0, none⟩), .pointer (some ⟨w1.heap.size + 1, 0, none⟩)], x, undef, undef, undef, undef, undef, undef, undef, undef, undef, undef], defers := [] }) ?assign ?body ?done ?stop
  case assign =>
    intro l x W K hK
    gi_wp2
    exact hK
  case body =>
    rintro l i x W hi ⟨hin, A7, c7, rfl, ho⟩ ⟨hI, hP⟩
    have hdn : nth cs [] i ≠ [] := fun e => by rw [e] at hin; simp at hin
    have hdl := HL.out _ (nth_mem hi [])
    have hdr := HA.out _ (nth_mem hi [])
    have kp : W.cell? ⟨w.heap.size + 1, 0, none⟩ = some (.slice (some ad) c.length cap) := (blk_cell hI.c 0).trans rfl
    have kx : W.cell? ad = some (.int .i64 p) := (hI.b.cell (World.block_lt_of_cell? w _ HX0.out)).trans HX0.out
    have hadl : ad.block < w.heap.size := World.block_lt_of_cell? w _ HX0.out
    have CD := delF_any p (by omega) (w.heap.size + 1) c.length cap ad q4 A7 c7 W5.heap.size (nth cs [] i) W ho hdn (by omega) kp kx ⟨by rw [HS5.out]; omega, by rw [HS5.out]; omega⟩
    have HDR : Aside0 (∀ y ∈ (nth cs [] i).filter fun x => !decide (x = -p), rightV V y = true) := ⟨fun y hy => hdr y (List.mem_filter.1 hy).1⟩
    have HDL : Aside0 (((nth cs [] i).filter fun x => !decide (x = -p)).length ≤ 1000000) := ⟨Nat.le_trans (List.length_filter_le _ _) hdl⟩
    have HAS : Aside0 (asks c p (nth cs [] i) = c ++ (nth cs [] i).filter fun x => !decide (x = -p)) := ⟨rfl⟩
    have HP := hP
    have HII := Aside0.mk hI
    have HIN := Aside0.mk hin
    have KO : Aside0 (∀ w2, W.grownBy w2 (Value.slice A7 (nth cs [] i).length c7).ownBlock → KeepsOthers W w2) := ⟨fun w2 hg => KeepsOthers.of_grownBy hg (fun k _ hk ho' => by obtain ⟨cells, h4⟩ := own_typed ho k hk; rw [h4] at ho'; cases ho'; rfl)⟩
    have hA7 : Aside0 (∃ g, A7 = some ⟨g, 0, none⟩) := ⟨by
      rcases ho.cases with h | ⟨g, h, _⟩
      · exact absurd h hdn
      · exact ⟨g, h⟩⟩
    clear hdn hdl hdr kp kx hI hP ho hin
    generalize hd : (nth cs [] i).filter (fun x => !decide (x = -p)) = d at *
    have HHD := Aside0.mk hd
    clear hd
    have hmx : Tryz.prog.follows .mixedOrders = true := by kernel_rfl
    gi_wp2
    refine ⟨trivial, ?_⟩
    refine (CallsIn.inRound l (callsIn_wide.2 CD)).mono ?_
    rintro e w2 ⟨rfl, ho2, hb2, hg2⟩
    have hK2 : Aside0 (KeepsOthers W w2) := ⟨KO.out w2 hg2⟩
    have HI2 := Aside0.mk (HII.out.kept (by rw [HS5.out]; omega) (Nat.le_refl _) hb2)
    have HO2 := Aside0.mk ho2
    have HB2 := Aside0.mk hb2
    have HS25 : Aside0 (W5.heap.size ≤ w2.heap.size) := ⟨by
      obtain ⟨g7, rfl⟩ := hA7.out
      obtain ⟨cells, h4⟩ := own_typed ho2 g7 rfl
      have := own_base ho2 g7 rfl
      have := (Array.getElem?_eq_some_iff.1 h4).1
      omega⟩
    clear CD ho2 hb2 hg2
    have CI : ∀ W' A6 c6, Below w.heap.size w W' → OwnI W' w2.heap.size A6 c6 (c ++ d) → Calls Tryz.prog 34 #[.pointer (some ⟨b, 0, none⟩), .slice A6 (c ++ d).length c6] W' (Said W' (.bool (impB cs (c ++ d)))) := fun W' A6 c6 h1 h2 =>
      implied_any (HS1.out.belowW h1) hV HA.out HF.out A6 c6 (c ++ d) (ownI_C h2).1 (fun y hy => (List.mem_append.1 hy).elim (HC.out y) (HDR.out y)) (by rw [List.length_append]; have := HLEN.out; have := HDL.out; omega)
    have CP := Aside0.mk <| app_two (c := c) (d := d) (B := W5.heap.size) (by have := HLEN.out; omega) (by have := HDL.out; omega)
    have HCI := Aside0.mk CI
    clear CI
    obtain ⟨g7, rfl⟩ := hA7.out
    have kr0 : w2.drew.cell? ⟨w.heap.size, 0, none⟩ = some (.pointer (some ⟨b, 0, none⟩)) := (blk_cell HI2.out.s 0).trans rfl
    have kc0 : w2.drew.cell? ⟨w.heap.size + 1, 0, none⟩ = some (.slice (some ad) c.length cap) := (blk_cell HI2.out.c 0).trans rfl
    generalize hq : impB cs (c ++ d) = q at *
    have HQ := Aside0.mk hq
    clear hq
    gi_wp2
    gi_region_with_o (first
      | (refine ⟨trivial, ?_⟩
         gi_at_call 38
         refine (CallsIn.inRound l (callsIn_wide.2 (clone_any (some ad) cap c _ (Kd.C_below HR.out (below_drew1 HI2.out.b)) (by have := HLEN.out; omega)))).mono ?_
         rintro e w3 ⟨A8, c8, rfl, ho3, hb3⟩
         obtain ⟨A6, c6, w6, RE, ho6, hb6⟩ := CP.out w2.drew w3 A8 c8 g7 c7 ho3 hb3 (pw_own_drewN HO2.out 1)
         have HO6 := Aside0.mk ho6
         have HB6 := Aside0.mk ((show Below w2.drew.heap.size w2 w3 from (below_drew1 (Below.refl _ w2)).trans hb3).trans hb6)
         have kr3 : w3.cell? ⟨w.heap.size, 0, none⟩ = some (.pointer (some ⟨b, 0, none⟩)) := (hb3.cell (World.block_lt_of_cell? _ _ kr0)).trans kr0
         have kr6 : w6.cell? ⟨w.heap.size, 0, none⟩ = some (.pointer (some ⟨b, 0, none⟩)) := (hb6.cell (by have := World.block_lt_of_cell? _ _ kr0; exact this)).trans kr3
         clear ho3 hb3 ho6 hb6)
      | (refine ⟨trivial, ?_⟩
         gi_at_call 34
         rw [← List.length_append]
         refine (CallsIn.inRound l (callsIn_wide.2 (HCI.out _ _ _ (below_step HI2.out.b HB6.out) HO6.out))).mono ?_
         rintro e w8 ⟨rfl, hb8⟩
         have HB8 : Aside0 (Below w2.heap.size w2 w8) := ⟨below_step HB6.out hb8⟩
         clear hb8))
    all_goals
      have HI8 := Aside0.mk (HI2.out.below HB8.out)
      have HK8 := Aside0.mk (hK2.out.trans (KO_below HB8.out))
      have HW8 : Aside0 (Below W5.heap.size W w8) := ⟨HB2.out.trans (HB8.out.mono HS25.out)⟩
      have kr8 : w8.cell? ⟨w.heap.size + 1 + 1, 0, none⟩ = some (.bool false) := (blk_cell HI8.out.r 0).trans rfl
      have kf8 : w8.frozen? ⟨w.heap.size + 1 + 1, 0, none⟩ = false := blk_frozen HI8.out.r 0
      clear kr0 kc0 kr3 kr6 RE
      cases q
    all_goals gi_wp2
    any_goals exact ⟨HK8.out.trans (KeepsOthers.setCell _ _ _), HI8.out.put false, ⟨⟨i, hi, HIN.out, by rw [HAS.out]; exact HQ.out⟩⟩⟩
    all_goals exact ⟨HK8.out, HW8.out, HI8.out, ⟨fun k hk hin => by
      by_cases hki : k < i
      · exact HP.out k hki hin
      · obtain rfl : k = i := by omega
        rw [HAS.out]; exact HQ.out⟩⟩
  case done =>
    rintro D W hD ⟨hI, hP⟩ hK
    have kr8 : W.cell? ⟨w.heap.size + 1 + 1, 0, none⟩ = some (.bool false) := (blk_cell hI.r 0).trans rfl
    have kf8 : W.frozen? ⟨w.heap.size + 1 + 1, 0, none⟩ = false := blk_frozen hI.r 0
    have HI := Aside0.mk (hI.put true)
    have HPP := hP
    have HD := Aside0.mk hD
    clear hI hP hD
    gi_wp2
    have hK' := (KeepsOthers.setCell W ⟨w.heap.size + 1 + 1, 0, none⟩ (.bool true)).same D _ hK rfl
    refine ⟨by simp, .inl ⟨_, _, rfl, run_takeDeferred hK', ?_⟩⟩
    have hc5 := cell_kept ((blk_cell HI.out.r 0).trans rfl : (W.setCell ⟨w.heap.size + 1 + 1, 0, none⟩ (.bool true)).cell? ⟨w.heap.size + 2, 0, none⟩ = some (.bool true)) (grownBy_putObj' _ D (.deferred none)) (fun r e => by cases e; exact ⟨_, hK', rfl⟩)
    have hv : blkB cs c = true := by rw [← HCC.out]; exact blkB_of.2 (by rw [HCC.out]; exact HPP.out)
    refine ⟨.bool true, ?_, by rw [hv], HI.out.b.trans (belowK_b (w := w) (Nat.le_refl _) _ D _ _ (by have := HD.out; have := HS5.out; omega) hK' rfl rfl)⟩
    simp [results, Tryz.f17, go_sem, hc5]
  case stop =>
    rintro D W hD ⟨hI, hP⟩ hK
    have HI := Aside0.mk hI
    have HPP := hP
    have HD := Aside0.mk hD
    clear hI hP hD
    gi_wp2
    refine ⟨by simp, .inl ⟨_, _, rfl, run_takeDeferred hK, ?_⟩⟩
    have hc5 := cell_kept ((blk_cell HI.out.r 0).trans rfl : W.cell? ⟨w.heap.size + 2, 0, none⟩ = some (.bool false)) (grownBy_putObj' _ D (.deferred none)) (fun r e => by cases e; exact ⟨_, hK, rfl⟩)
    have hv : blkB cs c = false := by
      rw [← HCC.out]
      refine Bool.eq_false_iff.2 fun h => ?_
      obtain ⟨k, hk, hin, h2⟩ := HPP.out
      rw [← HCC.out, blkB_of.1 h k hk hin] at h2
      cases h2
    refine ⟨.bool false, ?_, by rw [hv], HI.out.b.trans (belowK_b (w := w) (Nat.le_refl _) _ D _ _ (by have := HD.out; have := HS5.out; omega) hK rfl rfl)⟩
    simp [results, Tryz.f17, go_sem, hc5]
theorem by_any {b V : Nat} {cs : List (List Int)} {w : World} (HS : RS w b V cs) (hV : V ≤ 100000) (ha : AllR V cs) (hf : Fine cs) (hl : ∀ c ∈ cs, c.length ≤ 1000000) (A : Option Addr) (cap : Nat) (c : List Int) (hr : Kd.C (Kd.int .i64) w A c.length c) (hc : ∀ x ∈ c, rightV V x = true) (hlen : c.length ≤ 1000000) :
    Calls Tryz.prog 17 #[.pointer (some ⟨b, 0, none⟩), .slice A c.length cap] w (Said w (.bool (blkB cs c))) := by
  cases c with
  | nil => rw [blkB_nil]; exact by_nil A cap
  | cons p r =>
    obtain ⟨ad, rfl, _⟩ := at_num hr 0 (by simp)
    exact by_cons HS hV ha hf hl ad cap p r hr hc hlen
end Go.Proofs.YtcblijcalhaffaaGreatDoor
namespace Go.Proofs.YtcblijcalhaffaaGreatDoor
open Go Go.BigFrame Go.RowKit Go.Proofs.YtcblijcalhaffaaGreatDoorW.PrintWords Go.Proofs.YtcblijcalhaffaaGreatDoorW.PrintLast Go.Proofs.YtcblijcalhaffaaGreatDoorW.PrintMore PCheckSound
open Go.Sort Go.Shelf
attribute [local go_sem] Oper.semAt_some

/-! check.May. -/
open Classical in
noncomputable def mayB (cs : List (List Int)) (c : List Int) : Bool := impB cs c || blkB cs c
set_option maxRecDepth 100000 in
set_option maxHeartbeats 8000000 in
theorem may_any {b V : Nat} {cs : List (List Int)} {w : World} (HS : RS w b V cs) (hV : V ≤ 100000) (ha : AllR V cs) (hf : Fine cs) (hl : ∀ c ∈ cs, c.length ≤ 1000000) (A : Option Addr) (cap : Nat) (c : List Int) (hr : Kd.C (Kd.int .i64) w A c.length c) (hc : ∀ x ∈ c, rightV V x = true) (hlen : c.length ≤ 1000000) :
    Calls Tryz.prog 16 #[.pointer (some ⟨b, 0, none⟩), .slice A c.length cap] w (Said w (.bool (mayB cs c))) := by
  have CI := implied_any HS hV ha hf A cap c hr hc (by omega)
  have CB : ∀ w2, Below w.heap.size w w2 → Calls Tryz.prog 17 #[.pointer (some ⟨b, 0, none⟩), .slice A c.length cap] w2 (Said w2 (.bool (blkB cs c))) := fun w2 h => by_any (HS.below h) hV ha hf hl A cap c (Kd.C_below hr h) hc hlen
  have HCB := Aside0.mk CB
  clear CB HS ha hf hl hr hc
  have HQ : Aside0 (mayB cs c = (impB cs c || blkB cs c)) := ⟨rfl⟩
  generalize impB cs c = p at *
  go_enter Tryz.func16, Tryz.ntmps16
  cases p with
  | true =>
    go_wp2_with (go_at_call 34; refine CI.mono ?_; rintro e w2 ⟨rfl, hb2⟩; have HB2 := Aside0.mk hb2; clear hb2)
    go_ret
    exact ⟨by rw [HQ.out]; rfl, HB2.out⟩
  | false =>
    go_wp2_with (first
      | (go_at_call 34; refine CI.mono ?_; rintro e w2 ⟨rfl, hb2⟩; have HB2 := Aside0.mk hb2; clear hb2)
      | (go_at_call 17; refine (HCB.out _ HB2.out).mono ?_; rintro e w3 ⟨rfl, hb3⟩; have HB3 := Aside0.mk (below_step HB2.out hb3); clear hb3))
    go_ret
    exact ⟨by rw [HQ.out]; rfl, HB3.out⟩
end Go.Proofs.YtcblijcalhaffaaGreatDoor
