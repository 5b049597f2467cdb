import Derived.Test.YtcblijcalhaffaaGreatDoorCmProofQF
import Derived.Test.YtcblijcalhaffaaGreatDoorCmPlain2QF
import Derived.Test.YtcblijcalhaffaaGreatDoorCmTruthQF
import Derived.Test.YtcblijcalhaffaaGreatDoorCmRefusesQF
import Derived.Deep.RegionHeldLaw
namespace Go.Proofs.YtcblijcalhaffaaGreatDoor
open Go Go.RowKit Go.Proofs.YtcblijcalhaffaaGreatDoorW.PrintWords Go.Proofs.YtcblijcalhaffaaGreatDoorW.PrintLast Go.Proofs.YtcblijcalhaffaaGreatDoorW.PrintMore PCheckSound

/-! Appends to rows of bytes, and of steps; how long a proof's bytes are. -/
abbrev Own (w W : World) (v : Value) (b : List UInt8) : Prop := Kd.R (Kd.int .u8) 5 W w.heap.size (fun _ => True) v (bts b)
/-- Steps as they were read in a world: a kind without memory. -/
def kP (w0 : World) : Kd S41 := ⟨2, [], fun _ x cs => k41.K w0 x cs, fun _ _ _ x cs => k41.K w0 x cs, fun h => k41.K_len h, fun h => k41.K_one h, fun _ h => h, fun h => h, fun _ h => h, fun h => h, fun _ h => h, fun _ h => h⟩
abbrev OwnS (w W : World) (v : Value) (ps : List PStep) : Prop := Kd.R (kP w) 41 W w.heap.size (fun _ => True) v (ps.map ofP)
theorem ownS_reads {w W : World} {v : Value} {ps : List PStep} (h : OwnS w W v ps) (B : Below w.heap.size w W) : ∃ A c, v = .slice A ps.length c ∧ ps.length ≤ c ∧ PC W A ps := by
  obtain ⟨A, c, e, h1, h2⟩ := Kd.R_reads h
  rw [List.length_map] at e h1 h2
  exact ⟨A, c, e, h1, ReadsRow.imp_ (w1 := W) h2 (Below.refl _ _) (fun _ _ hp => k41.K_below B hp)⟩
section
variable {ops : Array Oper} {rest : List Oper} {o : Oper} {a : Act} {Q : Exit → Act → World → Prop}
end
section
variable {ops : Array Oper} {o : Oper} {a : Act} {Q : Exit → Act → World → Prop} {Kc : Act → World → Prop}
theorem app_steps_step (w : World) {W : World} (hw : Region.wanted o (yielded ops a.tmps) = true) (s x : Operand) (ho : o.op = .call { callee := .builtin .append, args := #[s, x], argTypes := #[39, 39] }) (v : Value) (ps qs : List PStep) (A : Option Addr) (c : Nat)
    (hs : a.eval s = v) (hx : a.eval x = .slice A qs.length c) (HO : OwnS w W v ps) (HR : PC w A qs) (HB : Below w.heap.size w W) (hl : ps.length + qs.length ≤ 1000)
    (h : ∀ v1 w1, OwnS w w1 v1 (ps ++ qs) → Below w.heap.size w w1 → W.grownBy w1 v.ownBlock → Kc (a.put o.dst v1) w1) : if Region.wanted o (yielded ops a.tmps) = true then Oper.wp Tryz.prog o a W Kc Q else Kc (a.put o.dst undef) W :=
  Kd.R_append_rows_step (kP w) (Rr := k41.K w) (w0 := w) w.heap.size hw s x 39 41 (.agg #[(.bool false), (.slice none 0 0)]) 32 ho Tryz.underlying39 info41 rfl (show 0 < 2 by decide) (by decide) v (ps.map ofP) (qs.map ofP) A qs.length c (fun _ => True) (fun _ => False) hs hx
    HO (ReadsRow.imp_ HR HB (fun _ _ hp => hp)) (fun _ _ h => h) (fun _ h => h.elim) (fun _ _ => trivial) HB (below_size HB) (by rw [List.length_map]; omega) (fun v1 w1 h1 h2 h3 _ => h v1 w1 (by unfold OwnS; rw [List.map_append]; exact h1) h2 h3)
end
/-- A report's box, filled. -/
theorem rep_set {w : World} {g : Nat} {t : TypeId} {a0 a1 a2 v0 v1 v2 : Value} (h : w.heap[g]? = some (.cells #[a0, a1, a2] t (0, 0))) : (((w.setCell ⟨g, 0, none⟩ v0).setCell ⟨g, 1, none⟩ v1).setCell ⟨g, 2, none⟩ v2).heap[g]? = some (.cells #[v0, v1, v2] t (0, 0)) := by
  have h0 := blk_set h 0 v0
  have h1 := blk_set h0 1 v1
  exact blk_set h1 2 v2
/-- A box that was made since w0. -/
structure Box (w0 W : World) (g : Nat) (o : Obj) : Prop where
  here : W.heap[g]? = some o
  ge : w0.heap.size ≤ g
theorem Box.new {w0 W : World} (hb : Below w0.heap.size w0 W) (o : Obj) : Box w0 (W.alloc o) W.heap.size o := ⟨blk_new W o, hb.size⟩
theorem Box.new2 {w0 W : World} (hb : Below w0.heap.size w0 W) (o1 o : Obj) : Box w0 ((W.alloc o1).alloc o) (W.heap.size + 1) o := by
  have h := Box.new (Below.alloc hb (hb.size) o1) o
  rwa [World.size_alloc] at h
theorem Box.alloc {w0 W : World} {g : Nat} {o : Obj} (h : Box w0 W g o) (o' : Obj) : Box w0 (W.alloc o') g o := ⟨blk_alloc h.here o', h.ge⟩
theorem Box.drew {w0 W : World} {g : Nat} {o : Obj} (h : Box w0 W g o) : Box w0 W.drew g o := ⟨h.here, h.ge⟩
theorem Box.below {w0 W W' : World} {g : Nat} {o : Obj} (h : Box w0 W g o) (hz : Below W.heap.size W W') : Box w0 W' g o := ⟨(hz.block _ (blk_lt h.here)).trans h.here, h.ge⟩
theorem Box.grown {w0 W W' : World} {g : Nat} {o : Obj} {b : Option Nat} (h : Box w0 W g o) (hg : W.grownBy W' b) (hn : some g ≠ b) : Box w0 W' g o := ⟨(hg.block _ (blk_lt h.here) hn).trans h.here, h.ge⟩
theorem Box.grownT {α : Type} {d : Kd α} {e base : Nat} {ok : Nat → Prop} {xs : List α} {v : Value} {w0 W W' : World} {g t : Nat} {cs : Array Value} (h : Box w0 W g (.cells cs t (0, 0))) (hR : Kd.R d e W base ok v xs) (hg : W.grownBy W' v.ownBlock) (ht : e ≠ t) : Box w0 W' g (.cells cs t (0, 0)) :=
  h.grown hg (Kd.R_ne hR h.here ht)
theorem Box.store {w0 W : World} {g : Nat} {t : TypeId} {a0 a1 a2 v0 v1 v2 : Value} (h : Box w0 W g (.cells #[a0, a1, a2] t (0, 0))) (hb : Below w0.heap.size w0 W) :
    (((W.setCell ⟨g, 0, none⟩ v0).setCell ⟨g, 1, none⟩ v1).setCell ⟨g, 2, none⟩ v2).heap[g]? = some (.cells #[v0, v1, v2] t (0, 0)) ∧ Below w0.heap.size w0 (((W.setCell ⟨g, 0, none⟩ v0).setCell ⟨g, 1, none⟩ v1).setCell ⟨g, 2, none⟩ v2) :=
  ⟨rep_set h.here, Below.setCell (Below.setCell (Below.setCell hb (p := ⟨_, 0, none⟩) h.ge _) (p := ⟨_, 1, none⟩) h.ge _) (p := ⟨_, 2, none⟩) h.ge _⟩
/-- A step that was just built, read. -/
theorem del_reads {w W : World} {g : Nat} {v : Value} {b : Bool} {ls : List Int} (h : W.heap[g]? = some (.cells #[.bool b, v] 41 (0, 0))) (hv : ∃ A c, v = .slice A ls.length c ∧ ls.length ≤ c ∧ Kd.C (Kd.int .i64) w A ls.length ls) : ReadsRow (k41.K w) 2 W (some ⟨g, 0, none⟩) 1 ([(⟨b, ls⟩ : PStep)].map ofP) := by
  obtain ⟨A, c, rfl, h1, h2⟩ := hv
  refine ⟨rfl, by decide, fun _ => ⟨_, rfl, fun j p hj => ?_⟩⟩
  rcases j with _ | j
  · obtain rfl := Option.some.inj hj
    refine ⟨[.bool b, .slice A ls.length c], rfl, k41_mk w (ofP ⟨b, ls⟩) h1 h2, fun i u hi => ?_⟩
    have e : (⟨g, 0, none⟩ : Addr).add (0 * 2 + i) = ⟨g, i, none⟩ := by rw [show 0 * 2 + i = i by omega]; unfold Addr.add; by_cases h0 : i = 0 <;> simp [h0]
    rw [e]
    exact (blk_cell h i).trans (by simpa using hi)
  · simp at hj
/-- What is read, now. -/
theorem nil_reads (w : World) : ∃ A c, Value.slice none 0 0 = .slice A ([] : List Int).length c ∧ ([] : List Int).length ≤ c ∧ Kd.C (Kd.int .i64) w A ([] : List Int).length ([] : List Int) := ⟨none, 0, rfl, Nat.le_refl _, rfl, by decide, fun h => absurd h (by decide)⟩
section
variable {ops : Array Oper} {o : Oper} {a : Act} {Q : Exit → Act → World → Prop} {Kc : Act → World → Prop}
/-- An append of a row that was read but now. -/
theorem app_now_step (w : World) {W : World} (hw : Region.wanted o (yielded ops a.tmps) = true) (s x : Operand) (ho : o.op = .call { callee := .builtin .append, args := #[s, x], argTypes := #[39, 39] }) (v : Value) (ps qs : List PStep) (A : Option Addr) (m c : Nat)
    (hs : a.eval s = v) (hx : a.eval x = .slice A m c) (HO : OwnS w W v ps) (HR : ReadsRow (k41.K w) 2 W A m (qs.map ofP)) (HB : Below w.heap.size w W) (hl : ps.length + m ≤ 1000)
    (h : ∀ v1 w1, OwnS w w1 v1 (ps ++ qs) → Below w.heap.size w w1 → W.grownBy w1 v.ownBlock → Kc (a.put o.dst v1) w1) : if Region.wanted o (yielded ops a.tmps) = true then Oper.wp Tryz.prog o a W Kc Q else Kc (a.put o.dst undef) W :=
  Kd.R_append_rows_step (kP w) (Rr := k41.K w) (w0 := w) w.heap.size hw s x 39 41 (.agg #[(.bool false), (.slice none 0 0)]) 32 ho Tryz.underlying39 info41 rfl (show 0 < 2 by decide) (by decide) v (ps.map ofP) (qs.map ofP) A m c (fun _ => True) (fun _ => False) hs hx
    HO HR (fun _ _ h => h) (fun _ h => h.elim) (fun _ _ => trivial) HB (below_size HB) (by rw [List.length_map]; omega) (fun v1 w1 h1 h2 h3 _ => h v1 w1 (by unfold OwnS; rw [List.map_append]; exact h1) h2 h3)
end
/-- What a region keeps: the formula's cells. -/
theorem keepF {w W : World} {pf V : Nat} {A : Option Addr} {n c : Nat} (h : w.heap[pf]? = some (.cells #[.int .i64 V, .slice A n c] 30 (0, 0))) (hb : Below w.heap.size w W) :
    W.cell? ⟨pf, 0, none⟩ = some (.int .i64 V) ∧ W.cell? ⟨pf, 1, none⟩ = some (.slice A n c) ∧ Aside0 (Below w.heap.size w W) := ⟨(f_cells h hb).1, (f_cells h hb).2, ⟨hb⟩⟩
end Go.Proofs.YtcblijcalhaffaaGreatDoor
