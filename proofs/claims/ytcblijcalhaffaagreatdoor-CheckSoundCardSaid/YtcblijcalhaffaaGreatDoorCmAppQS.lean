import Derived.Test.YtcblijcalhaffaaGreatDoorCmProofQS
import Derived.Test.YtcblijcalhaffaaGreatDoorCmPlain2QS
import Derived.Test.YtcblijcalhaffaaGreatDoorCmTruthQS
import Derived.Test.YtcblijcalhaffaaGreatDoorCmRefusesQS
import Derived.Deep.RegionHeldLaw
namespace Go.Proofs.YtcblijcalhaffaaGreatDoor
open Go Go.RowKit Go.Proofs.YtcblijcalhaffaaGreatDoorW.PrintWords Go.Proofs.YtcblijcalhaffaaGreatDoorW.PrintLast Go.Proofs.YtcblijcalhaffaaGreatDoorW.PrintMore PCheckSound

/-! Appends to rows of bytes, and of steps; how long a proof's bytes are. -/
abbrev Own (w W : World) (v : Value) (b : List UInt8) : Prop := Kd.R (Kd.int .u8) 5 W w.heap.size (fun _ => True) v (bts b)
/-- Steps as they were read in a world: a kind without memory. -/
def kP (w0 : World) : Kd S41 := ⟨2, [], fun _ x cs => k41.K w0 x cs, fun _ _ _ x cs => k41.K w0 x cs, fun h => k41.K_len h, fun h => k41.K_one h, fun _ h => h, fun h => h, fun _ h => h, fun h => h, fun _ h => h, fun _ h => h⟩
abbrev OwnS (w W : World) (v : Value) (ps : List PStep) : Prop := Kd.R (kP w) 41 W w.heap.size (fun _ => True) v (ps.map ofP)
section
variable {ops : Array Oper} {rest : List Oper} {o : Oper} {a : Act} {Q : Exit → Act → World → Prop}
end
section
variable {ops : Array Oper} {o : Oper} {a : Act} {Q : Exit → Act → World → Prop} {Kc : Act → World → Prop}
theorem app_row_step (w : World) {W : World} (hw : Region.wanted o (yielded ops a.tmps) = true) (s x : Operand) (ho : o.op = .call { callee := .builtin .append, args := #[s, x], argTypes := #[53, 53] }) (v : Value) (b b2 : List UInt8) (A : Option Addr) (c : Nat)
    (hs : a.eval s = v) (hx : a.eval x = .slice A b2.length c) (HO : Own w W v b) (HR : Rd W A b2) (HB : Below w.heap.size w W) (hl : b.length + b2.length ≤ 140737488355328)
    (h : ∀ v1 w1, Own w w1 v1 (b ++ b2) → Below w.heap.size w w1 → W.grownBy w1 v.ownBlock → Kc (a.put o.dst v1) w1) : if Region.wanted o (yielded ops a.tmps) = true then Oper.wp Tryz.prog o a W Kc Q else Kc (a.put o.dst undef) W :=
  Kd.R_append_rows_step (Kd.int .u8) (Rr := (Kd.int .u8).K W) (w0 := w) w.heap.size hw s x 53 5 (.int .u8 0) 1 ho Tryz.underlying53 byte_inf rfl (by decide) (by decide) v (bts b) (bts b2) A b2.length c (fun _ => True) (fun _ => False) hs hx
    HO HR (fun _ _ h => h) (fun _ h => h.elim) (fun _ _ => trivial) HB (below_size HB) (by rw [bts_length]; omega) (fun v1 w1 h1 h2 h3 _ => h v1 w1 (by unfold Own; rw [bts_append]; exact h1) h2 h3)
end
theorem own_rd {w W : World} {v : Value} {b : List UInt8} (h : Own w W v b) : ∃ A c, v = .slice A b.length c ∧ b.length ≤ c ∧ Rd W A b := by
  obtain ⟨A, c, e, h1, h2⟩ := Kd.R_reads h
  rw [bts_length] at e h1 h2
  exact ⟨A, c, e, h1, h2⟩
theorem own_lower {w w2 W : World} {v : Value} {b : List UInt8} (h : Own w2 W v b) (B : w.heap.size ≤ w2.heap.size) : Own w W v b := Kd.R_lower h B
theorem o_binary (A : Option Addr) (c : Nat) (ps : List PStep) (w : World) (h : PC w A ps) (hR : RightP ps) (hX : (binT ps).length ≤ 140737488355000) :
    Calls Tryz.prog 29 #[.slice A ps.length c] w fun e w' => Below w.heap.size w w' ∧ ∃ v, e = .returned v ∧ Own w w' v (binT ps) := by
  have C := dr_binary A c (ps.map ofP) w h.c (rightS_of hR) (by rw [bin_of]; exact hX)
  rw [bin_of, List.length_map] at C
  exact C.mono fun e w' ⟨v, h1, h2, h3⟩ => ⟨h3, v, h1, h2⟩
theorem litB_len {ls : List Int} (h : ∀ x ∈ ls, RightL x) : (ls.flatMap fun l => encN (numL l)).length ≤ 3 * ls.length := by
  induction ls with
  | nil => simp
  | cons a ls ih =>
    have h1 : (encN (numL a)).length ≤ 3 := by
      rw [encN_length (numL_bd (h a (by simp))).2]
      split
      · omega
      · split <;> omega
    have h2 := ih (fun x hx => h x (by simp [hx]))
    simp only [List.flatMap_cons, List.length_append, List.length_cons]
    omega
theorem bin_len (M : Nat) : ∀ {ps : List PStep}, RightP ps → (∀ s ∈ ps, s.lits.length ≤ M) → (binT ps).length ≤ (3 * M + 3) * ps.length
  | [], _, _ => by simp [binT]
  | a :: ps, h, hm => by
    have h1 : (stepB a).length ≤ 3 * M + 3 := by
      have := litB_len (fun x hx => h a (by simp) x hx)
      have := hm a (by simp)
      unfold stepB
      simp only [List.length_append, List.length_cons, List.length_nil, List.cons_append]
      omega
    have h2 := bin_len M (ps := ps) (fun s hs => h s (by simp [hs])) (fun s hs => hm s (by simp [hs]))
    unfold binT at h2 ⊢
    rw [List.flatMap_cons, List.length_append, List.length_cons, Nat.mul_add, Nat.mul_one]
    omega
theorem rightP_of {V : Nat} (hV : V ≤ 100000) {ps : List PStep} (h : ∀ s ∈ ps, rightC V s.lits = true) : RightP ps := fun s hs x hx => by
  have := rightV_iff.1 (rightC_iff.1 (h s hs) x hx)
  unfold RightL
  omega
/-- What refutes is no formula that can be satisfied. -/
theorem chkV_sound {V : Nat} {cs : List (List Int)} (ha : AllR V cs) (l : List S41) : ∃ r x y n, chkV V cs l = .tuple #[.agg #[.bool r, .int .i64 x, .int .i64 y], .int .i64 n] ∧ (n = 0 → r = true → truthV V cs = false) := by
  unfold chkV
  split
  · rename_i hr
    refine ⟨_, _, _, _, rfl, fun _ hre => ?_⟩
    cases ht : truthV V cs with
    | false => rfl
    | true =>
      exfalso
      have hall := List.all_eq_true.1 hr
      have := chk_sound (pairs l) cs 0 (fun d hd h0 => by have := rightV_iff.1 (ha d hd 0 h0); omega) (fun s hs h0 => by
        unfold pairs at hs
        obtain ⟨s', hs', rfl⟩ := List.mem_map.1 hs
        have := rightV_iff.1 (rightC_iff.1 (hall s' hs') 0 h0)
        omega) (truth_sat ht)
      simp only [decide_eq_true_eq] at hre
      omega
  · exact ⟨_, _, _, _, rfl, fun h => by omega⟩
theorem parsedV_sound {V : Nat} {cs : List (List Int)} (ha : AllR V cs) (g : Got (List PStep)) : ∃ r x y n, parsedV V cs g = .tuple #[.agg #[.bool r, .int .i64 x, .int .i64 y], .int .i64 n] ∧ (n = 0 → r = true → truthV V cs = false) := by
  cases g with
  | ok ps _ => exact chkV_sound ha _
  | form => exact ⟨_, _, _, _, rfl, fun h => by omega⟩
  | short => exact ⟨_, _, _, _, rfl, fun h => by omega⟩
/-- A report's box, filled. -/
theorem rep_set {w : World} {g : Nat} {t : TypeId} {a0 a1 a2 v0 v1 v2 : Value} (h : w.heap[g]? = some (.cells #[a0, a1, a2] t (0, 0))) : (((w.setCell ⟨g, 0, none⟩ v0).setCell ⟨g, 1, none⟩ v1).setCell ⟨g, 2, none⟩ v2).heap[g]? = some (.cells #[v0, v1, v2] t (0, 0)) := by
  have h0 := blk_set h 0 v0
  have h1 := blk_set h0 1 v1
  exact blk_set h1 2 v2
/-- A box that was made since w0. -/
structure Box (w0 W : World) (g : Nat) (o : Obj) : Prop where
  here : W.heap[g]? = some o
  ge : w0.heap.size ≤ g
theorem Box.new {w0 W : World} (hb : Below w0.heap.size w0 W) (o : Obj) : Box w0 (W.alloc o) W.heap.size o := ⟨blk_new W o, hb.size⟩
theorem Box.new2 {w0 W : World} (hb : Below w0.heap.size w0 W) (o1 o : Obj) : Box w0 ((W.alloc o1).alloc o) (W.heap.size + 1) o := by
  have h := Box.new (Below.alloc hb (hb.size) o1) o
  rwa [World.size_alloc] at h
theorem Box.alloc {w0 W : World} {g : Nat} {o : Obj} (h : Box w0 W g o) (o' : Obj) : Box w0 (W.alloc o') g o := ⟨blk_alloc h.here o', h.ge⟩
theorem Box.drew {w0 W : World} {g : Nat} {o : Obj} (h : Box w0 W g o) : Box w0 W.drew g o := ⟨h.here, h.ge⟩
theorem Box.below {w0 W W' : World} {g : Nat} {o : Obj} (h : Box w0 W g o) (hz : Below W.heap.size W W') : Box w0 W' g o := ⟨(hz.block _ (blk_lt h.here)).trans h.here, h.ge⟩
theorem Box.grown {w0 W W' : World} {g : Nat} {o : Obj} {b : Option Nat} (h : Box w0 W g o) (hg : W.grownBy W' b) (hn : some g ≠ b) : Box w0 W' g o := ⟨(hg.block _ (blk_lt h.here) hn).trans h.here, h.ge⟩
theorem Box.grownT {α : Type} {d : Kd α} {e base : Nat} {ok : Nat → Prop} {xs : List α} {v : Value} {w0 W W' : World} {g t : Nat} {cs : Array Value} (h : Box w0 W g (.cells cs t (0, 0))) (hR : Kd.R d e W base ok v xs) (hg : W.grownBy W' v.ownBlock) (ht : e ≠ t) : Box w0 W' g (.cells cs t (0, 0)) :=
  h.grown hg (Kd.R_ne hR h.here ht)
theorem Box.store {w0 W : World} {g : Nat} {t : TypeId} {a0 a1 a2 v0 v1 v2 : Value} (h : Box w0 W g (.cells #[a0, a1, a2] t (0, 0))) (hb : Below w0.heap.size w0 W) :
    (((W.setCell ⟨g, 0, none⟩ v0).setCell ⟨g, 1, none⟩ v1).setCell ⟨g, 2, none⟩ v2).heap[g]? = some (.cells #[v0, v1, v2] t (0, 0)) ∧ Below w0.heap.size w0 (((W.setCell ⟨g, 0, none⟩ v0).setCell ⟨g, 1, none⟩ v1).setCell ⟨g, 2, none⟩ v2) :=
  ⟨rep_set h.here, Below.setCell (Below.setCell (Below.setCell hb (p := ⟨_, 0, none⟩) h.ge _) (p := ⟨_, 1, none⟩) h.ge _) (p := ⟨_, 2, none⟩) h.ge _⟩
section
variable {ops : Array Oper} {o : Oper} {a : Act} {Q : Exit → Act → World → Prop} {Kc : Act → World → Prop}
end
/-- What a region keeps: the formula's cells. -/
theorem keepF {w W : World} {pf V : Nat} {A : Option Addr} {n c : Nat} (h : w.heap[pf]? = some (.cells #[.int .i64 V, .slice A n c] 30 (0, 0))) (hb : Below w.heap.size w W) :
    W.cell? ⟨pf, 0, none⟩ = some (.int .i64 V) ∧ W.cell? ⟨pf, 1, none⟩ = some (.slice A n c) ∧ Aside0 (Below w.heap.size w W) := ⟨(f_cells h hb).1, (f_cells h hb).2, ⟨hb⟩⟩
end Go.Proofs.YtcblijcalhaffaaGreatDoor
