import Derived.Test.YtlmmiobnbcanmaaFit12
import Derived.Test.YtlmmiobnbcanmaaModelB
import Derived.Test.YtlmmiobnbcanmaaSame
import Derived.Deep.DeepCutAuto
import Derived.Deep.CutBlock
import Derived.Deep.RegionHeld3
namespace Go.Proofs.Ytlmmiobnbcanmaa
open Go.RowKit

theorem size_alloc (w : World) (o : Obj) : (w.alloc o).heap.size = w.heap.size + 1 := by simp

theorem MdAt.new (γ : Tags) (w : World) (p : Tag) (n : Nat) :
    ∃ γ', MdAt γ' ((w.alloc (.map #[] 0)).alloc (.cells #[.int .i64 n, .int .i64 0, .slice none 0 0, .map (some w.heap.size)] 30)) p ⟨w.heap.size + 1, none, 0, w.heap.size, 0, fun _ => none⟩ (TrailS.new n) ∧
      Turn γ γ' w ((w.alloc (.map #[] 0)).alloc (.cells #[.int .i64 n, .int .i64 0, .slice none 0 0, .map (some w.heap.size)] 30)) [p] := by
  have M := MapAt.new Try.prog 3 γ w (p ++ [2])
  have T := Turn.new_at γ w (.map #[] 0) (p ++ [2])
  generalize hw1 : w.alloc (.map #[] 0) = w1 at *
  have hs : w1.heap.size = w.heap.size + 1 := by rw [← hw1]; exact size_alloc _ _
  generalize γ.set w.heap.size (p ++ [2]) = γ1 at *
  have B := Blk.new γ1 w1 (p ++ [0]) 30 #[.int .i64 n, .int .i64 0, .slice none 0 0, .map (some w.heap.size)]
  have T2 := Turn.new_at γ1 w1 (.cells #[.int .i64 n, .int .i64 0, .slice none 0 0, .map (some w.heap.size)] 30) (p ++ [0])
  rw [hs] at B T2
  exact ⟨_, ⟨B, Row.nil _ _ _ _ _, M.turn T2 (by simp), fun k _ => rfl⟩, T.at.trans T2.at⟩

/-- The law's two trails. -/
structure Two (W : World) (b : Nat) (h : MdH) (s : TrailS) (n : Nat) (γ : Tags) (w : World) : Prop where
  tr : TrI [0, 0] b s γ w
  md : MdAt γ w [0, 7] h s
  turn : Turn (fun _ => [1]) γ W w [[0]]
  n : s.n = n

theorem Two.idle {W : World} {b n : Nat} {h : MdH} {s : TrailS} {γ : Tags} {w w' : World} (H : Two W b h s n γ w) (T : Turn γ γ w w' []) : Two W b h s n γ w' :=
  ⟨H.tr.turn T (by simp), H.md.turn T (by simp), H.turn.trans (T.to (by simp)), H.n⟩
theorem Two.drewN {W : World} {b n : Nat} {h : MdH} {s : TrailS} {γ : Tags} {w : World} (H : Two W b h s n γ w) (k : Nat) : Two W b h s n γ (w.drewN k) := ⟨H.tr.drewN k, H.md.drewN k, H.turn.drewN k, H.n⟩
theorem Two.alloc {W : World} {b n : Nat} {h : MdH} {s : TrailS} {γ : Tags} {w : World} (H : Two W b h s n γ w) (o : Obj) : Two W b h s n γ (w.alloc o) := H.idle ((Turn.refl _ _ _).alloc o)

/-- The first steps have their reasons moved. -/
def movedS (F : Int → Option Int) (l : List Step) (k : Nat) : List Step := (l.take k).map (fun x => { x with reason := newR F x.reason }) ++ l.drop k

theorem movedS_len (F : Int → Option Int) (l : List Step) {k : Nat} (hk : k ≤ l.length) : (movedS F l k).length = l.length := by simp [movedS]; omega
theorem movedS_get (F : Int → Option Int) {l : List Step} {k : Nat} {x : Step} (hx : l[k]? = some x) : (movedS F l k)[k]? = some x := by
  obtain ⟨hk, rfl⟩ := List.getElem?_eq_some_iff.1 hx
  unfold movedS
  rw [List.getElem?_append_right (by simp; omega)]
  simp [Nat.min_eq_left (Nat.le_of_lt hk)]
theorem movedS_succ (F : Int → Option Int) {l : List Step} {k : Nat} {x : Step} (hx : l[k]? = some x) : movedS F l (k + 1) = (movedS F l k).set k { x with reason := newR F x.reason } := by
  obtain ⟨hk, rfl⟩ := List.getElem?_eq_some_iff.1 hx
  unfold movedS
  rw [List.set_append_right _ _ (by simp; omega)]
  simp only [List.length_map, List.length_take, Nat.min_eq_left (Nat.le_of_lt hk), Nat.sub_self]
  rw [List.take_succ_eq_append_getElem hk, List.map_append, List.drop_eq_getElem_cons hk]
  simp only [List.map_cons, List.map_nil, List.append_assoc, List.cons_append, List.nil_append, List.set_cons_zero]
theorem movedS_all (F : Int → Option Int) (s : TrailS) : ({ s with steps := movedS F s.steps s.steps.length } : TrailS) = s.moved F := by simp [movedS, TrailS.moved]

theorem MdAt.setR {γ : Tags} {w : World} {p : Tag} {h : MdH} {s : TrailS} {F : Int → Option Int} {k g : Nat} {x : Step} {y : Int} (H : MdAt γ w p h { s with steps := movedS F s.steps k }) (hx : s.steps[k]? = some x) (hF : F x.reason = some y) (hg : h.a = some ⟨g, 0, none⟩) :
    MdAt γ (w.setCell ⟨g, k * 3 + 2, none⟩ (.int .i64 y)) p h { s with steps := movedS F s.steps (k + 1) } ∧ Turn γ γ w (w.setCell ⟨g, k * 3 + 2, none⟩ (.int .i64 y)) [p] := by
  have hk := (List.getElem?_eq_some_iff.1 hx).1
  have hlen := movedS_len F s.steps (Nat.le_of_lt hk)
  have hgx := movedS_get F hx
  have hk' : k < (movedS F s.steps k).length := by omega
  have R := H.rows
  rw [hg] at R
  have T := R.turned (k * 3 + 2) (.int .i64 y)
  have hl : ((movedS F s.steps k).flatMap stepVals).length = (movedS F s.steps k).length * 3 := flatMap_length _ 3 stepVals_length _
  have R2 := R.set (j := k * 3 + 2) (by dsimp only; omega) (.int .i64 y)
  dsimp only at R2
  have e : newR F x.reason = y := by simp [newR, hF]
  have hck : (movedS F s.steps k)[k] = x := (List.getElem?_eq_some_iff.1 hgx).2
  rw [flatMap_set _ 3 stepVals_length _ k 2 _ { x with reason := newR F x.reason } hk' (by omega) (by rw [hck, e]; rfl), ← movedS_succ F hx] at R2
  have hlen2 := movedS_len F s.steps (k := k + 1) hk
  have hd := H.head.turn T (by simp)
  refine ⟨⟨?_, ?_, H.map.turn T (by simp), H.ph⟩, T.at⟩
  · have := hd
    simp only [MdH.head, hlen] at this
    simpa only [MdH.head, hlen2] using this
  · rw [hg]
    dsimp only
    rw [hlen2]
    rw [hlen] at R2
    exact R2

/-- .. and the deed at hand, in a block of its own. -/
structure Ctx (W : World) (b : Nat) (h : MdH) (s : TrailS) (n db : Nat) (K : Nat) (L R : Int) (γ : Tags) (w : World) : Prop where
  two : Two W b h s n γ w
  deed : Blk γ w [0, 9] db 32 #[.int .u8 K, .int .i64 L, .int .i64 R]

section
variable {W : World} {b n db K : Nat} {L R : Int} {h h' : MdH} {s s' : TrailS} {γ γ' : Tags} {w w' : World}
theorem Ctx.idle (H : Ctx W b h s n db K L R γ w) (T : Turn γ γ w w' []) : Ctx W b h s n db K L R γ w' := ⟨H.two.idle T, H.deed.turn T (by simp)⟩
theorem Ctx.drewN (H : Ctx W b h s n db K L R γ w) (k : Nat) : Ctx W b h s n db K L R γ (w.drewN k) := H.idle ((Turn.refl _ _ _).drewN k)
theorem Ctx.drew (H : Ctx W b h s n db K L R γ w) : Ctx W b h s n db K L R γ w.drew := H.idle ((Turn.refl _ _ _).drew)
theorem Ctx.new (H : Two W b h s n γ w) (K : Nat) (L R : Int) : ∃ γ', Ctx W b h s n w.heap.size K L R γ' (w.alloc (.cells #[.int .u8 K, .int .i64 L, .int .i64 R] 32)) := by
  have B := Blk.new γ w [0, 9] 32 #[.int .u8 K, .int .i64 L, .int .i64 R]
  have T := Turn.new_at γ w (.cells #[.int .u8 K, .int .i64 L, .int .i64 R] 32) [0, 9]
  exact ⟨_, ⟨H.tr.turn T (by simp), H.md.turn T (by simp), H.turn.trans (T.to (by simp)), H.n⟩, B⟩
theorem Ctx.both {N : Nat} {γa γb : Tags} {wa wb : World} (X : Ctx W b h s n db K L R γ w) (Ha : TrI [0, 0] b s' γa wa) (Ta : Turn γ γa w wa [[0, 0], [0, 1]]) (Hb : Md [0, 7] h.b N s' γb wb) (Tb : Turn γa γb wa wb [[0, 7], [0, 2]]) (hn : s'.n = s.n) :
    ∃ h', Ctx W b h' s' n db K L R γb wb ∧ h'.sz ≤ N ∧ h'.b = h.b := by
  obtain ⟨h', hb, hN, M⟩ := Hb
  exact ⟨h', ⟨⟨Ha.turn Tb (by simp), M, (X.two.turn.trans (Ta.to (by simp))).trans (Tb.to (by simp)), hn.trans X.two.n⟩, (X.deed.turn Ta (by simp)).turn Tb (by simp)⟩, hN, hb⟩

theorem i_setPhase_no {p : Tag} (H : TrI p b s γ w) (v : Int) (is : Bool) (hv : v ≤ 0 ∨ (s.n : Int) < v) :
    Calls Try.prog 12 #[.pointer (some ⟨b, 0, none⟩), .int .i64 v, .bool is] w (Turned γ w [p] (.bool false) (TrI p b s)) := by
  have C := i_setPhase H v is
  have h1 : (rightB v s.n && decide (0 ≤ v)) = false := by
    rw [Bool.and_eq_false_iff]
    by_cases h : 0 ≤ v
    · left
      simp only [rightB, decide_eq_false_iff_not]
      omega
    · right; simpa using h
  have h2 : s.setPhase v is = s := by simp only [TrailS.setPhase, h1]; simp
  rw [h1, h2] at C
  exact C

theorem i_setPhase_yes {p : Tag} (H : TrI p b s γ w) (i : Nat) (hi : i < s.n) (is : Bool) :
    Calls Try.prog 12 #[.pointer (some ⟨b, 0, none⟩), .int .i64 ((i : Int) + 1), .bool is] w (Turned γ w [p] (.bool true) (TrI p b { s with phase := fun k => if k = i then is else s.phase k })) := by
  have C := i_setPhase H ((i : Int) + 1) is
  have h1 : (rightB ((i : Int) + 1) s.n && decide (0 ≤ (i : Int) + 1)) = true := by simp [rightB]; omega
  have h3 : vix ((i : Int) + 1) = i := vix_of (by unfold litVar; split <;> omega)
  have h2 : s.setPhase ((i : Int) + 1) is = { s with phase := fun k => if k = i then is else s.phase k } := by simp only [TrailS.setPhase, h1, h3]; simp
  rw [h1, h2] at C
  exact C

theorem Ctx.phase {m : Nat} {is : Bool} (X : Ctx W b h s n db K L R γ w) (Ha : TrI [0, 0] b { s with phase := fun k => if k = m then is else s.phase k } γ' w') (T : Turn γ γ' w w' [[0, 0]]) (hsz : h.sz < 100000) (hI : I64 ((m : Int) + 1)) :
    ∃ w2, (Instr.mapUpdate 27 (.map (some h.fb)) (.int .i64 ((m : Int) + 1)) (.bool is)).run Try.prog w'.drew = .ok () w2 ∧ w'.cell? ⟨h.b, 3, none⟩ = some (.map (some h.fb)) ∧ Blk γ' w' [0, 9] db 32 #[.int .u8 K, .int .i64 L, .int .i64 R] ∧
      ∃ h', Ctx W b h' { s with phase := fun k => if k = m then is else s.phase k } n db K L R γ' w2 ∧ h'.sz ≤ h.sz + 1 ∧ h'.b = h.b := by
  have Ma := X.two.md.turn T (by simp)
  have Da := X.deed.turn T (by simp)
  obtain ⟨w2, hrun, M2, T2⟩ := (Ma.map.drewN 1).put Try.mapIB (by unfold maxLen; omega) hI (.bool is)
  have H2 := (Ma.drewN 1).map_turned T2 M2 (fun k => if k = m then is else s.phase k) (fun k hk => by
    unfold mset
    by_cases hkv : k = m
    · subst hkv; simp
    · have : ¬ ((k : Int) + 1 = (m : Int) + 1) := by omega
      simp only [this, hkv, if_false]
      exact X.two.md.ph k hk)
  have T1 := (X.two.turn.trans (T.to (by simp))).drewN 1
  refine ⟨w2, hrun, Ma.f3, Da, _, ⟨⟨(Ha.drewN 1).turn T2 (by simp), H2, T1.trans (T2.to (by simp)), X.two.n⟩, (show Blk γ' (w'.drewN 1) _ _ _ _ from ⟨Da.heap, Da.tag⟩).turn T2 (by simp)⟩, ?_, ?_⟩
  · dsimp only; split <;> omega
  · rfl

theorem Ctx.side {q : Tag} (X : Ctx W b h s n db K L R γ w) (T : Turn γ γ' w w' [q]) (hq : q = [0, 8]) : Ctx W b h s n db K L R γ' w' := by
  subst hq
  exact ⟨⟨X.two.tr.turn T (by simp), X.two.md.turn T (by simp), X.two.turn.trans (T.to (by simp)), X.two.n⟩, X.deed.turn T (by simp)⟩

theorem put_eq (s : TrailS) (l r : Int) : (if s.free l then ({ s with level := s.level + 0 } : TrailS).push l r else s) = s.put l r := by unfold TrailS.put; split <;> rfl
theorem decide_eq (s : TrailS) (l : Int) : (if s.free l then ({ s with level := s.level + 1 } : TrailS).push l (-1) else s) = s.decide' l := by unfold TrailS.decide'; split <;> rfl
end

/-- The law's map of reasons, behind the deed. -/
def Refs (W : World) (b : Nat) (h : MdH) (s : TrailS) (n db : Nat) (K : Nat) (L R : Int) (fb : Nat) (w : World) : Prop :=
  ∃ (F : Int → Option Int) (sz : Nat) (γ : Tags), (∀ x y, F x = some y → I64 y) ∧ MapAt Try.prog 3 γ w [0, 8] fb (fun x => (F x).map (Value.int .i64)) sz ∧ Ctx W b h s n db K L R γ w

section
variable {W : World} {b n db K fb sz k : Nat} {L R : Int} {h : MdH} {s : TrailS} {γ γ' : Tags} {w w' : World}

theorem Refs.of (X : Ctx W b h s n db K L R γ w) (M : MapAt Try.prog 3 γ w [0, 8] fb (mset (mset (fun _ => none) R (.int .i64 L)) 3 (.int .i64 4)) sz) (hR : I64 R) (hL : I64 L) : Refs W b h s n db K L R fb w := by
  refine ⟨fun x => if x = 3 then some 4 else if x = R then some L else none, sz, γ, fun x y hxy => ?_, M.congr fun x => ?_, X⟩
  · simp only at hxy
    split at hxy
    · cases hxy; exact I64.small (by decide) (by decide)
    · split at hxy
      · cases hxy; exact hL
      · cases hxy
  · simp only [mset]; split <;> (try split) <;> simp_all
theorem Refs.of' (X : Ctx W b h s n db K L R γ w) (M : MapAt Try.prog 3 γ w [0, 8] fb (mset (mset (fun _ => none) 3 (.int .i64 4)) R (.int .i64 L)) sz) (hR : I64 R) (hL : I64 L) : Refs W b h s n db K L R fb w := by
  refine ⟨fun x => if x = R then some L else if x = 3 then some 4 else none, sz, γ, fun x y hxy => ?_, M.congr fun x => ?_, X⟩
  · simp only at hxy
    split at hxy
    · cases hxy; exact hL
    · split at hxy
      · cases hxy; exact I64.small (by decide) (by decide)
      · cases hxy
  · simp only [mset]; split <;> (try split) <;> simp_all

theorem TrI.reasons {p : Tag} (H : TrI p b s γ w) : ∀ x ∈ s.steps, I64 x.reason := by
  obtain ⟨t, h, _, _, A, R⟩ := H
  intro x hx
  obtain ⟨i, hi⟩ := List.getElem?_of_mem hx
  exact R _ (List.mem_of_getElem? (A.on i x hi))

/-- The program's reasons are moved, the law's first ones too. -/
structure Mov (W : World) (b : Nat) (h : MdH) (s : TrailS) (n db : Nat) (K : Nat) (L R : Int) (F : Int → Option Int) (fb sz k : Nat) (γ : Tags) (w : World) : Prop where
  tr : TrI [0, 0] b (s.moved F) γ w
  md : MdAt γ w [0, 7] h { s with steps := movedS F s.steps k }
  turn : Turn (fun _ => [1]) γ W w [[0]]
  n : s.n = n
  deed : Blk γ w [0, 9] db 32 #[.int .u8 K, .int .i64 L, .int .i64 R]
  map : MapAt Try.prog 3 γ w [0, 8] fb (fun x => (F x).map (Value.int .i64)) sz

variable {F : Int → Option Int}
theorem Mov.start (X : Ctx W b h s n db K L R γ w) (M : MapAt Try.prog 3 γ w [0, 8] fb (fun x => (F x).map (Value.int .i64)) sz) (Hb : TrI [0, 0] b (s.moved F) γ' w') (T : Turn γ γ' w w' [[0, 0]]) :
    Mov W b h s n db K L R F fb sz 0 γ' w' :=
  ⟨Hb, X.two.md.turn T (by simp), X.two.turn.trans (T.to (by simp)), X.two.n, X.deed.turn T (by simp), M.turn T (by simp)⟩
theorem Mov.alloc (Z : Mov W b h s n db K L R F fb sz k γ w) (o : Obj) : Mov W b h s n db K L R F fb sz k γ (w.alloc o) :=
  have T : Turn γ γ w (w.alloc o) [] := (Turn.refl _ _ _).alloc o
  ⟨Z.tr.turn T (by simp), Z.md.turn T (by simp), Z.turn.trans (T.to (by simp)), Z.n, Z.deed.turn T (by simp), Z.map.turn T (by simp)⟩
theorem Mov.setR {g : Nat} {x : Step} {y : Int} (Z : Mov W b h s n db K L R F fb sz k γ w) (hx : s.steps[k]? = some x) (hF : F x.reason = some y) (hg : h.a = some ⟨g, 0, none⟩) :
    Mov W b h s n db K L R F fb sz (k + 1) γ (w.setCell ⟨g, k * 3 + 2, none⟩ (.int .i64 y)) := by
  obtain ⟨M, T⟩ := Z.md.setR hx hF hg
  exact ⟨Z.tr.turn T (by simp), M, Z.turn.trans (T.to (by simp)), Z.n, Z.deed.turn T (by simp), Z.map.turn T (by simp)⟩
theorem movedS_no {l : List Step} {x : Step} (hx : l[k]? = some x) (hF : F x.reason = none) : movedS F l (k + 1) = movedS F l k := by
  rw [movedS_succ F hx]
  have hk := (List.getElem?_eq_some_iff.1 hx).1
  have hk' : k < (movedS F l k).length := by rw [movedS_len F l (by omega)]; exact hk
  have := (List.getElem?_eq_some_iff.1 (movedS_get F hx)).2
  have e : ({ x with reason := newR F x.reason } : Step) = x := by simp [newR, hF]
  rw [e]
  conv => rhs; rw [← List.set_getElem_self hk', this]
theorem Mov.no {x : Step} (Z : Mov W b h s n db K L R F fb sz k γ w) (hx : s.steps[k]? = some x) (hF : F x.reason = none) : Mov W b h s n db K L R F fb sz (k + 1) γ w :=
  ⟨Z.tr, by rw [movedS_no hx hF]; exact Z.md, Z.turn, Z.n, Z.deed, Z.map⟩
theorem Mov.ends (Z : Mov W b h s n db K L R F fb sz s.steps.length γ w) : Ctx W b h (s.moved F) n db K L R γ w :=
  ⟨⟨Z.tr, by have := Z.md; rw [movedS_all F s] at this; exact this, Z.turn, Z.n⟩, Z.deed⟩
end

set_option maxRecDepth 100000 in
set_option maxHeartbeats 8000000 in
theorem runs_any (W : World) (vars : Nat) (hv : vars < 256) (a0 : Option Addr) (len cap : Nat) (hcap : len ≤ maxLen)
    (ha : 0 < len → ∃ bb off, a0 = some ⟨bb, off, none⟩ ∧ ∀ i, i < len → ∃ (K : Nat) (L R : Int), W.cell? ⟨bb, off + i * 3, none⟩ = some (.int .u8 K) ∧ W.cell? ⟨bb, off + i * 3 + 1, none⟩ = some (.int .i64 L) ∧ W.cell? ⟨bb, off + i * 3 + 2, none⟩ = some (.int .i64 R) ∧ K < 256 ∧ I64 L ∧ I64 R) :
    Calls Try.prog 3 #[.int .u8 vars, .slice a0 len cap] W fun e w' => e = .returned (.bool true) ∧ Below W.heap.size W w' := by
  unfold maxLen at hcap
  have C0 := fit12 (fun _ => [1]) W [0]
  go_enter Try.func3, Try.ntmps3
  go_wp2_with fail
  refine C0.mono ?_
  clear C0
  rintro e w1 ⟨rfl, γ1, T1⟩
  by_cases hlen : 100 < len
  · go_wp2_with fail
    go_ret
    exact ⟨rfl, T1.below⟩
  · have hmm := fun t w => run_makeMap (P := Try.prog) t w
    go_wp2_with fail
    have hn12 : ((vars : Int) % 12) = ((vars % 12 : Nat) : Int) := by omega
    have hn11 : vars % 12 ≤ 11 := by omega
    rw [hn12]
    clear hn12
    generalize vars % 12 = n at *
    refine (i_new γ1 w1 [0, 0] n (by omega)).mono ?_
    rintro e w2 ⟨v, γ2, rfl, ⟨b, rfl, H1, _⟩, T2⟩
    obtain ⟨γ3, M3, T3⟩ := MdAt.new γ2 w2 [0, 7] n
    have H3 : Two W b _ (TrailS.new n) n γ3 _ := ⟨H1.turn T3 (by simp), M3, (T1.trans (T2.to (by simp))).trans (T3.to (by simp)), rfl⟩
    clear H1 T1 T2 M3 T3
    have H3 := Lib.hid H3
    have H3h := Lib.hid H3
    clear H3
    go_wp2_with fail
    clear hmm
    go_loopw [38] (fun v wr => ∃ (k : Nat) (h : MdH) (s : TrailS) (γ : Tags), k ≤ len ∧ v = .int .i64 k ∧ Two W b h s n γ wr ∧ h.sz ≤ k ∧ h.b = w2.heap.size + 1) (fun v _ => len - (intOf v).toNat)
    case atStart => exact ⟨0, _, _, γ3, Nat.zero_le _, rfl, H3h.out, Nat.le_refl _, rfl⟩
    case round =>
      obtain ⟨k, h, s, γ, hk, rfl, Hk, hsz, hb⟩ := hrel
      clear H3h
      generalize w2.heap.size + 1 = bm at *
      subst hb
      by_cases hkl : k < len
      · obtain ⟨bb, off, rfl, hc⟩ := ha (by omega)
        obtain ⟨K, L, R, c0, c1, c2, hK, hL, hR⟩ := hc k hkl
        have d0 := Hk.turn.old c0
        have d1 := Hk.turn.old c1
        have d2 := Hk.turn.old c2
        clear c0 c1 c2 hc ha
        obtain ⟨γ0, X0⟩ := Ctx.new Hk K L R
        clear Hk
        have X0h := Lib.hid X0
        clear X0
        go_upto_block 2 with (fail)
        generalize hdb : wr.heap.size = db at *
        generalize World.alloc wr _ = w0 at *
        clear hdb
        go_cut [] (fun wx => ∃ (h' : MdH) (s' : TrailS) (γ' : Tags), Ctx W b h' s' n db K L R γ' wx ∧ h'.sz ≤ k + 1 ∧ h'.b = h.b)
        case first =>
          have f1 := X0h.out.deed.cell (j := 1) rfl
          have f2 := X0h.out.deed.cell (j := 2) rfl
          have f0 := X0h.out.deed.cell (j := 0) rfl
          have X1 := X0h.out.drew
          have F1 := X1.two.tr.tr.fits
          have hn1 := X1.two.n
          have X1h := Lib.hid X1
          have F1h := Lib.hid F1
          have hn1h := Lib.hid hn1
          clear X1 F1 hn1
          go_wp2_with fail
          iterate 3
            · as_aux_lemma =>
              go_region_held3 (fun w' => w'.cell? ⟨db, 1, none⟩ = some (.int .i64 L) ∧ w'.cell? ⟨db, 2, none⟩ = some (.int .i64 R)) (go_keep)
                (first
                  | (go_at_call 7; refine (i_put X1h.out.two.tr L R hR).mono ?_; rintro e wa ⟨rfl, γa, Ha, Ta⟩; have Ma := X1h.out.two.md.turn Ta (by simp); have Da := X1h.out.deed.turn Ta (by simp); have e1 := Da.cell (j := 1) rfl; have e2 := Da.cell (j := 2) rfl)
                  | (go_at_call 8; refine (m_put Ma F1h.out L R hL 0 (by omega) (by omega)).mono ?_; rintro e wb ⟨rfl, γb, Hb, Tb⟩; have Db := Da.turn Tb (by simp); have e3 := Db.cell (j := 1) rfl; have e4 := Db.cell (j := 2) rfl))
              rw [put_eq] at Hb
              obtain ⟨h', X2, hz, hbb⟩ := X1h.out.both Ha (Ta.to (by simp)) Hb (Tb.to (by simp)) (put_n _ _)
              have Z := Lib.hid (And.intro X2 (And.intro hz hbb))
              clear Ha Ta Hb Tb X2 hz hbb Ma Da e1 e2 Db e3 e4
              generalize s.free L = fr at *
              go_wp2_with fail
              go_meet
              exact ⟨h', _, γb, Z.out.1, by have := Z.out.2.1; omega, Z.out.2.2⟩
          iterate 2
            · as_aux_lemma =>
              go_region_held3 (fun w' => w'.cell? ⟨db, 1, none⟩ = some (.int .i64 L) ∧ w'.cell? ⟨db, 2, none⟩ = some (.int .i64 R)) (go_keep)
                (first
                  | (go_at_call 9; refine (i_decide X1h.out.two.tr L).mono ?_; rintro e wa ⟨rfl, γa, Ha, Ta⟩; have Ma := X1h.out.two.md.turn Ta (by simp); have Da := X1h.out.deed.turn Ta (by simp); have e1 := Da.cell (j := 1) rfl; have e2 := Da.cell (j := 2) rfl)
                  | (go_at_call 8; refine (m_put Ma F1h.out L (-1) hL 1 (by omega) (by omega)).mono ?_; rintro e wb ⟨rfl, γb, Hb, Tb⟩; have Db := Da.turn Tb (by simp); have e3 := Db.cell (j := 1) rfl; have e4 := Db.cell (j := 2) rfl))
              rw [decide_eq] at Hb
              obtain ⟨h', X2, hz, hbb⟩ := X1h.out.both Ha (Ta.to (by simp)) Hb (Tb.to (by simp)) (decide_n _)
              have Z := Lib.hid (And.intro X2 (And.intro hz hbb))
              clear Ha Ta Hb Tb X2 hz hbb Ma Da e1 e2 Db e3 e4
              generalize s.free L = fr at *
              go_wp2_with fail
              go_meet
              exact ⟨h', _, γb, Z.out.1, by have := Z.out.2.1; omega, Z.out.2.2⟩
          · as_aux_lemma =>
              go_region_held3 (fun w' => w'.cell? ⟨db, 1, none⟩ = some (.int .i64 L) ∧ w'.cell? ⟨db, 2, none⟩ = some (.int .i64 R)) (go_keep)
                (first
                  | (go_at_call 10; refine (i_back (q := [0, 1]) X1h.out.two.tr (by simp) (by simp) L).mono ?_; rintro e wa ⟨_, γa, rfl, ⟨a5, c5, rfl, Ra, Ha⟩, Ta⟩; have Ma := X1h.out.two.md.turn Ta (by simp); have Da := X1h.out.deed.turn Ta (by simp); have e1 := Da.cell (j := 1) rfl; have e2 := Da.cell (j := 2) rfl)
                  | (go_at_call 11; refine (m_back (q := [0, 2]) Ma F1h.out (by simp) (by simp) L).mono ?_; rintro e wb ⟨_, γb, rfl, ⟨a6, c6, rfl, Rb, Hb⟩, Tb⟩; have Db := Da.turn Tb (by simp); have e3 := Db.cell (j := 1) rfl; have e4 := Db.cell (j := 2) rfl))
              have Rc := Ra.turn Tb (by simp)
              obtain ⟨h', X2, hz, hbb⟩ := X1h.out.both Ha Ta Hb Tb (back_n _)
              have Z := Lib.hid (And.intro X2 (And.intro hz hbb))
              have hle := Rc.le
              clear Ha Ta Hb Tb X2 hz hbb Ma Da e1 e2 Db e3 e4 Ra
              unfold maxLen at hle
              generalize s.gone L = gl at *
              go_wp2_with fail
              go_loopw [127] (fun v wr => ∃ (i m : Nat), i ≤ gl.length ∧ v = .int .i64 i ∧ wr = wb.drewN m) (fun v _ => gl.length - (intOf v).toNat)
              case atStart => exact ⟨0, 0, Nat.zero_le _, rfl, rfl⟩
              case round =>
                obtain ⟨i, m, hi, rfl, rfl⟩ := hrel
                by_cases hil : i < gl.length
                · obtain ⟨g5, rfl⟩ := Rc.pos (by omega)
                  obtain ⟨g6, rfl⟩ := Rb.pos (by omega)
                  have q5 := Rc.cell (j := i) (v := .int .i64 gl[i]) (by simp [ints, hil])
                  have q6 := Rb.cell (j := i) (v := .int .i64 gl[i]) (by simp [ints, hil])
                  generalize gl[i] = gi at *
                  have hw : IntKind.i64.wrap (i : Int) = i := IntWalk.i64_in _ (by omega)
                  have hi' : (i : Int) < gl.length := by omega
                  go_wp2_with fail
                  go_quiet (fail)
                  go_wp2_with fail
                  exact ⟨⟨i + 1, m + nq, by omega, rfl, rfl⟩, by simp [intOf]; omega⟩
                · obtain rfl : i = gl.length := by omega
                  go_wp2_with fail
                  go_meet
                  exact ⟨h', _, γb, Z.out.1.drewN m, by have := Z.out.2.1; omega, Z.out.2.2⟩
          · as_aux_lemma =>
              obtain ⟨is, his⟩ : ∃ is, (bits BinOp.and IntKind.i64 R 1 == 1) = is := ⟨_, rfl⟩
              rw [his]
              by_cases hLn : L ≤ n
              · obtain ⟨m, rfl⟩ : ∃ m : Nat, L = (m : Int) + 1 := ⟨(L - 1).toNat, by omega⟩
                refine (i_setPhase_yes X0h.out.two.tr m (by rw [X0h.out.two.n]; omega) is).mono ?_
                rintro e wa ⟨rfl, γa, Ha, Ta⟩
                obtain ⟨w5, hrun, p3, Da, h', X5⟩ := X0h.out.phase Ha Ta (by omega) hL
                have e1 := Da.cell (j := 1) rfl
                have e2 := Da.cell (j := 2) rfl
                have X5h := Lib.hid X5
                clear Ha Ta Da X5
                go_wp2_with fail
                go_region
                all_goals
                  go_wp2_with fail
                  go_meet
                  exact ⟨h', _, γa, X5h.out.1, by have := X5h.out.2.1; omega, X5h.out.2.2⟩
              · refine (i_setPhase_no X0h.out.two.tr L is (by rw [X0h.out.two.n]; omega)).mono ?_
                rintro e wa ⟨rfl, γa, Ha, Ta⟩
                have X5 : Ctx W b h s n db K L R γa wa := ⟨⟨Ha, X0h.out.two.md.turn Ta (by simp), X0h.out.two.turn.trans (Ta.to (by simp)), X0h.out.two.n⟩, X0h.out.deed.turn Ta (by simp)⟩
                have X5h := Lib.hid X5
                clear Ha Ta X5
                go_wp2_with fail
                go_meet
                exact ⟨h, s, γa, X5h.out, by omega, rfl⟩
          · as_aux_lemma =>
              obtain ⟨is, his⟩ : ∃ is, (bits BinOp.and IntKind.i64 R 1 == 1) = is := ⟨_, rfl⟩
              rw [his]
              refine (i_setPhase_no X0h.out.two.tr L is (by omega)).mono ?_
              rintro e wa ⟨rfl, γa, Ha, Ta⟩
              have X5 : Ctx W b h s n db K L R γa wa := ⟨⟨Ha, X0h.out.two.md.turn Ta (by simp), X0h.out.two.turn.trans (Ta.to (by simp)), X0h.out.two.n⟩, X0h.out.deed.turn Ta (by simp)⟩
              have X5h := Lib.hid X5
              clear Ha Ta X5
              go_wp2_with fail
              go_meet
              exact ⟨h, s, γa, X5h.out, by omega, rfl⟩
          · as_aux_lemma =>
              have hmm := fun t w => run_makeMap (P := Try.prog) t w
              have M0 := (MapAt.new Try.prog 3 γ0 w0 [0, 8]).drewN 1
              have T0 := (Turn.new_at γ0 w0 (.map #[] 0) [0, 8]).drewN 1
              have X2 := X0h.out.side T0 rfl
              generalize γ0.set w0.heap.size [0, 8] = γ2 at *
              have h3 : I64 3 := I64.small (by decide) (by decide)
              obtain ⟨w5, hrun5, M5, T5⟩ := M0.put Try.mapII (by unfold maxLen; omega) hR (.int .i64 L)
              have hrun5d : (Instr.mapUpdate 39 (.map (some w0.heap.size)) (.int .i64 R) (.int .i64 L)).run Try.prog (w0.alloc (.map #[] 0)).drew = .ok () w5 := hrun5
              have X5 := X2.side T5 rfl
              obtain ⟨w6, hrun6, M6, T6⟩ := M5.put Try.mapII (by unfold maxLen; split <;> omega) h3 (.int .i64 4)
              have X6 := X5.side T6 rfl
              obtain ⟨w7, hrun7, M7, T7⟩ := M0.put Try.mapII (by unfold maxLen; omega) h3 (.int .i64 4)
              have hrun7d : (Instr.mapUpdate 39 (.map (some w0.heap.size)) (.int .i64 3) (.int .i64 4)).run Try.prog (w0.alloc (.map #[] 0)).drew = .ok () w7 := hrun7
              have X7 := X2.side T7 rfl
              obtain ⟨w8, hrun8, M8, T8⟩ := M7.put Try.mapII (by unfold maxLen; split <;> omega) hR (.int .i64 L)
              have X8 := X7.side T8 rfl
              have q1 := fun o => (show Blk γ0 w0 _ _ _ _ from X0h.out.deed).alloc o |>.cell (j := 1) rfl
              have q2 := fun o => (show Blk γ0 w0 _ _ _ _ from X0h.out.deed).alloc o |>.cell (j := 2) rfl
              have r1 := X5.deed.cell (j := 1) rfl
              have r2 := X5.deed.cell (j := 2) rfl
              have r3 := X7.deed.cell (j := 1) rfl
              have r4 := X7.deed.cell (j := 2) rfl
              have X6h := Lib.hid (Refs.of X6 M6 hR hL)
              have X8h := Lib.hid (Refs.of' X8 M8 hR hL)
              clear hrun5 hrun7 M0 T0 X2 M5 T5 X5 M6 T6 X6 M7 T7 X7 M8 T8 X8
              go_cut [14] (fun v wx => ∃ fb, v = .map (some fb) ∧ Refs W b h s n db K L R fb wx)
              case first =>
                go_region
                · go_wp2_with fail
                  go_meet
                  exact ⟨_, rfl, X6h.out⟩
                · go_wp2_with fail
                  go_meet
                  exact ⟨_, rfl, X8h.out⟩
              case rest =>
                clear X6h X8h
                obtain ⟨fb, rfl, F, sz, γ2, hF, M, X⟩ := hcut
                clear f0 f1 f2 hrun5d hrun6 hrun7d hrun8 q1 q2 r1 r2 r3 r4 X0h X1h hmm d0 d1 d2 H3
                have C := i_moved X.two.tr F hF M (by simp)
                have Z := fun (γx : Tags) (wx : World) => Mov.start (γ' := γx) (w' := wx) X M
                have hrs := Lib.hid X.two.tr.reasons
                have hfit := X.two.tr.tr.fits
                have hl1 := hfit.len
                have hl2 := hfit.few
                have Zh := Lib.hid Z
                have hFh := Lib.hid hF
                clear Z X M hF hfit
                go_wp2_with fail
                refine C.mono ?_
                clear C
                rintro e wb ⟨rfl, γb, Hb, Tb⟩
                have Zb := Zh.out _ _ Hb Tb
                have f2 := Zb.md.f2
                have Zbh := Lib.hid Zb
                clear Hb Tb Zb Zh
                go_wp2_with fail
                go_loopw [59] (fun v wr => ∃ (k : Nat), k ≤ s.steps.length ∧ v = .int .i64 k ∧ Mov W b h s n db K L R F fb sz k γb wr) (fun v _ => s.steps.length - (intOf v).toNat)
                case atStart => exact ⟨0, Nat.zero_le _, rfl, Zbh.out⟩
                case round =>
                  obtain ⟨i, hi, rfl, Zi⟩ := hrel
                  by_cases hil : i < s.steps.length
                  · have hx := List.getElem?_eq_getElem hil
                    have hI := hrs.out _ (List.getElem_mem hil)
                    generalize s.steps[i] = x at *
                    have hxm := movedS_get F hx
                    have hlm := movedS_len F s.steps hi
                    obtain ⟨g, hg, c0, c1, c2⟩ := Zi.md.cs hxm
                    rw [hg] at f2 ⊢
                    cases hf : F x.reason with
                    | none =>
                      have hm1 : (((F x.reason).map (Value.int .i64)).getD (.int .i64 0)) = .int .i64 0 := by rw [hf]; rfl
                      have hm2 : ((F x.reason).map (Value.int .i64)).isSome = false := by rw [hf]; rfl
                      have Zn := Lib.hid (fun o => (Zi.no hx hf).alloc o)
                      have Mn := fun o => (Zi.alloc o).map
                      clear hg Zi hx hxm hf
                      go_wp2_with (at_lookup; go_must (refine wpList_lookup_v_ok rfl (.tmp 65) (.tmp 67) rfl Try.mapII rfl (Mn _) _ rfl hI hm1 hm2 ?_))
                      exact ⟨⟨i + 1, by omega, by go_num, Zn.out _⟩, by simp [intOf]; omega⟩
                    | some y =>
                      have hm1 : (((F x.reason).map (Value.int .i64)).getD (.int .i64 0)) = .int .i64 y := by rw [hf]; rfl
                      have hm2 : ((F x.reason).map (Value.int .i64)).isSome = true := by rw [hf]; rfl
                      have Zn := Lib.hid (fun o => (Zi.alloc o).setR hx hf hg)
                      have Mn := fun o => (Zi.alloc o).map
                      have f2n := fun o => (Zi.alloc o).md.f2
                      have gn : ∀ o, (wr.alloc o).frozen? ⟨g, i * 3 + 2, none⟩ = false := fun o => by have := (Zi.alloc o).md.rows; rw [hg] at this; exact this.free (i * 3 + 2)
                      have k2 : ∀ o, (wr.alloc o).cell? ⟨g, i * 3 + 2, none⟩ = some (.int .i64 x.reason) := fun o => by have := (Zi.alloc o).md.cs hxm; obtain ⟨g', hg', _, _, e2⟩ := this; rw [hg] at hg'; cases hg'; exact e2
                      rw [hlm, hg] at f2n
                      clear hg Zi hx hxm hf
                      go_wp2_with (at_lookup; go_must (refine wpList_lookup_v_ok rfl (.tmp 65) (.tmp 67) rfl Try.mapII rfl (Mn _) _ rfl hI hm1 hm2 ?_))
                      exact ⟨⟨i + 1, by omega, by go_num, Zn.out _⟩, by simp [intOf]; omega⟩
                  · obtain rfl : i = s.steps.length := by omega
                    have Zih := Lib.hid Zi
                    clear Zi
                    go_wp2_with fail
                    go_meet
                    exact ⟨h, _, γb, Zih.out.ends, by omega, rfl⟩
        case rest =>
          clear X0h d0 d1 d2
          obtain ⟨h', s', γ', X, hsz', hb'⟩ := hcut
          rw [← hb']
          have hbh := Lib.hid hb'
          clear hb'
          have hn1 := X.two.n
          have F := X.two.tr.tr.fits
          have hlen := F.len
          have hfew := F.few
          have hlev := F.lev
          have hat : s'.at' s'.steps.length = 0 := by simp [TrailS.at']
          have hat1 : s'.at' (-1) = 0 := by simp [TrailS.at']
          obtain ⟨fb, hfb⟩ : ∃ fb, decide (s'.steps.length = s'.n) = fb := ⟨_, rfl⟩
          have hfb2 : ((s'.steps.length : Int) == (n : Int)) = fb := by rw [← hfb, ← hn1, Bool.eq_iff_iff]; simp; omega
          have f1 := X.two.md.f1
          have f2 := X.two.md.f2
          have f0 := X.deed.cell (j := 1) rfl
          have Xh := Lib.hid X.drew
          have Xn := Lib.hid (fun m => X.drewN m)
          have hn1h := Lib.hid hn1
          have hath := Lib.hid hat
          have hat1h := Lib.hid hat1
          have hfbh := Lib.hid hfb
          clear X F hn1 hat hat1 hfb
          go_wp2_with fail
          go_cut [223] (fun c wx => c = .bool false ∧ ∃ γ2, Ctx W b h' s' n db K L R γ2 wx)
          case first =>
            as_aux_lemma =>
              go_region_held3 (fun w' => w'.cell? ⟨h'.b, 1, none⟩ = some (.int .i64 s'.level) ∧ w'.cell? ⟨h'.b, 2, none⟩ = some (.slice h'.a s'.steps.length h'.cap) ∧ w'.cell? ⟨db, 1, none⟩ = some (.int .i64 L)) (go_keep)
                (first
                  | (go_at_call 14; refine (s_level Xh.out.two.tr.tr).mono ?_; rintro e wa ⟨rfl, na, rfl⟩)
                  | (go_at_call 15; refine (s_len (Xn.out _).two.tr.tr).mono ?_; rintro e wb ⟨rfl, nb, rfl⟩)
                  | (go_at_call 16; refine (s_full (Xn.out _).two.tr.tr).mono ?_; rintro e wd ⟨rfl, nd, rfl⟩; rw [hfbh.out])
                  | (go_at_call 17; refine (same_any (Xn.out _).two.tr.tr (Xn.out _).two.md L hL).mono ?_; rintro e we ⟨rfl, Te⟩; have Xe := (Xn.out _).idle Te; have e1 := Xe.two.md.f1; have e2 := Xe.two.md.f2; have e3 := Xe.deed.cell (j := 1) rfl; have Xeh := Lib.hid Xe; have Xen := Lib.hid (fun m => Xe.drewN m); clear Xe Te)
                  | (go_at_call 18; (with_reducible refine (s_at Xeh.out.two.tr.tr s'.steps.length).mono ?_); rintro e wf ⟨rfl, nf, rfl⟩; rw [hath.out])
                  | (go_at_call 18; (with_reducible refine (s_at (Xen.out _).two.tr.tr (-1)).mono ?_); rintro e wg ⟨rfl, ng, rfl⟩; rw [hat1h.out]))
              go_wp2_with fail
              go_meet
              exact ⟨rfl, _, Xen.out _⟩
          case rest =>
            obtain ⟨rfl, γ2, X⟩ := hcut
            have Xqh := Lib.hid X
            clear X Xh Xn f0 f1 f2 hfb2
            go_wp2_with fail
            go_loopw [19] (fun v wr => ∃ (j : Nat) (γ3 : Tags), j ≤ 2 * n + 3 ∧ v = .int .i64 ((j : Int) - n - 1) ∧ Ctx W b h' s' n db K L R γ3 wr) (fun v _ => 2 * n + 3 - (intOf v + n + 1).toNat)
            case atStart => exact ⟨0, γ2, by omega, by (first | rfl | (congr 1; omega)), Xqh.out⟩
            case round =>
              clear Xqh
              obtain ⟨j, γ3, hj, rfl, Xj⟩ := hrel
              obtain ⟨i, hi⟩ : ∃ i : Int, (j : Int) - n - 1 = i := ⟨_, rfl⟩
              rw [hi]
              have hi1 : -12 ≤ i := by omega
              have hi2 : i ≤ 13 := by omega
              by_cases hij : i ≤ n + 1
              · have C := same_any Xj.two.tr.tr Xj.two.md i (I64.small (by omega) (by omega))
                have Xjh := Lib.hid Xj
                have hih := Lib.hid hi
                clear Xj hi
                go_wp2_with fail
                refine C.mono ?_
                clear C
                rintro e we ⟨rfl, Te⟩
                have Xeh := Lib.hid (Xjh.out.idle Te)
                clear Te Xjh
                go_wp2_with fail
                exact ⟨⟨j + 1, γ3, by have := hih.out; omega, by congr 1; have := hih.out; omega, Xeh.out⟩, by simp [intOf]; have := hih.out; omega⟩
              · have f2 := Xj.two.md.f2
                have Xjh := Lib.hid Xj
                have hih := Lib.hid hi
                clear Xj hi
                go_wp2_with fail
                go_loopw [243] (fun v wr => ∃ (m : Nat), m ≤ s'.steps.length ∧ v = .int .i64 m ∧ Ctx W b h' s' n db K L R γ3 wr) (fun v _ => s'.steps.length - (intOf v).toNat)
                case atStart => exact ⟨0, by omega, rfl, Xjh.out⟩
                case round =>
                  clear Xjh
                  obtain ⟨m, hm, rfl, Xm⟩ := hrel
                  by_cases hml : m < s'.steps.length
                  · have hx := List.getElem?_eq_getElem hml
                    generalize s'.steps[m] = x at *
                    obtain ⟨g, hg, c0, c1, c2⟩ := Xm.two.md.cs hx
                    have hatm : s'.at' m = x.l := by simp [TrailS.at', hx]
                    have Cm : ∀ o q, Calls Try.prog 18 #[.pointer (some ⟨b, 0, none⟩), .int .i64 m] ((wr.alloc o).drewN q) (Quiet ((wr.alloc o).drewN q) (.int .i64 x.l)) := fun o q => by
                      have := s_at ((Xm.two.alloc o).drewN q).tr.tr (m : Int)
                      rw [hatm] at this
                      exact this
                    have Xmh := Lib.hid (fun o q => (show Ctx W b h' s' n db K L R γ3 ((wr.alloc o).drewN q) from (Xm.idle ((Turn.refl _ _ _).alloc o)).drewN q))
                    rw [hg] at f2 ⊢
                    clear hg hx hatm Xm
                    go_wp2_with fail
                    go_quiet ((go_at_call 18; exact Calls.quiet_of (Cm _ _)))
                    go_wp2_with fail
                    exact ⟨⟨m + 1, by omega, rfl, Xmh.out _ _⟩, by simp [intOf]; omega⟩
                  · obtain rfl : m = s'.steps.length := by omega
                    have Xmh := Lib.hid Xm.two
                    clear Xm
                    go_wp2_with fail
                    rw [hbh.out]
                    go_roundw
                    case rel => exact ⟨k + 1, h', s', γ3, by omega, by go_num, Xmh.out, by omega, hbh.out⟩
                    case measure => simp [intOf]; omega
      · obtain rfl : k = len := by omega
        clear ha
        go_wp2_with fail
        go_ret
        exact ⟨rfl, Hk.turn.below⟩

end Go.Proofs.Ytlmmiobnbcanmaa
