import Derived.Test.YtlmmiobnbcanmaaMem
import Derived.Maps.OwnSet
import Derived.Maps.OwnOps
import Derived.Maps.Keyed
import Derived.Maps.Views
namespace Go.Proofs.Ytlmmiobnbcanmaa
open Go Go.RowKit Go.Maps

/-- A map type whose keys are ints, and what its elements are at first. -/
structure MapTy (P : Program) (t k e : TypeId) (z : Value) : Prop where
  map : P.underlying t = some (.map k e)
  key : P.underlying k = some (.int .i64)
  zero : ∀ w, (zeroValue e).run P w = .ok z w

/-- An element is told as it is. -/
def held (v : Value) : Option (DataW Value × List MemPlace) := some (.held v, [])

/-- A map lies at b, at its path: f tells its elements, sz how many there are. -/
structure MapAt (P : Program) (k : TypeId) (γ : Tags) (w : World) (p : Tag) (b : Nat) (f : Int → Option Value) (sz : Nat) : Prop where
  own : ∃ D : DataW Value, w.ownsMap P k held b sz D ∧ Tidy D ∧ Maps.size D = sz ∧ ∀ x zd, D.atKey (.int .i64 x) zd = ((f x).map DataW.held).getD zd
  tag : γ b = p

/-- An int. -/
def I64 (x : Int) : Prop := (Lit.int .i64 x).wf = true
theorem I64.mk {x : Int} (h : -9223372036854775808 ≤ x ∧ x ≤ 9223372036854775807) : I64 x := by
  simp [I64, Lit.wf, IntKind.min, IntKind.max, IntKind.signed, IntKind.bits]; omega
theorem I64.small {x : Int} (h : -1000000000000 ≤ x) (h2 : x ≤ 1000000000000) : I64 x := I64.mk ⟨by omega, by omega⟩

section
variable {P : Program} {t k e : TypeId} {z : Value} {γ γ' : Tags} {w w' : World} {p : Tag} {b : Nat} {f : Int → Option Value} {sz : Nat}

theorem MapTy.keyed (M : MapTy P t k e z) : Keyed P k := int_keyed M.key

theorem MapAt.lt (h : MapAt P k γ w p b f sz) : b < w.heap.size := let ⟨_, h, _⟩ := h.own; h.lt

theorem own_tight {D : DataW Value} {n : Nat} (h : w.ownsMap P k held b n D) : w.ownsMap P k held b (Maps.size D) D := by
  obtain ⟨es, clock, hb, F, _, rfl⟩ := h
  exact ⟨es, clock, hb, F, by simp [Maps.size, length_sorted], rfl⟩

theorem MapAt.turn (h : MapAt P k γ w p b f sz) {ps : List Tag} (ht : Turn γ γ' w w' ps) (hp : ¬ Under ps p) : MapAt P k γ' w' p b f sz := by
  have hb := ht.block b h.lt (by rw [h.tag]; exact hp)
  have hg := ht.tag b h.lt
  obtain ⟨⟨D, ⟨es, clock, hh, rest⟩, h2⟩, tg⟩ := h
  exact ⟨⟨D, ⟨es, clock, by rw [hb]; exact hh, rest⟩, h2⟩, by rw [hg]; exact tg⟩

theorem MapAt.drewN (h : MapAt P k γ w p b f sz) (n : Nat) : MapAt P k γ (w.drewN n) p b f sz := ⟨h.own, h.tag⟩
theorem MapAt.alloc (h : MapAt P k γ w p b f sz) (o : Obj) : MapAt P k γ (w.alloc o) p b f sz := by
  obtain ⟨⟨D, h1, h2⟩, tg⟩ := h
  exact ⟨⟨D, h1.alloc o, h2⟩, tg⟩

theorem MapAt.congr (h : MapAt P k γ w p b f sz) {g : Int → Option Value} (hfg : ∀ x, f x = g x) : MapAt P k γ w p b g sz := by
  have : f = g := funext hfg
  exact this ▸ h

theorem MapAt.new (P : Program) (k : TypeId) (γ : Tags) (w : World) (p : Tag) : MapAt P k (γ.set w.heap.size p) (w.alloc (.map #[] 0)) p w.heap.size (fun _ => none) 0 :=
  ⟨⟨.map [], World.ownsMap_made w P k held, tidy_empty, rfl, fun _ _ => rfl⟩, by simp⟩

theorem MapAt.has {D : DataW Value} (hD : ∀ x zd, D.atKey (.int .i64 x) zd = ((f x).map DataW.held).getD zd) (x : Int) : Maps.has D (.int .i64 x) = (f x).isSome := by
  cases hf : f x with
  | none => exact has_false_of_atKey fun zd => by rw [hD, hf]; rfl
  | some v => exact has_true_of_atKey (y := .held v) fun zd => by rw [hD, hf]; rfl

/-- One element is set. -/
def mset (f : Int → Option Value) (x : Int) (v : Value) : Int → Option Value := fun y => if y = x then some v else f y
/-- One goes. -/
def mdel (f : Int → Option Value) (x : Int) : Int → Option Value := fun y => if y = x then none else f y

theorem held_inv {v : Value} {y : DataW Value} {ps : List MemPlace} (h : held v = some (y, ps)) : y = .held v := by
  simp only [held, Option.some.injEq, Prod.mk.injEq] at h; exact h.1.symm

theorem at_get {v : Value} {o : Option Value} {ps : List MemPlace} (h : held v = some (((o.map DataW.held).getD (.held z)), ps)) : v = o.getD z := by
  have := held_inv h
  cases o with
  | none => simpa using this.symm
  | some u => simpa using this.symm

theorem wpList_lookup_m {ops : Array Oper} {rest : List Oper} {o : Oper} {a : Act} {Q : Exit → Act → World → Prop} (hg : o.guard = none) (m x : Operand) (hop : o.op = Op.lookup t m x false) (M : MapTy P t k e z)
    (hm : a.eval m = .map (some b)) (h : MapAt P k γ w p b f sz) (i : Int) (hx : a.eval x = .int .i64 i) (hi : I64 i)
    (hK : wpList P ops Q rest (a.put o.dst ((f i).getD z)) w) : wpList P ops Q (o :: rest) a w := by
  refine wpList_plain hg fun K' hK' => ?_
  obtain ⟨D, h1, _, _, hD⟩ := h.own
  obtain ⟨v, ps, hrun, hv⟩ := h1.lookup M.keyed M.map (M.zero w) (z := z) (zd := .held z) (zp := []) rfl (keyOf_int_mk M.key hi)
  rw [hD] at hv
  have hv' := at_get hv
  subst hv'
  unfold Oper.wp
  simp [execOp, hop, hm, hx, hrun, Result.andThen]
  exact hK' _ _ hK

theorem wpList_lookup_v {ops : Array Oper} {rest : List Oper} {o : Oper} {a : Act} {Q : Exit → Act → World → Prop} (hg : o.guard = none) (m x : Operand) (hop : o.op = Op.lookup t m x false) (M : MapTy P t k e z)
    (hm : a.eval m = .map (some b)) (h : MapAt P k γ w p b f sz) (i : Int) (hx : a.eval x = .int .i64 i) (hi : I64 i) {v : Value} (hv : (f i).getD z = v)
    (hK : wpList P ops Q rest (a.put o.dst v) w) : wpList P ops Q (o :: rest) a w :=
  wpList_lookup_m hg m x hop M hm h i hx hi (by rw [hv]; exact hK)

theorem wpList_lookup_m_ok {ops : Array Oper} {rest : List Oper} {o : Oper} {a : Act} {Q : Exit → Act → World → Prop} (hg : o.guard = none) (m x : Operand) (hop : o.op = Op.lookup t m x true) (M : MapTy P t k e z)
    (hm : a.eval m = .map (some b)) (h : MapAt P k γ w p b f sz) (i : Int) (hx : a.eval x = .int .i64 i) (hi : I64 i)
    (hK : wpList P ops Q rest (a.put o.dst (.tuple #[(f i).getD z, .bool (f i).isSome])) w) : wpList P ops Q (o :: rest) a w := by
  refine wpList_plain hg fun K' hK' => ?_
  obtain ⟨D, h1, _, _, hD⟩ := h.own
  obtain ⟨v, ps, hrun, hv⟩ := h1.look_ok M.keyed M.map (M.zero w) (z := z) (zd := .held z) (zp := []) rfl (keyOf_int_mk M.key hi)
  rw [hD] at hv
  have hv' := at_get hv
  subst hv'
  rw [MapAt.has hD] at hrun
  unfold Oper.wp
  simp [execOp, hop, hm, hx, hrun, Result.andThen]
  exact hK' _ _ hK

theorem MapAt.turned {w' : World} (h : MapAt P k γ w p b f sz) (hg : w.grownBy w' (some b)) : Turn γ γ w w' [p] :=
  ⟨hg.os, hg.tape, hg.output, hg.size, fun _ _ => rfl, fun _ => .inl rfl, fun i hi hp => hg.block i hi fun e => hp (by cases e; rw [h.tag]; exact Under.self (by simp))⟩

theorem MapAt.put (h : MapAt P k γ w p b f sz) (M : MapTy P t k e z) (hn : sz < maxLen) {i : Int} (hi : I64 i) (v : Value) :
    ∃ w', (Instr.mapUpdate t (.map (some b)) (.int .i64 i) v).run P w = .ok () w' ∧ MapAt P k γ w' p b (mset f i v) (if (f i).isSome then sz else sz + 1) ∧ Turn γ γ w w' [p] := by
  obtain ⟨D, h1, hT, hs, hD⟩ := h.own
  obtain ⟨w', hrun, h2, h3⟩ := h1.update M.keyed M.map hn (key := .int .i64 i) (val := v) (d := .held v) (ps := []) (keyOf_int_mk M.key hi) rfl
  have hk : WideAt.IsKeyLit (.int .i64 i) := trivial
  have hsz := size_put (k := .int .i64 i) hT (.held v)
  rw [MapAt.has hD, hs] at hsz
  refine ⟨w', hrun, ⟨⟨D.put (.int .i64 i) (.held v), hsz ▸ own_tight h2, hT.put hk _, hsz, fun x zd => ?_⟩, h.tag⟩, h.turned h3⟩
  by_cases hx : x = i
  · subst hx
    rw [atKey_put_same hT.isMap hk]
    simp [mset]
  · rw [atKey_put_other (by intro e; cases e; exact hx rfl), hD]
    simp [mset, hx]

theorem wpList_update_m {ops : Array Oper} {rest : List Oper} {o : Oper} {a : Act} {Q : Exit → Act → World → Prop} (hg : o.guard = none) (m x v : Operand) (hop : o.op = Op.mapUpdate t m x v) (M : MapTy P t k e z)
    (hm : a.eval m = .map (some b)) (h : MapAt P k γ w p b f sz) (hn : sz < maxLen) (i : Int) (hx : a.eval x = .int .i64 i) (hi : I64 i) (u : Value) (hv : a.eval v = u)
    (hK : ∀ w', MapAt P k γ w' p b (mset f i u) (if (f i).isSome then sz else sz + 1) → Turn γ γ w w' [p] → wpList P ops Q rest (a.put o.dst undef) w') : wpList P ops Q (o :: rest) a w := by
  refine wpList_plain hg fun K' hK' => ?_
  obtain ⟨w', hrun, h2, h3⟩ := h.put M hn hi u
  unfold Oper.wp
  simp [execOp, hop, hm, hx, hv, hrun, Result.andThen]
  exact hK' _ _ (hK w' h2 h3)

theorem MapAt.del (h : MapAt P k γ w p b f sz) (M : MapTy P t k e z) {i : Int} (hi : I64 i) (ty : TypeId) :
    ∃ w', (Builtin.delete_ #[t, k] ty #[.map (some b), .int .i64 i]).run P w = .ok (.tuple #[]) w' ∧ MapAt P k γ w' p b (mdel f i) (if (f i).isSome then sz - 1 else sz) ∧ Turn γ γ w w' [p] := by
  obtain ⟨D, h1, hT, hs, hD⟩ := h.own
  obtain ⟨w', hrun, h2, h3⟩ := h1.drop M.keyed M.map (keyOf_int_mk M.key hi) ty
  have hsz := size_del (k := .int .i64 i) hT
  rw [MapAt.has hD, hs] at hsz
  have hsz2 : Maps.size (D.del (.int .i64 i)) = if (f i).isSome then sz - 1 else sz := by
    split
    · rename_i hf; rw [if_pos hf] at hsz; omega
    · rename_i hf; rw [if_neg hf] at hsz; omega
  refine ⟨w', hrun, ⟨⟨D.del (.int .i64 i), hsz2 ▸ own_tight h2, hT.del _, hsz2, fun x zd => ?_⟩, h.tag⟩, h.turned h3.grown⟩
  by_cases hx : x = i
  · subst hx
    rw [atKey_del_same]
    simp [mdel]
  · rw [atKey_del_other (by intro e; cases e; exact hx rfl), hD]
    simp [mdel, hx]

theorem wpList_delete_m {ops : Array Oper} {rest : List Oper} {o : Oper} {a : Act} {Q : Exit → Act → World → Prop} (hg : o.guard = none) (m x : Operand) (hop : o.op = Op.call { callee := Callee.builtin Builtin.delete, args := #[m, x], argTypes := #[t, k] }) (M : MapTy P t k e z)
    (hm : a.eval m = .map (some b)) (h : MapAt P k γ w p b f sz) (i : Int) (hx : a.eval x = .int .i64 i) (hi : I64 i)
    (hK : ∀ w', MapAt P k γ w' p b (mdel f i) (if (f i).isSome then sz - 1 else sz) → Turn γ γ w w' [p] → wpList P ops Q rest (a.put o.dst (.tuple #[])) w') : wpList P ops Q (o :: rest) a w := by
  refine wpList_plain hg fun K' hK' => ?_
  obtain ⟨w', hrun, h2, h3⟩ := h.del M hi o.type
  unfold Oper.wp
  simp [execOp, hop, resolve, invoke, builtin, hm, hx, hrun, Result.andThen]
  exact hK' _ _ (hK w' h2 h3)

theorem wpList_len_m {ops : Array Oper} {rest : List Oper} {o : Oper} {a : Act} {Q : Exit → Act → World → Prop} (hg : o.guard = none) (m : Operand) (hop : o.op = Op.call { callee := Callee.builtin Builtin.len, args := #[m], argTypes := #[t] }) (M : MapTy P t k e z)
    (hm : a.eval m = .map (some b)) (h : MapAt P k γ w p b f sz) (hK : wpList P ops Q rest (a.put o.dst (.int .i64 sz)) w) : wpList P ops Q (o :: rest) a w := by
  obtain ⟨D, h1, _, hs, _⟩ := h.own
  subst hs
  exact wpList_len_own w hg m t hop k e M.map held b _ D hm h1 hK

end

end Go.Proofs.Ytlmmiobnbcanmaa
