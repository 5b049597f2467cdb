import Derived.Test.YtlmmiobnbcanmaaTrailE
import Derived.Test.YtlmmiobnbcanmaaMap
namespace Go.Proofs.Ytlmmiobnbcanmaa
open Go.RowKit

theorem zero_is {P : Program} {e : TypeId} {z : Value} {i : TypeInfo} (hi : P.info? e = some i) (hz : i.zero = some z) : ∀ w, (zeroValue e).run P w = .ok z w := by
  intro w
  simp [zeroValue, typeInfo, hi, hz]

theorem Try.tyII : MapTy Try.prog 39 3 3 (.int .i64 0) :=
  ⟨Try.underlying39, Try.underlying3, let ⟨_, hi, hz, _⟩ := Try.infoInt; zero_is hi hz⟩
theorem Try.tyIB : MapTy Try.prog 27 3 4 (.bool false) :=
  ⟨Try.underlying27, Try.underlying3, let ⟨_, hi, hz, _⟩ := Try.infoBool; zero_is hi hz⟩

theorem wpList_look_ok {P : Program} {t k e : TypeId} {z : Value} {γ : Tags} {w : World} {p : Tag} {b : Nat} {f : Int → Option Value} {sz : Nat} {ops : Array Oper} {rest : List Oper} {o : Oper} {a : Act} {Q : Exit → Act → World → Prop} (hg : o.guard = none) (m x : Operand) (hop : o.op = Op.lookup t m x true) (M : MapTy P t k e z)
    (hm : a.eval m = .map (some b)) (h : MapAt P k γ w p b f sz) (i : Int) (hx : a.eval x = .int .i64 i) (hi : I64 i) {v : Value} (hv : (f i).getD z = v) {bo : Bool} (hb : (f i).isSome = bo)
    (hK : wpList P ops Q rest (a.put o.dst (.tuple #[v, .bool bo])) w) : wpList P ops Q (o :: rest) a w :=
  wpList_lookup_m_ok hg m x hop M hm h i hx hi (by rw [hv, hb]; exact hK)

section
variable {γ γ' : Tags} {w w' : World} {p : Tag} {b : Nat} {f : Int → Option Value} {sz : Nat}
/-- A lookup's run. -/
theorem MapAt.seen {P : Program} {t k e : TypeId} {z : Value} (h : MapAt P k γ w p b f sz) (M : MapTy P t k e z) {i : Int} (hi : I64 i) {v : Value} (hv : (f i).getD z = v) :
    (Instr.lookup t (.map (some b)) (.int .i64 i) false).run P w = .ok v w := by
  obtain ⟨D, h1, _, _, hD⟩ := h.own
  obtain ⟨v', ps, hrun, hv'⟩ := h1.lookup M.keyed M.map (M.zero w) (z := z) (zd := .held z) (zp := []) rfl (Maps.keyOf_int_mk M.key hi)
  rw [hD] at hv'
  have := at_get hv'
  rw [this, hv] at hrun
  exact hrun

/-- A slice that was just written out, at a path. -/
theorem Row.lit (γ : Tags) (w : World) (p : Tag) (e : TypeId) (size n : Nat) (cs : Array Value) (hn : n ≤ maxLen) (hs : cs.size = n * size) :
    Row (γ.set w.heap.size p) (w.alloc (.cells cs e)) p e size (some ⟨w.heap.size, 0, none⟩) n n cs.toList :=
  ⟨World.ownsRow_lit w cs n (Nat.zero_le _) hn hs, fun x hx => by cases hx; simp⟩
end

/-- A callee that only reads, in a region behind another one that drew. -/
theorem quiet_past {P : Program} {f : FuncId} {args : Array Value} {w : World} {v : Value} {m a : Nat} (h : Calls P f args (w.drewN (m + a)) (Quiet (w.drewN (m + a)) v)) :
    Calls P f args (w.drewN (m + a)) fun e w'' => e = .returned v ∧ ∃ n, w'' = w.drewN (m + n) :=
  h.mono fun _ _ ⟨he, k, hk⟩ => ⟨he, a + k, by rw [hk, World.drewN_drewN, Nat.add_assoc]⟩

end Go.Proofs.Ytlmmiobnbcanmaa
