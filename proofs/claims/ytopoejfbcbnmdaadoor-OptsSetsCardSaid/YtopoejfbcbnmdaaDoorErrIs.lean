import Derived.Test.YtopoejfbcbnmdaaDoorErrAs
import Derived.Lib.IfaceEq
namespace Go.Proofs.YtopoejfbcbnmdaaDoor
open Go.RowKit Go.Extern.Stop Go.Stop Go.Extern

/-! Closed facts on errors.Is at a target that is an api.Errno (after the guide's section 10.9). -/
theorem fi_typeOf (v : Value) (w : World) : (ReflectliteType.typeOf #[.iface 56 v]).run Tryd.prog w = .ok (.iface 88 (.agg #[.pointer (some ⟨4, 56, none⟩)])) w := by kernel_rfl
/-- The model's entry for Comparable. -/
def fi_fn : Array Value → Sem Value := ReflectliteType.method fun t => do Rtype.noPackHeld "Comparable" t; pure (.bool (← typeInfo t).comparable)
theorem fi_comparable (w : World) : (fi_fn #[.agg #[.pointer (some ⟨4, 56, none⟩)]]).run Tryd.prog w = .ok (.bool true) w := by kernel_rfl
theorem fi_methodComparable (v : Value) (w : World) : (Go.method 253 88 v "Comparable").run Tryd.prog w = .ok (86, v) w := by kernel_rfl
theorem fi_comp : (Tryd.prog.info? 56).map (·.comparable) = some true := by kernel_rfl
theorem fi_noIs (v : Value) (xT : TypeId) (w : World) : (Instr.typeAssert (.iface 39 v) xT 104 true).run Tryd.prog w = .ok (.tuple #[.nilIface, .bool false]) w := run_typeAssert_lacksB Tryd.underlying104 (by kernel_rfl) (by kernel_rfl) v xT w
theorem fi_hasUnwrap (v : Value) (xT : TypeId) (w : World) : (Instr.typeAssert (.iface 39 v) xT 95 true).run Tryd.prog w = .ok (.tuple #[.iface 39 v, .bool true]) w := run_typeAssert_hasB Tryd.underlying95 (by kernel_rfl) v xT w
theorem fi_methodUnwrap (v : Value) (w : World) : (Go.method 253 39 v "Unwrap").run Tryd.prog w = .ok (24, v) w := by kernel_rfl

/-- errors.Is(x, x), x an api.Errno. -/
theorem is_errno (a : Int) (w : World) :
    Calls Tryd.prog 23 #[.iface 56 (.int .i64 a), .iface 56 (.int .i64 a)] w fun e w' => e = .returned (.bool true) ∧ w' = w := by
  have h8 := @run_callFunc_extern Tryd.prog 36 _ ReflectliteType.typeOf Tryd.func36 (by kernel_rfl) (by kernel_rfl) (by kernel_rfl) (by kernel_rfl)
  have h32 := @run_callFunc_extern Tryd.prog 86 _ fi_fn Tryd.func86 (by kernel_rfl) (by kernel_rfl) (by kernel_rfl) (by kernel_rfl)
  have tT := fi_typeOf
  have cT := fi_comparable
  have mR := fi_methodComparable
  have heq := Lib.run_eql_iface_int (P := Tryd.prog) (k := .i64) w a a Tryd.underlying36 (by kernel_rfl) Tryd.underlying56
  go_enter Tryd.func23, Tryd.ntmps23
  go_wp2
  refine wp_loop_rounds 1 ?_
  rw [rounds_succ]
  go_wp2
  go_ret
  exact ⟨rfl, rfl⟩

/-- errors.Is(e, x), e a *opts.Fault that holds x itself. -/
theorem is_fault (pb po : Nat) (a : Int) (w : World) (h1 : w.cell? ⟨pb, po + 1, none⟩ = some (.iface 56 (.int .i64 a))) :
    Calls Tryd.prog 23 #[.iface 39 (.pointer (some ⟨pb, po, none⟩)), .iface 56 (.int .i64 a)] w fun e w' => e = .returned (.bool true) ∧ w' = w := by
  have h8 := @run_callFunc_extern Tryd.prog 36 _ ReflectliteType.typeOf Tryd.func36 (by kernel_rfl) (by kernel_rfl) (by kernel_rfl) (by kernel_rfl)
  have h32 := @run_callFunc_extern Tryd.prog 86 _ fi_fn Tryd.func86 (by kernel_rfl) (by kernel_rfl) (by kernel_rfl) (by kernel_rfl)
  have tT := fi_typeOf
  have cT := fi_comparable
  have mR := fi_methodComparable
  have nI := fi_noIs
  have uI := fi_hasUnwrap
  have mU := fi_methodUnwrap
  have heq := Lib.run_eql_iface_int (P := Tryd.prog) (k := .i64) w a a Tryd.underlying36 (by kernel_rfl) Tryd.underlying56
  have hty := run_eql_iface_types (P := Tryd.prog) 39 56 (.pointer (some ⟨pb, po, none⟩)) (.int .i64 a) Tryd.underlying36 (by decide) w
  go_enter Tryd.func23, Tryd.ntmps23
  go_wp2
  refine wp_loop_rounds 2 ?_
  rw [rounds_succ]
  go_wp2
  rw [rounds_succ]
  go_wp2
  go_ret
  exact ⟨rfl, rfl⟩

end Go.Proofs.YtopoejfbcbnmdaaDoor
