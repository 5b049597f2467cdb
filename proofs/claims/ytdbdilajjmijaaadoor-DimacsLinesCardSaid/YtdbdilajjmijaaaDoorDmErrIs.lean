import Derived.Test.YtdbdilajjmijaaaDoorDmErrAs
import Derived.Lib.IfaceEq
namespace Go.Proofs.YtdbdilajjmijaaaDoor
open Go.RowKit Go.Extern.Stop Go.Stop Go.Extern

/-! Closed facts on errors.Is at a target that is an api.Errno (after the guide's section 10.9). -/
theorem fi_typeOf (v : Value) (w : World) : (ReflectliteType.typeOf #[.iface 44 v]).run Tryd.prog w = .ok (.iface 99 (.agg #[.pointer (some ⟨9, 44, none⟩)])) w := by kernel_rfl
/-- The model's entry for Comparable. -/
def fi_fn : Array Value → Sem Value := ReflectliteType.method fun t => do Rtype.noPackHeld "Comparable" t; pure (.bool (← typeInfo t).comparable)
theorem fi_comparable (w : World) : (fi_fn #[.agg #[.pointer (some ⟨9, 44, none⟩)]]).run Tryd.prog w = .ok (.bool true) w := by kernel_rfl
theorem fi_methodComparable (v : Value) (w : World) : (Go.method 287 99 v "Comparable").run Tryd.prog w = .ok (113, v) w := by kernel_rfl
theorem fi_comp : (Tryd.prog.info? 44).map (·.comparable) = some true := by kernel_rfl
theorem fi_noIs (v : Value) (xT : TypeId) (w : World) : (Instr.typeAssert (.iface 46 v) xT 110 true).run Tryd.prog w = .ok (.tuple #[.nilIface, .bool false]) w := run_typeAssert_lacksB Tryd.underlying110 (by kernel_rfl) (by kernel_rfl) v xT w
theorem fi_hasUnwrap (v : Value) (xT : TypeId) (w : World) : (Instr.typeAssert (.iface 46 v) xT 106 true).run Tryd.prog w = .ok (.tuple #[.iface 46 v, .bool true]) w := run_typeAssert_hasB Tryd.underlying106 (by kernel_rfl) v xT w
theorem fi_methodUnwrap (v : Value) (w : World) : (Go.method 287 46 v "Unwrap").run Tryd.prog w = .ok (22, v) w := by kernel_rfl

/-- errors.Is(x, x), x an api.Errno. -/
theorem is_errno (a : Int) (w : World) :
    Calls Tryd.prog 18 #[.iface 44 (.int .i64 a), .iface 44 (.int .i64 a)] w fun e w' => e = .returned (.bool true) ∧ w' = w := by
  have h8 := @run_callFunc_extern Tryd.prog 33 _ ReflectliteType.typeOf Tryd.func33 (by kernel_rfl) (by kernel_rfl) (by kernel_rfl) (by kernel_rfl)
  have h32 := @run_callFunc_extern Tryd.prog 113 _ fi_fn Tryd.func113 (by kernel_rfl) (by kernel_rfl) (by kernel_rfl) (by kernel_rfl)
  have tT := fi_typeOf
  have cT := fi_comparable
  have mR := fi_methodComparable
  have heq := Lib.run_eql_iface_int (P := Tryd.prog) (k := .i64) w a a Tryd.underlying33 (by kernel_rfl) Tryd.underlying44
  go_enter Tryd.func18, Tryd.ntmps18
  go_wp2
  refine wp_loop_rounds 1 ?_
  rw [rounds_succ]
  go_wp2
  go_ret
  exact ⟨rfl, rfl⟩

/-- errors.Is(e, x), e a *dimacs.Fault that holds x itself. -/
theorem is_fault (pb po : Nat) (a : Int) (w : World) (h1 : w.cell? ⟨pb, po + 1, none⟩ = some (.int .i64 a)) :
    Calls Tryd.prog 18 #[.iface 46 (.pointer (some ⟨pb, po, none⟩)), .iface 44 (.int .i64 a)] w fun e w' => e = .returned (.bool true) ∧ w' = w := by
  have h8 := @run_callFunc_extern Tryd.prog 33 _ ReflectliteType.typeOf Tryd.func33 (by kernel_rfl) (by kernel_rfl) (by kernel_rfl) (by kernel_rfl)
  have h32 := @run_callFunc_extern Tryd.prog 113 _ fi_fn Tryd.func113 (by kernel_rfl) (by kernel_rfl) (by kernel_rfl) (by kernel_rfl)
  have tT := fi_typeOf
  have cT := fi_comparable
  have mR := fi_methodComparable
  have nI := fi_noIs
  have uI := fi_hasUnwrap
  have mU := fi_methodUnwrap
  have heq := Lib.run_eql_iface_int (P := Tryd.prog) (k := .i64) w a a Tryd.underlying33 (by kernel_rfl) Tryd.underlying44
  have hty := run_eql_iface_types (P := Tryd.prog) 46 44 (.pointer (some ⟨pb, po, none⟩)) (.int .i64 a) Tryd.underlying33 (by decide) w
  go_enter Tryd.func18, Tryd.ntmps18
  go_wp2
  refine wp_loop_rounds 2 ?_
  rw [rounds_succ]
  go_wp2
  rw [rounds_succ]
  go_wp2
  go_ret
  exact ⟨rfl, rfl⟩

end Go.Proofs.YtdbdilajjmijaaaDoor
