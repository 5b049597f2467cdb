import Derived.Test.YtdbdilajjmijaaaGreatDoorRows
import Derived.Test.YtdbdilajjmijaaaGreatDoorTie
import Derived.Test.YtdbdilajjmijaaaGreatDoorDnFit
import Derived.Test.YtdbdilajjmijaaaGreatDoorDnTail
import Derived.Test.YtdbdilajjmijaaaGreatDoorDnLawNum
import Derived.LaidHandle
import Derived.LaidSub
import Derived.ProofKit
import Derived.OpenShut
import Derived.ShutString
import Derived.LaidMore
import Derived.Lay
import Derived.Lib.LaidU8
import Derived.Stop.LaidErr
import Derived.Stop.Joined
import Derived.MakeChecks
import Derived.SevenTiedAt
import Derived.Shelf.Vars
import Derived.HandedShaped
import Derived.SizedLaws
namespace Go.Proofs.YtdbdilajjmijaaaGreatDoor
open Go.ChangeShapes Go.WideShapes Go.ChangeAt Go.RowKit

theorem Tryz.own : ownKnob Tryz.prog.godebug = none := by kernel_rfl
theorem Tryz.laidOut : laidOutB Tryz.prog = true := by kernel_rfl

/-- The wrap over a row that lists variables, the world's shape handed on. -/
theorem handed_shaped {H : Type} {enc : TypeId × Value → H} {a : Assume} {C : Checked} {os : Os} {f : FuncId} {fn : Func} {s : ChangeSpec} {conds : List PathCond} {apart fresh handsOn again : Bool} {X : World → Array Value → Prop}
    (hX : ∀ (w w' : World) (args : Array Value), w.heap = w'.heap → X w args → X w' args)
    (own : ownKnob C.prog.godebug = none) (started : os.Started) (noInit : C.prog.inits.idxOf? f = none) (hfn : C.prog.funcs[f]? = some fn)
    (witness : ∃ (w : World) (tape : Tape) (i : Input), w.os = os ∧ (w.forCall tape i).Shaped C.prog ∧ i.vars = [] ∧ Input.okWide C.prog (w.forCall tape i) .any w.heap.size f i ∧
      ((s.pre enc C.prog fn conds apart (w.forCall tape i).memory i.args ∧ X (w.forCall tape i).memory i.args) ∧ sizedMet enc C.prog fn (OpenSpec.ofChange s) apart (w.forCall tape i).memory i.args) ∧ a.holds C.prog (lone (Frame.enter C.prog f i.args .normal) [] (w.forCall tape i)))
    (contract : ∀ (W : World) (base : Nat) (args : Array Value) (ds gs : List (DataW H)) (before : List MemPlace),
      (∀ (j : Nat) t v, fn.params[j]? = some t → args[j]? = some v → Value.okWide C.prog W .any base t v) →
      DataW.Whole enc C.prog fn.params.toList s.vars apart W args.toList ds gs before →
      conds.all (PathCond.test C.prog ⟨fn.params.toList, ds, s.plain.varTypes C.prog, gs⟩) = true →
      (DataW.weightsEach C.prog (fn.params.toList ++ s.plain.varTypes C.prog) (ds ++ gs)).all (· ≤ reachBytes) = true → X W args → W.ShapedOpen C.prog →
      Calls C.prog f args W fun e W' => ∃ v, e = .returned v ∧ s.post enc C.prog fn apart fresh handsOn again W args v W') :
    ReturnsInHanded a C os f .any (fun w args => (s.pre enc C.prog fn conds apart w args ∧ X w args) ∧ sizedMet enc C.prog fn (OpenSpec.ofChange s) apart w args) (s.post enc C.prog fn apart fresh handsOn again) := by
  refine returnsInHanded_of_calls own started noInit witness ?_
  intro w tape i _ hsh _ hok hpre _
  obtain ⟨_, _, _, fn', hfn', _, _, _, _, hval⟩ := hok
  have e : fn' = fn := Option.some.inj (hfn'.symm.trans hfn)
  subst e
  obtain ⟨⟨⟨ds, gs, before, hw, hc⟩, hx⟩, hz⟩ := hpre
  have hw' := DataW.Whole.of_heap (w' := w.forCall tape i) (by rfl) hw
  refine (contract (w.forCall tape i) w.heap.size i.args ds gs before hval hw' hc (hz.weights hw) (hX _ _ _ (by rfl) hx) hsh).mono fun e W' ⟨v, he, hp⟩ => ?_
  subst he
  exact ChangeSpec.post_blind hp

/-- What the rows list. -/
def laid5 : List (String × DataW Unit) := [("math/bits.deBruijn32tab", Rows.laid_math_bits_deBruijn32tab), ("math/bits.deBruijn64tab", Rows.laid_math_bits_deBruijn64tab), ("internal/strconv.uint64pow10", Rows.laid_internal_strconv_uint64pow10), ("unicode/utf8.acceptRanges", Rows.laid_unicode_utf8_acceptRanges), ("unicode/utf8.first", Rows.laid_unicode_utf8_first)]

theorem Tryz.gPow : Tryz.prog.globalNamed "internal/strconv.uint64pow10" = some 1 := by kernel_rfl
theorem Tryz.gPowType : (Tryz.prog.globals[1]?).map (·.type) = some 132 := by kernel_rfl

theorem env_max {W : World} (hsh : W.ShapedOpen Tryz.prog) : ∃ m, W.cell? ⟨2, 0, none⟩ = some (.int .i64 m) :=
  cell_of_shapedOpen_int (t := 3) (zero := #[.int .i64 0]) hsh (of_decide_eq_true (by kernel_rfl)) (by kernel_rfl) (by kernel_rfl) (by kernel_rfl) (by kernel_rfl) Tryz.underlying3
theorem env_of5 {W : World} (h0 : laidMetH Tryz.prog laid5 W) (hsh : W.ShapedOpen Tryz.prog) : Env W := by
  rw [MakeChecks.laidMetH_plain _ _ _ (by kernel_rfl)] at h0
  have h : laidMet Tryz.prog laid5 W := h0
  exact ⟨Lib.tabIs_of_head (n := 20) (e := 114) (k := .u64) Tryz.gPow Tryz.gPowType Tryz.underlying132 Tryz.underlying114 (by kernel_rfl) (by kernel_rfl) h.tail.tail, env_max hsh⟩

theorem Tryz.et : Tryz.prog.globalNamed "errors.errorType" = some 0 := by kernel_rfl
theorem Tryz.rt : (Tryz.prog.cutTypes.find? (·.1 == "internal/reflectlite.rtype")).map (·.2) = some 89 := by kernel_rfl
theorem Tryz.oneRow : ((List.range 182).filter fun t => Tryz.prog.rowNamed t [101, 114, 114, 111, 114]) = [33] := by kernel_rfl
theorem Tryz.size : Tryz.prog.types.size = 182 := by kernel_rfl
def laidErr : List (String × DataW Unit) := [("errors.errorType", Rows.laid_errors_errorType)]
def laid6 : List (String × DataW Unit) := [("math/bits.deBruijn32tab", Rows.laid_math_bits_deBruijn32tab), ("math/bits.deBruijn64tab", Rows.laid_math_bits_deBruijn64tab), ("internal/strconv.uint64pow10", Rows.laid_internal_strconv_uint64pow10), ("unicode/utf8.acceptRanges", Rows.laid_unicode_utf8_acceptRanges), ("errors.errorType", Rows.laid_errors_errorType), ("unicode/utf8.first", Rows.laid_unicode_utf8_first)]
def laid7 : List (String × DataW Unit) := [("math/bits.deBruijn32tab", Rows.laid_math_bits_deBruijn32tab), ("math/bits.deBruijn64tab", Rows.laid_math_bits_deBruijn64tab), ("internal/strconv.uint64pow10", Rows.laid_internal_strconv_uint64pow10), ("unicode/utf8.acceptRanges", Rows.laid_unicode_utf8_acceptRanges), ("strconv.ErrRange", Rows.laid_strconv_ErrRange), ("strconv.ErrSyntax", Rows.laid_strconv_ErrSyntax), ("unicode/utf8.first", Rows.laid_unicode_utf8_first)]
def laid8 : List (String × DataW Unit) := [("math/bits.deBruijn32tab", Rows.laid_math_bits_deBruijn32tab), ("math/bits.deBruijn64tab", Rows.laid_math_bits_deBruijn64tab), ("internal/strconv.uint64pow10", Rows.laid_internal_strconv_uint64pow10), ("unicode/utf8.acceptRanges", Rows.laid_unicode_utf8_acceptRanges), ("errors.errorType", Rows.laid_errors_errorType), ("strconv.ErrRange", Rows.laid_strconv_ErrRange), ("strconv.ErrSyntax", Rows.laid_strconv_ErrSyntax), ("unicode/utf8.first", Rows.laid_unicode_utf8_first)]
theorem typ_of {W : World} (h : handlesMet Tryz.prog laidErr W) : TypOk W := by
  obtain ⟨name, u, ty, e1, e2, e3, e4, e5⟩ := h _ (List.mem_singleton.2 rfl)
  have en : name = [101, 114, 114, 111, 114] := (Option.some.inj e1).symm
  subst en
  obtain rfl := Option.some.inj (Tryz.rt.symm.trans e2)
  have hm : ty ∈ (List.range 182).filter fun t => Tryz.prog.rowNamed t [101, 114, 114, 111, 114] := List.mem_filter.2 ⟨List.mem_range.2 (by rw [← Tryz.size]; exact e3), e4⟩
  rw [Tryz.oneRow] at hm
  obtain rfl := List.mem_singleton.1 hm
  have hh : typeHandle Tryz.prog 33 = .pointer (some ⟨9, 33, none⟩) := by kernel_rfl
  rw [hh] at e5
  unfold TypOk
  simpa using World.var?_cell Tryz.et e5 0
theorem env_of6 {W : World} (h0 : laidMetH Tryz.prog laid6 W) (hsh : W.ShapedOpen Tryz.prog) : Env W ∧ TypOk W := by
  have h : laidMet Tryz.prog laid5 W ∧ handlesMet Tryz.prog laidErr W := h0
  have h1 : laidMetH Tryz.prog laid5 W := by rw [MakeChecks.laidMetH_plain _ _ _ (by kernel_rfl)]; exact h.1
  exact ⟨env_of5 h1 hsh, typ_of h.2⟩

/-- A world that meets the condition: the settled one, the handle's cell laid, then the others. -/
noncomputable def errWorld (os : Os) : World :=
  let w0 := World.holding Tryz.prog os ⟨#[], #[], []⟩
  { w0 with heap := w0.heap.modify 0 fun
      | .cells _ t frozen => .cells #[.iface 89 (.agg #[.pointer (some ⟨9, 33, none⟩)])] t frozen
      | o => o }
theorem laidMet_layAll {P : Program} {w0 : World} {laid : List (String × DataW Unit)} (args : Array Value) (hf : w0.layFits P laid [] = true) (hi : w0.layIfaces P laid (w0.layVars P laid) = true) :
    laidMet P laid ((w0.layVars P laid).forCall (fun _ _ => 0) ⟨#[], args, []⟩).memory := by
  have e1 : (laid.filter fun x => (laid.map (·.1)).contains x.1) = laid := List.filter_eq_self.2 fun x hx => List.contains_iff_mem.2 (List.mem_map.2 ⟨x, hx, rfl⟩)
  have e2 : (laid.filter fun x => !(laid.map (·.1)).contains x.1) = [] := List.filter_eq_nil_iff.2 fun x hx => by rw [List.contains_iff_mem.2 (List.mem_map.2 ⟨x, hx, rfl⟩)]; simp
  have h : laidMet P laid (w0.layVars P laid) := laidMet_layVars (w0 := w0) (laid.map (·.1)) [] (by rw [e1]) (by rw [e1]; exact hf) (by rw [e1]; exact hi) (by rw [e2]; exact LaidIn.none)
  exact h.of_heap (by simp [World.memory, World.forCall, Input.heap])
noncomputable def world6 (os : Os) : World := (errWorld os).layVars Tryz.prog laid5
theorem world6_os (os : Os) : (world6 os).os = os := World.layVars_os _ _ _
theorem world6_met (os : Os) (args : Array Value) : laidMetH Tryz.prog laid6 ((world6 os).forCall (fun _ _ => 0) ⟨#[], args, []⟩).memory :=
  laidMetH_of_parts (l := laid6) (laidMet_layAll (w0 := errWorld os) (laid := laid5) args (by kernel_rfl) (by kernel_rfl)) (by kernel_rfl)
theorem Tryz.gSyn : Tryz.prog.globalNamed "strconv.ErrSyntax" = some 3 := by kernel_rfl
theorem Tryz.gSynType : (Tryz.prog.globals[3]?).map (·.type) = some 33 := by kernel_rfl
theorem Tryz.gRan : Tryz.prog.globalNamed "strconv.ErrRange" = some 4 := by kernel_rfl
theorem Tryz.gRanType : (Tryz.prog.globals[4]?).map (·.type) = some 33 := by kernel_rfl
theorem Tryz.cellsES : Tryz.prog.cellsOf 153 = 1 := by kernel_rfl
theorem Tryz.cellsStr : Tryz.prog.cellsOf 9 = 1 := by kernel_rfl
theorem Tryz.starES : "*" ++ "errors.errorString" = "*errors.errorString" := by decide
theorem Tryz.rowES (u : TypeId) (h : Tryz.prog.typeName? 3 u = some "*errors.errorString") : u = 151 :=
  typeName_ptr_named (nm := "errors.errorString") (by rw [Tryz.starES]; kernel_rfl) (by kernel_rfl) (by decide) u (by rw [Tryz.starES]; exact h)
theorem env_of8 {W : World} (h0 : laidMetH Tryz.prog laid8 W) (hsh : W.ShapedOpen Tryz.prog) : Env W ∧ TypOk W ∧ EnvA W := by
  have h : laidMet Tryz.prog laid7 W ∧ handlesMet Tryz.prog laidErr W := h0
  clear h0
  refine ⟨⟨?_, env_max hsh⟩, typ_of h.2, ⟨?_, ?_⟩⟩
  · exact Lib.tabIs_of_head (n := 20) (e := 114) (k := .u64) Tryz.gPow Tryz.gPowType Tryz.underlying132 Tryz.underlying114 (by kernel_rfl) (by kernel_rfl) h.1.tail.tail
  · obtain ⟨a0, s0, hv, _⟩ := laid_sentinel h.1.tail.tail.tail.tail.tail Tryz.gSyn Tryz.gSynType Tryz.underlying33 Tryz.rowES Tryz.underlying151 Tryz.underlying153 rfl rfl Tryz.underlying9 Tryz.cellsES Tryz.cellsStr
    exact ⟨_, _, hv⟩
  · obtain ⟨a0, s0, hv, _⟩ := laid_sentinel h.1.tail.tail.tail.tail Tryz.gRan Tryz.gRanType Tryz.underlying33 Tryz.rowES Tryz.underlying151 Tryz.underlying153 rfl rfl Tryz.underlying9 Tryz.cellsES Tryz.cellsStr
    exact ⟨_, _, hv⟩
noncomputable def world8 (os : Os) : World := (errWorld os).layVars Tryz.prog laid7
theorem world8_os (os : Os) : (world8 os).os = os := World.layVars_os _ _ _
theorem world8_met (os : Os) (args : Array Value) : laidMetH Tryz.prog laid8 ((world8 os).forCall (fun _ _ => 0) ⟨#[], args, []⟩).memory :=
  laidMetH_of_parts (l := laid8) (laidMet_layAll (w0 := errWorld os) (laid := laid7) args (by kernel_rfl) (by kernel_rfl)) (by kernel_rfl)
end Go.Proofs.YtdbdilajjmijaaaGreatDoor
