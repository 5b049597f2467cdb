import Derived.Test.YtopoejfbcbnmdaaDoorOptLaw
import Derived.Test.YtopoejfbcbnmdaaDoorOpen
import Derived.Test.YtopoejfbcbnmdaaDoorTie
import Derived.Test.YtopoejfbcbnmdaaDoorCards
import Derived.JoinedOf
import Derived.RowKitTokens
import Derived.LaidLaws
import Derived.LaidHandle
import Derived.Stop.Joined
namespace Go.Proofs.YtopoejfbcbnmdaaDoor
open Go.ChangeShapes Go.WideShapes Go.ChangeAt Go.RowKit Go.Deep

section
variable {H : Type} {enc : TypeId × Value → H} {P : Program} {w : World} {base : Nat} {spare : Nat → Bool} {held : Bool}

/-- A struct of whole numbers, by value. -/
theorem open_row {r : Reach} {b0 : Nat} {t : TypeId} {fs : Array Field} {v : Value} {d : DataW H} {p : List MemPlace} (ht : P.underlying t = some (.struct fs)) (hone : oneCellFields P fs = true) (hC : P.cellsOf t = fs.size)
    (hv : Value.okWide P w r b0 t v) (h : DataW.Trod enc P w base spare held t v d p) :
    ∃ cs : Array Value, v = .agg cs ∧ cs.size = fs.size ∧ ∀ (j : Nat) (f : Field) (k : IntKind), fs[j]? = some f → P.underlying f.type = some (.int k) → ∃ n, cs[j]? = some (.int k n) ∧ (Lit.int k n).wf = true := by
  obtain ⟨cs, rfl, hsz⟩ := okWide_struct ht hv
  obtain ⟨fuel, hf⟩ := h
  refine ⟨cs, rfl, hsz.trans hC, fun j f k hj hk => ?_⟩
  obtain ⟨ys, n', _, _, hlen, hyl, hfs⟩ := DataW.trod_struct ht hf
  have hjl : j < fs.size := (Array.getElem?_eq_some_iff.1 hj).1
  obtain ⟨ho, h1⟩ := hone_of hone j f hj
  have h2 := hfs j f hj
  rw [ho, h1] at h2
  have hlt : j < cs.size := by rw [hsz, hC]; exact hjl
  have hlt' : j < cs.toList.length := by simpa using hlt
  have e1 : ((Value.cells (.agg cs)).toList.drop j).take 1 = [cs.toList[j]] := by
    show (cs.toList.drop j).take 1 = _
    rw [List.drop_eq_getElem_cons hlt']; rfl
  rw [e1] at h2
  have h3 : ys[j]? = some (ys[j]'(by omega)) := List.getElem?_eq_getElem (by omega)
  obtain ⟨n, e2, _, wf⟩ := DataW.trod_int hk (h2.trans h3)
  simp only [List.cons.injEq, and_true] at e2
  exact ⟨n, by rw [Array.getElem?_eq_getElem hlt]; simpa using e2, wf⟩

/-- An array of whole numbers, by value. -/
theorem open_array {r : Reach} {b0 : Nat} {t e : TypeId} {m : Nat} {k : IntKind} {v : Value} {d : DataW H} {p : List MemPlace} (ht : P.underlying t = some (.array m e)) (he : P.underlying e = some (.int k)) (h1 : P.cellsOf e = 1) (hC : P.cellsOf t = m)
    (hv : Value.okWide P w r b0 t v) (h : DataW.Trod enc P w base spare held t v d p) :
    ∃ cs : Array Value, v = .agg cs ∧ cs.size = m ∧ ∀ j, j < m → ∃ n, cs[j]? = some (.int k n) ∧ (Lit.int k n).wf = true := by
  simp only [Value.okWide, ht] at hv
  obtain ⟨cs, rfl, hsz, _⟩ := hv
  obtain ⟨fuel, hf⟩ := h
  refine ⟨cs, rfl, hsz.trans hC, fun j hj => ?_⟩
  obtain ⟨ys, n', _, _, hlen, hyl, hfs⟩ := DataW.trod_array ht hf
  have h2 := hfs j hj
  rw [h1, Nat.mul_one] at h2
  have hlt : j < cs.size := by rw [hsz, hC]; exact hj
  have hlt' : j < cs.toList.length := by simpa using hlt
  have e1 : ((Value.cells (.agg cs)).toList.drop j).take 1 = [cs.toList[j]] := by
    show (cs.toList.drop j).take 1 = _
    rw [List.drop_eq_getElem_cons hlt']; rfl
  rw [e1] at h2
  have h3 : ys[j]? = some (ys[j]'(by omega)) := List.getElem?_eq_getElem (by omega)
  obtain ⟨n, e2, _, wf⟩ := DataW.trod_int he (h2.trans h3)
  simp only [List.cons.injEq, and_true] at e2
  exact ⟨n, by rw [Array.getElem?_eq_getElem hlt]; simpa using e2, wf⟩
end

theorem array_is {cs : Array Value} {L : List Value} (hs : cs.size = L.length) (h : ∀ j, j < L.length → cs[j]? = L[j]?) : cs = L.toArray := by
  have e : cs.toList = L := by
    apply List.ext_getElem?
    intro i
    rw [Array.getElem?_toList]
    by_cases hi : i < L.length
    · exact h i hi
    · rw [Array.getElem?_eq_none (by omega), List.getElem?_eq_none (by omega)]
  rw [← e, Array.toArray_toList]

/-- A law's options, read. -/
theorem opt_of {cs : Array Value} (hs : cs.size = 16) (h : ∀ j, j < 15 → ∃ n, cs[j]? = some (.int .i64 n) ∧ (Lit.int .i64 n).wf = true) (hl : ∃ n, cs[15]? = some (.int .u64 n) ∧ (Lit.int .u64 n).wf = true) :
    ∃ o : Opt, cs = o.vals ∧ (∀ x ∈ lst o, (Lit.int .i64 x).wf = true) ∧ (Lit.int .u64 o.se).wf = true := by
  obtain ⟨co, e0, w0⟩ := h 0 (by decide)
  obtain ⟨wo, e1, w1⟩ := h 1 (by decide)
  obtain ⟨re, e2, w2⟩ := h 2 (by decide)
  obtain ⟨fi, e3, w3⟩ := h 3 (by decide)
  obtain ⟨ri, e4, w4⟩ := h 4 (by decide)
  obtain ⟨wa, e5, w5⟩ := h 5 (by decide)
  obtain ⟨ki, e6, w6⟩ := h 6 (by decide)
  obtain ⟨ba, e7, w7⟩ := h 7 (by decide)
  obtain ⟨no, e8, w8⟩ := h 8 (by decide)
  obtain ⟨mo, e9, w9⟩ := h 9 (by decide)
  obtain ⟨ph, e10, w10⟩ := h 10 (by decide)
  obtain ⟨lo, e11, w11⟩ := h 11 (by decide)
  obtain ⟨mi, e12, w12⟩ := h 12 (by decide)
  obtain ⟨mn, e13, w13⟩ := h 13 (by decide)
  obtain ⟨bi, e14, w14⟩ := h 14 (by decide)
  obtain ⟨se, e15, w15⟩ := hl
  refine ⟨⟨co, wo, re, fi, ri, wa, ki, ba, no, mo, ph, lo, mi, mn, bi, se⟩, ?_, ?_, w15⟩
  · refine array_is (L := [.int .i64 co, .int .i64 wo, .int .i64 re, .int .i64 fi, .int .i64 ri, .int .i64 wa, .int .i64 ki, .int .i64 ba, .int .i64 no, .int .i64 mo, .int .i64 ph, .int .i64 lo, .int .i64 mi, .int .i64 mn, .int .i64 bi, .int .u64 se]) hs fun j hj => ?_
    match j, hj with
    | 0, _ => exact e0
    | 1, _ => exact e1
    | 2, _ => exact e2
    | 3, _ => exact e3
    | 4, _ => exact e4
    | 5, _ => exact e5
    | 6, _ => exact e6
    | 7, _ => exact e7
    | 8, _ => exact e8
    | 9, _ => exact e9
    | 10, _ => exact e10
    | 11, _ => exact e11
    | 12, _ => exact e12
    | 13, _ => exact e13
    | 14, _ => exact e14
    | 15, _ => exact e15
    | n + 16, hj => simp at hj; omega
  · intro x hx
    simp only [lst, List.mem_cons, List.not_mem_nil, or_false] at hx
    rcases hx with rfl | rfl | rfl | rfl | rfl | rfl | rfl | rfl | rfl | rfl | rfl | rfl | rfl | rfl | rfl
    · exact w0
    · exact w1
    · exact w2
    · exact w3
    · exact w4
    · exact w5
    · exact w6
    · exact w7
    · exact w8
    · exact w9
    · exact w10
    · exact w11
    · exact w12
    · exact w13
    · exact w14

/-- A law's twelve numbers, read. -/
theorem arr_of {cs : Array Value} (hs : cs.size = 12) (h : ∀ j, j < 12 → ∃ n, cs[j]? = some (.int .u16 n) ∧ (Lit.int .u16 n).wf = true) :
    ∃ x0 x1 x2 x3 x4 x5 x6 x7 x8 x9 x10 x11 : Nat, cs = arr12 x0 x1 x2 x3 x4 x5 x6 x7 x8 x9 x10 x11 ∧ x0 < 65536 ∧ x1 < 65536 ∧ x2 < 65536 ∧ x3 < 65536 ∧ x4 < 65536 ∧ x5 < 65536 ∧ x6 < 65536 ∧ x7 < 65536 ∧ x8 < 65536 ∧ x9 < 65536 ∧ x10 < 65536 ∧ x11 < 65536 := by
  obtain ⟨y0, e0, w0⟩ := h 0 (by decide)
  have b0 := bounds_u16 w0
  obtain ⟨x0, rfl⟩ : ∃ n : Nat, y0 = n := ⟨y0.toNat, by omega⟩
  obtain ⟨y1, e1, w1⟩ := h 1 (by decide)
  have b1 := bounds_u16 w1
  obtain ⟨x1, rfl⟩ : ∃ n : Nat, y1 = n := ⟨y1.toNat, by omega⟩
  obtain ⟨y2, e2, w2⟩ := h 2 (by decide)
  have b2 := bounds_u16 w2
  obtain ⟨x2, rfl⟩ : ∃ n : Nat, y2 = n := ⟨y2.toNat, by omega⟩
  obtain ⟨y3, e3, w3⟩ := h 3 (by decide)
  have b3 := bounds_u16 w3
  obtain ⟨x3, rfl⟩ : ∃ n : Nat, y3 = n := ⟨y3.toNat, by omega⟩
  obtain ⟨y4, e4, w4⟩ := h 4 (by decide)
  have b4 := bounds_u16 w4
  obtain ⟨x4, rfl⟩ : ∃ n : Nat, y4 = n := ⟨y4.toNat, by omega⟩
  obtain ⟨y5, e5, w5⟩ := h 5 (by decide)
  have b5 := bounds_u16 w5
  obtain ⟨x5, rfl⟩ : ∃ n : Nat, y5 = n := ⟨y5.toNat, by omega⟩
  obtain ⟨y6, e6, w6⟩ := h 6 (by decide)
  have b6 := bounds_u16 w6
  obtain ⟨x6, rfl⟩ : ∃ n : Nat, y6 = n := ⟨y6.toNat, by omega⟩
  obtain ⟨y7, e7, w7⟩ := h 7 (by decide)
  have b7 := bounds_u16 w7
  obtain ⟨x7, rfl⟩ : ∃ n : Nat, y7 = n := ⟨y7.toNat, by omega⟩
  obtain ⟨y8, e8, w8⟩ := h 8 (by decide)
  have b8 := bounds_u16 w8
  obtain ⟨x8, rfl⟩ : ∃ n : Nat, y8 = n := ⟨y8.toNat, by omega⟩
  obtain ⟨y9, e9, w9⟩ := h 9 (by decide)
  have b9 := bounds_u16 w9
  obtain ⟨x9, rfl⟩ : ∃ n : Nat, y9 = n := ⟨y9.toNat, by omega⟩
  obtain ⟨y10, e10, w10⟩ := h 10 (by decide)
  have b10 := bounds_u16 w10
  obtain ⟨x10, rfl⟩ : ∃ n : Nat, y10 = n := ⟨y10.toNat, by omega⟩
  obtain ⟨y11, e11, w11⟩ := h 11 (by decide)
  have b11 := bounds_u16 w11
  obtain ⟨x11, rfl⟩ : ∃ n : Nat, y11 = n := ⟨y11.toNat, by omega⟩
  refine ⟨x0, x1, x2, x3, x4, x5, x6, x7, x8, x9, x10, x11, ?_, by omega, by omega, by omega, by omega, by omega, by omega, by omega, by omega, by omega, by omega, by omega, by omega⟩
  refine array_is (L := [.int .u16 x0, .int .u16 x1, .int .u16 x2, .int .u16 x3, .int .u16 x4, .int .u16 x5, .int .u16 x6, .int .u16 x7, .int .u16 x8, .int .u16 x9, .int .u16 x10, .int .u16 x11]) hs fun j hj => ?_
  match j, hj with
  | 0, _ => exact e0
  | 1, _ => exact e1
  | 2, _ => exact e2
  | 3, _ => exact e3
  | 4, _ => exact e4
  | 5, _ => exact e5
  | 6, _ => exact e6
  | 7, _ => exact e7
  | 8, _ => exact e8
  | 9, _ => exact e9
  | 10, _ => exact e10
  | 11, _ => exact e11
  | n + 12, hj => simp at hj; omega

theorem Tryd.et : Tryd.prog.globalNamed "errors.errorType" = some 0 := by kernel_rfl
theorem Tryd.rt : (Tryd.prog.cutTypes.find? (·.1 == "internal/reflectlite.rtype")).map (·.2) = some 88 := by kernel_rfl
theorem Tryd.oneRow : ((List.range 153).filter fun t => Tryd.prog.rowNamed t [101, 114, 114, 111, 114]) = [36] := by kernel_rfl
theorem Tryd.size : Tryd.prog.types.size = 153 := by kernel_rfl
/-- What the rows list. -/
def laidErr : List (String × DataW Unit) := [("errors.errorType", Rows.laid_errors_errorType)]

/-- What the condition gives a walk: the variable's one cell. -/
theorem errVar_of {W : World} (h : laidMetH Tryd.prog laidErr W) : ErrVar W := by
  have h' : laidMet Tryd.prog [] W ∧ handlesMet Tryd.prog laidErr W := h
  obtain ⟨name, u, ty, e1, e2, e3, e4, e5⟩ := h'.2 _ (List.mem_singleton.2 rfl)
  have en : name = [101, 114, 114, 111, 114] := (Option.some.inj e1).symm
  subst en
  obtain rfl := Option.some.inj (Tryd.rt.symm.trans e2)
  have hm : ty ∈ (List.range 153).filter fun t => Tryd.prog.rowNamed t [101, 114, 114, 111, 114] := List.mem_filter.2 ⟨List.mem_range.2 (by rw [← Tryd.size]; exact e3), e4⟩
  rw [Tryd.oneRow] at hm
  obtain rfl := List.mem_singleton.1 hm
  have hh : typeHandle Tryd.prog 36 = .pointer (some ⟨4, 36, none⟩) := by kernel_rfl
  rw [hh] at e5
  unfold ErrVar
  simpa using World.var?_cell Tryd.et e5 0

/-- A world that meets the condition: the settled one, the variable's cell laid. -/
noncomputable def laidWorld (os : Os) : World :=
  let w0 := World.holding Tryd.prog os ⟨#[], #[], []⟩
  { w0 with heap := w0.heap.modify 0 fun
      | .cells _ t frozen => .cells #[.iface 88 (.agg #[.pointer (some ⟨4, 36, none⟩)])] t frozen
      | o => o }
theorem laidWorld_met (os : Os) (args : Array Value) : laidMetH Tryd.prog laidErr ((laidWorld os).forCall (fun _ _ => 0) ⟨#[], args, []⟩).memory :=
  laidMetH_of_parts (laidMet_nil _ _) (by kernel_rfl)

theorem gave_below {w w' : World} {v : Value} {e : Ending} (h : Gave w v e w') : e = .returned v ∧ Below w.heap.size w w' := h

end Go.Proofs.YtopoejfbcbnmdaaDoor
