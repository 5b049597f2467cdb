import Derived.Test.YtopoejfbcbnmdaaDoorOptGet
namespace Go.Proofs.YtopoejfbcbnmdaaDoor
open Go Go.RowKit

/-- What opts.bad answers, everywhere. -/
def BadOf (o : Opt) : Prop := ∀ w, Calls Tryd.prog 27 #[.agg o.vals] w (BadSaid o w)

theorem check_nil (o : Opt) (H : BadOf o) (h0 : badS o = ⟨#[]⟩) (w : World) : Calls Tryd.prog 15 #[.agg o.vals] w (Gave w .nilIface) := by
  have C := H (w.alloc (.cells o.vals 24))
  unfold BadSaid at C
  rw [h0] at C
  unfold Opt.vals at C ⊢
  clear H h0
  go_enter Tryd.func15, Tryd.ntmps15
  go_wp2_with fail
  refine C.mono ?_
  rintro e w1 ⟨rfl, B⟩
  have Bh := Lib.hid B
  clear B C
  go_wp2_with fail
  go_ret
  exact ⟨rfl, ((Below.refl _ _).alloc (Nat.le_refl _) _).trans (Bh.out.mono (by simp))⟩

/-- A fault was made, of a name. -/
def FaultMade (w : World) (nm : ByteArray) (e : Ending) (w' : World) : Prop :=
  ∃ g, e = .returned (.iface 39 (.pointer (some ⟨g, 0, none⟩))) ∧ Below w.heap.size w w' ∧ w.heap.size ≤ g ∧ w'.heap[g]? = some (.cells #[.string nm, .iface 56 (.int .i64 12)] 43 (0, 0))

theorem check_fault (o : Opt) (H : BadOf o) {nm : ByteArray} (h0 : badS o = nm) (h1 : nm.toList ≠ []) (w : World) : Calls Tryd.prog 15 #[.agg o.vals] w (FaultMade w nm) := by
  have C := H (w.alloc (.cells o.vals 24))
  unfold BadSaid at C
  rw [h0] at C
  unfold Opt.vals at C ⊢
  have h2 : nm.toList.isEmpty = false := by simpa using h1
  have h3 : (!nm.toList.isEmpty) = true := by simpa using h1
  clear H h0 h1
  go_enter Tryd.func15, Tryd.ntmps15
  go_wp2_with fail
  refine C.mono ?_
  rintro e w1 ⟨rfl, B⟩
  have Bh := Lib.hid B
  have hs := Lib.hid B.size
  clear B C
  go_wp2_with fail
  go_ret
  refine ⟨w1.heap.size, rfl, (((Below.refl _ _).alloc (Nat.le_refl _) _).trans (Bh.out.mono (by simp))).alloc ?_ _, ?_, ?_⟩
  · have := hs.out; simp at this; omega
  · have := hs.out; simp at this; omega
  · exact heap_alloc_new w1 _

end Go.Proofs.YtopoejfbcbnmdaaDoor
