import Derived.Test.YtdbdilajjmijaaaDoorDmPrint
import Derived.Test.YtdbdilajjmijaaaDoorDmErrIs
namespace Go.Proofs.YtdbdilajjmijaaaDoor
open Go Go.RowKit Go.Proofs.YtdbdilajjmijaaaDoorW.PrintWords Go.Proofs.YtdbdilajjmijaaaDoorW.PrintLast Go.Proofs.YtdbdilajjmijaaaDoorW.PrintMore PDimacsBack

/-! errors.As at a fault's pointer. -/
/-- The type that errors.As asks for. -/
def TypOk (w : World) : Prop := w.cell? ⟨0, 0, none⟩ = some (.iface 99 (.agg #[.pointer (some ⟨9, 33, none⟩)]))
theorem TypOk.below {w w' : World} (h : TypOk w) (B : Below w.heap.size w w') : TypOk w' := (B.cell (World.block_lt_of_cell? w _ h)).trans h
/-- What errors.As leaves: the target is set; besides, what nothing holds on to. -/
structure AsSet (w : World) (fb : Nat) (g : Addr) (w' : World) : Prop where
  far : ∀ (a : Addr) (v : Value), a.block ≠ fb → w.cell? a = some v → w'.cell? a = some v
  hit : w'.cell? ⟨fb, 0, none⟩ = some (.pointer (some g))
  below : Below fb w w'

theorem as_made (g : Addr) (fb : Nat) (old : Value) (w : World) (hg : w.cell? ⟨0, 0, none⟩ = some (.iface 99 (.agg #[.pointer (some ⟨9, 33, none⟩)]))) (ht : w.cell? ⟨fb, 0, none⟩ = some old) (hf : w.frozen? ⟨fb, 0, none⟩ = false) :
    Calls Tryd.prog 17 #[.iface 46 (.pointer (some g)), .iface 48 (.pointer (some ⟨fb, 0, none⟩))] w fun e w' => e = .returned (.bool true) ∧ AsSet w fb g w' := by
  refine (as_hit g ⟨fb, 0, none⟩ old w hg ht hf).mono ?_
  rintro e w' ⟨he, rfl⟩
  have hb := World.block_lt_of_cell? w _ ht
  dsimp only at hb
  refine ⟨he, ⟨fun a v ha hc => ?_, ?_, ?_⟩⟩
  · rw [World.cell?_setCell_other _ _ _ _ (fun h => ha (by rw [← h]))]
    exact cell_more (cell_more (cell_more (cell_more hc _) _) _) _
  · exact World.cell?_setCell_same _ _ _ (cell_more (cell_more (cell_more (cell_more ht _) _) _) _)
  · exact (((((Below.refl fb w).alloc (Nat.le_of_lt hb) _).alloc (by simp; omega) _).alloc (by simp; omega) _).alloc (by simp; omega) _).setCell (Nat.le_refl _) _

end Go.Proofs.YtdbdilajjmijaaaDoor
