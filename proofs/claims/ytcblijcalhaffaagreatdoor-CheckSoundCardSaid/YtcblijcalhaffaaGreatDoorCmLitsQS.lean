import Derived.Test.YtcblijcalhaffaaGreatDoorPCheckSoundx7QS
import Derived.Test.YtcblijcalhaffaaGreatDoorCmFormQS
namespace Go.Proofs.YtcblijcalhaffaaGreatDoor
open Go Go.RowKit Go.Proofs.YtcblijcalhaffaaGreatDoorW.PrintWords Go.Proofs.YtcblijcalhaffaaGreatDoorW.PrintLast Go.Proofs.YtcblijcalhaffaaGreatDoorW.PrintMore PCheckSound

/-! Lits. -/
theorem lits_l (V : Nat) (hV : V ≤ 100000) (row : List Int) (hr : row.length ≤ 1000000) : ∀ (m i : Nat) (d : List Int), i + m = row.length → GoodC V i d →
    ∃ d', GoodC V row.length d' ∧ Ev (fun k => bradawllaw07_Lits.l0 k V d row row.length i) d'
  | 0, i, d, hi, hd => ⟨d, ⟨hd.1, by have := hd.2; omega⟩, Ev.step (fun k => by
      simp only [bradawllaw07_Lits.l0]
      rw [if_neg (by omega)]) (Ev.now _)⟩
  | m + 1, i, d, hi, hd => by
    have hlen := hd.2
    by_cases h0 : V = 0
    · refine ⟨d, ⟨hd.1, by omega⟩, Ev.step (fun k => ?_) (Ev.now _)⟩
      simp only [bradawllaw07_Lits.l0]
      rw [if_pos (by omega), if_pos (by omega), if_pos (by omega), if_pos (by omega)]
    · have hv0 : 0 < V := by omega
      have hval := lit_val (rd row i) V hv0 hV
      have hwi : wrap64 ((i : Int) + 1) = ((i + 1 : Nat) : Int) := by unfold wrap64; omega
      by_cases hbit : Go.bits .and .i16 (rd row i) 1 = 1
      · generalize hx : wrap64 (1 + Int.tmod (wrap64 (IntKind.u16.wrap (rd row i) / 2)) V) = x at hval
        have hneg : wrap64 (-x) = -x := by unfold wrap64; omega
        obtain ⟨d', h1, h2⟩ := lits_l V hV row hr m (i + 1) (d ++ [-x]) (by omega) (goodC_snoc (W := i + 1) ⟨hd.1, by omega⟩ (by omega) (by omega) (by omega))
        refine ⟨d', h1, Ev.step (fun k => ?_) h2⟩
        simp only [bradawllaw07_Lits.l0]
        rw [if_pos (by omega), if_pos (by omega), if_pos (by omega), if_neg (by omega), if_pos hbit, if_pos (by omega), hx, hneg, hwi]
      · generalize hx : wrap64 (1 + Int.tmod (wrap64 (IntKind.u16.wrap (rd row i) / 2)) V) = x at hval
        obtain ⟨d', h1, h2⟩ := lits_l V hV row hr m (i + 1) (d ++ [x]) (by omega) (goodC_snoc (W := i + 1) ⟨hd.1, by omega⟩ (by omega) (by omega) (by omega))
        refine ⟨d', h1, Ev.step (fun k => ?_) h2⟩
        simp only [bradawllaw07_Lits.l0]
        rw [if_pos (by omega), if_pos (by omega), if_pos (by omega), if_neg (by omega), if_neg hbit, if_pos (by omega), hx, hwi]
end Go.Proofs.YtcblijcalhaffaaGreatDoor
