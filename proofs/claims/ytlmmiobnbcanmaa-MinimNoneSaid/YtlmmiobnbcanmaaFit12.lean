import Derived.Test.YtlmmiobnbcanmaaTrailE
import Derived.Test.YtlmmiobnbcanmaaTrailW
namespace Go.Proofs.Ytlmmiobnbcanmaa
open Go.RowKit

/-- The law's own example holds; what it makes lies below p. -/
def Holds (γ : Tags) (w : World) (p : Tag) (e : Ending) (w' : World) : Prop := e = .returned (.bool true) ∧ ∃ γ', Turn γ γ' w w' [p]

theorem TrS.wf {γ : Tags} {w : World} {p : Tag} {b : Nat} {s : TrailS} (H : TrS p b s γ w) : TWf s := let ⟨_, _, _, _, A⟩ := H; A.wf

theorem Turn.below {γ : Tags} {W w : World} (T : Turn (fun _ => [1]) γ W w [[0]]) : Below W.heap.size W w := ⟨T.os, T.tape, T.output, T.size, fun k hk => T.block k hk (by simp)⟩

/-- An input's cell stays. -/
theorem Turn.old {γ : Tags} {W w : World} (T : Turn (fun _ => [1]) γ W w [[0]]) {a : Addr} {v : Value} (h : W.cell? a = some v) : w.cell? a = some v := by
  have hlt := World.block_lt_of_cell? W a h
  rw [World.cell?_of_block (w := W) (T.block a.block hlt (by simp))]
  exact h

/-- The law's trail. -/
structure On (W : World) (b : Nat) (s : TrailS) (n : Nat) (γ : Tags) (w : World) : Prop where
  st : St (fun _ => [1]) W [[0]] [0, 0] b s γ w
  n : s.n = n

theorem On.drewN {W : World} {b n : Nat} {s : TrailS} {γ : Tags} {w : World} (H : On W b s n γ w) (k : Nat) : On W b s n γ (w.drewN k) := ⟨H.st.drewN k, H.n⟩
theorem On.turn {W : World} {b n : Nat} {s : TrailS} {γ γ' : Tags} {w w' : World} {ps : List Tag} (H : On W b s n γ w) (T : Turn γ γ' w w' ps) (hp : ∀ x, ¬ Under ps ([0, 0] ++ x)) (h0 : ∀ q ∈ ps, Under [[0]] q) : On W b s n γ' w' :=
  ⟨⟨H.st.tr.turn T hp, H.st.turn.trans (T.to h0)⟩, H.n⟩

/-- The trail of the example. -/
def exS0 : TrailS := TrailS.new 2
def exS1 : TrailS := exS0.decide' (-2)
def exS2 : TrailS := exS1.put 1 7
def exS3 : TrailS := exS2.put (-1) 3
def exS4 : TrailS := exS3.back 0

set_option maxHeartbeats 2000000 in
theorem fit12 (γ : Tags) (w : World) (p : Tag) : Calls Try.prog 5 #[] w (Holds γ w p) := by
  have C := s_new γ w (p ++ [0]) 2 (by omega)
  go_enter Try.func5, Try.ntmps5
  go_wp2_with fail
  refine C.mono ?_
  clear C
  rintro e w1 ⟨v, γ1, rfl, ⟨b, rfl, H1, _⟩, T1⟩
  have H : St γ w [p] (p ++ [0]) b exS0 γ1 w1 := ⟨H1, T1.at⟩
  clear H1 T1
  have C := s_decide H.tr (-2)
  rw [show exS0.free (-2) = true from by decide] at C
  go_wp2_with fail
  refine C.mono ?_
  clear C
  rintro e w2 ⟨rfl, γ2, H2, T2⟩
  replace H : St γ w [p] (p ++ [0]) b exS1 γ2 w2 := ⟨H2, H.turn.trans T2.at⟩
  clear H2 T2
  have C := s_put H.tr 1 7
  rw [show exS1.free 1 = true from by decide] at C
  go_wp2_with fail
  refine C.mono ?_
  clear C
  rintro e w2 ⟨rfl, γ2, H2, T2⟩
  replace H : St γ w [p] (p ++ [0]) b exS2 γ2 w2 := ⟨H2, H.turn.trans T2.at⟩
  clear H2 T2
  have C := s_put H.tr (-1) 3
  rw [show exS2.free (-1) = false from by decide] at C
  go_wp2_with fail
  refine C.mono ?_
  clear C
  rintro e w2 ⟨rfl, γ2, H2, T2⟩
  replace H : St γ w [p] (p ++ [0]) b exS3 γ2 w2 := ⟨H2, H.turn.trans T2.at⟩
  clear H2 T2
  have C := still (s_level H.tr) H.drewN
  rw [show exS3.level = 1 from by decide] at C
  go_wp2_with fail
  refine C.mono ?_
  clear C H
  rintro e w2 ⟨rfl, H⟩
  have C := still (s_full H.tr) H.drewN
  rw [show decide (exS3.steps.length = exS3.n) = true from by decide] at C
  go_wp2_with fail
  refine C.mono ?_
  clear C H
  rintro e w2 ⟨rfl, H⟩
  have C := still (s_value H.tr 1) H.drewN
  rw [show exS3.value 1 = 1 from by decide] at C
  go_wp2_with fail
  refine C.mono ?_
  clear C H
  rintro e w2 ⟨rfl, H⟩
  have C := still (s_value H.tr 2) H.drewN
  rw [show exS3.value 2 = -1 from by decide] at C
  go_wp2_with fail
  refine C.mono ?_
  clear C H
  rintro e w2 ⟨rfl, H⟩
  have C := still (s_reason H.tr (-1)) H.drewN
  rw [show exS3.reason (-1) = 7 from by decide] at C
  go_wp2_with fail
  refine C.mono ?_
  clear C H
  rintro e w2 ⟨rfl, H⟩
  have C := still (s_place H.tr 2) H.drewN
  rw [show exS3.place 2 = 0 from by decide] at C
  go_wp2_with fail
  refine C.mono ?_
  clear C H
  rintro e w2 ⟨rfl, H⟩
  have C := s_back (q := p ++ [1]) H.tr (by simp) (by simp) 0
  rw [show exS3.gone 0 = [1, -2] from by decide] at C
  go_wp2_with fail
  refine C.mono ?_
  clear C
  rintro e w2 ⟨_, γ2, rfl, ⟨a, cap, rfl, R, H2⟩, T2⟩
  replace H : St γ w [p] (p ++ [0]) b exS4 γ2 w2 := ⟨H2, H.turn.trans (T2.to (by simp))⟩
  clear H2 T2
  obtain ⟨g, rfl⟩ := R.pos (by simp)
  have r0 := R.cell (j := 0) (v := .int .i64 1) rfl
  have r1 := R.cell (j := 1) (v := .int .i64 (-2)) rfl
  clear R
  have C := still (s_len H.tr) H.drewN
  rw [show exS4.steps.length = 0 from by decide] at C
  go_wp2_with fail
  refine C.mono ?_
  clear C H
  rintro e w2 ⟨rfl, H⟩
  have C := still (s_phase H.tr 1) H.drewN
  rw [show exS4.phaseOf 1 = true from by decide] at C
  go_wp2_with fail
  refine C.mono ?_
  clear C H
  rintro e w2 ⟨rfl, H⟩
  have C := still (s_phase H.tr 2) H.drewN
  rw [show exS4.phaseOf 2 = false from by decide] at C
  go_wp2_with fail
  refine C.mono ?_
  clear C H
  rintro e w2 ⟨rfl, H⟩
  have C := still (s_value H.tr 1) H.drewN
  rw [show exS4.value 1 = 0 from by decide] at C
  go_wp2_with fail
  refine C.mono ?_
  clear C H
  rintro e w2 ⟨rfl, H⟩
  go_wp2
  go_ret
  exact ⟨rfl, _, H.turn⟩

end Go.Proofs.Ytlmmiobnbcanmaa
