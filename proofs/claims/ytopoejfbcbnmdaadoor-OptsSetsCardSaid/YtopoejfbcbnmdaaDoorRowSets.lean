/- Whatever the input, OptsSets returns true and leaves its arguments as they were; the one listed variable is tied to the text. No condition. -/
import Derived.Test.YtopoejfbcbnmdaaDoorOptSets
import Derived.Test.YtopoejfbcbnmdaaDoorBad
import Derived.Test.YtopoejfbcbnmdaaDoorOpenOpt
import Derived.SevenTiedAt
namespace Go.Proofs.YtopoejfbcbnmdaaDoor
open Go.ChangeShapes Go.WideShapes Go.ChangeAt Go.RowKit Go.Deep

set_option maxRecDepth 100000 in
theorem sets_lifted (os : Os) (started : os.Started) (H : Type) (enc : TypeId × Value → H) :
    ReturnsInHanded {} Tryd.checked os 3 .any (fun w args => (Rows.optsSetsSpec.pre enc Tryd.prog Tryd.f3 [] false w args ∧ laidMetH Tryd.prog laidErr w) ∧ sizedMet enc Tryd.prog Tryd.f3 (OpenSpec.ofChange Rows.optsSetsSpec) false w args)
      (Rows.optsSetsSpec.post enc Tryd.prog Tryd.f3 false true false false) := by
  refine returnsInHanded_of_change_and (C := Tryd.checked) (X := fun w _ => laidMetH Tryd.prog laidErr w) (fun _ _ _ hh h => h.of_heap hh) Tryd.own started (by kernel_rfl) Tryd.func3
    (ChangeSpec.witness_at (enc := enc) (C := Tryd.checked) (os := os) (X := fun w _ => laidMetH Tryd.prog laidErr w) false (laidWorld os) #[.agg #[.int .i64 0, .int .i64 0, .int .i64 0, .int .i64 0, .int .i64 0, .int .i64 0, .int .i64 0, .int .i64 0, .int .i64 0, .int .i64 0, .int .i64 0, .int .i64 0, .int .i64 0, .int .i64 0, .int .i64 0, .int .u64 0], .int .u8 0, .int .i64 0] 8 rfl (by kernel_rfl) (by kernel_rfl) (by kernel_rfl) (by kernel_rfl) (by kernel_rfl) (laidWorld_met os _)) ?_
  intro W base args ds gs before hval0 hW _ _ hL _
  have hval : ∀ (j : Nat) t v, Tryd.f3.params[j]? = some t → args[j]? = some v → Value.okWide Tryd.prog W .any base t v := hval0
  have hW' := hW
  obtain ⟨p, q, hA0, hV0, rfl, hfz, hnd⟩ := hW
  have hA : DataW.TrodAll enc Tryd.prog W 0 (fun _ => true) true Tryd.f3.params.toList args.toList ds p := hA0
  rw [Tryd.params3] at hA hval
  obtain ⟨v0, v1, v2, d0, d1, d2, p0, p1, p2, rfl, rfl, rfl, h0, h1, h2⟩ := trodAll_three hA
  obtain ⟨rfl, rfl⟩ := trodVars_none hV0
  have k0 := h0
  have k1 := h1
  have k2 := h2
  obtain ⟨cs0, rfl, hs0, hc0⟩ := open_row Tryd.underlying24 (by kernel_rfl) (by kernel_rfl) (hval 0 24 v0 rfl rfl) h0
  obtain ⟨o0, rfl, ho0, hz0⟩ := opt_of hs0 (fun j hj => match j, hj with
    | 0, _ => hc0 0 _ .i64 rfl Tryd.underlying3
    | 1, _ => hc0 1 _ .i64 rfl Tryd.underlying3
    | 2, _ => hc0 2 _ .i64 rfl Tryd.underlying3
    | 3, _ => hc0 3 _ .i64 rfl Tryd.underlying3
    | 4, _ => hc0 4 _ .i64 rfl Tryd.underlying3
    | 5, _ => hc0 5 _ .i64 rfl Tryd.underlying3
    | 6, _ => hc0 6 _ .i64 rfl Tryd.underlying3
    | 7, _ => hc0 7 _ .i64 rfl Tryd.underlying3
    | 8, _ => hc0 8 _ .i64 rfl Tryd.underlying3
    | 9, _ => hc0 9 _ .i64 rfl Tryd.underlying3
    | 10, _ => hc0 10 _ .i64 rfl Tryd.underlying3
    | 11, _ => hc0 11 _ .i64 rfl Tryd.underlying3
    | 12, _ => hc0 12 _ .i64 rfl Tryd.underlying3
    | 13, _ => hc0 13 _ .i64 rfl Tryd.underlying3
    | 14, _ => hc0 14 _ .i64 rfl Tryd.underlying3
    | n + 15, hj => absurd hj (by omega)) (hc0 15 _ .u64 rfl Tryd.underlying22)
  obtain ⟨x1, rfl, rfl, rfl, wx1⟩ := open_int Tryd.underlying5 (hval 1 5 v1 rfl rfl) h1
  have hb1 := bounds_u8 wx1
  obtain ⟨n1, rfl⟩ : ∃ n : Nat, x1 = n := ⟨x1.toNat, by omega⟩
  obtain ⟨x2, rfl, rfl, rfl, wx2⟩ := open_int Tryd.underlying3 (hval 2 3 v2 rfl rfl) h2
  have hE := errVar_of hL
  clear hA0 hval0
  simp only [List.append_nil] at hW'
  refine (sets_any o0 n1 x2  (by omega)  W hE bad_of).mono fun e W' ⟨he, hw⟩ => ?_
  subst he
  exact ⟨_, rfl, _, _, _, [], p0 ++ ([] ++ []), [], hW', trodAll_mk1 (shut_bool Tryd.underlying4 true), trodAll_mk3 (Below.trod Tryd.laidOut (by kernel_rfl) (of_decide_eq_true (by kernel_rfl)) k0 hw (fun x hx => hW'.lt x (by simp [hx]))) (shut_int Tryd.underlying5 wx1) (shut_int Tryd.underlying3 wx2), rfl, hw.frame _, fun h => by cases h⟩

theorem sets_row : Rows.OptsSetsSaid :=
  OpenClaim.holds_of_wide 3 Tryd.f3 rfl rfl rfl rfl rfl rfl rfl ⟨rfl, rfl, rfl, rfl, rfl⟩ rfl rfl rfl rfl rfl (by kernel_rfl) Tryd.func3 (by kernel_rfl)
    (of_decide_eq_true (by kernel_rfl)) (by unfold Func.isWrapper; first | (rw [if_pos (by decide +kernel)]; kernel_rfl) | (rw [if_neg (by decide +kernel)]; exact ⟨rfl, rfl⟩))
    (fun os started H enc _ => sets_lifted os started H enc)

theorem sets_holds : Rows.OptsSetsCardSaid :=
  Claim7.holds_tied_plain_at .later [] [.handle] true Rows.optsSetsCard.stood.harness true
    sets_row (fun _ h => by cases h) (by kernel_rfl) (fun _ h => by cases h) optsSets_row_tie rfl ⟨rfl, rfl⟩ (by kernel_rfl) rfl
    (fun f fn hf hfn => by
      obtain rfl : f = 3 := Option.some.inj ((show Tryd.prog.funcNamed "bradawl/bradawllaw21.OptsSets" = some 3 by kernel_rfl).symm.trans hf) |>.symm
      obtain rfl : fn = Tryd.f3 := (Option.some.inj (Tryd.func3.symm.trans hfn)).symm
      exact ⟨by kernel_rfl, fun j t ht => by
        rw [Tryd.params3] at ht
        have h : t = 24 ∨ t = 5 ∨ t = 3 := by
          rcases j with _ | _ | _ | j
          · exact (Or.inl (by simpa using ht.symm))
          · exact (Or.inr (Or.inl (by simpa using ht.symm)))
          · exact (Or.inr (Or.inr (by simpa using ht.symm)))
          · simp at ht
        rcases h with rfl | rfl | rfl
        · exact (show Tryd.prog.wantsStandIn 24 = false by kernel_rfl)
        · exact (show Tryd.prog.wantsStandIn 5 = false by kernel_rfl)
        · exact (show Tryd.prog.wantsStandIn 3 = false by kernel_rfl)⟩)
    (by kernel_rfl)

#print axioms sets_holds

end Go.Proofs.YtopoejfbcbnmdaaDoor
