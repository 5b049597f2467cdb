/- TrailRuns returns true for every number of variables and every list of deeds: a trail on which literals are put, decided and taken back, phases are set and reasons are moved, is at every step what the law's own model is; no condition beyond the statement's own. -/
import Derived.Test.YtlmmiobnbcanmaaRuns
import Derived.Test.YtlmmiobnbcanmaaOpen
namespace Go.Proofs.Ytlmmiobnbcanmaa
open Go.ChangeShapes Go.WideShapes Go.ChangeAt Go.RowKit Go.Deep

set_option maxRecDepth 100000 in
theorem runs_lifted (os : Os) (started : os.Started) (H : Type) (enc : TypeId × Value → H) :
    ReturnsInHanded {} Try.checked os 3 .any (Rows.trailRunsSpec.pre6 enc Try.prog Try.f3 Rows.trailRunsRow.domain false) (Rows.trailRunsSpec.post enc Try.prog Try.f3 false true false false) := by
  refine returnsInHanded_of_change (C := Try.checked) Try.own started (by kernel_rfl) Try.func3
    (ChangeSpec.witness6 (enc := enc) (C := Try.checked) false ⟨#[], #[.int .u8 0, .slice none 0 0], []⟩ 8 (by kernel_rfl) (by kernel_rfl) (by kernel_rfl) (by kernel_rfl)) ?_
  intro W base args ds gs before hval0 hW _ _
  have hval : ∀ (j : Nat) t v, Try.f3.params[j]? = some t → args[j]? = some v → Value.okWide Try.prog W .any base t v := hval0
  have hW' := hW
  obtain ⟨p, q, hA0, hV, rfl, _, _⟩ := hW
  have hA : DataW.TrodAll enc Try.prog W 0 (fun _ => true) true Try.f3.params.toList args.toList ds p := hA0
  rw [Try.params3] at hA hval
  obtain ⟨v0, v1, d0, d1, p0, p1, rfl, rfl, rfl, h0, h1⟩ := trodAll_two hA
  obtain ⟨rfl, rfl⟩ := trodVars_none hV
  have k0 := h0
  have k1 := h1
  obtain ⟨x0, rfl, rfl, rfl, wx0⟩ := open_int Try.underlying5 (hval 0 5 v0 rfl rfl) h0
  obtain ⟨a1, len1, cap1, rfl⟩ := okWide_slice Try.underlying22 (hval 1 22 v1 rfl rfl)
  obtain ⟨fuel1, hf1⟩ := h1
  clear hA0 hval0
  simp only [List.append_nil] at hW'
  have hb0 := bounds_u8 wx0
  obtain ⟨n0, rfl⟩ : ∃ n : Nat, x0 = n := ⟨x0.toNat, by omega⟩
  obtain ⟨hm1, hs1⟩ := open_structs Try.underlying22 Try.underlying32 (by kernel_rfl) (by kernel_rfl) (by decide) (fun _ => rfl) hf1
  refine (runs_any W n0 (by omega) a1 len1 cap1 hm1 (fun hp => ?_)).mono fun e W' ⟨he, hw⟩ => ?_
  · obtain ⟨b, off, hab, hcell⟩ := hs1 hp
    refine ⟨b, off, hab, fun i hi => ?_⟩
    obtain ⟨u0, y0, m0, c0, t0⟩ := hcell i hi 0 _ rfl
    obtain ⟨u1, y1, m1, c1, t1⟩ := hcell i hi 1 _ rfl
    obtain ⟨u2, y2, m2, c2, t2⟩ := hcell i hi 2 _ rfl
    obtain ⟨z0, e0, _, w0⟩ := DataW.trod_int Try.underlying5 t0
    obtain ⟨z1, e1, _, w1⟩ := DataW.trod_int Try.underlying3 t1
    obtain ⟨z2, e2, _, w2⟩ := DataW.trod_int Try.underlying3 t2
    simp only [List.cons.injEq, and_true] at e0 e1 e2
    subst e0 e1 e2
    have hbz0 := bounds_u8 w0
    exact ⟨z0.toNat, z1, z2, by rw [show ((z0.toNat : Nat) : Int) = z0 by omega]; exact c0, c1, c2, by omega, w1, w2⟩
  · subst he
    exact ⟨_, rfl, _, _, _, [], [] ++ p1, [], hW', trodAll_mk1 (shut_bool Try.underlying4 true), trodAll_mk2 (shut_int Try.underlying5 wx0) (Below.trod Try.laidOut (by kernel_rfl) (of_decide_eq_true (by kernel_rfl)) k1 hw (fun x hx => hW'.lt x (by simp [hx]))), rfl, hw.frame _, fun h => by cases h⟩

theorem runs_holds : Rows.TrailRunsSaid :=
  OpenClaim.holds_of_wide 3 Try.f3 rfl rfl rfl rfl rfl rfl rfl ⟨rfl, rfl, rfl, rfl, rfl⟩ rfl rfl rfl rfl rfl (by kernel_rfl) Try.func3 (by kernel_rfl)
    (of_decide_eq_true (by kernel_rfl)) (by unfold Func.isWrapper; first | (rw [if_pos (by decide +kernel)]; kernel_rfl) | (rw [if_neg (by decide +kernel)]; exact ⟨rfl, rfl⟩))
    (fun os started H enc _ => runs_lifted os started H enc)

#print axioms runs_holds

end Go.Proofs.Ytlmmiobnbcanmaa
