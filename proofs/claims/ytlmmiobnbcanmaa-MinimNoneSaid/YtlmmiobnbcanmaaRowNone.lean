/- MinimNone returns true for every number of variables and every list of literals: where no literal on the trail has a reason, no literal of the list is needless, and Minimise leaves the list as it is; no condition beyond the statement's own. -/
import Derived.Test.YtlmmiobnbcanmaaNone
import Derived.Test.YtlmmiobnbcanmaaOpen
namespace Go.Proofs.Ytlmmiobnbcanmaa
open Go.ChangeShapes Go.WideShapes Go.ChangeAt Go.RowKit Go.Deep

set_option maxRecDepth 100000 in
theorem none_lifted (os : Os) (started : os.Started) (H : Type) (enc : TypeId × Value → H) :
    ReturnsInHanded {} Try.checked os 4 .any (Rows.minimNoneSpec.pre6 enc Try.prog Try.f4 Rows.minimNoneRow.domain false) (Rows.minimNoneSpec.post enc Try.prog Try.f4 false true false false) := by
  refine returnsInHanded_of_change (C := Try.checked) Try.own started (by kernel_rfl) Try.func4
    (ChangeSpec.witness6 (enc := enc) (C := Try.checked) false ⟨#[], #[.int .u8 0, .slice none 0 0], []⟩ 8 (by kernel_rfl) (by kernel_rfl) (by kernel_rfl) (by kernel_rfl)) ?_
  intro W base args ds gs before hval0 hW _ _
  have hval : ∀ (j : Nat) t v, Try.f4.params[j]? = some t → args[j]? = some v → Value.okWide Try.prog W .any base t v := hval0
  have hW' := hW
  obtain ⟨p, q, hA0, hV, rfl, _, _⟩ := hW
  have hA : DataW.TrodAll enc Try.prog W 0 (fun _ => true) true Try.f4.params.toList args.toList ds p := hA0
  rw [Try.params4] at hA hval
  obtain ⟨v0, v1, d0, d1, p0, p1, rfl, rfl, rfl, h0, h1⟩ := trodAll_two hA
  obtain ⟨rfl, rfl⟩ := trodVars_none hV
  have k0 := h0
  have k1 := h1
  obtain ⟨x0, rfl, rfl, rfl, wx0⟩ := open_int Try.underlying5 (hval 0 5 v0 rfl rfl) h0
  obtain ⟨a1, len1, cap1, rfl⟩ := okWide_slice Try.underlying48 (hval 1 48 v1 rfl rfl)
  obtain ⟨fuel1, hf1⟩ := h1
  clear hA0 hval0
  simp only [List.append_nil] at hW'
  have hb0 := bounds_u8 wx0
  obtain ⟨n0, rfl⟩ : ∃ n : Nat, x0 = n := ⟨x0.toNat, by omega⟩
  obtain ⟨hm1, hs1⟩ := open_nums Try.underlying48 (by kernel_rfl) (fun _ => rfl) hf1
  refine (none_any W n0 (by omega) a1 len1 cap1 hm1 (fun hp => ?_)).mono fun e W' ⟨he, hw⟩ => ?_
  · obtain ⟨b, off, hab, hcell⟩ := hs1 hp
    refine ⟨b, off, hab, fun i hi => ?_⟩
    obtain ⟨u0, y0, m0, c0, t0⟩ := hcell i hi
    obtain ⟨z0, e0, _, w0⟩ := DataW.trod_int Try.underlying51 t0
    simp only [List.cons.injEq, and_true] at e0
    subst e0
    have hw0 : -32768 ≤ z0 ∧ z0 ≤ 32767 := by
      simp [Lit.wf, IntKind.min, IntKind.max, IntKind.signed, IntKind.bits] at w0
      omega
    exact ⟨z0, c0, hw0⟩
  · subst he
    exact ⟨_, rfl, _, _, _, [], [] ++ p1, [], hW', trodAll_mk1 (shut_bool Try.underlying4 true), trodAll_mk2 (shut_int Try.underlying5 wx0) (Below.trod Try.laidOut (by kernel_rfl) (of_decide_eq_true (by kernel_rfl)) k1 hw (fun x hx => hW'.lt x (by simp [hx]))), rfl, hw.frame _, fun h => by cases h⟩

theorem none_holds : Rows.MinimNoneSaid :=
  OpenClaim.holds_of_wide 4 Try.f4 rfl rfl rfl rfl rfl rfl rfl ⟨rfl, rfl, rfl, rfl, rfl⟩ rfl rfl rfl rfl rfl (by kernel_rfl) Try.func4 (by kernel_rfl)
    (of_decide_eq_true (by kernel_rfl)) (by unfold Func.isWrapper; first | (rw [if_pos (by decide +kernel)]; kernel_rfl) | (rw [if_neg (by decide +kernel)]; exact ⟨rfl, rfl⟩))
    (fun os started H enc _ => none_lifted os started H enc)

#print axioms none_holds

end Go.Proofs.Ytlmmiobnbcanmaa
