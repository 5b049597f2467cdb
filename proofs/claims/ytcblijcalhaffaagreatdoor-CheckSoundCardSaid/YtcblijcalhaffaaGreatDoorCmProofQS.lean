import Derived.Test.YtcblijcalhaffaaGreatDoorCmSmallQS
import Derived.Test.YtcblijcalhaffaaGreatDoorCkProofXQS
namespace Go.Proofs.YtcblijcalhaffaaGreatDoor
open Go Go.RowKit Go.Proofs.YtcblijcalhaffaaGreatDoorW.PrintWords Go.Proofs.YtcblijcalhaffaaGreatDoorW.PrintLast Go.Proofs.YtcblijcalhaffaaGreatDoorW.PrintMore PCheckSound

/-! law08.Proof: what it makes. -/
/-- A step of a proof for a formula. -/
def StepOk (V M : Nat) (s : S41) : Prop := rightC V s.f1 = true ∧ s.f1.length ≤ M
section
variable (V M : Nat) (cs : List (List Int)) (l : List S86)
theorem proof_l (hV : V ≤ 100000) (hM : M ≤ 1000000) (ha : AllR V cs) (hcl : ∀ c ∈ cs, c.length ≤ M) (hcn : cs.length ≤ 1000000) (hsl : ∀ s ∈ l, s.f1.length ≤ M) (hsw : ∀ s ∈ l, 0 ≤ s.f2 ∧ s.f2 ≤ 255) (hln : l.length ≤ 1000000) :
    ∀ (m j : Nat) (acc : List S41), j + m = l.length → acc.length = j → (∀ s ∈ acc, StepOk V M s) → ∃ ps : List S41, ps.length = l.length ∧ (∀ s ∈ ps, StepOk V M s) ∧ Ev (fun k => bradawllaw08_Proof.l0 k acc l l.length j V cs) ps
  | 0, j, acc, hj, ha2, hok => ⟨acc, by omega, hok, Ev.step (fun k => by
      simp only [bradawllaw08_Proof.l0]
      rw [if_neg (by omega)]) (Ev.now _)⟩
  | m + 1, j, acc, hj, ha2, hok => by
    have hmem : rd_T86 l (j : Int) ∈ l := by
      unfold rd_T86
      rw [Int.toNat_natCast, List.getD_eq_getElem?_getD, List.getElem?_eq_getElem (by omega)]
      exact List.getElem_mem _
    have hs1 := hsl _ hmem
    have hs2 := hsw _ hmem
    have hwi : wrap64 ((j : Int) + 1) = ((j + 1 : Nat) : Int) := by unfold wrap64; omega
    generalize hs : rd_T86 l (j : Int) = s at *
    obtain ⟨d, h1, h2⟩ := lits_l V hV s.f1 (by omega) s.f1.length 0 [] (by omega) ⟨by simp, by simp⟩
    have hdok : StepOk V M ⟨s.f0, d⟩ := ⟨rightC_iff.2 (good_right h1), by have := h1.2; dsimp only; omega⟩
    have next : ∀ x : S41, StepOk V M x → ∃ ps : List S41, ps.length = l.length ∧ (∀ s ∈ ps, StepOk V M s) ∧ Ev (fun k => bradawllaw08_Proof.l0 k (acc ++ [x]) l l.length ((j + 1 : Nat) : Int) V cs) ps := fun x hx =>
      proof_l hV hM ha hcl hcn hsl hsw hln m (j + 1) (acc ++ [x]) (by omega) (by simp; omega) (fun s hs => by
        rcases List.mem_append.1 hs with hs | hs
        · exact hok s hs
        · simp only [List.mem_singleton] at hs; subst hs; exact hx)
    have hlits : Ev (fun k => bradawllaw07_Lits.f k s.f1 V) d := h2
    by_cases hc : s.f0 = true ∧ Go.bits .and .u8 s.f2 1 = 0 ∧ (cs.length : Int) > 0
    · obtain ⟨c1, c2, c3⟩ := hc
      have e1 : wrap64 (s.f2 / 2) = s.f2 / 2 := by unfold wrap64; omega
      have b1 : 0 ≤ Int.tmod (wrap64 (s.f2 / 2)) (cs.length : Int) := by rw [e1]; exact Int.tmod_nonneg _ (by omega)
      have b2 : Int.tmod (wrap64 (s.f2 / 2)) (cs.length : Int) < (cs.length : Int) := Int.tmod_lt_of_pos _ (by omega)
      have hin : rd_L2 cs (Int.tmod (wrap64 (s.f2 / 2)) (cs.length : Int)) ∈ cs := by
        unfold rd_L2
        rw [List.getD_eq_getElem?_getD, List.getElem?_eq_getElem (by omega)]
        exact List.getElem_mem _
      obtain ⟨ps, p1, p2, p3⟩ := next ⟨s.f0, rd_L2 cs (Int.tmod (wrap64 (s.f2 / 2)) (cs.length : Int))⟩ ⟨rightC_iff.2 (ha _ hin), hcl _ hin⟩
      refine ⟨ps, p1, p2, Ev.step (fun k => ?_) (Ev.bind (f := fun k (_ : List Int) => bradawllaw08_Proof.l0 k (acc ++ [(⟨s.f0, rd_L2 cs (Int.tmod (wrap64 (s.f2 / 2)) (cs.length : Int))⟩ : S41)]) l l.length ((j + 1 : Nat) : Int) V cs) hlits p3)⟩
      simp only [bradawllaw08_Proof.l0]
      rw [if_pos (by omega), if_pos (by omega), if_pos (by omega), hs]
      congr 1
      funext t
      rw [if_pos c1, if_pos c2, if_pos c3, if_neg (by omega), if_pos b1, if_pos b2, if_pos (by omega), hwi]
    · obtain ⟨ps, p1, p2, p3⟩ := next ⟨s.f0, d⟩ hdok
      have p4 : Ev (fun k => (fun (t : List Int) => bradawllaw08_Proof.l0 k (acc ++ [(⟨s.f0, t⟩ : S41)]) l l.length ((j + 1 : Nat) : Int) V cs) d) ps := p3
      refine ⟨ps, p1, p2, Ev.step (fun k => ?_) (Ev.bind (f := fun k (t : List Int) => bradawllaw08_Proof.l0 k (acc ++ [(⟨s.f0, t⟩ : S41)]) l l.length ((j + 1 : Nat) : Int) V cs) hlits p4)⟩
      simp only [bradawllaw08_Proof.l0]
      rw [if_pos (by omega), if_pos (by omega), if_pos (by omega), hs]
      congr 1
      funext t
      by_cases c1 : s.f0 = true
      · rw [if_pos c1]
        by_cases c2 : Go.bits .and .u8 s.f2 1 = 0
        · rw [if_pos c2, if_neg (fun h => hc ⟨c1, c2, h⟩), if_pos (by omega), hwi]
        · rw [if_neg c2, if_pos (by omega), hwi]
      · rw [if_neg c1, if_pos (by omega), hwi]
end
/-- A law's proof. -/
theorem proof_made (V M : Nat) (cs : List (List Int)) (l : List S86) (hV : V ≤ 100000) (hM : M ≤ 1000000) (ha : AllR V cs) (hcl : ∀ c ∈ cs, c.length ≤ M) (hcn : cs.length ≤ 1000000) (hsl : ∀ s ∈ l, s.f1.length ≤ M) (hsw : ∀ s ∈ l, 0 ≤ s.f2 ∧ s.f2 ≤ 255) (hln : l.length ≤ 1000000) (A : Option Addr) (c : Nat) (hc : l.length ≤ c) (FA : Option Addr) (fc : Nat) (hfc : cs.length ≤ fc) :
    ∃ ps : List PStep, ps.length = l.length ∧ (∀ s ∈ ps, rightC V s.lits = true ∧ s.lits.length ≤ M) ∧ ∀ w, Kd.C k86 w A l.length l → kRow.C w FA cs.length cs → Calls Tryz.prog 21 #[.slice A l.length c, .agg #[.int .i64 V, .slice FA cs.length fc]] w fun e w' => Below w.heap.size w w' ∧ ∃ X c', e = .returned (.slice X ps.length c') ∧ ps.length ≤ c' ∧ PC w' X ps := by
  obtain ⟨ps, h1, h2, h3⟩ := proof_l V M cs l hV hM ha hcl hcn hsl hsw hln l.length 0 [] (by omega) rfl (by simp)
  obtain ⟨k, h4⟩ := h3.rounds
  refine ⟨ps.map toP, by rw [List.length_map]; exact h1, fun s hs => ?_, fun w hr hF => ?_⟩
  · obtain ⟨x, hx, rfl⟩ := List.mem_map.1 hs
    exact h2 x hx
  · refine (bradawllaw08_Proof.calls k A c l V (fun k => k < w.heap.size) FA fc cs ps w hr hc (Kd.V_mk hfc (Kd.C_F (Kd.heap_slice _ (Kd.heap_int .i64)) hF)) h4).mono ?_
    rintro e w' ⟨v, rfl, hN, hb⟩
    obtain ⟨X, c', rfl, h5, h6⟩ := Kd.N_reads hN
    exact ⟨hb, X, c', by rw [List.length_map], by rw [List.length_map]; exact h5, PC.of h6⟩
end Go.Proofs.YtcblijcalhaffaaGreatDoor
