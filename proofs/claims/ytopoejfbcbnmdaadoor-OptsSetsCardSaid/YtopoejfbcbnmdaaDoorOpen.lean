import Derived.Test.YtopoejfbcbnmdaaDoorRows
import Derived.ProofKit
import Derived.Deep.Slices
import Derived.Deep.Fields
import Derived.ChangeSame
import Derived.OpenShut
namespace Go.Proofs.YtopoejfbcbnmdaaDoor
open Go.ChangeShapes Go.WideShapes Go.ChangeAt Go.RowKit Go.Deep

theorem Tryd.own : ownKnob Tryd.prog.godebug = none := by kernel_rfl
theorem Tryd.laidOut : laidOutB Tryd.prog = true := by kernel_rfl

section
variable {H : Type} {enc : TypeId × Value → H} {P : Program} {w : World} {base : Nat} {spare : Nat → Bool} {held : Bool}

/-- An input slice of structs whose fields have one cell each: its cells, element by element, field by field. -/
theorem open_structs {t e : TypeId} {fs : Array Field} {a : Option Addr} {len cap : Nat} {x : DataW H × List MemPlace} {fuel : Nat} (ht : P.underlying t = some (.slice e)) (he : P.underlying e = some (.struct fs))
    (hone : oneCellFields P fs = true) (hC : P.cellsOf e = fs.size) (hfs : 0 < fs.size) (hsp : ∀ b, spare b = true) (h : DataW.trod enc P w base spare held fuel t [.slice a len cap] = some x) :
    len ≤ maxLen ∧ (0 < len → ∃ b off, a = some ⟨b, off, none⟩ ∧
      ∀ i, i < len → ∀ (j : Nat) (f : Field), fs[j]? = some f → ∃ (v : Value) (y : DataW H × List MemPlace) (n : Nat), w.cell? ⟨b, off + i * fs.size + j, none⟩ = some v ∧ DataW.trod enc P w base spare held n f.type [v] = some y) := by
  rcases open_slice ht h with ⟨h0, _⟩ | ⟨a', len', cap', m, n, D, Pl, hcs, _, hl, hm, hmm, _, hi⟩
  · simp only [List.cons.injEq, Value.slice.injEq, and_true] at h0
    exact ⟨by rw [h0.2.1]; simp, fun hp => by omega⟩
  · simp only [List.cons.injEq, Value.slice.injEq, and_true] at hcs
    obtain ⟨rfl, rfl, rfl⟩ := hcs
    refine ⟨Nat.le_trans hl hm, fun hp => ?_⟩
    have hmc : len ≤ m := by rw [hmm, hsp]; simpa using hl
    have hcell : ∀ i, i < len → ∀ (j : Nat) (f : Field), fs[j]? = some f → ∃ (v : Value) (y : DataW H × List MemPlace) (n : Nat), w.cell? (a'.add (i * fs.size + j)) = some v ∧ DataW.trod enc P w base spare held n f.type [v] = some y := by
      intro i hil j f hf
      obtain ⟨cs', hc, htr⟩ := hi i (by omega)
      rw [hC] at hc
      obtain ⟨ys, n', _, _, hlen, hyl, hfs⟩ := DataW.trod_struct he htr
      obtain ⟨_, hcl, hat⟩ := World.cells?_some hc
      obtain ⟨ho, hk⟩ := hone_of hone j f hf
      have hjl : j < fs.size := (Array.getElem?_eq_some_iff.1 hf).1
      have hcj := hat j hjl
      have h1 := hfs j f hf
      rw [ho, hk] at h1
      have hlt : j < cs'.length := by omega
      have e1 : (cs'.drop j).take 1 = [cs'[j]] := by rw [List.drop_eq_getElem_cons hlt]; rfl
      rw [e1] at h1
      have h2 : ys[j]? = some (ys[j]'(by omega)) := List.getElem?_eq_getElem (by omega)
      refine ⟨cs'[j], ys[j]'(by omega), n', ?_, h1.trans h2⟩
      rw [← Go.Deep.add_add, hcj]
      exact List.getElem?_eq_getElem hlt
    obtain ⟨b, off, spot⟩ := a'
    cases spot with
    | none =>
      refine ⟨b, off, rfl, fun i hil j f hf => ?_⟩
      obtain ⟨v, y, n', hv, hy⟩ := hcell i hil j f hf
      refine ⟨v, y, n', ?_, hy⟩
      have ea : (⟨b, off, none⟩ : Addr).add (i * fs.size + j) = ⟨b, off + i * fs.size + j, none⟩ := by
        unfold Addr.add; split
        · rename_i h0; simp only [Addr.mk.injEq, and_true, true_and]; omega
        · simp [Nat.add_assoc]
      rw [ea] at hv
      exact hv
    | some sp =>
      exfalso
      obtain ⟨v, y, n', hv, hy⟩ := hcell 0 hp 0 fs[0] (Array.getElem?_eq_getElem hfs)
      have := World.cell?_spot hv
      simp [Addr.add] at this

/-- An input slice whose elements have one cell each: its cells, one by one. -/
theorem open_nums {t e : TypeId} {a : Option Addr} {len cap : Nat} {x : DataW H × List MemPlace} {fuel : Nat} (ht : P.underlying t = some (.slice e)) (hC : P.cellsOf e = 1) (hsp : ∀ b, spare b = true)
    (h : DataW.trod enc P w base spare held fuel t [.slice a len cap] = some x) :
    len ≤ maxLen ∧ (0 < len → ∃ b off, a = some ⟨b, off, none⟩ ∧
      ∀ i, i < len → ∃ (v : Value) (y : DataW H × List MemPlace) (n : Nat), w.cell? ⟨b, off + i, none⟩ = some v ∧ DataW.trod enc P w base spare held n e [v] = some y) := by
  rcases open_slice ht h with ⟨h0, _⟩ | ⟨a', len', cap', m, n, D, Pl, hcs, _, hl, hm, hmm, _, hi⟩
  · simp only [List.cons.injEq, Value.slice.injEq, and_true] at h0
    exact ⟨by rw [h0.2.1]; simp, fun hp => by omega⟩
  · simp only [List.cons.injEq, Value.slice.injEq, and_true] at hcs
    obtain ⟨rfl, rfl, rfl⟩ := hcs
    refine ⟨Nat.le_trans hl hm, fun hp => ?_⟩
    have hmc : len ≤ m := by rw [hmm, hsp]; simpa using hl
    have hcell : ∀ i, i < len → ∃ (v : Value) (y : DataW H × List MemPlace) (n : Nat), w.cell? (a'.add i) = some v ∧ DataW.trod enc P w base spare held n e [v] = some y := by
      intro i hil
      obtain ⟨cs', hc, htr⟩ := hi i (by omega)
      rw [hC] at hc
      obtain ⟨_, hcl, hat⟩ := World.cells?_some hc
      rw [Nat.mul_one] at hat
      have hc0 := hat 0 (by omega)
      match cs', hcl, htr, hc0 with
      | [v], _, htr, hc0 => exact ⟨v, _, _, by simpa [Addr.add] using hc0, htr⟩
    obtain ⟨b, off, spot⟩ := a'
    cases spot with
    | none =>
      refine ⟨b, off, rfl, fun i hil => ?_⟩
      obtain ⟨v, y, n', hv, hy⟩ := hcell i hil
      refine ⟨v, y, n', ?_, hy⟩
      have ea : (⟨b, off, none⟩ : Addr).add i = ⟨b, off + i, none⟩ := by
        unfold Addr.add; split
        · rename_i h0; simp only [Addr.mk.injEq, and_true, true_and]; omega
        · rfl
      rw [ea] at hv
      exact hv
    | some sp =>
      exfalso
      obtain ⟨v, y, n', hv, hy⟩ := hcell 0 hp
      have := World.cell?_spot hv
      simp [Addr.add] at this

end

end Go.Proofs.YtopoejfbcbnmdaaDoor
