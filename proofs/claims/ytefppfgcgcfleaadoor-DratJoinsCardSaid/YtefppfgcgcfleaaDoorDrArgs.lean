import Derived.Test.YtefppfgcgcfleaaDoorDrFit
import Derived.Test.YtefppfgcgcfleaaDoorWSized
import Derived.Deep.SlicePairs
import Derived.OpenShut
namespace Go.Proofs.YtefppfgcgcfleaaDoor
open Go Go.RowKit Go.ChangeShapes Go.WideShapes Go.Deep Go.Proofs.YtefppfgcgcfleaaDoorW.PrintWords Go.Proofs.YtefppfgcgcfleaaDoorW.PrintLast Go.Proofs.YtefppfgcgcfleaaDoorW.PrintMore PDratJoins

/-! The laws' arguments, opened. -/
theorem list_of {α : Type} {p : Nat → α → Prop} : ∀ n : Nat, (∀ i, i < n → ∃ x, p i x) → ∃ l : List α, l.length = n ∧ ∀ i x, l[i]? = some x → p i x
  | 0, _ => ⟨[], rfl, fun i x h => by simp at h⟩
  | n + 1, h => by
    obtain ⟨l, hl, hp⟩ := list_of n (fun i hi => h i (by omega))
    obtain ⟨x, hx⟩ := h n (by omega)
    refine ⟨l ++ [x], by simp [hl], fun i y hy => ?_⟩
    rcases Nat.lt_trichotomy i n with hi | rfl | hi
    · rw [List.getElem?_append_left (by omega)] at hy
      exact hp i y hy
    · rw [List.getElem?_append_right (by omega)] at hy
      have e : y = x := by simpa [hl] using hy.symm
      rw [e]; exact hx
    · rw [List.getElem?_eq_none (by simp; omega)] at hy
      simp at hy

section
variable {H : Type} {enc : TypeId × Value → H} {P : Program} {W : World} {held : Bool}
theorem nums_of {t e : TypeId} {k : IntKind} {a : Option Addr} {len cap : Nat} {d : DataW H} {ps : List MemPlace} (ht : P.underlying t = some (.slice e)) (he : P.underlying e = some (.int k)) (hc : P.cellsOf e = 1)
    (h : DataW.Trod enc P W 0 (fun _ => true) held t (.slice a len cap) d ps) : ∃ l : List Int, len = l.length ∧ l.length ≤ cap ∧ Kd.C (Kd.int k) W a l.length l ∧ ∀ x ∈ l, (Lit.int k x).wf = true := by
  obtain ⟨fuel, hf⟩ := h
  have hrow : (a = none ∧ len = 0 ∧ cap = 0 ∧ ([] : List Int) = []) ∨ ∃ zs : List Int, ∃ x, a = some x ∧ len ≤ cap ∧ cap ≤ maxLen ∧ zs.length = cap ∧ (∀ i, i < zs.length → W.cell? (x.add i) = some (.int k (zs.getD i 0))) ∧ ∀ n ∈ zs, (Lit.int k n).wf = true := by
    rcases open_ints ht he hc hf with ⟨hcs, _⟩ | ⟨x, l, c, zs, hcs, _, hl, hm, hz, _, hcell, hwz⟩
    · simp [Value.cells] at hcs
      obtain ⟨rfl, rfl, rfl⟩ := hcs
      exact .inl ⟨rfl, rfl, rfl, rfl⟩
    · simp [Value.cells] at hcs
      obtain ⟨rfl, rfl, rfl⟩ := hcs
      exact .inr ⟨zs, _, rfl, hl, hm, by simpa using hz, hcell, hwz⟩
  rcases hrow with h0 | ⟨zs, x, h0⟩
  · obtain ⟨l, e, h1, h2, h3, h4⟩ := ReadsInt.ofRowC (k := k) (w := W) (.inl h0)
    exact ⟨l, e, h4, Kd.C_of_reads (d := (0 : Int)) (h1 := fun _ => rfl) h1, h3⟩
  · obtain ⟨l, e, h1, h2, h3, h4⟩ := ReadsInt.ofRowC (k := k) (w := W) (.inr ⟨x, h0⟩)
    exact ⟨l, e, h4, Kd.C_of_reads (d := (0 : Int)) (h1 := fun _ => rfl) h1, h3⟩
end

theorem ints_of {H : Type} {enc : TypeId × Value → H} {W : World} {held : Bool} {a : Option Addr} {len cap : Nat} {d : DataW H} {ps : List MemPlace} (ht : Tryd.prog.underlying 34 = some (.slice 3)) (he : Tryd.prog.underlying 3 = some (.int .i64)) (hc : Tryd.prog.cellsOf 3 = 1)
    (h : DataW.Trod enc Tryd.prog W 0 (fun _ => true) held 34 (.slice a len cap) d ps) : ∃ l : List Int, len = l.length ∧ l.length ≤ cap ∧ Kd.C (Kd.int .i64) W a l.length l ∧ ∀ x ∈ l, (Lit.int .i64 x).wf = true := nums_of ht he hc h

theorem u8_wf {x : Int} (h : (Lit.int .u8 x).wf = true) : 0 ≤ x ∧ x < 256 := by
  have := bounds_u8 h
  omega
theorem bytes_of {H : Type} {enc : TypeId × Value → H} {W : World} {held : Bool} {a : Option Addr} {len cap : Nat} {d : DataW H} {ps : List MemPlace} (ht : Tryd.prog.underlying 30 = some (.slice 5)) (he : Tryd.prog.underlying 5 = some (.int .u8)) (hc : Tryd.prog.cellsOf 5 = 1)
    (h : DataW.Trod enc Tryd.prog W 0 (fun _ => true) held 30 (.slice a len cap) d ps) : ∃ b : List UInt8, len = b.length ∧ b.length ≤ cap ∧ Rd W a b := by
  obtain ⟨l, e, h1, h2, h3⟩ := nums_of ht he hc h
  have e2 : bts (l.map fun x => UInt8.ofNat x.toNat) = l := by
    unfold bts
    rw [List.map_map]
    refine (List.map_congr_left fun x hx => ?_).trans (List.map_id l)
    have := u8_wf (h3 x hx)
    simp
    omega
  refine ⟨l.map fun x => UInt8.ofNat x.toNat, by simpa using e, by simpa using h1, ?_⟩
  unfold Rd
  rw [e2, List.length_map]
  exact h2

theorem weightsAll_mem {H : Type} {P : Program} {e : TypeId} {y : DataW H} {n : Nat} : ∀ {l : List (DataW H)}, y ∈ l → n ∈ y.weights P e → n ∈ DataW.weightsAll P e l
  | [], h, _ => by simp at h
  | a :: l, h, hn => by
    simp only [DataW.weightsAll, List.mem_append]
    rcases List.mem_cons.1 h with rfl | h
    · exact .inl hn
    · exact .inr (weightsAll_mem h hn)
/-- The steps that a law is given. -/
theorem steps_of {H : Type} {enc : TypeId × Value → H} {W : World} {held : Bool} {a : Option Addr} {len cap : Nat} {d : DataW H} {ps : List MemPlace} {ts : List TypeId} {ds : List (DataW H)} {jj : Nat}
    (hsz : (DataW.weightsEach Tryd.prog ts ds).all (· ≤ reachBytes) = true) (ht : ts[jj]? = some 38) (hd : ds[jj]? = some d)
    (h : DataW.Trod enc Tryd.prog W 0 (fun _ => true) held 38 (.slice a len cap) d ps) :
    ∃ l : List S57, len = l.length ∧ l.length ≤ cap ∧ Kd.C k57 W a l.length l ∧ l.length ≤ 140737488351232 ∧ ∀ s ∈ l, s.f1.length ≤ 140737488351232 := by
  obtain ⟨fuel, hf⟩ := h
  rcases open_slice_pairs Tryd.underlying38 Tryd.underlying57 (by kernel_rfl) rfl rfl (by kernel_rfl) (by kernel_rfl) hf with ⟨hcs, _⟩ | ⟨x, l, c, m, n, V0, V1, D0, D1, P0, P1, hcs, _, hl, hm, hmm, hxd, hi⟩
  · simp [Value.cells] at hcs
    obtain ⟨rfl, rfl, rfl⟩ := hcs
    exact ⟨[], rfl, Nat.le_refl _, ⟨rfl, by simp, fun h => absurd h (by simp)⟩, by simp, fun s hs => by simp at hs⟩
  · simp [Value.cells] at hcs
    obtain ⟨rfl, rfl, rfl⟩ := hcs
    have hd0 := congrArg Prod.fst hxd
    simp only at hd0
    obtain ⟨q, hq, hp⟩ := list_of (p := fun i (s : S57) => (∃ A1 c1, W.cell? (x.add (i * 2)) = some (.bool s.f0) ∧ W.cell? (x.add (i * 2 + 1)) = some (.slice A1 s.f1.length c1) ∧ s.f1.length ≤ c1 ∧ Kd.C (Kd.int .i32) W A1 s.f1.length s.f1) ∧ s.f1.length ≤ 140737488351232) len (fun i hil => by
      obtain ⟨g0, g1, t0, t1⟩ := hi i (by simp at hmm; omega)
      obtain ⟨b, hb, _⟩ := DataW.trod_bool Tryd.underlying4 t0
      simp only [List.cons.injEq, and_true] at hb
      have hs : ∃ A1 n1 c1, V1 i = .slice A1 n1 c1 := by
        rcases DataW.trod_slice Tryd.underlying55 t1 with ⟨h0, _⟩ | ⟨A1, n1, c1, _, _, _, _, h0, _⟩
        · exact ⟨none, 0, 0, by simpa using h0⟩
        · exact ⟨some A1, n1, c1, by simpa using h0⟩
      obtain ⟨A1, n1, c1, hs⟩ := hs
      rw [hs] at t1 g1
      have hin : (DataW.weightsEach Tryd.prog [4, 55] [D0 i, D1 i]).all (· ≤ reachBytes) = true := by
        refine List.all_eq_true.2 fun n hn => List.all_eq_true.1 hsz n (DataW.weights_mem_each ht hd n ?_)
        rw [hd0]
        have hw1 : n ∈ (DataW.agg [D0 i, D1 i]).weights Tryd.prog 57 := by
          simp only [DataW.weights, Tryd.underlying57]
          exact hn
        simp only [DataW.weights, Tryd.underlying38, List.mem_cons, List.mem_append]
        exact .inr (.inl (weightsAll_mem (List.mem_map.2 ⟨i, List.mem_range.2 hil, rfl⟩) hw1))
      have hz4' := sized_ints hin (j := 1) rfl rfl Tryd.underlying55 Tryd.underlying21 (by kernel_rfl) (B := 4) (by kernel_rfl) ⟨_, t1⟩
      obtain ⟨z, e, z1, z2, z3⟩ := nums_of Tryd.underlying55 Tryd.underlying21 (by kernel_rfl) ⟨_, t1⟩
      subst e
      rw [hb] at g0
      have hz4 : z.length ≤ 140737488351232 := by omega
      exact ⟨⟨b, z⟩, ⟨A1, c1, g0, g1, z1, z2⟩, hz4⟩)
    have hq2 : len ≤ 140737488351232 := by
      rw [hd0] at hd
      have h9 := sized_slice hsz ht hd Tryd.underlying38
      rw [show Tryd.prog.bytesOf 57 = 32 by kernel_rfl, List.length_map, List.length_range, show reachBytes = 140737488351232 from rfl] at h9
      omega
    refine ⟨q, hq.symm, by omega, ⟨rfl, by rw [hq]; exact Nat.le_trans (Nat.le_trans hl hm) (by decide), fun _ => ⟨x, rfl, fun j s hj => ?_⟩⟩, by omega, fun s hs => ?_⟩
    · obtain ⟨⟨A1, c1, g0, g1, z1, z2⟩, _⟩ := hp j s hj
      refine ⟨[.bool s.f0, .slice A1 s.f1.length c1], rfl, k57_mk W s z1 z2, fun i u hu => ?_⟩
      match i, hu with
      | 0, hu => show W.cell? (x.add (j * 2 + 0)) = _; rw [Nat.add_zero, g0]; simpa using hu
      | 1, hu => show W.cell? (x.add (j * 2 + 1)) = _; rw [g1]; simpa using hu
      | i + 2, hu => simp at hu
    · obtain ⟨j, hj⟩ := List.getElem?_of_mem hs
      exact (hp j s hj).2

end Go.Proofs.YtefppfgcgcfleaaDoor
