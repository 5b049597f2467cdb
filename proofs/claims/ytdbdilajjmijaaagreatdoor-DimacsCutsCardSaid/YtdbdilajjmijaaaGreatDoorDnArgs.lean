import Derived.Test.YtdbdilajjmijaaaGreatDoorDnLight
import Derived.Test.YtdbdilajjmijaaaGreatDoorWSized
import Derived.Deep.SlicePairs
import Derived.OpenShut
namespace Go.Proofs.YtdbdilajjmijaaaGreatDoor
open Go Go.RowKit Go.ChangeShapes Go.WideShapes Go.Deep Go.Proofs.YtdbdilajjmijaaaGreatDoorW.PrintWords Go.Proofs.YtdbdilajjmijaaaGreatDoorW.PrintLast Go.Proofs.YtdbdilajjmijaaaGreatDoorW.PrintMore PDimacsCuts

/-! The laws' arguments, opened. -/
theorem list_of {α : Type} {p : Nat → α → Prop} : ∀ n : Nat, (∀ i, i < n → ∃ x, p i x) → ∃ l : List α, l.length = n ∧ ∀ i x, l[i]? = some x → p i x
  | 0, _ => ⟨[], rfl, fun i x h => by simp at h⟩
  | n + 1, h => by
    obtain ⟨l, hl, hp⟩ := list_of n (fun i hi => h i (by omega))
    obtain ⟨x, hx⟩ := h n (by omega)
    refine ⟨l ++ [x], by simp [hl], fun i y hy => ?_⟩
    rcases Nat.lt_trichotomy i n with hi | rfl | hi
    · rw [List.getElem?_append_left (by omega)] at hy
      exact hp i y hy
    · rw [List.getElem?_append_right (by omega)] at hy
      have e : y = x := by simpa [hl] using hy.symm
      rw [e]; exact hx
    · rw [List.getElem?_eq_none (by simp; omega)] at hy
      simp at hy

section
variable {H : Type} {enc : TypeId × Value → H} {P : Program} {W : World} {held : Bool}
theorem nums_of {t e : TypeId} {k : IntKind} {a : Option Addr} {len cap : Nat} {d : DataW H} {ps : List MemPlace} (ht : P.underlying t = some (.slice e)) (he : P.underlying e = some (.int k)) (hc : P.cellsOf e = 1)
    (h : DataW.Trod enc P W 0 (fun _ => true) held t (.slice a len cap) d ps) : ∃ l : List Int, len = l.length ∧ l.length ≤ cap ∧ Kd.C (Kd.int k) W a l.length l ∧ ∀ x ∈ l, (Lit.int k x).wf = true := by
  obtain ⟨fuel, hf⟩ := h
  have hrow : (a = none ∧ len = 0 ∧ cap = 0 ∧ ([] : List Int) = []) ∨ ∃ zs : List Int, ∃ x, a = some x ∧ len ≤ cap ∧ cap ≤ maxLen ∧ zs.length = cap ∧ (∀ i, i < zs.length → W.cell? (x.add i) = some (.int k (zs.getD i 0))) ∧ ∀ n ∈ zs, (Lit.int k n).wf = true := by
    rcases open_ints ht he hc hf with ⟨hcs, _⟩ | ⟨x, l, c, zs, hcs, _, hl, hm, hz, _, hcell, hwz⟩
    · simp [Value.cells] at hcs
      obtain ⟨rfl, rfl, rfl⟩ := hcs
      exact .inl ⟨rfl, rfl, rfl, rfl⟩
    · simp [Value.cells] at hcs
      obtain ⟨rfl, rfl, rfl⟩ := hcs
      exact .inr ⟨zs, _, rfl, hl, hm, by simpa using hz, hcell, hwz⟩
  rcases hrow with h0 | ⟨zs, x, h0⟩
  · obtain ⟨l, e, h1, h2, h3, h4⟩ := ReadsInt.ofRowC (k := k) (w := W) (.inl h0)
    exact ⟨l, e, h4, Kd.C_of_reads (d := (0 : Int)) (h1 := fun _ => rfl) h1, h3⟩
  · obtain ⟨l, e, h1, h2, h3, h4⟩ := ReadsInt.ofRowC (k := k) (w := W) (.inr ⟨x, h0⟩)
    exact ⟨l, e, h4, Kd.C_of_reads (d := (0 : Int)) (h1 := fun _ => rfl) h1, h3⟩
end

theorem weightsAll_mem {H : Type} {P : Program} {e : TypeId} {y : DataW H} {n : Nat} : ∀ {l : List (DataW H)}, y ∈ l → n ∈ y.weights P e → n ∈ DataW.weightsAll P e l
  | [], h, _ => by simp at h
  | a :: l, h, hn => by
    simp only [DataW.weightsAll, List.mem_append]
    rcases List.mem_cons.1 h with rfl | h
    · exact .inl hn
    · exact .inr (weightsAll_mem h hn)
theorem kRaw_mk {w : World} {r : List Int} {A : Option Addr} {c : Nat} (h1 : r.length ≤ c) (h2 : Kd.C (Kd.int .i16) w A r.length r) : kRaw.K w r [.slice A r.length c] := ⟨A, c, rfl, h1, h2⟩
/-- What a formula is made of. -/
theorem raws_of {H : Type} {enc : TypeId × Value → H} {W : World} {held : Bool} {a : Option Addr} {len cap : Nat} {d : DataW H} {ps : List MemPlace} {ts : List TypeId} {ds : List (DataW H)} {jj : Nat}
    (hsz : (DataW.weightsEach Tryz.prog ts ds).all (· ≤ reachBytes) = true) (ht : ts[jj]? = some 22) (hd : ds[jj]? = some d)
    (h : DataW.Trod enc Tryz.prog W 0 (fun _ => true) held 22 (.slice a len cap) d ps) :
    ∃ l : List (List Int), len = l.length ∧ l.length ≤ cap ∧ Kd.C kRaw W a l.length l ∧ l.length ≤ 140737488355328 ∧ ∀ r ∈ l, r.length ≤ 140737488355328 := by
  obtain ⟨fuel, hf⟩ := h
  rcases open_slice1 Tryz.underlying22 (by kernel_rfl) hf with ⟨hcs, _⟩ | ⟨x, l, c, m, n, V, D, Pl, hcs, _, hl, hm, hmm, hxd, hi⟩
  · simp [Value.cells] at hcs
    obtain ⟨rfl, rfl, rfl⟩ := hcs
    exact ⟨[], rfl, Nat.le_refl _, ⟨rfl, by simp, fun h => absurd h (by simp)⟩, by simp, fun s hs => by simp at hs⟩
  · simp [Value.cells] at hcs
    obtain ⟨rfl, rfl, rfl⟩ := hcs
    have hd0 := congrArg Prod.fst hxd
    simp only at hd0
    obtain ⟨q, hq, hp⟩ := list_of (p := fun i (r : List Int) => (∃ A1 c1, W.cell? (x.add i) = some (.slice A1 r.length c1) ∧ r.length ≤ c1 ∧ Kd.C (Kd.int .i16) W A1 r.length r) ∧ r.length ≤ 140737488355328) len (fun i hil => by
      obtain ⟨g1, t1⟩ := hi i (by simp at hmm; omega)
      have hs : ∃ A1 n1 c1, V i = .slice A1 n1 c1 := by
        rcases DataW.trod_slice Tryz.underlying48 t1 with ⟨h0, _⟩ | ⟨A1, n1, c1, _, _, _, _, h0, _⟩
        · exact ⟨none, 0, 0, by simpa using h0⟩
        · exact ⟨some A1, n1, c1, by simpa using h0⟩
      obtain ⟨A1, n1, c1, hs⟩ := hs
      rw [hs] at t1 g1
      have hin : (DataW.weightsEach Tryz.prog [48] [D i]).all (· ≤ reachBytes) = true := by
        refine List.all_eq_true.2 fun n hn => List.all_eq_true.1 hsz n (DataW.weights_mem_each ht hd n ?_)
        rw [hd0]
        have hw1 : n ∈ (D i).weights Tryz.prog 48 := by
          simpa [DataW.weightsEach] using hn
        simp only [DataW.weights, Tryz.underlying22, List.mem_cons, List.mem_append]
        exact .inr (.inl (weightsAll_mem (List.mem_map.2 ⟨i, List.mem_range.2 hil, rfl⟩) hw1))
      have hz4' := sized_ints hin (j := 0) rfl rfl Tryz.underlying48 Tryz.underlying49 (by kernel_rfl) (B := 2) (by kernel_rfl) ⟨_, t1⟩
      obtain ⟨z, e, z1, z2, z3⟩ := nums_of Tryz.underlying48 Tryz.underlying49 (by kernel_rfl) ⟨_, t1⟩
      subst e
      exact ⟨z, ⟨A1, c1, g1, z1, z2⟩, by omega⟩)
    have hq2 : len ≤ 140737488355328 := by
      rw [hd0] at hd
      have h9 := sized_slice hsz ht hd Tryz.underlying22
      rw [show Tryz.prog.bytesOf 48 = 24 by kernel_rfl, List.length_map, List.length_range, show reachBytes = 140737488351232 from rfl] at h9
      omega
    refine ⟨q, hq.symm, by omega, ⟨rfl, by rw [hq]; exact Nat.le_trans (Nat.le_trans hl hm) (by decide), fun _ => ⟨x, rfl, fun j s hj => ?_⟩⟩, by omega, fun s hs => ?_⟩
    · obtain ⟨⟨A1, c1, g1, z1, z2⟩, _⟩ := hp j s hj
      refine ⟨[.slice A1 s.length c1], rfl, kRaw_mk z1 z2, fun i u hu => ?_⟩
      match i, hu with
      | 0, hu => show W.cell? (x.add (j * 1 + 0)) = _; rw [Nat.mul_one, Nat.add_zero, g1]; simpa using hu
      | i + 1, hu => simp at hu
    · obtain ⟨j, hj⟩ := List.getElem?_of_mem hs
      exact (hp j s hj).2
theorem raw_of {H : Type} {enc : TypeId × Value → H} {W : World} {held : Bool} {cs : Array Value} {d : DataW H} {ps : List MemPlace} {ts : List TypeId} {ds : List (DataW H)} {jj : Nat}
    (hsz : (DataW.weightsEach Tryz.prog ts ds).all (· ≤ reachBytes) = true) (ht : ts[jj]? = some 24) (hd : ds[jj]? = some d)
    (h : DataW.Trod enc Tryz.prog W 0 (fun _ => true) held 24 (.agg cs) d ps) :
    ∃ (u : Int) (A : Option Addr) (c : Nat) (l : List (List Int)), cs = #[.int .u8 u, .slice A l.length c] ∧ (0 ≤ u ∧ u ≤ 255) ∧ l.length ≤ c ∧ Kd.C kRaw W A l.length l ∧ l.length ≤ 140737488355328 ∧ ∀ r ∈ l, r.length ≤ 140737488355328 := by
  obtain ⟨fuel, hf⟩ := h
  obtain ⟨y0, y1, n, hx, hlen, h0, h1⟩ := trod_struct2 Tryz.underlying24 hf
  have hc2 : Tryz.prog.cellsOf 24 = 2 := by kernel_rfl
  have hcu : Tryz.prog.cellsOf 5 = 1 := by kernel_rfl
  have hcr : Tryz.prog.cellsOf 22 = 1 := by kernel_rfl
  rw [hc2] at hlen
  obtain ⟨c0, c1, hcs⟩ : ∃ c0 c1, cs.toList = [c0, c1] := by
    have hl : cs.toList.length = 2 := by simpa [Value.cells] using hlen
    match hq : cs.toList, hl with
    | [c0, c1], _ => exact ⟨c0, c1, rfl⟩
  have hcs2 : (Value.agg cs).cells.toList = [c0, c1] := hcs
  rw [hcs2] at h0 h1
  simp only at h0 h1
  rw [hcu] at h0
  rw [hcr] at h1
  have h0 : DataW.trod enc Tryz.prog W 0 (fun _ => true) held n 5 [c0] = some y0 := h0
  have h1 : DataW.trod enc Tryz.prog W 0 (fun _ => true) held n 22 [c1] = some y1 := h1
  obtain ⟨u, hu, _, hwf⟩ := DataW.trod_int Tryz.underlying5 h0
  simp only [List.cons.injEq, and_true] at hu
  have hub := bounds_u8 hwf
  have hs : ∃ A1 n1 k1, c1 = .slice A1 n1 k1 := by
    rcases DataW.trod_slice Tryz.underlying22 h1 with ⟨h0, _⟩ | ⟨A1, n1, k1, _, _, _, _, h0, _⟩
    · exact ⟨none, 0, 0, by simpa using h0⟩
    · exact ⟨some A1, n1, k1, by simpa using h0⟩
  obtain ⟨A1, n1, k1, rfl⟩ := hs
  have hd0 := congrArg Prod.fst hx
  simp only at hd0
  have hin : (DataW.weightsEach Tryz.prog [5, 22] [y0.1, y1.1]).all (· ≤ reachBytes) = true := by
    refine List.all_eq_true.2 fun n hn => List.all_eq_true.1 hsz n (DataW.weights_mem_each ht hd n ?_)
    rw [hd0]
    simp only [DataW.weights, Tryz.underlying24]
    exact hn
  obtain ⟨l, e, h2, h3, h4, h5⟩ := raws_of hin (jj := 1) rfl rfl ⟨n, h1⟩
  subst e hu
  refine ⟨u, A1, k1, l, ?_, by omega, h2, h3, h4, h5⟩
  apply Array.ext'
  exact hcs
end Go.Proofs.YtdbdilajjmijaaaGreatDoor
