import Derived.Test.YtdbdilajjmijaaaGreatDoorDnLiteral
namespace Go.Proofs.YtdbdilajjmijaaaGreatDoor
open Go Go.RowKit Go.Proofs.YtdbdilajjmijaaaGreatDoorW.PrintWords Go.Proofs.YtdbdilajjmijaaaGreatDoorW.PrintLast Go.Proofs.YtdbdilajjmijaaaGreatDoorW.PrintMore PDimacsCuts

/-! The reader: its memory, end, header. -/
abbrev kForm : Kd (List Int) := Kd.slice 3 (Kd.int .i64)
def rdCells (r : Rdr) (Vc Vo : Value) : Array Value := #[.int .i64 (r.vars : Int), Vc, .int .i64 (r.n : Int), .int .i64 (r.lits : Int), Vo, .bool r.head]
structure RdIs (w : World) (base b : Nat) (Vc Vo : Value) (r : Rdr) : Prop where
  blk : w.heap[b]? = some (.cells (rdCells r Vc Vo) 54 (0, 0))
  low : base ≤ b
  cls : Kd.R kForm 46 w base (fun k => True ∧ some k ≠ Vo.ownBlock) Vc r.cls
  opn : Kd.R (Kd.int .i64) 3 w base (fun _ => True) Vo r.opn
def RdAt (w : World) (base b : Nat) (r : Rdr) : Prop := ∃ Vc Vo, RdIs w base b Vc Vo r
/-- What a method of the reader leaves. -/
def MethSaid (w : World) (base b : Nat) (g : Nat × Rdr) (e : Ending) (w' : World) : Prop := e = .returned (.int .i64 (g.1 : Int)) ∧ RdAt w' base b g.2 ∧ Below base w w' ∧ Stands 9 w w'

theorem RdIs.c0 {w : World} {base b : Nat} {Vc Vo : Value} {r : Rdr} (h : RdIs w base b Vc Vo r) : w.cell? ⟨b, 0, none⟩ = some (.int .i64 (r.vars : Int)) := (blk_cell h.blk 0).trans rfl
theorem RdIs.c1 {w : World} {base b : Nat} {Vc Vo : Value} {r : Rdr} (h : RdIs w base b Vc Vo r) : w.cell? ⟨b, 1, none⟩ = some Vc := (blk_cell h.blk 1).trans rfl
theorem RdIs.c2 {w : World} {base b : Nat} {Vc Vo : Value} {r : Rdr} (h : RdIs w base b Vc Vo r) : w.cell? ⟨b, 2, none⟩ = some (.int .i64 (r.n : Int)) := (blk_cell h.blk 2).trans rfl
theorem RdIs.c3 {w : World} {base b : Nat} {Vc Vo : Value} {r : Rdr} (h : RdIs w base b Vc Vo r) : w.cell? ⟨b, 3, none⟩ = some (.int .i64 (r.lits : Int)) := (blk_cell h.blk 3).trans rfl
theorem RdIs.c4 {w : World} {base b : Nat} {Vc Vo : Value} {r : Rdr} (h : RdIs w base b Vc Vo r) : w.cell? ⟨b, 4, none⟩ = some Vo := (blk_cell h.blk 4).trans rfl
theorem RdIs.c5 {w : World} {base b : Nat} {Vc Vo : Value} {r : Rdr} (h : RdIs w base b Vc Vo r) : w.cell? ⟨b, 5, none⟩ = some (.bool r.head) := (blk_cell h.blk 5).trans rfl
theorem RdIs.below {w w' : World} {base b : Nat} {Vc Vo : Value} {r : Rdr} (h : RdIs w base b Vc Vo r) (hb : Below w.heap.size w w') : RdIs w' base b Vc Vo r := ⟨blk_below h.blk hb, h.low, Kd.R_below h.cls hb, Kd.R_below h.opn hb⟩
theorem RdIs.drewN {w : World} {base b : Nat} {Vc Vo : Value} {r : Rdr} (h : RdIs w base b Vc Vo r) (n : Nat) : RdIs (w.drewN n) base b Vc Vo r := ⟨h.blk, h.low, Kd.R_drewN h.cls n, Kd.R_drewN h.opn n⟩
theorem RdIs.lt {w : World} {base b : Nat} {Vc Vo : Value} {r : Rdr} (h : RdIs w base b Vc Vo r) : b < w.heap.size := blk_lt h.blk
/-- One of the reader's cells that holds no row is written. -/
theorem RdIs.set {w : World} {base b : Nat} {Vc Vo : Value} {r r' : Rdr} (h : RdIs w base b Vc Vo r) (j : Nat) (u : Value) (hc : (rdCells r Vc Vo).setIfInBounds j u = rdCells r' Vc Vo) (h1 : r'.cls = r.cls) (h2 : r'.opn = r.opn) : RdIs (w.setCell ⟨b, j, none⟩ u) base b Vc Vo r' := by
  refine ⟨?_, h.low, ?_, ?_⟩
  · have := blk_set h.blk j u
    rw [hc] at this
    exact this
  · rw [h1]
    exact Kd.R_set h.cls h.blk (by decide) j u
  · rw [h2]
    exact Kd.R_set h.opn h.blk (by decide) j u

set_option maxRecDepth 100000 in
set_option maxHeartbeats 4000000 in
theorem end_any (w : World) (base b : Nat) (r : Rdr) (h : RdAt w base b r) :
    Calls Tryz.prog 17 #[.pointer (some ⟨b, 0, none⟩)] w fun e w' => e = .returned (.int .i64 (endR r : Int)) ∧ ∃ n, w' = w.drewN n := by
  obtain ⟨Vc, Vo, hI⟩ := h
  have h1 := hI.c1
  have h2 := hI.c2
  have h4 := hI.c4
  have h5 := hI.c5
  obtain ⟨A1, k1, rfl⟩ := Kd.R_slice hI.cls
  obtain ⟨A4, k4, rfl⟩ := Kd.R_slice hI.opn
  clear hI
  unfold endR
  generalize r.cls.length = cl at *
  generalize r.n = rn at *
  have ho : r.opn ≠ [] ↔ 0 < r.opn.length := List.length_pos_iff.symm
  simp only [ho]
  clear ho
  have hol : r.opn.length = r.opn.length := rfl
  clear hol
  generalize r.opn.length = ol at *
  cases hh : r.head with
  | false =>
    rw [hh] at h5
    rw [if_pos rfl]
    clear hh
    go_enter Tryz.func17, Tryz.ntmps17
    go_wp2
    go_ret
    exact ⟨rfl, 0, rfl⟩
  | true =>
    rw [hh] at h5
    rw [if_neg (by decide)]
    clear hh
    by_cases h6 : 0 < ol
    · rw [if_pos h6]
      go_enter Tryz.func17, Tryz.ntmps17
      go_wp2
      go_ret
      exact ⟨rfl, 0, rfl⟩
    · rw [if_neg h6]
      have q6 : (0 < ol) = False := eq_false h6
      by_cases h7 : cl < rn
      · rw [if_pos h7]
        go_enter Tryz.func17, Tryz.ntmps17
        go_wp2
        go_quiet (fail)
        go_wp2
        go_ret
        exact ⟨rfl, _, rfl⟩
      · rw [if_neg h7]
        have q7 : (cl < rn) = False := eq_false h7
        go_enter Tryz.func17, Tryz.ntmps17
        go_wp2
        go_quiet (fail)
        go_wp2
        go_ret
        exact ⟨rfl, _, rfl⟩

/-! header: the words are read. -/
set_option maxRecDepth 100000 in
set_option maxHeartbeats 4000000 in
theorem header_any (w : World) (base b : Nat) (r : Rdr) (A : Option Addr) (c : Nat) (ws : List (List UInt8)) (h : RdAt w base b r) (hB : base ≤ w.heap.size) (hr : Kd.R Kd.string 9 w base (fun _ => True) (.slice A ws.length c) (ws.map bs)) (hy : ∀ y ∈ ws, y.length ≤ 8388608) (hwl : ws.length ≤ 2097152) :
    Calls Tryz.prog 32 #[.pointer (some ⟨b, 0, none⟩), .slice A ws.length c] w (MethSaid w base b (headR r ws)) := by
  obtain ⟨Vc, Vo, hI⟩ := h
  have HI := Aside0.mk hI
  by_cases h4 : ws.length = 4
  · match ws, h4 with
    | [x, y, z, t], _ =>
      obtain ⟨g, c', e1, _, _, _⟩ := Kd.R_form hr (by simp)
      simp only [Value.slice.injEq] at e1
      obtain ⟨rfl, _, rfl⟩ := e1
      obtain ⟨_, _, hC⟩ := Kd.R_reads' hr
      rw [List.length_map] at hC
      obtain ⟨ad, e1, m0⟩ := at_word hC 0 (by simp)
      cases e1
      obtain ⟨ad, e1, m1⟩ := at_word hC 1 (by simp)
      cases e1
      obtain ⟨ad, e1, m2⟩ := at_word hC 2 (by simp)
      cases e1
      obtain ⟨ad, e1, m3⟩ := at_word hC 3 (by simp)
      cases e1
      clear hC
      have hz : z.length ≤ 8388608 := hy z (by simp)
      have ht : t.length ≤ 8388608 := hy t (by simp)
      unfold nth at m0 m1 m2 m3
      simp only [List.getD_cons_zero, List.getD_cons_succ] at m0 m1 m2 m3
      replace m0 : w.cell? ⟨g, 0, none⟩ = some (.string (bs x)) := m0
      replace m1 : w.cell? ⟨g, 1, none⟩ = some (.string (bs y)) := m1
      replace m2 : w.cell? ⟨g, 2, none⟩ = some (.string (bs z)) := m2
      replace m3 : w.cell? ⟨g, 3, none⟩ = some (.string (bs t)) := m3
      have C2 := fun w => number_any z w (by omega)
      have C3 := fun w => number_any t w (by omega)
      have hgl := World.block_lt_of_cell? w _ m0
      clear hy hr hI ht hz
      have hd : headR r [x, y, z, t] = if x = [112] ∧ y = [99, 110, 102] then
          match numW z, numW t with
          | some v, some n => if 100000 < v ∨ 200000 < n then (8, r) else (0, { r with vars := v, n := n, head := true })
          | _, _ => (2, r)
        else (2, r) := rfl
      rw [hd]
      clear hd
      have all : ∀ (k : Nat) w', Below w.heap.size w w' → MethSaid w base b (k, r) (.returned (.int .i64 (k : Int))) w' := fun k w' hb => ⟨rfl, ⟨Vc, Vo, HI.out.below hb⟩, hb.mono hB, Stands.of_below hb⟩
      have TWO := Aside0.mk (all 2)
      have EIGHT := Aside0.mk (all 8)
      have last : ∀ (v k : Nat) w', Below w.heap.size w w' → MethSaid w base b (0, { r with vars := v, n := k, head := true }) (.returned (.int .i64 0)) (((w'.setCell ⟨b, 0, none⟩ (.int .i64 (v : Int))).setCell ⟨b, 2, none⟩ (.int .i64 (k : Int))).setCell ⟨b, 5, none⟩ (.bool true)) := fun v k w' hb => by
        have h1 := HI.out.below hb
        have h2 := h1.set (r' := { r with vars := v }) 0 (.int .i64 (v : Int)) rfl rfl rfl
        have h3 := h2.set (r' := { r with vars := v, n := k }) 2 (.int .i64 (k : Int)) rfl rfl rfl
        have h4 := h3.set (r' := { r with vars := v, n := k, head := true }) 5 (.bool true) rfl rfl rfl
        refine ⟨rfl, ⟨Vc, Vo, h4⟩, (((hb.mono hB).setCell (p := ⟨b, 0, none⟩) h1.low _).setCell (p := ⟨b, 2, none⟩) h1.low _).setCell (p := ⟨b, 5, none⟩) h1.low _, ?_⟩
        exact (((Stands.of_below hb).trans (Stands.set h1.blk (by decide) 0 _)).trans (Stands.set h2.blk (by decide) 2 _)).trans (Stands.set h3.blk (by decide) 5 _)
      have LAST := Aside0.mk last
      clear last all
      show Calls Tryz.prog 32 #[.pointer (some ⟨b, 0, none⟩), .slice (some ⟨g, 0, none⟩) 4 c] w _
      have hp1 : ∀ o : Option Nat, (match (none : Option Nat), o with
              | some v, some n => if 100000 < v ∨ 200000 < n then (8, r) else (0, { r with vars := v, n := n, head := true })
              | _, _ => (2, r)) = (2, r) := fun o => rfl
      have hp2 : ∀ v : Nat, (match (some v : Option Nat), (none : Option Nat) with
              | some v, some n => if 100000 < v ∨ 200000 < n then (8, r) else (0, { r with vars := v, n := n, head := true })
              | _, _ => (2, r)) = (2, r) := fun v => rfl
      have hp3 : ∀ v k : Nat, (match (some v : Option Nat), (some k : Option Nat) with
              | some v, some n => if 100000 < v ∨ 200000 < n then (8, r) else (0, { r with vars := v, n := n, head := true })
              | _, _ => (2, r)) = if 100000 < v ∨ 200000 < k then (8, r) else (0, { r with vars := v, n := k, head := true }) := fun v k => rfl
      by_cases hx : x = [112]
      · by_cases hy : y = [99, 110, 102]
        · rw [if_pos ⟨hx, hy⟩]
          subst hx hy
          have hz1 : strV z = .string (bs z) := rfl
          have ht1 : strV t = .string (bs t) := rfl
          rw [hz1] at C2
          rw [ht1] at C3
          clear hz1 ht1
          have m0' : w.cell? ⟨g, 0, none⟩ = some (.string ⟨#[112]⟩) := m0
          have m1' : w.cell? ⟨g, 1, none⟩ = some (.string ⟨#[99, 110, 102]⟩) := m1
          have k0 : (bs [112]).toList = [112] := toList_bs _
          have k1 : (bs [99, 110, 102]).toList = [99, 110, 102] := toList_bs _
          generalize bs [112] = Z0 at *
          generalize bs [99, 110, 102] = Z1 at *
          generalize bs z = Z at *
          generalize bs t = T at *
          cases hz : numW z with
          | none =>
            rw [hz] at C2
            rw [hp1 (numW t)]
            clear hp1 hp2 hp3 hz
            cases ht : numW t with
            | none =>
              rw [ht] at C3
              clear ht
              clear m0' m1'
              go_enter Tryz.func32, Tryz.ntmps32
              go_wp2_with fail
              refine (C2 _).mono ?_
              rintro e w2 ⟨hb, rfl⟩
              have m3' := (hb.cell (p := ⟨g, 3, none⟩) hgl).trans m3
              clear m2 m3 C2
              go_wp2_with fail
              refine (C3 _).mono ?_
              rintro e w3 ⟨hb3, rfl⟩
              have HB3 := Aside0.mk (hb.trans (hb3.mono hb.size))
              clear hb hb3 C3 m3'
              go_wp2
              go_ret
              exact TWO.out _ HB3.out
            | some k =>
              rw [ht] at C3
              clear ht
              clear m0' m1'
              go_enter Tryz.func32, Tryz.ntmps32
              go_wp2_with fail
              refine (C2 _).mono ?_
              rintro e w2 ⟨hb, rfl⟩
              have m3' := (hb.cell (p := ⟨g, 3, none⟩) hgl).trans m3
              clear m2 m3 C2
              go_wp2_with fail
              refine (C3 _).mono ?_
              rintro e w3 ⟨hb3, rfl⟩
              have HB3 := Aside0.mk (hb.trans (hb3.mono hb.size))
              clear hb hb3 C3 m3'
              go_wp2
              go_ret
              exact TWO.out _ HB3.out
          | some v =>
            rw [hz] at C2
            have hv9 := numW_lt hz
            clear hz
            cases ht : numW t with
            | none =>
              rw [ht] at C3
              rw [hp2 v]
              clear hp1 hp2 hp3 ht
              clear m0' m1'
              go_enter Tryz.func32, Tryz.ntmps32
              go_wp2_with fail
              refine (C2 _).mono ?_
              rintro e w2 ⟨hb, rfl⟩
              have m3' := (hb.cell (p := ⟨g, 3, none⟩) hgl).trans m3
              clear m2 m3 C2
              go_wp2_with fail
              refine (C3 _).mono ?_
              rintro e w3 ⟨hb3, rfl⟩
              have HB3 := Aside0.mk (hb.trans (hb3.mono hb.size))
              clear hb hb3 C3 m3'
              go_wp2
              go_ret
              exact TWO.out _ HB3.out
            | some k =>
              rw [ht] at C3
              rw [hp3 v k]
              have hk9 := numW_lt ht
              clear hp1 hp2 hp3 ht
              by_cases hv : 100000 < v
              · rw [if_pos (.inl hv)]
                have q1 : (100000 < (v : Int)) = True := eq_true (by omega)
                clear m0' m1'
                go_enter Tryz.func32, Tryz.ntmps32
                go_wp2_with fail
                refine (C2 _).mono ?_
                rintro e w2 ⟨hb, rfl⟩
                have m3' := (hb.cell (p := ⟨g, 3, none⟩) hgl).trans m3
                clear m2 m3 C2
                go_wp2_with fail
                refine (C3 _).mono ?_
                rintro e w3 ⟨hb3, rfl⟩
                have HB3 := Aside0.mk (hb.trans (hb3.mono hb.size))
                clear hb hb3 C3 m3'
                go_wp2
                go_ret
                exact EIGHT.out _ HB3.out
              · have q1 : (100000 < (v : Int)) = False := eq_false (by omega)
                by_cases hk : 200000 < k
                · rw [if_pos (.inr hk)]
                  have q2 : (200000 < (k : Int)) = True := eq_true (by omega)
                  clear m0' m1'
                  go_enter Tryz.func32, Tryz.ntmps32
                  go_wp2_with fail
                  refine (C2 _).mono ?_
                  rintro e w2 ⟨hb, rfl⟩
                  have m3' := (hb.cell (p := ⟨g, 3, none⟩) hgl).trans m3
                  clear m2 m3 C2
                  go_wp2_with fail
                  refine (C3 _).mono ?_
                  rintro e w3 ⟨hb3, rfl⟩
                  have HB3 := Aside0.mk (hb.trans (hb3.mono hb.size))
                  clear hb hb3 C3 m3'
                  go_wp2
                  go_ret
                  exact EIGHT.out _ HB3.out
                · rw [if_neg (by omega)]
                  have q2 : (200000 < (k : Int)) = False := eq_false (by omega)
                  clear m0' m1'
                  go_enter Tryz.func32, Tryz.ntmps32
                  go_wp2_with fail
                  refine (C2 _).mono ?_
                  rintro e w2 ⟨hb, rfl⟩
                  have m3' := (hb.cell (p := ⟨g, 3, none⟩) hgl).trans m3
                  clear m2 m3 C2
                  go_wp2_with fail
                  refine (C3 _).mono ?_
                  rintro e w3 ⟨hb3, rfl⟩
                  have HB3 := Aside0.mk (hb.trans (hb3.mono hb.size))
                  clear hb hb3 C3 m3'
                  have HI3 := Aside0.mk (HI.out.below HB3.out)
                  have p0 := HI3.out.c0
                  have f0 := blk_frozen HI3.out.blk 0
                  have p2 := HI3.out.c2
                  have f2 := blk_frozen HI3.out.blk 2
                  have p5 := HI3.out.c5
                  have f5 := blk_frozen HI3.out.blk 5
                  go_wp2
                  go_ret
                  exact LAST.out _ _ _ HB3.out
        · rw [if_neg (fun h => hy h.2)]
          subst hx
          have k0 : (bs [112]).toList = [112] := toList_bs _
          have k1 : ((bs y).toList == [99, 110, 102]) = false := by rw [toList_bs]; simpa using hy
          generalize bs [112] = Z0 at *
          generalize bs y = Z1 at *
          clear C2 C3 m2 m3 hp1 hp2 hp3 hy
          go_enter Tryz.func32, Tryz.ntmps32
          go_wp2
          go_ret
          exact TWO.out _ (Below.refl _ _)
      · rw [if_neg (fun h => hx h.1)]
        have k0 : ((bs x).toList == [112]) = false := by rw [toList_bs]; simpa using hx
        generalize bs x = Z0 at *
        clear C2 C3 m1 m2 m3 hp1 hp2 hp3 hx
        go_enter Tryz.func32, Tryz.ntmps32
        go_wp2
        go_ret
        exact TWO.out _ (Below.refl _ _)
  · have e : headR r ws = (2, r) := by
      unfold headR
      split
      · exact absurd rfl h4
      · rfl
    rw [e]
    have q4 : (((ws.length : Int)) != 4) = true := by simp; omega
    clear e h4 hy hr hI
    generalize ws.length = wl at *
    go_enter Tryz.func32, Tryz.ntmps32
    go_wp2
    go_ret
    exact ⟨rfl, ⟨Vc, Vo, HI.out⟩, Below.refl _ _, Stands.refl _ _⟩
end Go.Proofs.YtdbdilajjmijaaaGreatDoor
