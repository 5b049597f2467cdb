import Derived.Test.YtdbdilajjmijaaaGreatDoorDnLawNum
namespace Go.Proofs.YtdbdilajjmijaaaGreatDoor
open Go Go.RowKit Go.Proofs.YtdbdilajjmijaaaGreatDoorW.PrintWords Go.Proofs.YtdbdilajjmijaaaGreatDoorW.PrintLast Go.Proofs.YtdbdilajjmijaaaGreatDoorW.PrintMore PDimacsCuts

/-! The law's parser. -/
theorem start_ps {w w1 : World} (hb : Below ((w.alloc (.cells #[.int .i64 0, .slice none 0 0] 29)).alloc (.cells #[.int .i64 0, .slice none 0 0] 29)).heap.size ((w.alloc (.cells #[.int .i64 0, .slice none 0 0] 29)).alloc (.cells #[.int .i64 0, .slice none 0 0] 29)) w1) : PS w w1 w1 (.slice none 0 0) (.slice none 0 0) rdr0 := by
  have h1 := heap_alloc_new w (.cells #[.int .i64 0, .slice none 0 0] 29)
  have h2 := heap_alloc_new (w.alloc (.cells #[.int .i64 0, .slice none 0 0] 29)) (.cells #[.int .i64 0, .slice none 0 0] 29)
  have h3 := (Below.heap_alloc (w.alloc (.cells #[.int .i64 0, .slice none 0 0] 29)) (.cells #[.int .i64 0, .slice none 0 0] 29) w.heap.size (by simp)).trans h1
  have hs : (w.alloc (.cells #[.int .i64 0, .slice none 0 0] 29)).heap.size = w.heap.size + 1 := by simp
  rw [hs] at h2
  have hz : ((w.alloc (.cells #[.int .i64 0, .slice none 0 0] 29)).alloc (.cells #[.int .i64 0, .slice none 0 0] 29)).heap.size = w.heap.size + 2 := by simp
  refine ⟨(hb.block _ (by rw [hz]; omega)).trans h2, (hb.block _ (by rw [hz]; omega)).trans h3, Kd.R_nil _ _ _ _ _, Kd.R_nil _ _ _ _ _, ?_, KeepBut.refl _ _ _, by have := hb.size; rw [hz] at this; exact this⟩
  exact ((((Below.refl _ w).alloc (Nat.le_refl _) _).alloc (by simp) _)).trans (hb.mono (by rw [hz]; omega))

theorem str_keep {w w1 w' : World} {Vc Vo : Value} {r : Rdr} {a : Addr} {s : ByteArray} (h : PS w w1 w' Vc Vo r) (hb : w1.heap[w.heap.size + 1]? = some (.cells #[.int .i64 0, .slice none 0 0] 29 (0, 0))) (hc : w1.cell? a = some (.string s)) : w'.cell? a = some (.string s) := by
  refine keep_cell h.keep hc (fun e => ?_)
  simp only [World.cell?] at hc
  rw [e, hb] at hc
  match ho : a.off, hc with
  | 0, hc => simp at hc
  | 1, hc => simp at hc
  | n + 2, hc => simp at hc
theorem keepH {ad : Addr} {x y : Value} {w w1 w' w8 : World} {Vc Vo : Value} {r : Rdr} (h : w'.cell? ⟨ad.block, ad.off + 2, none⟩ = some x ∧ w'.cell? ⟨ad.block, ad.off + 3, none⟩ = some y ∧ Aside0 (∃ q : Nat, PS w w1 w' Vc Vo { r with vars := q })) (hb : Below w'.heap.size w' w8) :
    w8.cell? ⟨ad.block, ad.off + 2, none⟩ = some x ∧ w8.cell? ⟨ad.block, ad.off + 3, none⟩ = some y ∧ Aside0 (∃ q : Nat, PS w w1 w8 Vc Vo { r with vars := q }) := by
  obtain ⟨q, hq⟩ := h.2.2.out
  exact ⟨(hb.cell (World.block_lt_of_cell? _ _ h.1)).trans h.1, (hb.cell (World.block_lt_of_cell? _ _ h.2.1)).trans h.2.1, ⟨q, hq.step hb⟩⟩
theorem keepV {ad : Addr} {x y : Value} {w w1 w' : World} {Vc Vo : Value} {r : Rdr} (v : Nat) (h : w'.cell? ⟨ad.block, ad.off + 2, none⟩ = some x ∧ w'.cell? ⟨ad.block, ad.off + 3, none⟩ = some y ∧ Aside0 (∃ q : Nat, PS w w1 w' Vc Vo { r with vars := q })) :
    (w'.setCell ⟨w.heap.size + 1, 0, none⟩ (.int .i64 (v : Int))).cell? ⟨ad.block, ad.off + 2, none⟩ = some x ∧ (w'.setCell ⟨w.heap.size + 1, 0, none⟩ (.int .i64 (v : Int))).cell? ⟨ad.block, ad.off + 3, none⟩ = some y ∧ Aside0 (∃ q : Nat, PS w w1 (w'.setCell ⟨w.heap.size + 1, 0, none⟩ (.int .i64 (v : Int))) Vc Vo { r with vars := q }) := by
  obtain ⟨q, hq⟩ := h.2.2.out
  have hne : ad.block ≠ w.heap.size + 1 := by
    intro e
    have h1 := h.1
    rw [e, blk_cell hq.blk (ad.off + 2)] at h1
    simp at h1
  refine ⟨?_, ?_, ⟨v, hq.vars v _ rfl rfl rfl⟩⟩
  · rw [World.cell?_setCell_other _ _ _ _ (fun e => hne (by injection e with e _; exact e.symm))]; exact h.1
  · rw [World.cell?_setCell_other _ _ _ _ (fun e => hne (by injection e with e _; exact e.symm))]; exact h.2.1
theorem varsIs {w w1 W : World} {Vc Vo x : Value} {r : Rdr} {v : Nat} (h : ∃ q : Nat, PS w w1 (W.setCell ⟨w.heap.size + 1, 0, none⟩ (.int .i64 (v : Int))) Vc Vo { r with vars := q }) (hc : W.cell? ⟨w.heap.size + 1, 0, none⟩ = some x) (k : Nat) : PS w w1 (W.setCell ⟨w.heap.size + 1, 0, none⟩ (.int .i64 (v : Int))) Vc Vo { r with vars := v, n := k, head := true } := by
  obtain ⟨q, hq⟩ := h
  have h1 := hq.c0
  rw [World.cell?_setCell_same _ _ _ hc] at h1
  have e : (v : Int) = (q : Int) := by simpa using h1
  have e2 : v = q := by omega
  subst e2
  exact ⟨hq.blk, hq.res, hq.cls, hq.opn, hq.below, hq.keep, hq.sz⟩

set_option maxRecDepth 100000 in
set_option maxHeartbeats 8000000 in
theorem parsed_any (x : List UInt8) (w : World) (hX : x.length ≤ 1048576) (E : Env w) (EA : EnvA w) :
    Calls Tryz.prog 9 #[strV x] w (ParsedSaid w (parseR x)) := by
  have hu := Tryz.underlying29
  have HE := Aside0.mk (And.intro E EA)
  have C1 := lines_law x ((w.alloc (.cells #[.int .i64 0, .slice none 0 0] 29)).alloc (.cells #[.int .i64 0, .slice none 0 0] 29)) hX
  obtain ⟨G, hG⟩ : ∃ G, parseR x = G := ⟨_, rfl⟩
  rw [hG]
  unfold parseR at hG
  rw [linesR_W, show (cutC 10 x).length = ((cutC 10 x).map wordsB).length by simp] at hG
  have HG := Aside0.mk hG
  have hxs : strV x = .string (bs x) := rfl
  rw [hxs] at C1 ⊢
  have hcl := cut_len 10 x
  have hls : ((cutC 10 x).map wordsB).length ≤ 1048577 := by rw [List.length_map]; have := hcl.1; omega
  have HLS : Aside0 (∀ ws ∈ (cutC 10 x).map wordsB, (∀ y ∈ ws, y ≠ [] ∧ y.length ≤ 1048577) ∧ ws.length ≤ 1048577) := ⟨fun ws hws => by
    obtain ⟨y, hy, rfl⟩ := List.mem_map.1 hws
    have h1 := hcl.2 y hy
    have h2 := words_len y
    exact ⟨fun z hz => ⟨(h2.1 z hz).1, by have := (h2.1 z hz).2; omega⟩, by have := h2.2; omega⟩⟩
  clear hG E EA hxs hX hcl
  generalize bs x = X at *
  generalize (cutC 10 x).map wordsB = ls at *
  go_enter Tryz.func9, Tryz.ntmps9
  go_wp2_with fail
  refine C1.mono ?_
  rintro e w1 ⟨hb, V, rfl, hS⟩
  have hps := start_ps hb
  have HPS := Aside0.mk hps
  have HB0 := Aside0.mk hps.blk
  have hR := Kd.S_R hS
  obtain ⟨A, c, rfl⟩ := Kd.R_slice hR
  have HR := Aside0.mk hR
  rw [show (mb ls).length = ls.length by simp [mb]] at HR ⊢
  clear hb hps hR hS C1
  obtain ⟨LR, hLR⟩ : ∃ LR, linesW 0 rdr0 ls = LR := ⟨_, rfl⟩
  rw [hLR] at HG
  have HLR := Aside0.mk (show linesW 0 rdr0 (ls.drop 0) = LR from hLR)
  clear hLR
  have hc0 : clI rdr0 = -1 := rfl
  go_wp2_with fail
  go_loopg [20, 6, 7, 8] ls.length (fun gk v20 v6 v7 v8 w' => ∃ (i : Nat) (r : Rdr) (Vc : Value), v20 = .int .i64 (i : Int) ∧ i + gk = ls.length ∧ v6 = .int .i64 (clI r) ∧ v7 = .int .i64 (r.lits : Int) ∧ Aside0 (linesW i r (ls.drop i) = LR) ∧ Aside0 r.Good ∧ Aside0 (PS w w1 w' Vc v8 r))
  case atStart => exact ⟨0, rdr0, .slice none 0 0, rfl, by omega, by rw [hc0], rfl, HLR, ⟨good0⟩, HPS⟩
  case round =>
    clear HLR HPS hc0
    obtain ⟨i, r, Vc, rfl, hi, rfl, rfl, HLR, HGD, HPS⟩ := hrel
    obtain ⟨A8, k8, rfl⟩ := Kd.R_slice HPS.out.opn
    by_cases hil : i < ls.length
    · have hRk := ln_keep HPS.out HB0.out HR.out
      obtain ⟨g, c', e1, -, -, -⟩ := Kd.R_form hRk (by simp [mb]; omega)
      simp only [Value.slice.injEq] at e1
      obtain ⟨rfl, -, rfl⟩ := e1
      obtain ⟨-, -, hC⟩ := Kd.R_reads' hRk
      rw [show (mb ls).length = ls.length by simp [mb]] at hC
      obtain ⟨ad, A1, c1, e1, m1, hl1, hC1⟩ := at_line hC i hil
      cases e1
      rw [add_off] at m1
      have HW := Aside0.mk (HLS.out _ (nth_mem hil []))
      have hq := HLR.out
      rw [drop_nth hil []] at hq
      simp only [linesW] at hq
      have HQ := Aside0.mk hq
      have HCW := Aside0.mk hC1
      have q1 : ((i : Int) < (ls.length : Int)) = True := eq_true (by omega)
      obtain ⟨-, -, hCw⟩ := Kd.R_reads' HR.out
      rw [show (mb ls).length = ls.length by simp [mb]] at hCw
      obtain ⟨adx, Ax, cx, ex, mx, -, hCx⟩ := at_line hCw i hil
      cases ex
      rw [add_off] at mx
      have hgb : g ≠ w.heap.size + 1 := by
        obtain ⟨inner, ho⟩ := Kd.R_own HR.out
        obtain ⟨cells, hcc⟩ := own_typed ho g rfl
        exact blk_ne hcc HB0.out (by decide)
      have mx2 := keep_cell HPS.out.keep mx hgb
      rw [m1] at mx2
      have hAx : A1 = Ax := by injection mx2 with h; injection h
      subst hAx
      have HCX := Aside0.mk hCx
      clear hRk hC hC1 hq HLR hCw mx mx2 hCx hgb
      generalize nth ls [] i = ws at *
      cases ws with
      | nil =>
        have HQ2 := Aside0.mk (show linesW (i + 1) r (ls.drop (i + 1)) = LR by rw [← HQ.out]; simp [lineW])
        clear HQ HW HCW
        go_wp2
        go_roundg (ls.length - (i + 1))
        case measure => omega
        case rel => exact ⟨i + 1, r, Vc, by go_num, by omega, rfl, rfl, HQ2, HGD, HPS⟩
      | cons y ys =>
        obtain ⟨ad, e1, m2⟩ := at_word HCW.out 0 (by simp)
        subst e1
        have m2 : wr.cell? ad = some (.string (bs y)) := m2
        have hyne := (HW.out.1 y (by simp)).1
        have hsz0 : 0 < (bs y).size := List.length_pos_iff.2 hyne
        have hfirst : y[0]? = some ((bs y)[0]'hsz0) := by
          have : 0 < y.length := hsz0
          rw [List.getElem?_eq_getElem this]; rfl
        have qlen : (((y :: ys).length : Int) == 0) = false := by simp; omega
        have qn0 : 0 < (y :: ys).length := by simp
        by_cases h99 : y[0]? = some 99
        · have hb : ((((bs y)[0]'hsz0).toNat : Int) == 99) = true := by
            rw [hfirst] at h99
            injection h99 with h99
            rw [h99]; rfl
          have hq := HQ.out
          rw [show lineW r (y :: ys) = (0, r) by simp only [lineW]; rw [if_pos h99], if_pos rfl] at hq
          have HQ2 := Aside0.mk hq
          clear hq
          clear HQ HW HCW hfirst h99 hyne
          generalize bs y = Y at *
          generalize (y :: ys).length = n at *
          go_wp2
          go_roundg (ls.length - (i + 1))
          case measure => omega
          case rel => exact ⟨i + 1, r, Vc, by go_num, by omega, rfl, rfl, HQ2, HGD, HPS⟩
        · have hb : ((((bs y)[0]'hsz0).toNat : Int) == 99) = false := by
            rw [hfirst] at h99
            have : ¬ ((bs y)[0]'hsz0) = 99 := fun h => h99 (by rw [h])
            simp only [beq_eq_false_iff_ne, ne_eq]
            intro h
            exact this (UInt8.toNat_inj.1 (by rw [show (99 : UInt8).toNat = 99 from rfl]; omega))
          cases hh : r.head with
          | false =>
            have hcl : clI r = -1 := by unfold clI; rw [hh]; rfl
            rw [hcl]
            have hq := HQ.out
            rw [show lineW r (y :: ys) = headR r (y :: ys) by simp only [lineW]; rw [if_neg h99, if_neg (by simp [hh])]] at hq
            have HQ2 := Aside0.mk hq
            clear hq HQ
            by_cases h4 : (y :: ys).length = 4
            · obtain ⟨b, z, t, rfl⟩ : ∃ b z t, ys = [b, z, t] := by
                match ys, h4 with
                | [b, z, t], _ => exact ⟨b, z, t, rfl⟩
              obtain ⟨ad', e1, m3⟩ := at_word HCW.out 1 (by simp)
              cases e1
              obtain ⟨ad', e1, m4⟩ := at_word HCW.out 2 (by simp)
              cases e1
              obtain ⟨ad', e1, m5⟩ := at_word HCW.out 3 (by simp)
              cases e1
              have m3 : wr.cell? ⟨ad.block, ad.off + 1, none⟩ = some (.string (bs b)) := m3
              have m4 : wr.cell? ⟨ad.block, ad.off + 2, none⟩ = some (.string (bs z)) := m4
              have m5 : wr.cell? ⟨ad.block, ad.off + 3, none⟩ = some (.string (bs t)) := m5
              have hzl := (HW.out.1 z (by simp)).2
              have htl := (HW.out.1 t (by simp)).2
              have hlt := World.block_lt_of_cell? wr _ m4
              dsimp only at hlt
              have hd : headR r [y, b, z, t] = if y = [112] ∧ b = [99, 110, 102] then
                  match numW z, numW t with
                  | some v, some n => if 100000 < v ∨ 200000 < n then (8, r) else (0, { r with vars := v, n := n, head := true })
                  | _, _ => (2, r)
                else (2, r) := rfl
              have HD := Aside0.mk hd
              have CZ := fun W (e : Env W ∧ EnvA W) => lawnum_any z W (by omega) e.1 e.2
              have CT := fun W (e : Env W ∧ EnvA W) => lawnum_any t W (by omega) e.1 e.2
              have hz1 : strV z = .string (bs z) := rfl
              have ht1 : strV t = .string (bs t) := rfl
              rw [hz1] at CZ
              rw [ht1] at CT
              have HCZ := Aside0.mk CZ
              have HCT := Aside0.mk CT
              have HNZ : Aside0 (numI z = match numW z with | some n => (n : Int) | none => -1) := ⟨rfl⟩
              have HNT : Aside0 (numI t = match numW t with | some n => (n : Int) | none => -1) := ⟨rfl⟩
              have HEB := Aside0.mk (And.intro (HE.out.1.below HPS.out.below) (HE.out.2.below HPS.out.below))
              have s0 := HPS.out.r0
              have s1 := HPS.out.r1
              have t0 := blk_frozen HPS.out.res 0
              have t1 := blk_frozen HPS.out.res 1
              clear hd hz1 ht1 CZ CT HCW h4 hyne hfirst HW
              have m1 : wr.cell? ⟨g, i, none⟩ = some (.slice (some ad) 4 c1) := m1
              have hl1 : 4 ≤ c1 := hl1
              clear qlen qn0
              by_cases hx : y = [112]
              · subst hx
                have k0 : (bs [112]).toList = [112] := toList_bs _
                generalize bs [112] = Z0 at *
                by_cases hy : b = [99, 110, 102]
                · subst hy
                  have k1 : (bs [99, 110, 102]).toList = [99, 110, 102] := toList_bs _
                  have HD2 := HD.out
                  rw [if_pos ⟨rfl, rfl⟩] at HD2
                  have HD := Aside0.mk HD2
                  clear HD2
                  generalize bs [99, 110, 102] = Z1 at *
                  generalize bs z = Z at *
                  generalize bs t = T at *
                  cases hz : numW z with
                  | none =>
                    rw [hz] at HNZ
                    have hv := HD.out
                    rw [hz] at hv
                    have hv : headR r [[112], [99, 110, 102], z, t] = (2, r) := hv
                    have hI : numI z = -1 := HNZ.out
                    rw [hI] at HCZ
                    clear hI HNZ HNT HCT HD
                    have hq : LR = .inl (i + 1, 2) := by rw [← HQ2.out, hv]; rfl
                    subst hq
                    have hG : G = .inl (i + 1, 2) := HG.out.symm
                    subst hG
                    clear HQ2 HG hv
                    clear hz
                    go_wp2_with (go_at_call 19; refine (HCZ.out _ HEB.out).mono ?_)
                    rintro e w3 ⟨rfl, hb⟩
                    have HP3 := Aside0.mk (HPS.out.step hb)
                    clear s0 s1 t0 t1 hb
                    have s0 := HP3.out.r0
                    have s1 := HP3.out.r1
                    have t0 := blk_frozen HP3.out.res 0
                    have t1 := blk_frozen HP3.out.res 1
                    go_wp2
                    exact bodyPost_ret (v := .tuple #[.agg #[.int .i64 0, .slice none 0 0], .int .i64 ((i : Int) + 1), .int .i64 2]) (by simp [results, Tryz.results9, go_sem, *]) rfl ⟨((HP3.out.below).setCell (p := ⟨w.heap.size, 0, none⟩) (Nat.le_refl _) _).setCell (p := ⟨w.heap.size, 1, none⟩) (Nat.le_refl _) _, rfl⟩
                  | some v =>
                    rw [hz] at HNZ
                    have hI : numI z = (v : Int) := HNZ.out
                    rw [hI] at HCZ
                    have hv9 := numW_lt hz
                    have qv0 : ((v : Int) < 0) = False := eq_false (by omega)
                    clear hI HNZ
                    cases ht : numW t with
                    | none =>
                      rw [ht] at HNT
                      have hJ : numI t = -1 := HNT.out
                      rw [hJ] at HCT
                      have hv := HD.out
                      rw [hz, ht] at hv
                      have hv : headR r [[112], [99, 110, 102], z, t] = (2, r) := hv
                      clear hJ HNT HD
                      have hq : LR = .inl (i + 1, 2) := by rw [← HQ2.out, hv]; rfl
                      subst hq
                      have hG : G = .inl (i + 1, 2) := HG.out.symm
                      subst hG
                      clear HQ2 HG hv
                      clear hz ht
                      go_wp2_with fail
                      refine (HCZ.out _ HEB.out).mono ?_
                      rintro e w3 ⟨rfl, hb⟩
                      have HP3 := Aside0.mk (HPS.out.step hb)
                      have HE3 := Aside0.mk (And.intro (HEB.out.1.below hb) (HEB.out.2.below hb))
                      have m4 : w3.cell? ⟨ad.block, ad.off + 2, none⟩ = _ := (hb.cell (p := ⟨ad.block, ad.off + 2, none⟩) hlt).trans m4
                      have m5 : w3.cell? ⟨ad.block, ad.off + 3, none⟩ = _ := (hb.cell (p := ⟨ad.block, ad.off + 3, none⟩) hlt).trans m5
                      clear s0 s1 t0 t1 hb
                      go_wp2_with fail
                      refine (HCT.out _ HE3.out).mono ?_
                      rintro e w4 ⟨rfl, hb⟩
                      have HP4 := Aside0.mk (HP3.out.step hb)
                      clear hb
                      have s0 := HP4.out.r0
                      have s1 := HP4.out.r1
                      have t0 := blk_frozen HP4.out.res 0
                      have t1 := blk_frozen HP4.out.res 1
                      go_wp2
                      exact bodyPost_ret (v := .tuple #[.agg #[.int .i64 0, .slice none 0 0], .int .i64 ((i : Int) + 1), .int .i64 2]) (by simp [results, Tryz.results9, go_sem, *]) rfl ⟨((HP4.out.below).setCell (p := ⟨w.heap.size, 0, none⟩) (Nat.le_refl _) _).setCell (p := ⟨w.heap.size, 1, none⟩) (Nat.le_refl _) _, rfl⟩
                    | some k =>
                      rw [ht] at HNT
                      have hJ : numI t = (k : Int) := HNT.out
                      rw [hJ] at HCT
                      have hk9 := numW_lt ht
                      have qk0 : ((k : Int) < 0) = False := eq_false (by omega)
                      have hv := HD.out
                      rw [hz, ht] at hv
                      have hv : headR r [[112], [99, 110, 102], z, t] = if 100000 < v ∨ 200000 < k then (8, r) else (0, { r with vars := v, n := k, head := true }) := hv
                      have HV := Aside0.mk hv
                      clear hJ HNT HD hv hz ht
                      go_wp2_with fail
                      refine (HCZ.out _ HEB.out).mono ?_
                      rintro e w3 ⟨rfl, hb⟩
                      have HP3 := Aside0.mk (HPS.out.step hb)
                      have HE3 := Aside0.mk (And.intro (HEB.out.1.below hb) (HEB.out.2.below hb))
                      have m4 : w3.cell? ⟨ad.block, ad.off + 2, none⟩ = _ := (hb.cell (p := ⟨ad.block, ad.off + 2, none⟩) hlt).trans m4
                      have m5 : w3.cell? ⟨ad.block, ad.off + 3, none⟩ = _ := (hb.cell (p := ⟨ad.block, ad.off + 3, none⟩) hlt).trans m5
                      have hlt3 := World.block_lt_of_cell? w3 _ m4
                      dsimp only at hlt3
                      clear s0 s1 t0 t1 hb
                      go_wp2_with fail
                      refine (HCT.out _ HE3.out).mono ?_
                      rintro e w4 ⟨rfl, hb⟩
                      have HP4 := Aside0.mk (HP3.out.step hb)
                      have HE4 := Aside0.mk (And.intro (HE3.out.1.below hb) (HE3.out.2.below hb))
                      have m4 : w4.cell? ⟨ad.block, ad.off + 2, none⟩ = _ := (hb.cell (p := ⟨ad.block, ad.off + 2, none⟩) hlt3).trans m4
                      have m5 : w4.cell? ⟨ad.block, ad.off + 3, none⟩ = _ := (hb.cell (p := ⟨ad.block, ad.off + 3, none⟩) hlt3).trans m5
                      have HS4 : Aside0 (w4.cell? ⟨ad.block, ad.off + 2, none⟩ = some (.string Z) ∧ w4.cell? ⟨ad.block, ad.off + 3, none⟩ = some (.string T) ∧ Aside0 (∃ q : Nat, PS w w1 w4 Vc (.slice A8 r.opn.length k8) { r with vars := q })) := ⟨m4, m5, ⟨r.vars, HP4.out⟩⟩
                      have T1 : ∀ W, (W.cell? ⟨ad.block, ad.off + 2, none⟩ = some (.string Z) ∧ W.cell? ⟨ad.block, ad.off + 3, none⟩ = some (.string T) ∧ Aside0 (∃ q : Nat, PS w w1 W Vc (.slice A8 r.opn.length k8) { r with vars := q })) → Calls Tryz.prog 19 #[.string Z] W (Said W (.int .i64 (v : Int))) := fun W e => HCZ.out W (by obtain ⟨q, hq⟩ := e.2.2.out; exact ⟨HE.out.1.below hq.below, HE.out.2.below hq.below⟩)
                      have T2 : ∀ W, (W.cell? ⟨ad.block, ad.off + 2, none⟩ = some (.string Z) ∧ W.cell? ⟨ad.block, ad.off + 3, none⟩ = some (.string T) ∧ Aside0 (∃ q : Nat, PS w w1 W Vc (.slice A8 r.opn.length k8) { r with vars := q })) → Calls Tryz.prog 19 #[.string T] W (Said W (.int .i64 (k : Int))) := fun W e => HCT.out W (by obtain ⟨q, hq⟩ := e.2.2.out; exact ⟨HE.out.1.below hq.below, HE.out.2.below hq.below⟩)
                      clear hb
                      go_upto_region 12 with (fail)
                      go_cut [6] (fun s6 wx => s6 = .int .i64 (k : Int) ∧ Aside0 (PS w w1 wx Vc (.slice A8 r.opn.length k8) { r with vars := v, n := k, head := true }))
                      case first =>
                        go_region_held (fun w' => w'.cell? ⟨ad.block, ad.off + 2, none⟩ = some (.string Z) ∧ w'.cell? ⟨ad.block, ad.off + 3, none⟩ = some (.string T) ∧ Aside0 (∃ q : Nat, PS w w1 w' Vc (.slice A8 r.opn.length k8) { r with vars := q }))
                          (first | assumption | exact keepH HS4.out (pw_below_drewN (Below.refl _ _) 1) | exact keepH (by assumption) hb | exact keepV _ (by assumption))
                          (first | (go_at_call 19; (first | with_reducible refine (T1 _ (by assumption)).mono ?_ | with_reducible refine (T2 _ (by assumption)).mono ?_); rintro e w8 ⟨rfl, hb⟩; obtain ⟨q8, hq8⟩ := (keepH (by assumption) hb).2.2.out; have c8 := hq8.c0; have f8 := blk_frozen hq8.blk 0; have HQ8 := Aside0.mk hq8; clear hq8))
                        all_goals
                          rename_i hH
                          go_wp2_with fail
                          go_meet
                          case rel => exact ⟨rfl, ⟨varsIs hH.2.2.out c8 k⟩⟩
                      case rest =>
                        obtain ⟨rfl, HP5⟩ := hcut
                        have p0 : wc.cell? ⟨w.heap.size + 1, 0, none⟩ = some (.int .i64 (v : Int)) := HP5.out.c0
                        have s0 := HP5.out.r0
                        have s1 := HP5.out.r1
                        have t0 := blk_frozen HP5.out.res 0
                        have t1 := blk_frozen HP5.out.res 1
                        clear HS4 T1 T2 HCZ HCT m4 m5
                        by_cases hbig : 100000 < v ∨ 200000 < k
                        · have hv := HV.out
                          rw [if_pos hbig] at hv
                          have hq : LR = .inl (i + 1, 8) := by rw [← HQ2.out, hv]; rfl
                          subst hq
                          have hG : G = .inl (i + 1, 8) := HG.out.symm
                          subst hG
                          clear HQ2 HG hv
                          by_cases hv1 : 100000 < v
                          · have q5 : (100000 < (v : Int)) = True := eq_true (by omega)
                            clear HV
                            go_wp2
                            exact bodyPost_ret (v := .tuple #[.agg #[.int .i64 0, .slice none 0 0], .int .i64 ((i : Int) + 1), .int .i64 8]) (by simp [results, Tryz.results9, go_sem, *]) rfl ⟨((HP5.out.below).setCell (p := ⟨w.heap.size, 0, none⟩) (Nat.le_refl _) _).setCell (p := ⟨w.heap.size, 1, none⟩) (Nat.le_refl _) _, rfl⟩
                          · have q5 : (100000 < (v : Int)) = False := eq_false (by omega)
                            have q6 : (200000 < (k : Int)) = True := eq_true (by omega)
                            clear HV
                            go_wp2
                            exact bodyPost_ret (v := .tuple #[.agg #[.int .i64 0, .slice none 0 0], .int .i64 ((i : Int) + 1), .int .i64 8]) (by simp [results, Tryz.results9, go_sem, *]) rfl ⟨((HP5.out.below).setCell (p := ⟨w.heap.size, 0, none⟩) (Nat.le_refl _) _).setCell (p := ⟨w.heap.size, 1, none⟩) (Nat.le_refl _) _, rfl⟩
                        · have q5 : (100000 < (v : Int)) = False := eq_false (by omega)
                          have q6 : (200000 < (k : Int)) = False := eq_false (by omega)
                          have hv := HV.out
                          rw [if_neg hbig] at hv
                          have hgd := head_good (ws := [[112], [99, 110, 102], z, t]) HGD.out hh (by rw [hv])
                          rw [hv] at hgd
                          have hq : linesW (i + 1) { r with vars := v, n := k, head := true } (ls.drop (i + 1)) = LR := by rw [← HQ2.out, hv]; rfl
                          have HQ3 := Aside0.mk hq
                          have HGD2 := Aside0.mk hgd
                          clear HV HQ2 hv hgd hq hbig
                          go_wp2
                          go_roundg (ls.length - (i + 1))
                          case measure => omega
                          case rel => exact ⟨i + 1, { r with vars := v, n := k, head := true }, Vc, by go_num, by omega, rfl, rfl, HQ3, HGD2, HP5⟩
                · have k1 : ((bs b).toList == [99, 110, 102]) = false := by rw [toList_bs]; simpa using hy
                  have hv := HD.out
                  rw [if_neg (fun h => hy h.2)] at hv
                  generalize bs b = Z1 at *
                  have hq : LR = .inl (i + 1, 2) := by rw [← HQ2.out, hv]; rfl
                  subst hq
                  have hG : G = .inl (i + 1, 2) := HG.out.symm
                  subst hG
                  clear HQ2 HG hv
                  clear HCZ HCT HNZ HNT HD hy
                  go_wp2
                  exact bodyPost_ret (v := .tuple #[.agg #[.int .i64 0, .slice none 0 0], .int .i64 ((i : Int) + 1), .int .i64 2]) (by simp [results, Tryz.results9, go_sem, *]) rfl ⟨((HPS.out.below).setCell (p := ⟨w.heap.size, 0, none⟩) (Nat.le_refl _) _).setCell (p := ⟨w.heap.size, 1, none⟩) (Nat.le_refl _) _, rfl⟩
              · have k0 : ((bs y).toList == [112]) = false := by rw [toList_bs]; simpa using hx
                have hv := HD.out
                rw [if_neg (fun h => hx h.1)] at hv
                generalize bs y = Z0 at *
                have hq : LR = .inl (i + 1, 2) := by rw [← HQ2.out, hv]; rfl
                subst hq
                have hG : G = .inl (i + 1, 2) := HG.out.symm
                subst hG
                clear HQ2 HG hv
                clear HCZ HCT HNZ HNT HD hx
                go_wp2
                exact bodyPost_ret (v := .tuple #[.agg #[.int .i64 0, .slice none 0 0], .int .i64 ((i : Int) + 1), .int .i64 2]) (by simp [results, Tryz.results9, go_sem, *]) rfl ⟨((HPS.out.below).setCell (p := ⟨w.heap.size, 0, none⟩) (Nat.le_refl _) _).setCell (p := ⟨w.heap.size, 1, none⟩) (Nat.le_refl _) _, rfl⟩
            · have hv : headR r (y :: ys) = (2, r) := by
                unfold headR
                split
                · rename_i h; rw [h] at h4; exact absurd rfl h4
                · rfl
              have q4 : (((y :: ys).length : Int) != 4) = true := by simp at h4 ⊢; omega
              have hq : LR = .inl (i + 1, 2) := by rw [← HQ2.out, hv]; rfl
              subst hq
              have hG : G = .inl (i + 1, 2) := HG.out.symm
              subst hG
              clear HQ2 HG hv
              have s0 := HPS.out.r0
              have s1 := HPS.out.r1
              have t0 := blk_frozen HPS.out.res 0
              have t1 := blk_frozen HPS.out.res 1
              clear h4 HW HCW hyne hfirst
              generalize bs y = Y at *
              generalize (y :: ys).length = n at *
              go_wp2
              exact bodyPost_ret (v := .tuple #[.agg #[.int .i64 0, .slice none 0 0], .int .i64 ((i : Int) + 1), .int .i64 2]) (by simp [results, Tryz.results9, go_sem, *]) rfl ⟨((HPS.out.below).setCell (p := ⟨w.heap.size, 0, none⟩) (Nat.le_refl _) _).setCell (p := ⟨w.heap.size, 1, none⟩) (Nat.le_refl _) _, rfl⟩
          | true =>
            have hq := HQ.out
            rw [show lineW r (y :: ys) = wordsR r (y :: ys) by simp only [lineW]; rw [if_neg h99, if_pos hh]] at hq
            have hcl : clI r = (r.n : Int) := by unfold clI; rw [hh]; rfl
            rw [hcl]
            have HWL := HW
            have hwlen := HW.out.2
            have HWS0 : Aside0 (∃ RR, RR = wordsR r (y :: ys)) := ⟨_, rfl⟩
            obtain ⟨RR, hRR⟩ := HWS0.out
            rw [← hRR] at hq
            have HQ2 := Aside0.mk hq
            have HWS := Aside0.mk (show wordsR r ((y :: ys).drop 0) = RR from hRR.symm)
            have HH := Aside0.mk (And.intro hh (And.intro (show r.n = r.n from rfl) (show r.vars = r.vars from rfl)))
            have qnn : ((r.n : Int) < 0) = False := eq_false (by omega)
            have HKEEP := Aside0.mk hcl
            clear hq HQ hRR HWS0 hfirst hyne h99 hh hcl HCW HW
            generalize hY : bs y = Y at *
            clear hY
            generalize (y :: ys) = ws at *
            have hwlen2 : ws.length ≤ 1048577 := hwlen
            go_wp2
            clear m1 m2 hb qlen qn0
            go_loopg [90, 7, 8] ws.length (fun gk v90 v7 v8 w' => ∃ (k : Nat) (r' : Rdr) (Vc : Value), v90 = .int .i64 (k : Int) ∧ k + gk = ws.length ∧ v7 = .int .i64 (r'.lits : Int) ∧ Aside0 (wordsR r' (ws.drop k) = RR) ∧ Aside0 r'.Good ∧ Aside0 (r'.head = true ∧ r'.n = r.n ∧ r'.vars = r.vars) ∧ Aside0 (PS w w1 w' Vc v8 r'))
            case atStart => exact ⟨0, r, Vc, rfl, by omega, rfl, HWS, HGD, ⟨⟨HH.out.1, rfl, rfl⟩⟩, HPS⟩
            case round =>
              clear HWS HGD HH HPS
              obtain ⟨k, r', Vc, rfl, hk, rfl, HWS, HGD, HH, HPS⟩ := hrel
              obtain ⟨A8, k8, rfl⟩ := Kd.R_slice HPS.out.opn
              obtain ⟨A7, k7, rfl⟩ := Kd.R_slice HPS.out.cls
              by_cases hkl : k < ws.length
              · obtain ⟨ad', e1, mxw⟩ := at_word HCX.out k hkl
                cases e1
                have mk := str_keep HPS.out HB0.out mxw
                have hxx := HWL.out.1 _ (nth_mem hkl [])
                have hq := HWS.out
                rw [drop_nth hkl []] at hq
                simp only [wordsR] at hq
                have HWS := Aside0.mk hq
                have q1 : ((k : Int) < (ws.length : Int)) = True := eq_true (by omega)
                clear mxw hq
                generalize nth ws [] k = x at *
                obtain ⟨hxne, hxl⟩ := hxx
                have hfw := HGD.out.few
                have hop := HGD.out.opn
                have hli := HGD.out.lits
                have hnn := HGD.out.n
                have p0 := HPS.out.c0
                have p1 := HPS.out.c1
                have hsz0 : 0 < (bs x).size := List.length_pos_iff.2 hxne
                have hfirst : x[0]? = some ((bs x)[0]'hsz0) := by
                  have : 0 < x.length := hsz0
                  rw [List.getElem?_eq_getElem this]; rfl
                have hn' := HH.out.2.1
                have hWG := Aside0.mk (fun h0 => word_good (w := x) HGD.out HH.out.1 h0)
                by_cases hneg : x[0]? = some 45
                · have hb45 : ((((bs x)[0]'hsz0).toNat : Int) == 45) = true := by
                    rw [hfirst] at hneg
                    injection hneg with hneg
                    rw [hneg]; rfl
                  have hpre : Lib.hasPrefix x [45] = true := by
                    cases x with
                    | nil => exact absurd rfl hxne
                    | cons c0 r0 =>
                      simp only [List.getElem?_cons_zero, Option.some.injEq] at hneg
                      subst hneg
                      simp [Lib.hasPrefix, List.isPrefixOf]
                  have hlit := litW_neg hpre
                  have hext : (bs x).extract 1 (bs x).size = bs (x.drop 1) := by
                    apply ByteArray.ext
                    apply Array.ext'
                    rw [ByteArray.data_extract, Array.toList_extract]
                    show List.extract x 1 x.length = x.drop 1
                    rw [List.extract_eq_take_drop, List.take_of_length_le (by simp)]
                  have CN := fun W (e : Env W ∧ EnvA W) => lawnum_any (x.drop 1) W (by simp; omega) e.1 e.2
                  have hz1 : strV (x.drop 1) = .string (bs (x.drop 1)) := rfl
                  rw [hz1] at CN
                  have HNZ : Aside0 (numI (x.drop 1) = match numW (x.drop 1) with | some n => (n : Int) | none => -1) := ⟨rfl⟩
                  clear hz1 hpre
                  have HCN := Aside0.mk CN
                  have HEB := Aside0.mk (And.intro (HE.out.1.below HPS.out.below) (HE.out.2.below HPS.out.below))
                  have HLIT := Aside0.mk hlit
                  clear CN hlit hneg hfirst hxne
                  cases hz : numW (x.drop 1) with
                  | none =>
                    rw [hz] at HNZ
                    have hI : numI (x.drop 1) = -1 := HNZ.out
                    rw [hI] at HCN
                    have hv : wordR r' x = (3, r') := by unfold wordR; rw [HLIT.out, hz]; rfl
                    clear hI HNZ HLIT hz
                    have hRR : RR = (3, r') := by rw [← HWS.out, hv]; rfl
                    subst hRR
                    have hq : LR = .inl (i + 1, 3) := by rw [← HQ2.out]; rfl
                    subst hq
                    have hG : G = .inl (i + 1, 3) := HG.out.symm
                    subst hG
                    clear HQ2 HG HWS hv
                    generalize bs (x.drop 1) = X1 at *
                    generalize bs x = X0 at *
                    go_wp2_with (go_at_call 19; refine (HCN.out _ HEB.out).mono ?_)
                    rintro e w3 ⟨rfl, hb⟩
                    have HP3 := Aside0.mk (HPS.out.step hb)
                    clear p0 p1 mk hb HPS HCN
                    have p0 := HP3.out.c0
                    have p1 := HP3.out.c1
                    have s0 := HP3.out.r0
                    have s1 := HP3.out.r1
                    have t0 := blk_frozen HP3.out.res 0
                    have t1 := blk_frozen HP3.out.res 1
                    go_wp2
                    exact bodyPost_ret (v := .tuple #[.agg #[.int .i64 0, .slice none 0 0], .int .i64 ((i : Int) + 1), .int .i64 3]) (by simp [results, Tryz.results9, go_sem, *]) rfl ⟨((HP3.out.below).setCell (p := ⟨w.heap.size, 0, none⟩) (Nat.le_refl _) _).setCell (p := ⟨w.heap.size, 1, none⟩) (Nat.le_refl _) _, rfl⟩
                  | some m =>
                    rw [hz] at HNZ
                    have hI : numI (x.drop 1) = (m : Int) := HNZ.out
                    rw [hI] at HCN
                    have hm9 := numW_lt hz
                    have qm0 : ((m : Int) < 0) = False := eq_false (by omega)
                    clear hI HNZ
                    by_cases hm0 : m = 0
                    · have hv : wordR r' x = (3, r') := by unfold wordR; rw [HLIT.out, hz]; simp [hm0]
                      subst hm0
                      clear HLIT hz
                      have hRR : RR = (3, r') := by rw [← HWS.out, hv]; rfl
                      subst hRR
                      have hq : LR = .inl (i + 1, 3) := by rw [← HQ2.out]; rfl
                      subst hq
                      have hG : G = .inl (i + 1, 3) := HG.out.symm
                      subst hG
                      clear HQ2 HG HWS hv
                      generalize bs (x.drop 1) = X1 at *
                      generalize bs x = X0 at *
                      go_wp2_with (go_at_call 19; refine (HCN.out _ HEB.out).mono ?_)
                      rintro e w3 ⟨rfl, hb⟩
                      have HP3 := Aside0.mk (HPS.out.step hb)
                      clear p0 p1 mk hb HPS HCN
                      have p0 := HP3.out.c0
                      have p1 := HP3.out.c1
                      have s0 := HP3.out.r0
                      have s1 := HP3.out.r1
                      have t0 := blk_frozen HP3.out.res 0
                      have t1 := blk_frozen HP3.out.res 1
                      go_wp2
                      exact bodyPost_ret (v := .tuple #[.agg #[.int .i64 0, .slice none 0 0], .int .i64 ((i : Int) + 1), .int .i64 3]) (by simp [results, Tryz.results9, go_sem, *]) rfl ⟨((HP3.out.below).setCell (p := ⟨w.heap.size, 0, none⟩) (Nat.le_refl _) _).setCell (p := ⟨w.heap.size, 1, none⟩) (Nat.le_refl _) _, rfl⟩
                    · have hl : litW x = some (-(m : Int)) := by rw [HLIT.out, hz, Option.bind_some, if_neg hm0]
                      have qm : ((m : Int) == 0) = false := by simp; omega
                      have hwv : wordR r' x = if r'.cls.length = r'.n then (5, r') else if (r'.vars : Int) < max (-(m : Int)) (-(-(m : Int))) then (4, r') else
                        if (-(m : Int)) = 0 then (0, { r' with cls := r'.cls ++ [r'.opn], opn := [] }) else
                        if 1000000 < r'.lits + 1 then (8, { r' with lits := r'.lits + 1 }) else (0, { r' with lits := r'.lits + 1, opn := r'.opn ++ [-(m : Int)] }) := by unfold wordR; rw [hl]
                      have HWV := Aside0.mk hwv
                      clear hwv hl HLIT hz
                      generalize bs (x.drop 1) = X1 at *
                      generalize bs x = X0 at *
                      by_cases h5 : r'.cls.length = r'.n
                      · have hv : wordR r' x = (5, r') := by rw [HWV.out, if_pos h5]
                        have hRR : RR = (5, r') := by rw [← HWS.out, hv]; rfl
                        subst hRR
                        have hq : LR = .inl (i + 1, 5) := by rw [← HQ2.out]; rfl
                        subst hq
                        have hG : G = .inl (i + 1, 5) := HG.out.symm
                        subst hG
                        clear HQ2 HG HWS hv
                        have q5 : ((r'.cls.length : Int) == (r.n : Int)) = true := by simp; omega
                        have q5' : (r'.cls.length == r.n) = true := by simp; omega
                        clear HWV h5 hWG
                        go_wp2_with (go_at_call 19; refine (HCN.out _ HEB.out).mono ?_)
                        rintro e w3 ⟨rfl, hb⟩
                        have HP3 := Aside0.mk (HPS.out.step hb)
                        clear p0 p1 mk hb HPS HCN
                        have p0 := HP3.out.c0
                        have p1 := HP3.out.c1
                        have s0 := HP3.out.r0
                        have s1 := HP3.out.r1
                        have t0 := blk_frozen HP3.out.res 0
                        have t1 := blk_frozen HP3.out.res 1
                        go_wp2
                        exact bodyPost_ret (v := .tuple #[.agg #[.int .i64 0, .slice none 0 0], .int .i64 ((i : Int) + 1), .int .i64 5]) (by simp [results, Tryz.results9, go_sem, *]) rfl ⟨((HP3.out.below).setCell (p := ⟨w.heap.size, 0, none⟩) (Nat.le_refl _) _).setCell (p := ⟨w.heap.size, 1, none⟩) (Nat.le_refl _) _, rfl⟩
                      · have q5 : ((r'.cls.length : Int) == (r.n : Int)) = false := by simp; omega
                        have q5' : (r'.cls.length == r.n) = false := by simp; omega
                        by_cases h6 : (r'.vars : Int) < (m : Int)
                        · have hv : wordR r' x = (4, r') := by rw [HWV.out, if_neg h5, if_pos (by omega)]
                          have hRR : RR = (4, r') := by rw [← HWS.out, hv]; rfl
                          subst hRR
                          have hq : LR = .inl (i + 1, 4) := by rw [← HQ2.out]; rfl
                          subst hq
                          have hG : G = .inl (i + 1, 4) := HG.out.symm
                          subst hG
                          clear HQ2 HG HWS hv
                          have q6 : ((r'.vars : Int) < (m : Int)) = True := eq_true h6
                          have q6' : (r'.vars < m) = True := eq_true (by omega)
                          clear HWV h5 hWG
                          go_wp2_with (go_at_call 19; refine (HCN.out _ HEB.out).mono ?_)
                          rintro e w3 ⟨rfl, hb⟩
                          have HP3 := Aside0.mk (HPS.out.step hb)
                          clear p0 p1 mk hb HPS HCN
                          have p0 := HP3.out.c0
                          have p1 := HP3.out.c1
                          have s0 := HP3.out.r0
                          have s1 := HP3.out.r1
                          have t0 := blk_frozen HP3.out.res 0
                          have t1 := blk_frozen HP3.out.res 1
                          go_wp2
                          exact bodyPost_ret (v := .tuple #[.agg #[.int .i64 0, .slice none 0 0], .int .i64 ((i : Int) + 1), .int .i64 4]) (by simp [results, Tryz.results9, go_sem, *]) rfl ⟨((HP3.out.below).setCell (p := ⟨w.heap.size, 0, none⟩) (Nat.le_refl _) _).setCell (p := ⟨w.heap.size, 1, none⟩) (Nat.le_refl _) _, rfl⟩
                        · have q6 : ((r'.vars : Int) < (m : Int)) = False := eq_false h6
                          have q6' : (r'.vars < m) = False := eq_false (by omega)
                          by_cases h8 : 1000000 < r'.lits + 1
                          · have hv : wordR r' x = (8, { r' with lits := r'.lits + 1 }) := by rw [HWV.out, if_neg h5, if_neg (by omega), if_neg (by omega), if_pos h8]
                            have hRR : RR = (8, { r' with lits := r'.lits + 1 }) := by rw [← HWS.out, hv]; rfl
                            subst hRR
                            have hq : LR = .inl (i + 1, 8) := by rw [← HQ2.out]; rfl
                            subst hq
                            have hG : G = .inl (i + 1, 8) := HG.out.symm
                            subst hG
                            clear HQ2 HG HWS hv
                            have q8 : (1000000 < (r'.lits : Int) + 1) = True := eq_true (by omega)
                            clear HWV h5 hWG
                            go_wp2_with (go_at_call 19; refine (HCN.out _ HEB.out).mono ?_)
                            rintro e w3 ⟨rfl, hb⟩
                            have HP3 := Aside0.mk (HPS.out.step hb)
                            clear p0 p1 mk hb HPS HCN
                            have p0 := HP3.out.c0
                            have p1 := HP3.out.c1
                            have s0 := HP3.out.r0
                            have s1 := HP3.out.r1
                            have t0 := blk_frozen HP3.out.res 0
                            have t1 := blk_frozen HP3.out.res 1
                            go_wp2
                            exact bodyPost_ret (v := .tuple #[.agg #[.int .i64 0, .slice none 0 0], .int .i64 ((i : Int) + 1), .int .i64 8]) (by simp [results, Tryz.results9, go_sem, *]) rfl ⟨((HP3.out.below).setCell (p := ⟨w.heap.size, 0, none⟩) (Nat.le_refl _) _).setCell (p := ⟨w.heap.size, 1, none⟩) (Nat.le_refl _) _, rfl⟩
                          · have hv : wordR r' x = (0, { r' with lits := r'.lits + 1, opn := r'.opn ++ [-(m : Int)] }) := by rw [HWV.out, if_neg h5, if_neg (by omega), if_neg (by omega), if_neg h8]
                            have hws := HWS.out
                            rw [hv, if_pos rfl] at hws
                            have HWS2 := Aside0.mk hws
                            have hgd := hWG.out (by rw [hv])
                            rw [hv] at hgd
                            have HGD2 := Aside0.mk hgd
                            have q8 : (1000000 < (r'.lits : Int) + 1) = False := eq_false (by omega)
                            clear HWV h5 hWG hv hws hgd HWS h6
                            go_wp2_with (go_at_call 19; refine (HCN.out _ HEB.out).mono ?_)
                            rintro e w3 ⟨rfl, hb⟩
                            have HP3 := Aside0.mk (HPS.out.step hb)
                            clear p0 p1 mk hb HPS HCN
                            have p0 := HP3.out.c0
                            have p1 := HP3.out.c1
                            have hbase := HP3.out.le
                            go_wp2_with ((with_reducible refine gate_builtin (b := .append) (xs := #[.tmp 147, .tmp 149]) rfl ?_); at_builtin; refine Kd.R_append (Kd.int .i64) (w0 := w3) w1.heap.size rfl (.tmp 147) (.tmp 149) 46 3 (.int .i64 0) 8 rfl Tryz.underlying46 int_info rfl (by decide) (by decide) _ r'.opn (-(m : Int)) [.int .i64 (-(m : Int))] (fun _ => True) (fun _ => False) rfl ?aX rfl (fun _ hk => hk.elim) (fun _ _ => trivial) ?aO ?aB ?aS ?aL ?_; (case aX => first | rfl | (simp [Act.eval]; done)); (case aO => exact HP3.out.opn); (case aB => exact Below.refl _ _); (case aS => exact hbase); (case aL => omega))
                            intro v1 w4 ho hb hg hat
                            have CL := Aside0.mk (HP3.out.push (n := r'.lits + 1) ho hg hat)
                            clear ho hb hg hat hbase
                            go_wp2
                            go_roundg (ws.length - (k + 1))
                            case measure => omega
                            case rel => exact ⟨k + 1, { r' with lits := r'.lits + 1, opn := r'.opn ++ [-(m : Int)] }, _, by go_num, by omega, by go_num, HWS2, ⟨HGD2.out.1⟩, ⟨⟨HGD2.out.2, HH.out.2⟩⟩, CL⟩
                · have hb45 : ((((bs x)[0]'hsz0).toNat : Int) == 45) = false := by
                    rw [hfirst] at hneg
                    have : ¬ ((bs x)[0]'hsz0) = 45 := fun h => hneg (by rw [h])
                    simp only [beq_eq_false_iff_ne, ne_eq]
                    intro h
                    exact this (UInt8.toNat_inj.1 (by rw [show (45 : UInt8).toNat = 45 from rfl]; omega))
                  have hlit : litW x = (numW x).map fun n => (n : Int) := litW_plain hneg
                  have CN := fun W (e : Env W ∧ EnvA W) => lawnum_any x W (by omega) e.1 e.2
                  have hz1 : strV x = .string (bs x) := rfl
                  rw [hz1] at CN
                  have HNZ : Aside0 (numI x = match numW x with | some n => (n : Int) | none => -1) := ⟨rfl⟩
                  clear hz1
                  have HCN := Aside0.mk CN
                  have HEB := Aside0.mk (And.intro (HE.out.1.below HPS.out.below) (HE.out.2.below HPS.out.below))
                  have HLIT := Aside0.mk hlit
                  clear CN hlit hneg hfirst hxne
                  cases hz : numW x with
                  | none =>
                    rw [hz] at HNZ
                    have hI : numI x = -1 := HNZ.out
                    rw [hI] at HCN
                    have hv : wordR r' x = (3, r') := by unfold wordR; rw [HLIT.out, hz]; rfl
                    clear hI HNZ HLIT hz
                    have hRR : RR = (3, r') := by rw [← HWS.out, hv]; rfl
                    subst hRR
                    have hq : LR = .inl (i + 1, 3) := by rw [← HQ2.out]; rfl
                    subst hq
                    have hG : G = .inl (i + 1, 3) := HG.out.symm
                    subst hG
                    clear HQ2 HG HWS hv
                    generalize bs x = X0 at *
                    go_wp2_with (go_at_call 19; refine (HCN.out _ HEB.out).mono ?_)
                    rintro e w3 ⟨rfl, hb⟩
                    have HP3 := Aside0.mk (HPS.out.step hb)
                    clear p0 p1 mk hb HPS HCN
                    have p0 := HP3.out.c0
                    have p1 := HP3.out.c1
                    have s0 := HP3.out.r0
                    have s1 := HP3.out.r1
                    have t0 := blk_frozen HP3.out.res 0
                    have t1 := blk_frozen HP3.out.res 1
                    go_wp2
                    exact bodyPost_ret (v := .tuple #[.agg #[.int .i64 0, .slice none 0 0], .int .i64 ((i : Int) + 1), .int .i64 3]) (by simp [results, Tryz.results9, go_sem, *]) rfl ⟨((HP3.out.below).setCell (p := ⟨w.heap.size, 0, none⟩) (Nat.le_refl _) _).setCell (p := ⟨w.heap.size, 1, none⟩) (Nat.le_refl _) _, rfl⟩
                  | some m =>
                    rw [hz] at HNZ
                    have hI : numI x = (m : Int) := HNZ.out
                    rw [hI] at HCN
                    have hm9 := numW_lt hz
                    have qm0 : ((m : Int) < 0) = False := eq_false (by omega)
                    clear hI HNZ
                    have hl : litW x = some (m : Int) := by rw [HLIT.out, hz]; rfl
                    have hwv : wordR r' x = if r'.cls.length = r'.n then (5, r') else if (r'.vars : Int) < max ((m : Int)) (-((m : Int))) then (4, r') else
                      if ((m : Int)) = 0 then (0, { r' with cls := r'.cls ++ [r'.opn], opn := [] }) else
                      if 1000000 < r'.lits + 1 then (8, { r' with lits := r'.lits + 1 }) else (0, { r' with lits := r'.lits + 1, opn := r'.opn ++ [(m : Int)] }) := by unfold wordR; rw [hl]
                    have HWV := Aside0.mk hwv
                    clear hwv hl HLIT hz
                    generalize bs x = X0 at *
                    by_cases h5 : r'.cls.length = r'.n
                    · have hv : wordR r' x = (5, r') := by rw [HWV.out, if_pos h5]
                      have hRR : RR = (5, r') := by rw [← HWS.out, hv]; rfl
                      subst hRR
                      have hq : LR = .inl (i + 1, 5) := by rw [← HQ2.out]; rfl
                      subst hq
                      have hG : G = .inl (i + 1, 5) := HG.out.symm
                      subst hG
                      clear HQ2 HG HWS hv
                      have q5 : ((r'.cls.length : Int) == (r.n : Int)) = true := by simp; omega
                      have q5' : (r'.cls.length == r.n) = true := by simp; omega
                      clear HWV h5 hWG
                      go_wp2_with (go_at_call 19; refine (HCN.out _ HEB.out).mono ?_)
                      rintro e w3 ⟨rfl, hb⟩
                      have HP3 := Aside0.mk (HPS.out.step hb)
                      clear p0 p1 mk hb HPS HCN
                      have p0 := HP3.out.c0
                      have p1 := HP3.out.c1
                      have s0 := HP3.out.r0
                      have s1 := HP3.out.r1
                      have t0 := blk_frozen HP3.out.res 0
                      have t1 := blk_frozen HP3.out.res 1
                      go_wp2
                      exact bodyPost_ret (v := .tuple #[.agg #[.int .i64 0, .slice none 0 0], .int .i64 ((i : Int) + 1), .int .i64 5]) (by simp [results, Tryz.results9, go_sem, *]) rfl ⟨((HP3.out.below).setCell (p := ⟨w.heap.size, 0, none⟩) (Nat.le_refl _) _).setCell (p := ⟨w.heap.size, 1, none⟩) (Nat.le_refl _) _, rfl⟩
                    · have q5 : ((r'.cls.length : Int) == (r.n : Int)) = false := by simp; omega
                      have q5' : (r'.cls.length == r.n) = false := by simp; omega
                      by_cases h6 : (r'.vars : Int) < (m : Int)
                      · have hv : wordR r' x = (4, r') := by rw [HWV.out, if_neg h5, if_pos (by omega)]
                        have hRR : RR = (4, r') := by rw [← HWS.out, hv]; rfl
                        subst hRR
                        have hq : LR = .inl (i + 1, 4) := by rw [← HQ2.out]; rfl
                        subst hq
                        have hG : G = .inl (i + 1, 4) := HG.out.symm
                        subst hG
                        clear HQ2 HG HWS hv
                        have q6 : ((r'.vars : Int) < (m : Int)) = True := eq_true h6
                        have q6' : (r'.vars < m) = True := eq_true (by omega)
                        clear HWV h5 hWG
                        go_wp2_with (go_at_call 19; refine (HCN.out _ HEB.out).mono ?_)
                        rintro e w3 ⟨rfl, hb⟩
                        have HP3 := Aside0.mk (HPS.out.step hb)
                        clear p0 p1 mk hb HPS HCN
                        have p0 := HP3.out.c0
                        have p1 := HP3.out.c1
                        have s0 := HP3.out.r0
                        have s1 := HP3.out.r1
                        have t0 := blk_frozen HP3.out.res 0
                        have t1 := blk_frozen HP3.out.res 1
                        go_wp2
                        exact bodyPost_ret (v := .tuple #[.agg #[.int .i64 0, .slice none 0 0], .int .i64 ((i : Int) + 1), .int .i64 4]) (by simp [results, Tryz.results9, go_sem, *]) rfl ⟨((HP3.out.below).setCell (p := ⟨w.heap.size, 0, none⟩) (Nat.le_refl _) _).setCell (p := ⟨w.heap.size, 1, none⟩) (Nat.le_refl _) _, rfl⟩
                      · have q6 : ((r'.vars : Int) < (m : Int)) = False := eq_false h6
                        have q6' : (r'.vars < m) = False := eq_false (by omega)
                        by_cases hm0 : m = 0
                        · have hv : wordR r' x = (0, { r' with cls := r'.cls ++ [r'.opn], opn := [] }) := by rw [HWV.out, if_neg h5, if_neg (by omega), if_pos (by omega)]
                          have hws := HWS.out
                          rw [hv, if_pos rfl] at hws
                          have HWS2 := Aside0.mk hws
                          have hgd := hWG.out (by rw [hv])
                          rw [hv] at hgd
                          have HGD2 := Aside0.mk hgd
                          subst hm0
                          clear HWV h5 hWG hv hws hgd HWS h6
                          go_wp2_with (go_at_call 19; refine (HCN.out _ HEB.out).mono ?_)
                          rintro e w3 ⟨rfl, hb⟩
                          have HP3 := Aside0.mk (HPS.out.step hb)
                          clear p0 p1 mk hb HPS HCN
                          have p0 := HP3.out.c0
                          have p1 := HP3.out.c1
                          have hop3 : Kd.R (Kd.int .i64) 3 w3 w1.heap.size (fun k => True ∧ some k ≠ (Value.slice A7 r'.cls.length k7).ownBlock) (.slice A8 r'.opn.length k8) r'.opn := Kd.R_apart' HP3.out.opn (Kd.R_typed HP3.out.cls) (by decide)
                          have HOP := Aside0.mk hop3
                          clear hop3
                          have hbase := HP3.out.le
                          go_wp2_with ((with_reducible refine gate_builtin (b := .append) (xs := #[.tmp 132, .tmp 134]) rfl ?_); at_builtin; refine Kd.R_append kForm (w0 := w3) w1.heap.size rfl (.tmp 132) (.tmp 134) 27 46 (.slice none 0 0) 24 rfl Tryz.underlying27 ints_info rfl (by decide) (by decide) _ r'.cls r'.opn [.slice A8 r'.opn.length k8] (fun _ => True) (fun k => True ∧ some k ≠ (Value.slice A7 r'.cls.length k7).ownBlock) rfl ?aX ⟨_, rfl, HOP.out⟩ (fun _ hk => hk) (fun _ _ => trivial) ?aO ?aB ?aS ?aL ?_; (case aX => first | rfl | (simp [Act.eval]; done)); (case aO => exact Kd.R_mono HP3.out.cls (fun _ _ => trivial)); (case aB => exact Below.refl _ _); (case aS => exact hbase); (case aL => omega))
                          intro v1 w4 ho hb hg hat
                          obtain ⟨Av, kv, rfl⟩ := Kd.R_slice ho
                          rw [show (r'.cls ++ [r'.opn]).length = r'.cls.length + 1 by simp] at ho ⊢
                          have CL := Aside0.mk (HP3.out.close ho hg)
                          have p1' := CL.out.1
                          have f1' := CL.out.2.1
                          clear ho hb hg hat hbase
                          go_wp2
                          go_roundg (ws.length - (k + 1))
                          case measure => omega
                          case rel => exact ⟨k + 1, { r' with cls := r'.cls ++ [r'.opn], opn := [] }, _, by go_num, by omega, rfl, HWS2, ⟨HGD2.out.1⟩, ⟨⟨HGD2.out.2, HH.out.2⟩⟩, ⟨CL.out.2.2⟩⟩
                        · have qm : ((m : Int) == 0) = false := by simp; omega
                          by_cases h8 : 1000000 < r'.lits + 1
                          · have hv : wordR r' x = (8, { r' with lits := r'.lits + 1 }) := by rw [HWV.out, if_neg h5, if_neg (by omega), if_neg (by omega), if_pos h8]
                            have hRR : RR = (8, { r' with lits := r'.lits + 1 }) := by rw [← HWS.out, hv]; rfl
                            subst hRR
                            have hq : LR = .inl (i + 1, 8) := by rw [← HQ2.out]; rfl
                            subst hq
                            have hG : G = .inl (i + 1, 8) := HG.out.symm
                            subst hG
                            clear HQ2 HG HWS hv
                            have q8 : (1000000 < (r'.lits : Int) + 1) = True := eq_true (by omega)
                            clear HWV h5 hWG
                            go_wp2_with (go_at_call 19; refine (HCN.out _ HEB.out).mono ?_)
                            rintro e w3 ⟨rfl, hb⟩
                            have HP3 := Aside0.mk (HPS.out.step hb)
                            clear p0 p1 mk hb HPS HCN
                            have p0 := HP3.out.c0
                            have p1 := HP3.out.c1
                            have s0 := HP3.out.r0
                            have s1 := HP3.out.r1
                            have t0 := blk_frozen HP3.out.res 0
                            have t1 := blk_frozen HP3.out.res 1
                            go_wp2
                            exact bodyPost_ret (v := .tuple #[.agg #[.int .i64 0, .slice none 0 0], .int .i64 ((i : Int) + 1), .int .i64 8]) (by simp [results, Tryz.results9, go_sem, *]) rfl ⟨((HP3.out.below).setCell (p := ⟨w.heap.size, 0, none⟩) (Nat.le_refl _) _).setCell (p := ⟨w.heap.size, 1, none⟩) (Nat.le_refl _) _, rfl⟩
                          · have hv : wordR r' x = (0, { r' with lits := r'.lits + 1, opn := r'.opn ++ [(m : Int)] }) := by rw [HWV.out, if_neg h5, if_neg (by omega), if_neg (by omega), if_neg h8]
                            have hws := HWS.out
                            rw [hv, if_pos rfl] at hws
                            have HWS2 := Aside0.mk hws
                            have hgd := hWG.out (by rw [hv])
                            rw [hv] at hgd
                            have HGD2 := Aside0.mk hgd
                            have q8 : (1000000 < (r'.lits : Int) + 1) = False := eq_false (by omega)
                            clear HWV h5 hWG hv hws hgd HWS h6
                            go_wp2_with (go_at_call 19; refine (HCN.out _ HEB.out).mono ?_)
                            rintro e w3 ⟨rfl, hb⟩
                            have HP3 := Aside0.mk (HPS.out.step hb)
                            clear p0 p1 mk hb HPS HCN
                            have p0 := HP3.out.c0
                            have p1 := HP3.out.c1
                            have hbase := HP3.out.le
                            go_wp2_with ((with_reducible refine gate_builtin (b := .append) (xs := #[.tmp 147, .tmp 149]) rfl ?_); at_builtin; refine Kd.R_append (Kd.int .i64) (w0 := w3) w1.heap.size rfl (.tmp 147) (.tmp 149) 46 3 (.int .i64 0) 8 rfl Tryz.underlying46 int_info rfl (by decide) (by decide) _ r'.opn ((m : Int)) [.int .i64 ((m : Int))] (fun _ => True) (fun _ => False) rfl ?aX rfl (fun _ hk => hk.elim) (fun _ _ => trivial) ?aO ?aB ?aS ?aL ?_; (case aX => first | rfl | (simp [Act.eval]; done)); (case aO => exact HP3.out.opn); (case aB => exact Below.refl _ _); (case aS => exact hbase); (case aL => omega))
                            intro v1 w4 ho hb hg hat
                            have CL := Aside0.mk (HP3.out.push (n := r'.lits + 1) ho hg hat)
                            clear ho hb hg hat hbase
                            go_wp2
                            go_roundg (ws.length - (k + 1))
                            case measure => omega
                            case rel => exact ⟨k + 1, { r' with lits := r'.lits + 1, opn := r'.opn ++ [(m : Int)] }, _, by go_num, by omega, by go_num, HWS2, ⟨HGD2.out.1⟩, ⟨⟨HGD2.out.2, HH.out.2⟩⟩, CL⟩
              · have hRR : RR = (0, r') := by rw [← HWS.out, List.drop_of_length_le (by omega)]; rfl
                subst hRR
                have hq : linesW (i + 1) r' (ls.drop (i + 1)) = LR := by rw [← HQ2.out]; rfl
                have HQ3 := Aside0.mk hq
                have hcl : clI r' = (r.n : Int) := by unfold clI; rw [HH.out.1, ← HH.out.2.1]; rfl
                have HCL := Aside0.mk hcl
                have q1 : ((k : Int) < (ws.length : Int)) = False := eq_false (by omega)
                clear hq hcl HWS HQ2
                go_wp2
                go_roundg (ls.length - (i + 1))
                case measure => omega
                case rel => exact ⟨i + 1, r', _, by go_num, by omega, by rw [HCL.out], rfl, HQ3, HGD, HPS⟩
    · have hLR : LR = .inr r := by rw [← HLR.out, List.drop_of_length_le (by omega)]; rfl
      subst hLR
      have q1 : ((i : Int) < (ls.length : Int)) = False := eq_false (by omega)
      have hG := HG.out
      dsimp only at hG
      obtain ⟨Ac, kc, rfl⟩ := Kd.R_slice HPS.out.cls
      have p0 := HPS.out.c0
      have p1 := HPS.out.c1
      have s0 := HPS.out.r0
      have s1 := HPS.out.r1
      have t0 := blk_frozen HPS.out.res 0
      have t1 := blk_frozen HPS.out.res 1
      have hfw := HGD.out.few
      have hop := HGD.out.opn
      have hli := HGD.out.lits
      have hnn := HGD.out.n
      cases hh : r.head with
      | false =>
        have hcl : clI r = -1 := by unfold clI; rw [hh]; rfl
        have he : endR r = 2 := by unfold endR; rw [if_pos hh]
        rw [he, if_neg (by decide)] at hG
        subst hG
        rw [hcl]
        clear HLR HG hh he hcl
        go_wp2
        exact bodyPost_ret (v := .tuple #[.agg #[.int .i64 0, .slice none 0 0], .int .i64 (ls.length : Int), .int .i64 2]) (by simp [results, Tryz.results9, go_sem, *]) rfl ⟨(HPS.out.below.setCell (p := ⟨w.heap.size, 0, none⟩) (Nat.le_refl _) _).setCell (p := ⟨w.heap.size, 1, none⟩) (Nat.le_refl _) _, rfl⟩
      | true =>
        have hcl : clI r = (r.n : Int) := by unfold clI; rw [hh]; rfl
        rw [hcl]
        have qn : ((r.n : Int) < 0) = False := eq_false (by omega)
        by_cases ho : r.opn = []
        · have hol : (0 < r.opn.length) = False := by rw [ho]; simp
          by_cases hc : r.cls.length < r.n
          · have he : endR r = 6 := by unfold endR; rw [if_neg (by simp [hh]), if_neg (by simp [ho]), if_pos hc]
            rw [he, if_neg (by decide)] at hG
            subst hG
            clear HLR HG hh he hcl ho
            go_wp2
            exact bodyPost_ret (v := .tuple #[.agg #[.int .i64 0, .slice none 0 0], .int .i64 (ls.length : Int), .int .i64 6]) (by simp [results, Tryz.results9, go_sem, *]) rfl ⟨(HPS.out.below.setCell (p := ⟨w.heap.size, 0, none⟩) (Nat.le_refl _) _).setCell (p := ⟨w.heap.size, 1, none⟩) (Nat.le_refl _) _, rfl⟩
          · have he : endR r = 0 := by unfold endR; rw [if_neg (by simp [hh]), if_neg (by simp [ho]), if_neg hc]
            have qc : (r.cls.length < r.n) = False := eq_false hc
            rw [he, if_pos rfl] at hG
            subst hG
            clear HLR HG hh he hcl ho
            go_wp2
            refine bodyPost_ret (v := .tuple #[.agg #[.int .i64 (r.vars : Int), .slice Ac r.cls.length kc], .int .i64 0, .int .i64 0]) (by simp [results, Tryz.results9, go_sem, *]) rfl ⟨(HPS.out.below.setCell (p := ⟨w.heap.size, 0, none⟩) (Nat.le_refl _) _).setCell (p := ⟨w.heap.size, 1, none⟩) (Nat.le_refl _) _, .slice Ac r.cls.length kc, rfl, ?_⟩
            have h1 := Kd.R_types (Kd.R_mono HPS.out.cls (ok' := fun _ => True) (fun _ _ => trivial)) HPS.out.res (by decide)
            exact Kd.R_lower (Kd.R_mono (Kd.R_far (p := ⟨w.heap.size, 1, none⟩) (Kd.R_far (p := ⟨w.heap.size, 0, none⟩) h1 (fun _ hk => hk.2) _) (fun _ hk => hk.2) _) (fun _ _ => trivial)) (by have := HPS.out.sz; omega)
        · have hol : (0 < r.opn.length) = True := eq_true (List.length_pos_iff.2 ho)
          have he : endR r = 7 := by unfold endR; rw [if_neg (by simp [hh]), if_pos ho]
          rw [he, if_neg (by decide)] at hG
          subst hG
          clear HLR HG hh he hcl ho
          go_wp2
          exact bodyPost_ret (v := .tuple #[.agg #[.int .i64 0, .slice none 0 0], .int .i64 (ls.length : Int), .int .i64 7]) (by simp [results, Tryz.results9, go_sem, *]) rfl ⟨(HPS.out.below.setCell (p := ⟨w.heap.size, 0, none⟩) (Nat.le_refl _) _).setCell (p := ⟨w.heap.size, 1, none⟩) (Nat.le_refl _) _, rfl⟩
end Go.Proofs.YtdbdilajjmijaaaGreatDoor
