import Derived.Test.YtdbdilajjmijaaaGreatDoorDnWord
import Derived.Test.YtdbdilajjmijaaaGreatDoorDnPlain
namespace Go.Proofs.YtdbdilajjmijaaaGreatDoor
open Go Go.RowKit Go.Proofs.YtdbdilajjmijaaaGreatDoorW.PrintWords Go.Proofs.YtdbdilajjmijaaaGreatDoorW.PrintLast Go.Proofs.YtdbdilajjmijaaaGreatDoorW.PrintMore PDimacsCuts

/-! line -/
theorem add_off (g i : Nat) : (⟨g, 0, none⟩ : Addr).add i = ⟨g, i, none⟩ := by
  unfold Addr.add
  split
  · rename_i h; subst h; rfl
  · simp
theorem MethSaid.after {w w1 w2 : World} {base b : Nat} {g : Nat × Rdr} {e : Ending} (h : MethSaid w1 base b g e w2) (hb : Below base w w1) (hs : Stands 9 w w1) : MethSaid w base b g e w2 :=
  ⟨h.1, h.2.1, hb.trans h.2.2.1, hs.trans h.2.2.2⟩
theorem first_c {y : List UInt8} : Lib.hasPrefix y [99] = decide (y[0]? = some 99) := by
  cases y with
  | nil => rfl
  | cons c r =>
    simp only [Lib.hasPrefix, List.getElem?_cons_zero, Option.some.injEq, List.isPrefixOf, Bool.and_true]
    rw [Bool.eq_iff_iff]
    simp only [beq_iff_eq, decide_eq_true_eq]
    exact ⟨Eq.symm, Eq.symm⟩

set_option maxRecDepth 100000 in
set_option maxHeartbeats 4000000 in
theorem line_any (w : World) (base b : Nat) (r : Rdr) (x : List UInt8) (h : RdAt w base b r) (hB : base ≤ w.heap.size) (hx : x.length ≤ 1048576) (hg : r.Good) :
    Calls Tryz.prog 16 #[.pointer (some ⟨b, 0, none⟩), strV x] w (MethSaid w base b (lineR r x)) := by
  rw [lineR_W]
  have C := words_any x w hx
  have hxs : strV x = .string (bs x) := rfl
  rw [hxs] at C ⊢
  clear hxs hx
  have H := Aside0.mk h
  have HG := Aside0.mk hg
  clear h hg
  generalize wordsB x = WB at *
  generalize bs x = X at *
  obtain ⟨G, hGe⟩ : ∃ G, lineW r WB = G := ⟨_, rfl⟩
  rw [hGe]
  have HW := Aside0.mk hGe
  clear hGe
  go_enter Tryz.func16, Tryz.ntmps16
  go_wp2_with (go_at_call 30; refine C.mono ?_)
  rintro e w2 ⟨hb, V, ws, rfl, hr, hlk, hyl, hwl⟩
  clear C
  have hW2 : lineW r ws = G := by rw [← HW.out]; exact lineW_likes r hlk
  have HW2 := Aside0.mk hW2
  obtain ⟨A, c, rfl⟩ := Kd.R_slice hr
  rw [List.length_map] at hr ⊢
  have HR := Aside0.mk (Kd.R_lower hr hB)
  have HB := Aside0.mk (hb.mono hB)
  have HS := Aside0.mk (Stands.of_below (t := 9) hb)
  have HSZ := Aside0.mk (Nat.le_trans hB hb.size)
  obtain ⟨Vc, Vo, hI⟩ := H.out
  have HI := Aside0.mk (hI.below hb)
  have HY := Aside0.mk hyl
  clear hb hr hlk HW hW2 hI H hyl
  cases ws with
  | nil =>
    have hG : G = (0, r) := HW2.out.symm
    subst hG
    go_wp2
    go_ret
    exact ⟨rfl, ⟨_, _, HI.out⟩, HB.out, HS.out⟩
  | cons y ys =>
    have hl0 : 0 < (y :: ys).length := by simp
    obtain ⟨g, c', e1, _, hgl, _⟩ := Kd.R_form HR.out (by simp)
    simp only [Value.slice.injEq] at e1
    obtain ⟨rfl, -, rfl⟩ := e1
    obtain ⟨-, -, hC⟩ := Kd.R_reads' HR.out
    obtain ⟨ad, e1, m0⟩ := at_word hC 0 (by simp)
    cases e1
    have m0 : w2.cell? ⟨g, 0, none⟩ = some (.string (bs y)) := m0
    clear hC
    have CP := fun w => (hasPrefix_any y [99] w).mono (R' := fun e w' => e = .returned (.bool (Lib.hasPrefix y [99])) ∧ w = w') (fun _ _ h => ⟨h.1, h.2.symm⟩)
    have hys : strV y = .string (bs y) := rfl
    have h99 : strV [99] = .string ⟨#[99]⟩ := rfl
    rw [hys, h99, first_c] at CP
    clear hys h99
    have qlen : (((y :: ys).length : Int) == 0) = false := by simp; omega
    have q5 := HI.out.c5
    by_cases hc : y[0]? = some 99
    · have hG : G = (0, r) := by rw [← HW2.out]; unfold lineW; simp only; rw [if_pos hc]
      subst hG
      rw [decide_eq_true hc] at CP
      clear hc HW2
      generalize bs y = Y at *
      generalize (y :: ys).length = n at *
      go_wp2_with (go_at_call 31; refine (CP _).mono ?_; rintro e w3 ⟨rfl, rfl⟩)
      go_ret
      exact ⟨rfl, ⟨_, _, HI.out⟩, HB.out, HS.out⟩
    · rw [decide_eq_false hc] at CP
      cases hh : r.head with
      | false =>
        have hG : headR r (y :: ys) = G := by rw [← HW2.out]; unfold lineW; simp only; rw [if_neg hc, if_neg (by simp [hh])]
        have CH := header_any w2 base b r (some ⟨g, 0, none⟩) c (y :: ys) ⟨_, _, HI.out⟩ HSZ.out HR.out HY.out hwl
        rw [hG] at CH
        rw [hh] at q5
        clear hc HW2 hG hh
        generalize bs y = Y at *
        generalize (y :: ys).length = n at *
        go_wp2_with (first
          | (go_at_call 31; refine (CP _).mono ?_; rintro e w3 ⟨rfl, rfl⟩)
          | (go_at_call 32; refine CH.mono ?_))
        rintro e w3 hm
        have HM := Aside0.mk (hm.after HB.out HS.out)
        obtain ⟨rfl, _⟩ := hm
        go_wp2
        go_ret
        exact HM.out
      | true =>
        have hG : wordsR r (y :: ys) = G := by rw [← HW2.out]; unfold lineW; simp only; rw [if_neg hc, if_pos hh]
        rw [hh] at q5
        have HWS := Aside0.mk (show wordsR r ((y :: ys).drop 0) = G from hG)
        have HH := Aside0.mk hh
        clear hc HW2 hG hh
        generalize hY : bs y = Y at *
        clear hY
        generalize (y :: ys) = ws at *
        go_wp2_with (first
          | (go_at_call 31; refine (CP _).mono ?_; rintro e w3 ⟨rfl, rfl⟩))
        clear m0 q5 qlen CP
        go_loopg [30] ws.length (fun gk v30 w' => ∃ (i : Nat) (r' : Rdr), v30 = .int .i64 (i : Int) ∧ i + gk = ws.length ∧ Aside0 (wordsR r' (ws.drop i) = G) ∧ Aside0 r'.Good ∧ Aside0 (r'.head = true) ∧ Aside0 (RdAt w' base b r') ∧ Aside0 (Below base w w') ∧ Aside0 (Stands 9 w w') ∧ Aside0 (Stands 9 w2 w'))
        case atStart => exact ⟨0, r, rfl, by omega, HWS, HG, HH, ⟨_, _, HI.out⟩, HB, HS, ⟨Stands.refl _ _⟩⟩
        case round =>
          clear HWS HG HH HB HS
          obtain ⟨i, r', rfl, hi, HWS, HG, HH, H, HB, HS, HS2⟩ := hrel
          by_cases hil : i < ws.length
          · have HR2 := R_stands rfl HR.out HS2.out
            obtain ⟨-, -, hC⟩ := Kd.R_reads' HR2
            rw [List.length_map] at hC
            obtain ⟨ad, e1, mi⟩ := at_word hC i hil
            cases e1
            rw [add_off] at mi
            have hyy := HY.out _ (nth_mem hil [])
            have hdr := drop_nth hil ([] : List UInt8)
            have hq := HWS.out
            rw [hdr] at hq
            clear hC HR2 hdr
            generalize nth ws [] i = y at *
            have hsz : base ≤ wr.heap.size := Nat.le_trans hB HB.out.size
            have hf := HG.out.few
            have ho := HG.out.opn
            have hli := HG.out.lits
            have CW := word_any wr base b r' y H.out hsz (by omega) (by omega) (by omega) (by omega)
            have hys : strV y = .string (bs y) := rfl
            rw [hys] at CW
            clear hys hf ho hli
            have q1 : ((i : Int) < (ws.length : Int)) = True := eq_true (by omega)
            simp only [wordsR] at hq
            have HQ := Aside0.mk hq
            have HWG := Aside0.mk (fun h0 => word_good (w := y) HG.out HH.out h0)
            clear hq
            generalize bs y = Y at *
            generalize wordR r' y = RR at *
            obtain ⟨k, r2⟩ := RR
            go_wp2_with (go_at_call 33; refine CW.mono ?_)
            rintro e w3 ⟨rfl, hra, hb3, hs3⟩
            have HRA := Aside0.mk hra
            have HB3 := Aside0.mk (HB.out.trans hb3)
            have HS3 := Aside0.mk (HS.out.trans hs3)
            have HS4 := Aside0.mk (HS2.out.trans hs3)
            clear hra hb3 hs3 HB HS HS2 CW mi
            dsimp only at HQ HWG HRA
            by_cases hk : k = 0
            · subst hk
              have HQ2 := HQ.out
              rw [if_pos rfl] at HQ2
              have HQ3 := Aside0.mk HQ2
              have HG2 := Aside0.mk (HWG.out rfl).1
              have HH2 := Aside0.mk (HWG.out rfl).2
              clear HQ HQ2 HWG
              go_wp2
              go_roundg (ws.length - (i + 1))
              case measure => omega
              case rel => exact ⟨i + 1, r2, by go_num, by omega, HQ3, HG2, HH2, HRA, HB3, HS3, HS4⟩
            · have HQ2 := HQ.out
              rw [if_neg hk] at HQ2
              subst HQ2
              have qk : ((k : Int) != 0) = true := by simp; omega
              clear HQ HWG
              go_wp2
              go_ret
              exact ⟨rfl, HRA.out, HB3.out, HS3.out⟩
          · have hG : G = (0, r') := by rw [← HWS.out, List.drop_of_length_le (by omega)]; rfl
            subst hG
            have q1 : ((i : Int) < (ws.length : Int)) = False := eq_false (by omega)
            clear HWS
            go_wp2
            go_ret
            exact ⟨rfl, H.out, HB.out, HS.out⟩
end Go.Proofs.YtdbdilajjmijaaaGreatDoor
