import Derived.Test.YtdbdilajjmijaaaGreatDoorDnLine
import Derived.Lib.SplitLaws
namespace Go.Proofs.YtdbdilajjmijaaaGreatDoor
open Go Go.RowKit Go.Proofs.YtdbdilajjmijaaaGreatDoorW.PrintWords Go.Proofs.YtdbdilajjmijaaaGreatDoorW.PrintLast Go.Proofs.YtdbdilajjmijaaaGreatDoorW.PrintMore PDimacsCuts

/-! Parse -/
theorem split_list (s : List UInt8) (c : UInt8) : (Lib.splitB ⟨#[c]⟩ 0 (Lib.countB ⟨s.toArray⟩ ⟨#[c]⟩) ⟨s.toArray⟩).map Value.string = (cutC c s).map strV ∧ Lib.countB ⟨s.toArray⟩ ⟨#[c]⟩ + 1 = (cutC c s).length := by
  have h1 := Lib.splitB_data ⟨#[c]⟩ 0 (Lib.countB ⟨s.toArray⟩ ⟨#[c]⟩) ⟨s.toArray⟩
  have h2 : Lib.splitK [c] 0 (Lib.countB ⟨s.toArray⟩ ⟨#[c]⟩) s = cutC c s := by rw [← split_one c s]; rfl
  have h3 : (Lib.splitB ⟨#[c]⟩ 0 (Lib.countB ⟨s.toArray⟩ ⟨#[c]⟩) ⟨s.toArray⟩).map (·.data.toList) = cutC c s := h1.trans h2
  constructor
  · rw [← h3, List.map_map]
    apply List.map_congr_left
    intro x _
    show Value.string x = strV x.data.toList
    unfold strV
    cases x
    simp
  · rw [← h3, List.length_map]
    exact (Lib.splitB_all ⟨#[c]⟩ (show 1 ≤ 1 from Nat.le_refl _) 0 _ _ rfl).symm
theorem cut_len (c : UInt8) (s : List UInt8) : (cutC c s).length ≤ s.length + 1 ∧ ∀ x ∈ cutC c s, x.length ≤ s.length := by
  induction s with
  | nil => simp [cutC]
  | cons b r ih =>
    obtain ⟨h1, h2⟩ := ih
    rw [cutC]
    split
    · refine ⟨by simp; omega, fun x hx => ?_⟩
      simp only [List.mem_cons] at hx
      rcases hx with rfl | hx
      · simp
      · have := h2 x hx; simp; omega
    · cases hcc : cutC c r with
      | nil => exact absurd hcc (cutC_ne c r)
      | cons y ys =>
        rw [hcc] at h1 h2
        refine ⟨by simp at h1 ⊢; omega, fun x hx => ?_⟩
        simp only [List.mem_cons] at hx
        rcases hx with rfl | hx
        · have := h2 y (by simp); simp; omega
        · have := h2 x (by simp [hx]); simp; omega

/-- What stands ahead of each call: the table and the errors that the library reads. -/
structure Env (w : World) : Prop where
  pow : Lib.TabIs Tryz.prog w "internal/strconv.uint64pow10" .u64 Lib.pow10Tab
  max : ∃ m, w.cell? ⟨2, 0, none⟩ = some (.int .i64 m)
theorem var_below {P : Program} {w w' : World} {n : String} {cs : Array Value} (h : w.var? P n = some cs) (B : Below w.heap.size w w') : w'.var? P n = some cs := by
  unfold World.var? at h ⊢
  cases hg : P.globalNamed n with
  | none => rw [hg] at h; simp at h
  | some g =>
    rw [hg] at h
    simp only [Option.bind_some] at h ⊢
    have hl : g < w.heap.size := by
      rcases Nat.lt_or_ge g w.heap.size with h1 | h1
      · exact h1
      · rw [Array.getElem?_eq_none h1] at h; simp at h
    rw [B.block g hl]; exact h
theorem Env.below {w w' : World} (h : Env w) (B : Below w.heap.size w w') : Env w' := by
  obtain ⟨m, hm⟩ := h.max
  exact ⟨var_below h.pow B, m, (B.cell (World.block_lt_of_cell? w _ hm)).trans hm⟩
theorem split_box (s : List UInt8) (c : UInt8) (hs : s.length < 4294967281) (w : World) (E : Env w) :
    Calls Tryz.prog 15 #[strV s, .string ⟨#[c]⟩] w fun e w' => ∃ g, e = .returned (.slice (some ⟨g, 0, none⟩) (cutC c s).length (cutC c s).length) ∧ w'.heap[g]? = some (.cells ((cutC c s).map strV).toArray 9 (0, 0)) ∧ Below w.heap.size w w' ∧ w.heap.size ≤ g := by
  obtain ⟨m, hm⟩ := E.max
  have h := Tryz.strings_Split ⟨s.toArray⟩ ⟨#[c]⟩ m w hs hm (show 1 ≤ 1 from Nat.le_refl _)
  rw [(split_list s c).1, (split_list s c).2] at h
  refine h.mono ?_
  rintro e w' ⟨he, rfl⟩
  exact ⟨_, he, heap_alloc_new w _, (Below.refl _ w).alloc (Nat.le_refl _) _, Nat.le_refl _⟩

/-- What Parse's call leaves. -/
def ParseSaid (w : World) (g : (Nat × Nat) ⊕ Rdr) (e : Ending) (w' : World) : Prop := Below w.heap.size w w' ∧ match g with
  | .inl (i, k) => ∃ b, e = .returned (.tuple #[.agg #[.int .i64 0, .slice none 0 0], .iface 39 (.pointer (some ⟨b, 0, none⟩))]) ∧ w'.heap[b]? = some (.cells #[.int .i64 (i : Int), .int .i64 (k : Int)] 43 (0, 0)) ∧ w.heap.size ≤ b
  | .inr r => ∃ V, e = .returned (.tuple #[.agg #[.int .i64 (r.vars : Int), V], .nilIface]) ∧ Kd.R kForm 46 w' w.heap.size (fun _ => True) V r.cls

/-- A result's box, and the reader's, at the beginning. -/
theorem rd_start {w w2 : World} (hb : Below (w.heap.size + 2) ((w.alloc (.cells #[.int .i64 0, .slice none 0 0] 29)).alloc (.cells #[.int .i64 0, .slice none 0 0, .int .i64 0, .int .i64 0, .slice none 0 0, .bool false] 54)) w2) :
    RdAt w2 (w.heap.size + 1) (w.heap.size + 1) rdr0 ∧ w2.heap[w.heap.size]? = some (.cells #[.int .i64 0, .slice none 0 0] 29 (0, 0)) ∧ Below w.heap.size w w2 := by
  have h1 := heap_alloc_new w (.cells #[.int .i64 0, .slice none 0 0] 29)
  have h2 := heap_alloc_new (w.alloc (.cells #[.int .i64 0, .slice none 0 0] 29)) (.cells #[.int .i64 0, .slice none 0 0, .int .i64 0, .int .i64 0, .slice none 0 0, .bool false] 54)
  have h3 := (Below.heap_alloc (w.alloc (.cells #[.int .i64 0, .slice none 0 0] 29)) (.cells #[.int .i64 0, .slice none 0 0, .int .i64 0, .int .i64 0, .slice none 0 0, .bool false] 54) w.heap.size (by simp)).trans h1
  have hs : (w.alloc (.cells #[.int .i64 0, .slice none 0 0] 29)).heap.size = w.heap.size + 1 := by simp
  rw [hs] at h2
  refine ⟨⟨.slice none 0 0, .slice none 0 0, (hb.block _ (by omega)).trans h2, Nat.le_refl _, Kd.R_nil _ _ _ _ _, Kd.R_nil _ _ _ _ _⟩, (hb.block _ (by omega)).trans h3, ?_⟩
  exact ((((Below.refl _ w).alloc (Nat.le_refl _) _).alloc (by simp) _)).trans (hb.mono (by omega))
theorem endR_le (r : Rdr) : endR r ≤ 7 := by unfold endR; split; · decide
                                             · split; · decide
                                               · split <;> decide

set_option maxRecDepth 100000 in
set_option maxHeartbeats 4000000 in
theorem parse_any (x : List UInt8) (w : World) (hX : x.length ≤ 1048576) (E : Env w) :
    Calls Tryz.prog 8 #[strV x] w (ParseSaid w (parseR x)) := by
  have hu := Tryz.underlying29
  have hu2 := Tryz.underlying54
  have hu3 := Tryz.underlying43
  have hwz : ((w.alloc (.cells #[.int .i64 0, .slice none 0 0] 29)).alloc (.cells #[.int .i64 0, .slice none 0 0, .int .i64 0, .int .i64 0, .slice none 0 0, .bool false] 54)).heap.size = w.heap.size + 2 := by simp
  have HWZ := Aside0.mk hwz
  have C1 := split_box x 10 (by omega) _ (E.below (((Below.refl _ w).alloc (Nat.le_refl _) (.cells #[.int .i64 0, .slice none 0 0] 29)).alloc (by simp) (.cells #[.int .i64 0, .slice none 0 0, .int .i64 0, .int .i64 0, .slice none 0 0, .bool false] 54)))
  have hcl := cut_len 10 x
  have hne := cutC_ne 10 x
  obtain ⟨G, hG⟩ : ∃ G, parseR x = G := ⟨_, rfl⟩
  rw [hG]
  unfold parseR at hG
  have HG := Aside0.mk hG
  clear hG E hwz
  have hxs : strV x = .string (bs x) := rfl
  rw [hxs] at C1 ⊢
  clear hxs
  generalize bs x = X at *
  have hls : (cutC 10 x).length ≤ 1048577 := by have := hcl.1; omega
  have HLS := Aside0.mk (fun y hy => Nat.le_trans (hcl.2 y hy) hX)
  clear hcl hX
  generalize cutC 10 x = ls at *
  go_enter Tryz.func8, Tryz.ntmps8
  go_wp2_with fail
  refine C1.mono ?_
  rintro e w2 ⟨gw, rfl, hgw, hb, hge⟩
  rw [HWZ.out] at hb
  obtain ⟨hrd, hfb, hbw⟩ := rd_start hb
  have HRD := Aside0.mk hrd
  have HFB := Aside0.mk hfb
  have HBW := Aside0.mk hbw
  have HGW := Aside0.mk hgw
  have HSZ := Aside0.mk (show w.heap.size + 1 ≤ w2.heap.size by have := hb.size; rw [HWZ.out] at this; omega)
  clear hrd hfb hbw hgw hb hge C1
  obtain ⟨LR, hLR⟩ : ∃ LR, linesR 0 rdr0 ls = LR := ⟨_, rfl⟩
  rw [hLR] at HG
  have HLR := Aside0.mk (show linesR 0 rdr0 (ls.drop 0) = LR from hLR)
  clear hLR
  go_wp2_with fail
  go_loopg [14] ls.length (fun gk v14 w' => ∃ (i : Nat) (r : Rdr), v14 = .int .i64 (i : Int) ∧ i + gk = ls.length ∧ Aside0 (linesR i r (ls.drop i) = LR) ∧ Aside0 r.Good ∧ Aside0 (RdAt w' (w.heap.size + 1) (w.heap.size + 1) r) ∧ Aside0 (Below (w.heap.size + 1) w2 w') ∧ Aside0 (Stands 9 w2 w'))
  case atStart => exact ⟨0, rdr0, rfl, by omega, HLR, ⟨good0⟩, HRD, ⟨Below.refl _ _⟩, ⟨Stands.refl _ _⟩⟩
  case round =>
    clear HLR HRD
    obtain ⟨i, r, rfl, hi, HLR, HGD, HRD, HB, HS⟩ := hrel
    have HFB2 := Aside0.mk ((HB.out.block w.heap.size (by omega)).trans HFB.out)
    have HBW2 := Aside0.mk (HBW.out.trans (HB.out.mono (Nat.le_succ _)))
    have hsz : w.heap.size + 1 ≤ wr.heap.size := Nat.le_trans HSZ.out HB.out.size
    have HSZ2 := Aside0.mk hsz
    by_cases hil : i < ls.length
    · have mi : wr.cell? ⟨gw, i, none⟩ = some (.string (bs (nth ls [] i))) := by
        rw [blk_cell (HS.out _ _ _ HGW.out) i]
        unfold nth
        rw [List.getElem?_toArray, List.getElem?_map, List.getD_eq_getElem?_getD, List.getElem?_eq_getElem hil]
        rfl
      have hyy := HLS.out _ (nth_mem hil [])
      have hq := HLR.out
      rw [drop_nth hil ([] : List UInt8)] at hq
      simp only [linesR] at hq
      generalize nth ls [] i = y at *
      have CL := line_any wr (w.heap.size + 1) (w.heap.size + 1) r y HRD.out hsz hyy HGD.out
      have hys : strV y = .string (bs y) := rfl
      rw [hys] at CL
      have HLG := Aside0.mk (fun h0 => line_good (x := y) HGD.out h0)
      have HQ := Aside0.mk hq
      clear hys hq hsz
      generalize bs y = Y at *
      generalize lineR r y = RR at *
      obtain ⟨k, r2⟩ := RR
      dsimp only at HQ HLG
      have q1 : ((i : Int) < (ls.length : Int)) = True := eq_true (by omega)
      go_wp2_with (go_at_call 16; refine CL.mono ?_)
      rintro e w3 ⟨rfl, hra, hb3, hs3⟩
      have HRA := Aside0.mk hra
      have HB3 := Aside0.mk (HB.out.trans hb3)
      have HS3 := Aside0.mk (HS.out.trans hs3)
      have HFB3 := Aside0.mk ((hb3.block w.heap.size (by omega)).trans HFB2.out)
      have HBW3 := Aside0.mk (HBW2.out.trans (hb3.mono (Nat.le_succ _)))
      have HSZ3 := Aside0.mk (Nat.le_trans HSZ2.out hb3.size)
      clear hra hb3 hs3 HB HS CL mi HFB2 HBW2 HSZ2
      dsimp only at HRA
      by_cases hk : k = 0
      · subst hk
        have HQ2 := HQ.out
        rw [if_pos rfl] at HQ2
        have HQ3 := Aside0.mk HQ2
        have HG2 := Aside0.mk (HLG.out rfl)
        clear HQ HQ2 HLG
        go_wp2
        go_roundg (ls.length - (i + 1))
        case measure => omega
        case rel => exact ⟨i + 1, r2, by go_num, by omega, HQ3, HG2, HRA, HB3, HS3⟩
      · have HQ2 := HQ.out
        rw [if_neg hk] at HQ2
        subst HQ2
        have hG : G = .inl (i + 1, k) := HG.out.symm
        subst hG
        have qk : ((k : Int) != 0) = true := by simp; omega
        have c0 : ∀ o, (w3.alloc o).cell? ⟨w.heap.size, 0, none⟩ = some (.int .i64 0) := fun o => (blk_cell (blk_below HFB3.out (below_alloc (Below.refl _ _) o)) 0).trans rfl
        have c1 : ∀ o, (w3.alloc o).cell? ⟨w.heap.size, 1, none⟩ = some (.slice none 0 0) := fun o => (blk_cell (blk_below HFB3.out (below_alloc (Below.refl _ _) o)) 1).trans rfl
        have f0 : ∀ o, (w3.alloc o).frozen? ⟨w.heap.size, 0, none⟩ = false := fun o => blk_frozen (blk_below HFB3.out (below_alloc (Below.refl _ _) o)) 0
        have f1 : ∀ o, (w3.alloc o).frozen? ⟨w.heap.size, 1, none⟩ = false := fun o => blk_frozen (blk_below HFB3.out (below_alloc (Below.refl _ _) o)) 1
        clear HQ HLG HG
        go_wp2
        refine bodyPost_ret (v := .tuple #[.agg #[.int .i64 0, .slice none 0 0], .iface 39 (.pointer (some ⟨w3.heap.size, 0, none⟩))]) (by simp [results, Tryz.results8, go_sem, *]) rfl ⟨?_, w3.heap.size, rfl, ?_, ?_⟩
        · exact ((HBW3.out.alloc HBW3.out.size _).setCell (p := ⟨w.heap.size, 0, none⟩) (Nat.le_refl _) _).setCell (p := ⟨w.heap.size, 1, none⟩) (Nat.le_refl _) _
        · have hlt : w3.heap.size ≠ w.heap.size := by have := HSZ3.out; omega
          exact blk_far (p := ⟨w.heap.size, 1, none⟩) (blk_far (p := ⟨w.heap.size, 0, none⟩) (heap_alloc_new w3 _) hlt _) hlt _
        · exact Nat.le_of_succ_le HSZ3.out
    · have hLR : LR = .inr r := by rw [← HLR.out, List.drop_of_length_le (by omega)]; rfl
      subst hLR
      have q1 : ((i : Int) < (ls.length : Int)) = False := eq_false (by omega)
      have CE := end_any wr _ _ r HRD.out
      have hG := HG.out
      dsimp only at hG
      have HG2 := Aside0.mk hG
      clear HLR HG hG
      have he7 := endR_le r
      generalize endR r = k at *
      go_wp2_with (go_at_call 17; refine CE.mono ?_)
      rintro e w3 ⟨rfl, n, rfl⟩
      have HFB3 := HFB2
      by_cases hk : k = 0
      · subst hk
        have hG : G = .inr r := by rw [← HG2.out]; rfl
        subst hG
        obtain ⟨Vc, Vo, hI⟩ := HRD.out
        obtain ⟨Ac, kc, rfl⟩ := Kd.R_slice hI.cls
        have HI := Aside0.mk (hI.drewN n)
        have p0 := HI.out.c0
        have p1 := HI.out.c1
        have c0 : wr.cell? ⟨w.heap.size, 0, none⟩ = some (.int .i64 0) := (blk_cell HFB3.out 0).trans rfl
        have c1 : wr.cell? ⟨w.heap.size, 1, none⟩ = some (.slice none 0 0) := (blk_cell HFB3.out 1).trans rfl
        have f0 : wr.frozen? ⟨w.heap.size, 0, none⟩ = false := blk_frozen HFB3.out 0
        have f1 : wr.frozen? ⟨w.heap.size, 1, none⟩ = false := blk_frozen HFB3.out 1
        clear HG2 HRD hI CE
        go_wp2
        refine bodyPost_ret (v := .tuple #[.agg #[.int .i64 (r.vars : Int), .slice Ac r.cls.length kc], .nilIface]) (by simp [results, Tryz.results8, go_sem, *]) rfl ⟨?_, .slice Ac r.cls.length kc, rfl, ?_⟩
        · exact ((pw_below_drewN HBW2.out n).setCell (p := ⟨w.heap.size, 0, none⟩) (Nat.le_refl _) _).setCell (p := ⟨w.heap.size, 1, none⟩) (Nat.le_refl _) _
        · have h1 := Kd.R_drewN (Kd.R_types (Kd.R_mono HI.out.cls (fun _ _ => trivial)) HFB3.out (by decide)) n
          exact Kd.R_lower (Kd.R_mono (Kd.R_far (p := ⟨w.heap.size, 1, none⟩) (Kd.R_far (p := ⟨w.heap.size, 0, none⟩) h1 (fun _ hk => hk.2) _) (fun _ hk => hk.2) _) (fun _ _ => trivial)) (Nat.le_succ _)
      · have hG : G = .inl (ls.length, k) := by rw [← HG2.out, if_neg hk]
        subst hG
        have qk : ((k : Int) != 0) = true := by simp; omega
        have HFBn := Aside0.mk (show (wr.drewN n).heap[w.heap.size]? = _ from HFB3.out)
        have c0 : ∀ o, ((wr.drewN n).alloc o).cell? ⟨w.heap.size, 0, none⟩ = some (.int .i64 0) := fun o => (blk_cell (blk_below HFBn.out (below_alloc (Below.refl _ _) o)) 0).trans rfl
        have c1 : ∀ o, ((wr.drewN n).alloc o).cell? ⟨w.heap.size, 1, none⟩ = some (.slice none 0 0) := fun o => (blk_cell (blk_below HFBn.out (below_alloc (Below.refl _ _) o)) 1).trans rfl
        have f0 : ∀ o, ((wr.drewN n).alloc o).frozen? ⟨w.heap.size, 0, none⟩ = false := fun o => blk_frozen (blk_below HFBn.out (below_alloc (Below.refl _ _) o)) 0
        have f1 : ∀ o, ((wr.drewN n).alloc o).frozen? ⟨w.heap.size, 1, none⟩ = false := fun o => blk_frozen (blk_below HFBn.out (below_alloc (Below.refl _ _) o)) 1
        clear HG2 HRD CE
        go_wp2
        refine bodyPost_ret (v := .tuple #[.agg #[.int .i64 0, .slice none 0 0], .iface 39 (.pointer (some ⟨wr.heap.size, 0, none⟩))]) (by simp [results, Tryz.results8, go_sem, *]) rfl ⟨?_, wr.heap.size, rfl, ?_, ?_⟩
        · exact (((pw_below_drewN HBW2.out n).alloc HBW2.out.size _).setCell (p := ⟨w.heap.size, 0, none⟩) (Nat.le_refl _) _).setCell (p := ⟨w.heap.size, 1, none⟩) (Nat.le_refl _) _
        · have hlt : wr.heap.size ≠ w.heap.size := by have := HSZ2.out; omega
          exact blk_far (p := ⟨w.heap.size, 1, none⟩) (blk_far (p := ⟨w.heap.size, 0, none⟩) (heap_alloc_new (wr.drewN n) _) hlt _) hlt _
        · exact Nat.le_of_succ_le HSZ2.out
end Go.Proofs.YtdbdilajjmijaaaGreatDoor
