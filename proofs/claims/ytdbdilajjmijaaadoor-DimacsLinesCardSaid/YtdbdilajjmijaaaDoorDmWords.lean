import Derived.Test.YtdbdilajjmijaaaDoorDmKd
import Derived.WalkLawsBesides
namespace Go.Proofs.YtdbdilajjmijaaaDoor
open Go Go.RowKit Go.Proofs.YtdbdilajjmijaaaDoorW.PrintWords Go.Proofs.YtdbdilajjmijaaaDoorW.PrintLast Go.Proofs.YtdbdilajjmijaaaDoorW.PrintMore PDimacsBack

/-! dimacs.words -/
theorem iterPos_of {w : World} {k : Nat} {s : ByteArray} {p : Nat} (h : w.heap[k]? = some (.stringIter s p)) : w.iterPos k = p := by simp [World.iterPos, h]

/-- What words' call leaves. -/
def WordsSaid (w : World) (wb : List (List UInt8)) (e : Ending) (w' : World) : Prop := Below w.heap.size w w' ∧ ∃ V ws, e = .returned V ∧ Kd.R Kd.string 9 w' w.heap.size (fun _ => True) V (ws.map bs) ∧ Likes ws wb ∧ (∀ y ∈ ws, y.length ≤ 8388608) ∧ ws.length ≤ 2097152

theorem runes_any (W : World) (base : Nat) (ok : Nat → Prop) (A : Option Addr) (n c : Nat) (rs : List Int) (h : (Kd.int .i32).R 21 W base ok (.slice A n c) rs) :
    (convert 116 9 (.slice A n c)).run Tryd.prog W = .ok (.string (bs (runesL rs))) W := by
  obtain ⟨hn, hc, hr⟩ := Kd.R_reads' h
  have e : bs (runesL rs) = runesBytes rs := by unfold runesL; exact bs_of _
  rw [e]
  cases rs with
  | nil =>
    simp only [List.length_nil] at hn
    subst hn
    cases A with
    | none => exact run_convert_runes_nil W _ _ _ _ _ Tryd.underlying116 Tryd.underlying21 Tryd.underlying9
    | some ad => exact run_convert_runes W _ _ _ ad 0 c [] (Nat.zero_le _) Tryd.underlying116 Tryd.underlying21 Tryd.underlying9 (fun j hj => absurd hj (Nat.not_lt_zero j))
  | cons r rs =>
    obtain ⟨ad, hA, _⟩ := at_num hr 0 (by simp)
    subst hA
    rw [hn]
    have := run_convert_runes W 116 9 21 ad (r :: rs).length c (r :: rs) (Nat.le_refl _) Tryd.underlying116 Tryd.underlying21 Tryd.underlying9 (fun j hj => by
      obtain ⟨ad', e1, hx⟩ := at_num hr j hj
      cases e1
      exact hx)
    rw [List.take_length] at this
    exact this

theorem runes_some {W : World} {base : Nat} {ok : Nat → Prop} {A : Option Addr} {n c : Nat} {rs : List Int} (h : (Kd.int .i32).R 21 W base ok (.slice A n c) rs) : n = rs.length := (Kd.R_reads' h).1

/-- One rune, at a place of the line. -/
structure RuneAt (L : ByteArray) (pos : Nat) (r : Int) (k : Nat) : Prop where
  step : 0 < k
  stay : pos + k ≤ L.size
  what : (∃ c : UInt8, r = (c.toNat : Int) ∧ c.toNat < 128 ∧ k = 1 ∧ L.data.toList.take (pos + k) = L.data.toList.take pos ++ [c]) ∨ (128 ≤ r ∧ ∃ f, High f ∧ L.data.toList.take (pos + k) = L.data.toList.take pos ++ f)
theorem rune_at (L : ByteArray) (pos : Nat) (h : pos < L.size) : RuneAt L pos ((Utf8.decode L pos).1 : Int) (Utf8.decode L pos).2 := by
  by_cases hb : (L.get! pos).toNat < 128
  · have hg : L.get! pos = L[pos]'h := by simp [ByteArray.get!, getElem!_pos, h]; rfl
    rw [hg] at hb
    have e := decode_ascii L pos h hb
    rw [e]
    refine ⟨Nat.one_pos, h, .inl ⟨L[pos]'h, rfl, hb, rfl, ?_⟩⟩
    rw [List.take_succ_eq_append_getElem (by simpa using h)]; rfl
  · obtain ⟨h1, h2, h3, h4⟩ := decode_high L pos h (by omega)
    refine ⟨h2, h3, .inr ⟨by omega, _, h4, ?_⟩⟩
    rw [List.take_add]

/-- What the loop knows: the words that were told and the word at hand are like those of the bytes so far. -/
structure AtW (L : ByteArray) (pos : Nat) (ws : List (List UInt8)) (rs : List Int) : Prop where
  out : Likes ws ((L.data.toList.take pos).foldl wstep ([], [])).1
  cur : Like (runesL rs) ((L.data.toList.take pos).foldl wstep ([], [])).2
  few : ws.length ≤ pos ∧ rs.length ≤ pos
  len : ∀ y ∈ ws, y.length ≤ 4 * pos
theorem AtW.start (L : ByteArray) : AtW L 0 [] [] := ⟨trivial, .inl rfl, by simp, by simp⟩
theorem runesL_ne {rs : List Int} (h : rs ≠ []) : runesL rs ≠ [] := by
  rw [← List.dropLast_concat_getLast h, runesL_snoc]
  intro he
  have h2 := (List.append_eq_nil_iff.1 he).2
  by_cases hr : 128 ≤ rs.getLast h
  · exact (encode_high _ hr).1 h2
  · have hs : (Utf8.encode (rs.getLast h)).size = 0 := by
      have := congrArg List.length h2
      simpa using this
    unfold Utf8.encode at hs
    simp only at hs
    revert hs
    repeat' split
    all_goals (intro hs; cases hs)
theorem runesL_len (rs : List Int) : (runesL rs).length ≤ 4 * rs.length := by
  have := runesBytes_size_le rs
  unfold runesL
  simpa using this
/-- A rune that is no blank. -/
theorem AtW.word {L : ByteArray} {pos k : Nat} {r : Int} {ws : List (List UInt8)} {rs : List Int} (h : AtW L pos ws rs) (hr : RuneAt L pos r k) (h1 : r ≠ 32) (h2 : r ≠ 9) : AtW L (pos + k) ws (rs ++ [r]) := by
  have hs := hr.step
  obtain ⟨a, b, c, d⟩ := h
  rcases hr.what with ⟨ch, hc, hlt, _, ht⟩ | ⟨hh, f, hf, ht⟩
  · have hw : ((L.data.toList.take (pos + k)).foldl wstep ([], [])) = ((((L.data.toList.take pos).foldl wstep ([], [])).1), ((L.data.toList.take pos).foldl wstep ([], [])).2 ++ [ch]) := by
      rw [ht, List.foldl_append, List.foldl_cons, List.foldl_nil]
      generalize (L.data.toList.take pos).foldl wstep ([], []) = s
      unfold wstep
      rw [if_pos]
      constructor
      · rintro rfl; exact h1 (by rw [hc]; rfl)
      · rintro rfl; exact h2 (by rw [hc]; rfl)
    refine ⟨by rw [hw]; exact a, ?_, by simp; omega, fun y hy => by have := d y hy; omega⟩
    rw [hw, runesL_snoc, hc, encode_plain ch hlt]
    exact b.snoc ch
  · have hw : ((L.data.toList.take (pos + k)).foldl wstep ([], [])) = ((((L.data.toList.take pos).foldl wstep ([], [])).1), ((L.data.toList.take pos).foldl wstep ([], [])).2 ++ f) := by
      rw [ht, List.foldl_append, wfold_high f hf]
    refine ⟨by rw [hw]; exact a, ?_, by simp; omega, fun y hy => by have := d y hy; omega⟩
    rw [hw, runesL_snoc]
    exact b.app (encode_high r hh) hf
theorem AtW.blank {L : ByteArray} {pos k : Nat} {r : Int} {ws : List (List UInt8)} {rs : List Int} (h : AtW L pos ws rs) (hr : RuneAt L pos r k) (h1 : r = 32 ∨ r = 9) :
    (rs ≠ [] → AtW L (pos + k) (ws ++ [runesL rs]) []) ∧ (rs = [] → AtW L (pos + k) ws []) := by
  have hs := hr.step
  obtain ⟨a, b, c, d⟩ := h
  rcases hr.what with ⟨ch, hc, hlt, _, ht⟩ | ⟨hh, f, hf, ht⟩
  · have hch : ¬ (ch ≠ 32 ∧ ch ≠ 9) := by
      rintro ⟨x, y⟩
      rcases h1 with h1 | h1
      · exact x (UInt8.toNat_inj.1 (by rw [show (32 : UInt8).toNat = 32 from rfl]; omega))
      · exact y (UInt8.toNat_inj.1 (by rw [show (9 : UInt8).toNat = 9 from rfl]; omega))
    have hw : (L.data.toList.take (pos + k)).foldl wstep ([], []) = wstep ((L.data.toList.take pos).foldl wstep ([], [])) ch := by rw [ht, List.foldl_append, List.foldl_cons, List.foldl_nil]
    generalize (L.data.toList.take pos).foldl wstep ([], []) = s at a b hw
    constructor
    · intro hne
      have hs2 : s.2 ≠ [] := fun he => runesL_ne hne (b.nil.2 he)
      have hw2 : wstep s ch = (s.1 ++ [s.2], []) := by unfold wstep; rw [if_neg hch, if_pos hs2]
      refine ⟨by rw [hw, hw2]; exact a.snoc b, by rw [hw, hw2]; exact .inl rfl, by simp; omega, fun y hy => ?_⟩
      rcases List.mem_append.1 hy with hy | hy
      · have := d y hy; omega
      · simp only [List.mem_singleton] at hy
        subst hy
        have := runesL_len rs
        omega
    · rintro rfl
      have hs2 : s.2 = [] := b.nil.1 rfl
      have hw2 : wstep s ch = s := by unfold wstep; rw [if_neg hch, if_neg (by simp [hs2])]
      refine ⟨by rw [hw, hw2]; exact a, by rw [hw, hw2, hs2]; exact .inl rfl, by simp; omega, fun y hy => by have := d y hy; omega⟩
  · rcases h1 with h1 | h1 <;> omega

set_option maxRecDepth 100000 in
set_option maxHeartbeats 4000000 in
theorem words_any (x : List UInt8) (w : World) (hX : x.length ≤ 1048576) :
    Calls Tryd.prog 39 #[strV x] w (WordsSaid w (wordsB x)) := by
  have hL : (bs x ++ ⟨#[32]⟩ : ByteArray).data.toList = x ++ [32] := by simp [bs]
  have hsz : (bs x ++ ⟨#[32]⟩ : ByteArray).size = x.length + 1 := by rw [ByteArray.size_append]; rfl
  have hov : (9223372036854775807 < (bs x).size + 1) = False := by rw [bs_size]; exact eq_false (by omega)
  show Calls Tryd.prog 39 #[.string (bs x)] w _
  have hwB : wordsB x = ((bs x ++ ⟨#[32]⟩ : ByteArray).data.toList.foldl wstep ([], [])).1 := by rw [hL]; rfl
  rw [hwB]
  have HLz := Aside0.mk hsz
  clear hL hsz hwB
  generalize hbx : bs x = B at *
  clear hbx
  generalize hLL : (B ++ ⟨#[32]⟩ : ByteArray) = L at *
  generalize hWB : (List.foldl wstep ([], []) L.data.toList).1 = WB
  have HWB := Aside0.mk hWB
  clear hWB
  go_enter Tryd.func39, Tryd.ntmps39
  go_wp2
  have HI0 := Aside0.mk (World.iter_heap w L 0)
  have HB0 := Aside0.mk (show Below w.heap.size w (w.iter L 0) from (Below.refl _ _).alloc (Nat.le_refl _) _)
  clear hLL hov
  generalize w.iter L 0 = W0 at *
  go_loopg [3, 4] L.size (fun gk v3 v4 w' => ∃ (pos : Nat) (ws : List (List UInt8)) (rs : List Int), pos + gk = L.size ∧ Aside0 (AtW L pos ws rs) ∧ Aside0 (w'.heap[w.heap.size]? = some (.stringIter L pos)) ∧ Aside0 (Kd.R Kd.string 9 w' w.heap.size (fun _ => True) v3 (ws.map bs)) ∧ Aside0 (Kd.R (Kd.int .i32) 21 w' w.heap.size (fun _ => True) v4 rs) ∧ Aside0 (Below w.heap.size w w'))
  case atStart => exact ⟨0, [], [], by omega, ⟨AtW.start L⟩, HI0, ⟨Kd.R_nil _ _ _ _ _⟩, ⟨Kd.R_nil _ _ _ _ _⟩, HB0⟩
  case round =>
    clear HB0 HI0
    obtain ⟨pos, ws, rs, hpk, HA, HI, HO, HR, HB⟩ := hrel
    by_cases hp : pos < L.size
    · have hnx : ∀ ty, (Instr.next (.pointer (some ⟨w.heap.size, 0, none⟩)) true ty).run Tryd.prog wr = _ := fun ty => Lib.run_next_any_at wr w.heap.size L pos ty HI.out hp
      have HRA := Aside0.mk (rune_at L pos hp)
      have HI2 := Aside0.mk (Lib.iterAt_heap wr w.heap.size L pos (pos + (Utf8.decode L pos).2) HI.out)
      have HB2 := Aside0.mk (Lib.below_iterAt HB.out (k := w.heap.size) (Nat.le_refl _) L (pos + (Utf8.decode L pos).2))
      have HO2 := Aside0.mk (R_iter HO.out HI.out (pos + (Utf8.decode L pos).2))
      have HR2 := Aside0.mk (R_iter HR.out HI.out (pos + (Utf8.decode L pos).2))
      clear HB HO HR HI
      generalize ((Utf8.decode L pos).1 : Int) = r at *
      generalize (Utf8.decode L pos).2 = k at *
      generalize wr.iterAt w.heap.size L (pos + k) = W1 at *
      clear hp
      have hk1 := HRA.out.step
      have hk2 := HRA.out.stay
      have hlen : rs.length ≤ 1048577 ∧ ws.length ≤ 1048577 := by have := HA.out.few; have := HLz.out; omega
      by_cases h1 : r = 32 ∨ r = 9
      · have hAB := HA.out.blank HRA.out h1
        obtain ⟨A4, c4, rfl⟩ := Kd.R_slice HR2.out
        by_cases hrs : rs = []
        · have hA2 := Aside0.mk (hAB.2 hrs)
          clear HA HRA hAB
          subst hrs
          rcases h1 with rfl | rfl
          all_goals
            go_wp2
            go_roundg (L.size - (pos + k))
            case measure => omega
            case rel => exact ⟨pos + k, ws, [], by omega, hA2, HI2, HO2, HR2, HB2⟩
        · have hA2 := Aside0.mk (hAB.1 hrs)
          have q3 : (0 < rs.length) = True := eq_true (List.length_pos_iff.2 hrs)
          have hcv := runes_any W1 w.heap.size (fun _ => True) A4 rs.length c4 rs HR2.out
          have HN := Aside0.mk (Kd.R_nil (Kd.int .i32) 21 W1 w.heap.size (fun _ => True))
          clear HA HRA hAB hrs
          have ht := Aside0.mk (show runesL rs = runesL rs from rfl)
          generalize runesL rs = y at *
          rcases h1 with rfl | rfl
          all_goals
            go_wp2_with (first
              | (rw [hcv])
              | ((with_reducible refine gate_builtin (b := .append) (xs := #[.tmp 28, .tmp 31]) rfl ?_); at_builtin; refine Kd.R_append Kd.string (w0 := w) w.heap.size rfl (.tmp 28) (.tmp 31) 40 9 (.string ⟨#[]⟩) 16 rfl Tryd.underlying40 string_info rfl (by decide) (by decide) _ (ws.map bs) (bs y) [.string (bs y)] (fun _ => True) (fun _ => False) rfl ?aX rfl (fun _ hk => hk.elim) (fun _ _ => trivial) ?aO ?aB ?aS ?aL ?_; (case aX => first | rfl | (simp [Act.eval]; done)); (case aO => exact HO2.out); (case aB => exact HB2.out); (case aS => exact below_size HB2.out); (case aL => rw [List.length_map]; omega)))
            intro v1 w2 ho hb hg hat
            have HI3 := Aside0.mk (iter_grown HI2.out hg (R_ne_iter HO2.out HI2.out))
            have e1 : ws.map bs ++ [bs y] = (ws ++ [y]).map bs := by simp
            rw [e1] at ho
            have HO3 := Aside0.mk ho
            have HB3 := Aside0.mk hb
            clear HI2 HO2 HR2 HB2 hg hb ho hat hcv HN
            go_wp2
            go_roundg (L.size - (pos + k))
            case measure => omega
            case rel => exact ⟨pos + k, ws ++ [y], [], by omega, hA2, HI3, HO3, ⟨Kd.R_nil _ _ _ _ _⟩, HB3⟩
      · have hA2 := Aside0.mk (HA.out.word HRA.out (by omega) (by omega))
        have q1 : (r != 32) = true := by simp; omega
        have q2 : (r != 9) = true := by simp; omega
        clear HA HRA h1
        go_wp2_with (first
          | ((with_reducible refine gate_builtin (b := .append) (xs := #[.tmp 20, .tmp 22]) rfl ?_); at_builtin; refine Kd.R_append (Kd.int .i32) (w0 := w) w.heap.size rfl (.tmp 20) (.tmp 22) 116 21 (.int .i32 0) 4 rfl Tryd.underlying116 rune_info rfl (by decide) (by decide) _ rs r [.int .i32 r] (fun _ => True) (fun _ => False) rfl ?aX rfl (fun _ hk => hk.elim) (fun _ _ => trivial) ?aO ?aB ?aS ?aL ?_; (case aX => first | rfl | (simp [Act.eval]; done)); (case aO => exact HR2.out); (case aB => exact HB2.out); (case aS => exact below_size HB2.out); (case aL => omega)))
        intro v1 w2 ho hb hg hat
        have HI3 := Aside0.mk (iter_grown HI2.out hg (R_ne_iter HR2.out HI2.out))
        have HO3 := Aside0.mk (Kd.R_over HO2.out HR2.out (by decide) hg)
        have HR3 := Aside0.mk ho
        have HB3 := Aside0.mk hb
        clear HI2 HO2 HR2 HB2 hg hb ho hat
        go_wp2
        go_roundg (L.size - (pos + k))
        case measure => omega
        case rel => exact ⟨pos + k, ws, rs ++ [r], by omega, hA2, HI3, HO3, HR3, HB3⟩
    · have hnx : ∀ ty, (Instr.next (.pointer (some ⟨w.heap.size, 0, none⟩)) true ty).run Tryd.prog wr = _ := fun ty => Lib.run_next_end_at wr w.heap.size L pos ty HI.out hp
      obtain ⟨A3, c3, rfl⟩ := Kd.R_slice HO.out
      have hsz := HLz.out
      have ht : L.data.toList.take pos = L.data.toList := List.take_of_length_le (by simp; omega)
      have hout := HA.out.out
      rw [ht, HWB.out] at hout
      have HO2 := HO.out
      rw [List.length_map] at HO2
      have HO3 := Aside0.mk HO2
      have HH := Aside0.mk hout
      have HF := Aside0.mk HA.out.few
      have HL2 := Aside0.mk HA.out.len
      clear HA hout ht HI HO2 HO
      go_wp2
      go_ret
      have hf := HF.out
      exact ⟨HB.out, .slice A3 ws.length c3, ws, by simp, HO3.out, HH.out, fun y hy => by have := HL2.out y hy; omega, by omega⟩
end Go.Proofs.YtdbdilajjmijaaaDoor
