import Derived.Test.YtdbdilajjmijaaaGreatDoorPDimacsCutsx4
import Derived.Test.YtdbdilajjmijaaaGreatDoorDnNumber
import Derived.Test.YtdbdilajjmijaaaGreatDoorDnPlain
import Derived.Test.YtdbdilajjmijaaaGreatDoorDnPrint
import Derived.Test.YtdbdilajjmijaaaGreatDoorDnWord
namespace Go.Proofs.YtdbdilajjmijaaaGreatDoor
open Go Go.RowKit Go.Proofs.YtdbdilajjmijaaaGreatDoorW.PrintWords Go.Proofs.YtdbdilajjmijaaaGreatDoorW.PrintLast Go.Proofs.YtdbdilajjmijaaaGreatDoorW.PrintMore PDimacsCuts

/-! The law's lines: each as its words. -/
def runL : List UInt8 → List (List (List UInt8)) → List (List UInt8) → List UInt8 → List (List (List UInt8))
  | [], out, line, w => out ++ [if w = [] then line else line ++ [w]]
  | c :: r, out, line, w => if c ≠ 10 ∧ c ≠ 32 ∧ c ≠ 9 then runL r out line (w ++ [c]) else
      if c = 10 then runL r (out ++ [if w = [] then line else line ++ [w]]) [] [] else runL r out (if w = [] then line else line ++ [w]) []
def restL (line : List (List UInt8)) (w : List UInt8) : List (List UInt8) → List (List (List UInt8))
  | [] => []
  | x :: xs => ((x ++ [32]).foldl wstep (line, w)).1 :: xs.map wordsB
theorem wstep_blank (line : List (List UInt8)) (w : List UInt8) (c : UInt8) (h : c = 32 ∨ c = 9) : wstep (line, w) c = (if w = [] then line else line ++ [w], []) := by
  by_cases hw : w = []
  · subst hw; rw [if_pos rfl]; exact wfold_none line c h
  · rw [if_neg hw]; exact wfold_blank line w c h hw
theorem runL_eq : ∀ (r : List UInt8) (out : List (List (List UInt8))) (line : List (List UInt8)) (w : List UInt8), runL r out line w = out ++ restL line w (cutC 10 r)
  | [], out, line, w => by
    simp only [runL, cutC, restL, List.nil_append, List.foldl_cons, List.foldl_nil, List.map_nil]
    rw [wstep_blank line w 32 (.inl rfl)]
  | c :: r, out, line, w => by
    simp only [runL, cutC]
    by_cases h1 : c ≠ 10 ∧ c ≠ 32 ∧ c ≠ 9
    · rw [if_pos h1, if_neg h1.1, runL_eq r out line (w ++ [c])]
      congr 1
      cases hc : cutC 10 r with
      | nil => exact absurd hc (cutC_ne 10 r)
      | cons x xs =>
        simp only [restL, List.cons_append, List.foldl_cons]
        have : wstep (line, w) c = (line, w ++ [c]) := by unfold wstep; rw [if_pos h1.2]
        rw [this]
    · rw [if_neg h1]
      by_cases h2 : c = 10
      · rw [if_pos h2, if_pos h2, runL_eq r _ [] []]
        rw [List.append_assoc]
        congr 1
        simp only [restL, List.nil_append, List.foldl_cons, List.foldl_nil]
        rw [wstep_blank line w 32 (.inl rfl)]
        cases hc : cutC 10 r with
        | nil => exact absurd hc (cutC_ne 10 r)
        | cons x xs => rfl
      · rw [if_neg h2, if_neg h2, runL_eq r out _ []]
        congr 1
        have hb : c = 32 ∨ c = 9 := by
          by_cases h3 : c = 32
          · exact .inl h3
          · by_cases h4 : c = 9
            · exact .inr h4
            · exact absurd ⟨h2, h3, h4⟩ h1
        cases hc : cutC 10 r with
        | nil => exact absurd hc (cutC_ne 10 r)
        | cons x xs =>
          simp only [restL, List.cons_append, List.foldl_cons]
          rw [wstep_blank line w c hb]
def mb (ls : List (List (List UInt8))) : List (List ByteArray) := ls.map (·.map bs)
theorem mb_snoc (ls : List (List (List UInt8))) (x : List (List UInt8)) : mb ls ++ [x.map bs] = mb (ls ++ [x]) := by simp [mb]
theorem bt_bs {x : List UInt8} {i : Nat} (h : i < x.length) : bt (bs x) (i : Int) = ((x[i]'h).toNat : Int) := by
  have h1 : (i : Int).toNat < (bs x).size := by rw [Int.toNat_natCast]; exact h
  have := bt_at (bs x) (i : Int) h1
  rw [← this]; rfl
theorem one_byte {x : List UInt8} {i : Nat} (h : i < x.length) (w : List UInt8) : bs w ++ (bs x).extract i (i + 1) = bs (w ++ [x[i]'h]) := by
  apply ByteArray.ext
  apply Array.ext'
  simp only [ByteArray.data_append, ByteArray.data_extract, Array.toList_append, Array.toList_extract]
  have e : (bs x).data.toList = x := rfl
  have e2 : (bs w).data.toList = w := rfl
  have e3 : (bs (w ++ [x[i]'h])).data.toList = w ++ [x[i]'h] := rfl
  rw [e, e2, e3, List.extract_eq_take_drop, show i + 1 - i = 1 by omega, List.drop_eq_getElem_cons h]; rfl
section
variable (x : List UInt8) (hx : x.length ≤ 1048576)
include hx
theorem ln_end (out : List (List (List UInt8))) (line : List (List UInt8)) (w : List UInt8) (ho : out.length ≤ 1048577) (hl : line.length ≤ 1048577) :
    Ev (fun k => bradawllaw03_lines.j1 k (bs x) (mb out) (line.map bs) (bs w) (x.length : Int) false) (mb (runL [] out line w)) := by
  have hw1 : wrap64 ((x.length : Int) + 1) = ((x.length + 1 : Nat) : Int) := by unfold wrap64; omega
  have hsz : (bs x).size = x.length := rfl
  have hmo : (mb out).length = out.length := by simp [mb]
  have last : ∀ ln, Ev (fun k => bradawllaw03_lines.l0 k (bs x) (mb out ++ [ln]) [] ⟨#[]⟩ ((x.length + 1 : Nat) : Int)) (mb out ++ [ln]) := fun ln => Ev.step (fun k => by
    simp only [bradawllaw03_lines.l0]
    rw [if_neg (by rw [hsz]; omega)]) (Ev.now _)
  by_cases hw : w = []
  · subst hw
    have e : mb (runL [] out line []) = mb out ++ [line.map bs] := by simp [runL, mb]
    rw [e]
    refine Ev.step (fun k => ?_) (last _)
    simp only [bradawllaw03_lines.j1]
    rw [if_neg (by simp), if_pos (by rw [toList_bs]), if_pos (by rw [hsz]), if_pos (by omega), hw1]
  · have e : mb (runL [] out line w) = mb out ++ [line.map bs ++ [bs w]] := by simp [runL, mb, hw]
    rw [e]
    refine Ev.step (fun k => ?_) (last _)
    simp only [bradawllaw03_lines.j1, Option.bind_some]
    rw [if_neg (by simp), if_neg (by rw [toList_bs]; exact hw), if_pos (by simp; omega), if_pos (by rw [hsz]), if_pos (by omega), hw1]
theorem ln_l0 : ∀ (m i : Nat) (out : List (List (List UInt8))) (line : List (List UInt8)) (w : List UInt8), i + m = x.length → out.length ≤ i → line.length ≤ i → w.length ≤ i →
    Ev (fun k => bradawllaw03_lines.l0 k (bs x) (mb out) (line.map bs) (bs w) (i : Int)) (mb (runL (x.drop i) out line w))
  | 0, i, out, line, w, hi, ho, hl, hw => by
    have h := ln_end x hx out line w (by omega) (by omega)
    obtain rfl : i = x.length := by omega
    rw [List.drop_length]
    refine Ev.step (fun k => ?_) h
    have hsz : (bs x).size = x.length := rfl
    simp only [bradawllaw03_lines.l0]
    rw [if_pos (by rw [hsz]; omega), if_neg (by rw [hsz]; omega)]
  | m + 1, i, out, line, w, hi, ho, hl, hw => by
    have hil : i < x.length := by omega
    have hsz : (bs x).size = x.length := rfl
    have hmo : (mb out).length = out.length := by simp [mb]
    have hw1 : wrap64 ((i : Int) + 1) = ((i + 1 : Nat) : Int) := by unfold wrap64; omega
    have hbt := bt_bs hil
    have hone := one_byte hil w
    have hdrop : x.drop i = x[i] :: x.drop (i + 1) := List.drop_eq_getElem_cons hil
    rw [hdrop]
    generalize x[i] = c at *
    have e10 : (c.toNat : Int) = 10 ↔ c = 10 := ⟨fun h => UInt8.toNat_inj.1 (by rw [show (10 : UInt8).toNat = 10 from rfl]; omega), fun h => by rw [h]; rfl⟩
    have e32 : (c.toNat : Int) = 32 ↔ c = 32 := ⟨fun h => UInt8.toNat_inj.1 (by rw [show (32 : UInt8).toNat = 32 from rfl]; omega), fun h => by rw [h]; rfl⟩
    have e9 : (c.toNat : Int) = 9 ↔ c = 9 := ⟨fun h => UInt8.toNat_inj.1 (by rw [show (9 : UInt8).toNat = 9 from rfl]; omega), fun h => by rw [h]; rfl⟩
    simp only [runL]
    by_cases h1 : c ≠ 10 ∧ c ≠ 32 ∧ c ≠ 9
    · rw [if_pos h1]
      have h := ln_l0 m (i + 1) out line (w ++ [c]) (by omega) (by omega) (by omega) (by simp; omega)
      have hj : Ev (fun k => bradawllaw03_lines.j1 k (bs x) (mb out) (line.map bs) (bs w) (i : Int) true) (mb (runL (x.drop (i + 1)) out line (w ++ [c]))) := by
        refine Ev.step (fun k => ?_) h
        simp only [bradawllaw03_lines.j1]
        rw [if_pos trivial, hw1, if_pos (by omega), if_pos (by omega), if_pos (by rw [hsz]; omega), Int.toNat_natCast, Int.toNat_natCast]
        have hs1 : ((bs x).extract i (i + 1)).size = 1 := by rw [ByteArray.size_extract, hsz]; omega
        rw [hs1, bs_size, if_pos (by omega), hone]
      refine Ev.step (fun k => ?_) hj
      simp only [bradawllaw03_lines.l0]
      rw [if_pos (by rw [hsz]; omega), if_pos (by rw [hsz]; omega), if_pos (by omega), hbt]
      rw [if_neg (fun h => h1.1 (e10.1 h)), if_neg (fun h => h1.2.1 (e32.1 h))]
      have : ((c.toNat : Int) != 9) = true := by simpa using fun h => h1.2.2 (e9.1 h)
      rw [this]
    · rw [if_neg h1]
      have step1 : ∀ k, bradawllaw03_lines.l0 (k + 1) (bs x) (mb out) (line.map bs) (bs w) (i : Int) = bradawllaw03_lines.j1 k (bs x) (mb out) (line.map bs) (bs w) (i : Int) false := fun k => by
        simp only [bradawllaw03_lines.l0]
        rw [if_pos (by rw [hsz]; omega), if_pos (by rw [hsz]; omega), if_pos (by omega), hbt]
        by_cases h2 : c = 10
        · rw [if_pos (e10.2 h2)]
        · rw [if_neg (fun h => h2 (e10.1 h))]
          by_cases h3 : c = 32
          · rw [if_pos (e32.2 h3)]
          · rw [if_neg (fun h => h3 (e32.1 h))]
            have h4 : c = 9 := Classical.byContradiction fun h4 => h1 ⟨h2, h3, h4⟩
            have : ((c.toNat : Int) != 9) = false := by simpa using e9.2 h4
            rw [this]
      refine Ev.step step1 ?_
      have hempty : (⟨#[]⟩ : ByteArray) = bs [] := rfl
      by_cases hwe : w = []
      · subst hwe
        rw [if_pos rfl]
        by_cases h2 : c = 10
        · rw [if_pos h2]
          have h := ln_l0 m (i + 1) (out ++ [line]) [] [] (by omega) (by simp; omega) (by simp) (by simp)
          refine Ev.step (fun k => ?_) h
          simp only [bradawllaw03_lines.j1]
          rw [if_neg (by simp), if_pos (by rw [toList_bs]), if_neg (by rw [hsz]; omega), if_pos (by omega), if_pos (by rw [hsz]; omega), hbt, if_pos (e10.2 h2), if_pos (by omega), hw1, ← mb_snoc]
          rfl
        · rw [if_neg h2]
          have h := ln_l0 m (i + 1) out line [] (by omega) (by omega) (by omega) (by simp)
          refine Ev.step (fun k => ?_) h
          simp only [bradawllaw03_lines.j1]
          rw [if_neg (by simp), if_pos (by rw [toList_bs]), if_neg (by rw [hsz]; omega), if_pos (by omega), if_pos (by rw [hsz]; omega), hbt, if_neg (fun h => h2 (e10.1 h)), hw1]
          rfl
      · rw [if_neg hwe]
        have hmap : line.map bs ++ [bs w] = (line ++ [w]).map bs := by simp
        by_cases h2 : c = 10
        · rw [if_pos h2]
          have h := ln_l0 m (i + 1) (out ++ [line ++ [w]]) [] [] (by omega) (by simp; omega) (by simp) (by simp)
          refine Ev.step (fun k => ?_) h
          simp only [bradawllaw03_lines.j1, Option.bind_some]
          rw [if_neg (by simp), if_neg (by rw [toList_bs]; exact hwe), if_pos (by simp; omega), if_neg (by rw [hsz]; omega), if_pos (by omega), if_pos (by rw [hsz]; omega), hbt, if_pos (e10.2 h2), if_pos (by omega), hw1, hmap, ← mb_snoc]
          rfl
        · rw [if_neg h2]
          have h := ln_l0 m (i + 1) out (line ++ [w]) [] (by omega) (by omega) (by simp; omega) (by simp)
          refine Ev.step (fun k => ?_) h
          simp only [bradawllaw03_lines.j1, Option.bind_some]
          rw [if_neg (by simp), if_neg (by rw [toList_bs]; exact hwe), if_pos (by simp; omega), if_neg (by rw [hsz]; omega), if_pos (by omega), if_pos (by rw [hsz]; omega), hbt, if_neg (fun h => h2 (e10.1 h)), hw1, hmap]
          rfl
end
theorem lines_ok (x : List UInt8) (hx : x.length ≤ 1048576) : ∃ k, bradawllaw03_lines.f k (bs x) = some (mb ((cutC 10 x).map wordsB)) := by
  have h := ln_l0 x hx x.length 0 [] [] [] (by omega) (by simp) (by simp) (by simp)
  have e : runL (x.drop 0) [] [] [] = (cutC 10 x).map wordsB := by
    rw [List.drop_zero, runL_eq, List.nil_append]
    cases hc : cutC 10 x with
    | nil => rfl
    | cons y ys => rfl
  rw [e] at h
  obtain ⟨k, hk⟩ := h.rounds
  exact ⟨k, hk⟩
theorem lines_law (x : List UInt8) (w : World) (hx : x.length ≤ 1048576) :
    Calls Tryz.prog 18 #[strV x] w fun e w' => Below w.heap.size w w' ∧ ∃ V, e = .returned V ∧ Kd.S (Kd.slice 9 Kd.string) 55 w' w.heap.size (fun _ => True) V (mb ((cutC 10 x).map wordsB)) := by
  obtain ⟨k, hk⟩ := lines_ok x hx
  refine (bradawllaw03_lines.calls k (bs x) _ w hk).mono ?_
  rintro e w' ⟨v, he, hs, hb⟩
  exact ⟨hb, v, he, hs⟩
end Go.Proofs.YtdbdilajjmijaaaGreatDoor
namespace Go.Proofs.YtdbdilajjmijaaaGreatDoor
open Go Go.RowKit Go.Proofs.YtdbdilajjmijaaaGreatDoorW.PrintWords Go.Proofs.YtdbdilajjmijaaaGreatDoorW.PrintLast Go.Proofs.YtdbdilajjmijaaaGreatDoorW.PrintMore PDimacsCuts

/-! The law's number. -/
structure EnvA (w : World) : Prop where
  syn : ∃ tp p, w.var? Tryz.prog "strconv.ErrSyntax" = some #[.iface tp p]
  ran : ∃ tp p, w.var? Tryz.prog "strconv.ErrRange" = some #[.iface tp p]
theorem EnvA.below {w w' : World} (h : EnvA w) (B : Below w.heap.size w w') : EnvA w' := by
  obtain ⟨a, b, hs⟩ := h.syn
  obtain ⟨a', b', hr⟩ := h.ran
  exact ⟨⟨a, b, var_below hs B⟩, ⟨a', b', var_below hr B⟩⟩
theorem bytes_world_below (w : World) (t : ByteArray) : Below w.heap.size w (Lib.bytesWorld w 5 t) := bytes_below (Below.refl _ _) (Nat.le_refl _) _ _
theorem atoi_any (v : List UInt8) (hv : v.length ≤ 1099511627776) (w : World) (E : EnvA w) :
    Calls Tryz.prog 34 #[strV v] w fun e w' => Below w.heap.size w w' ∧ ((∃ l, Lib.atoiAll v = .ok l ∧ e = .returned (.tuple #[.int .i64 l, .nilIface])) ∨ ((∀ l, Lib.atoiAll v ≠ .ok l) ∧ ∃ k t a, e = .returned (.tuple #[.int .i64 k, .iface t a]))) := by
  have hsz : (⟨v.toArray⟩ : ByteArray).size = v.length := rfl
  have hd : (⟨v.toArray⟩ : ByteArray).data.toList = v := rfl
  cases h : Lib.atoiAll v with
  | ok l =>
    refine (Tryz.strconv_Atoi_ok ⟨v.toArray⟩ (by rw [hsz]; omega) l (by rw [hd]; exact h) w).mono ?_
    rintro e w' ⟨rfl, hw⟩
    refine ⟨?_, .inl ⟨l, rfl, rfl⟩⟩
    rcases hw with rfl | ⟨t, rfl⟩
    · exact Below.refl _ _
    · exact bytes_world_below w t
  | «syntax» =>
    obtain ⟨tp, p, hp⟩ := E.syn
    refine (Tryz.strconv_Atoi_syntax_var ⟨v.toArray⟩ (by rw [hsz]; omega) (by rw [hd]; exact h) tp p w hp).mono ?_
    rintro e w' ⟨N, rfl, _, _, hb⟩
    exact ⟨hb, .inr ⟨fun l hl => (by cases hl), _, _, _, rfl⟩⟩
  | range =>
    obtain ⟨tp, p, hp⟩ := E.ran
    refine (Tryz.strconv_Atoi_range_var ⟨v.toArray⟩ (by rw [hsz]; omega) (by rw [hd]; exact h) tp p w hp).mono ?_
    rintro e w' ⟨N, rfl, _, _, hb⟩
    exact ⟨hb, .inr ⟨fun l hl => (by cases hl), _, _, _, rfl⟩⟩
theorem atoi_le {v : List UInt8} {l : Int} (h : Lib.atoiAll v = .ok l) : l ≤ 9223372036854775807 := by
  unfold Lib.atoiAll at h
  split at h
  · cases h
  · simp only at h
    split at h
    · cases h
    · cases h
    · split at h
      · cases h
      · split at h
        · cases h
        · injection h with h
          subst h
          split <;> omega
def numI (x : List UInt8) : Int := match numW x with
  | some n => (n : Int)
  | none => -1
theorem numI_eq (x : List UInt8) : numI x = match lawNum x with
  | some n => (n : Int)
  | none => -1 := by rw [lawNum_eq]; rfl

set_option maxRecDepth 100000 in
set_option maxHeartbeats 4000000 in
theorem lawnum_any (x : List UInt8) (w : World) (hx : x.length ≤ 1099511627776) (E : Env w) (EA : EnvA w) :
    Calls Tryz.prog 19 #[strV x] w (Said w (.int .i64 (numI x))) := by
  have C := atoi_any x hx w EA
  have hxs : strV x = .string (bs x) := rfl
  rw [hxs] at C ⊢
  have HE := Aside0.mk E
  have HN := Aside0.mk (numI_eq x)
  have hsz : (bs x).size = x.length := rfl
  have htl := toList_bs x
  clear hxs E EA
  generalize numI x = R at *
  generalize bs x = X at *
  go_enter Tryz.func19, Tryz.ntmps19
  go_wp2_with (go_at_call 34; refine C.mono ?_)
  rintro e w2 ⟨hb, ⟨l, hl, rfl⟩ | ⟨hne, k, t, a, rfl⟩⟩
  · have HB := Aside0.mk hb
    clear hb C
    by_cases h0 : l < 0
    · have hR : R = -1 := by
        rw [HN.out]; unfold lawNum; rw [hl]; simp only
        rw [if_neg (by omega)]
      subst hR
      clear HN hl htl
      go_wp2
      go_ret
      exact ⟨rfl, HB.out⟩
    · have q0 : (l < 0) = False := eq_false h0
      by_cases h9 : 9 < x.length
      · have hR : R = -1 := by
          rw [HN.out]; unfold lawNum; rw [hl]; simp only
          rw [if_neg (by omega)]
        subst hR
        have q9 : (9 < (X.size : Int)) = True := eq_true (by omega)
        clear HN hl htl
        go_wp2
        go_ret
        exact ⟨rfl, HB.out⟩
      · have q9 : (9 < (X.size : Int)) = False := eq_false (by omega)
        have CI := itoa_any l (by omega) (atoi_le hl) w2 (HE.out.below HB.out)
        have CI : Calls Tryz.prog 14 #[.int .i64 l] w2 (Said w2 (.string (bs (Lib.itoa l)))) := CI
        have hti := toList_bs (Lib.itoa l)
        by_cases hi : Lib.itoa l = x
        · have hR : R = l := by
            rw [HN.out]; unfold lawNum; rw [hl]; simp only
            rw [if_pos ⟨by omega, by omega, hi⟩]
            show ((l.toNat : Nat) : Int) = l
            omega
          subst hR
          have hn : ((bs (Lib.itoa R)).toList == X.toList) = true := by rw [hti, hi, htl]; simp
          clear HN hl htl hti hi hsz
          generalize bs (Lib.itoa R) = Y at *
          go_wp2_with (go_at_call 14; refine CI.mono ?_; rintro e w8 ⟨rfl, hb⟩; have HB2 := Aside0.mk (below_step (by repeat (first | (with_reducible first | exact HB.out | apply below_alloc | apply pw_below_drewN | apply below_drew1) | exact HB.out)) hb); clear HB; have HB := HB2; clear HB2 hb)
          go_ret
          exact ⟨rfl, HB.out⟩
        · have hR : R = -1 := by
            rw [HN.out]; unfold lawNum; rw [hl]; simp only
            rw [if_neg (fun h => hi h.2.2)]
          subst hR
          have hn : ((bs (Lib.itoa l)).toList == X.toList) = false := by rw [hti, htl]; simpa using hi
          clear HN hl htl hti hi hsz
          generalize bs (Lib.itoa l) = Y at *
          go_wp2_with (go_at_call 14; refine CI.mono ?_; rintro e w8 ⟨rfl, hb⟩; have HB2 := Aside0.mk (below_step (by repeat (first | (with_reducible first | exact HB.out | apply below_alloc | apply pw_below_drewN | apply below_drew1) | exact HB.out)) hb); clear HB; have HB := HB2; clear HB2 hb)
          go_ret
          exact ⟨rfl, HB.out⟩
  · have HB := Aside0.mk hb
    have hR : R = -1 := by
      rw [HN.out]; unfold lawNum
      cases ha : Lib.atoiAll x with
      | ok l => exact absurd ha (hne l)
      | «syntax» => rfl
      | range => rfl
    subst hR
    clear hb C HN hne htl
    go_wp2
    go_ret
    exact ⟨rfl, HB.out⟩
end Go.Proofs.YtdbdilajjmijaaaGreatDoor
namespace Go.Proofs.YtdbdilajjmijaaaGreatDoor
open Go Go.RowKit Go.Proofs.YtdbdilajjmijaaaGreatDoorW.PrintWords Go.Proofs.YtdbdilajjmijaaaGreatDoorW.PrintLast Go.Proofs.YtdbdilajjmijaaaGreatDoorW.PrintMore PDimacsCuts

/-! The law's parser: its plain side, its memory. -/
def linesW : Nat → Rdr → List (List (List UInt8)) → (Nat × Nat) ⊕ Rdr
  | _, r, [] => .inr r
  | i, r, x :: xs => if (lineW r x).1 = 0 then linesW (i + 1) (lineW r x).2 xs else .inl (i + 1, (lineW r x).1)
theorem linesR_W : ∀ (ls : List (List UInt8)) (i : Nat) (r : Rdr), linesR i r ls = linesW i r (ls.map wordsB)
  | [], _, _ => rfl
  | x :: xs, i, r => by
    simp only [linesR, List.map_cons, linesW, lineR_W]
    rw [linesR_W xs]
theorem words_fold (N : Nat) : ∀ (xs : List UInt8) (out : List (List UInt8)) (w : List UInt8), (∀ y ∈ out, y ≠ [] ∧ y.length ≤ N) → w.length + xs.length ≤ N → out.length + xs.length ≤ N → ((∀ y ∈ (xs.foldl wstep (out, w)).1, y ≠ [] ∧ y.length ≤ N) ∧ (xs.foldl wstep (out, w)).1.length ≤ N)
  | [], out, w, h, _, h2 => ⟨h, h2⟩
  | c :: xs, out, w, h, hl, h2 => by
    rw [List.foldl_cons]
    simp only [List.length_cons] at hl h2
    unfold wstep
    split
    · exact words_fold N xs out (w ++ [c]) h (by simp; omega) (by omega)
    · split
      · rename_i hw
        refine words_fold N xs (out ++ [w]) [] (fun y hy => ?_) (by simp; omega) (by simp; omega)
        rcases List.mem_append.1 hy with hy | hy
        · exact h y hy
        · simp only [List.mem_singleton] at hy; subst hy; exact ⟨hw, by omega⟩
      · exact words_fold N xs out w h (by simp at *; omega) (by omega)
theorem words_len (x : List UInt8) : (∀ y ∈ wordsB x, y ≠ [] ∧ y.length ≤ x.length + 1) ∧ (wordsB x).length ≤ x.length + 1 :=
  words_fold (x.length + 1) (x ++ [32]) [] [] (by simp) (by simp) (by simp)
/-- How many clauses the header says, to the law: -1 ahead of it. -/
def clI (r : Rdr) : Int := if r.head then (r.n : Int) else -1

structure PS (w w1 w' : World) (Vc Vo : Value) (r : Rdr) : Prop where
  blk : w'.heap[w.heap.size + 1]? = some (.cells #[.int .i64 (r.vars : Int), Vc] 29 (0, 0))
  res : w'.heap[w.heap.size]? = some (.cells #[.int .i64 0, .slice none 0 0] 29 (0, 0))
  cls : Kd.R kForm 46 w' w1.heap.size (fun k => True ∧ some k ≠ Vo.ownBlock) Vc r.cls
  opn : Kd.R (Kd.int .i64) 3 w' w1.heap.size (fun _ => True) Vo r.opn
  below : Below w.heap.size w w'
  keep : KeepBut w1 w' (w.heap.size + 1) none
  sz : w.heap.size + 2 ≤ w1.heap.size
section
variable {w w1 w' w2 : World} {Vc Vo : Value} {r : Rdr}
theorem PS.step (h : PS w w1 w' Vc Vo r) (hb : Below w'.heap.size w' w2) : PS w w1 w2 Vc Vo r :=
  ⟨blk_below h.blk hb, blk_below h.res hb, Kd.R_below h.cls hb, Kd.R_below h.opn hb, below_step h.below hb, h.keep.trans (KeepBut.of_below hb _ none) (.inl rfl), h.sz⟩
theorem PS.drewN (h : PS w w1 w' Vc Vo r) (n : Nat) : PS w w1 (w'.drewN n) Vc Vo r := h.step (pw_below_drewN (Below.refl _ _) n)
theorem PS.c0 (h : PS w w1 w' Vc Vo r) : w'.cell? ⟨w.heap.size + 1, 0, none⟩ = some (.int .i64 (r.vars : Int)) := (blk_cell h.blk 0).trans rfl
theorem PS.c1 (h : PS w w1 w' Vc Vo r) : w'.cell? ⟨w.heap.size + 1, 1, none⟩ = some Vc := (blk_cell h.blk 1).trans rfl
theorem PS.r0 (h : PS w w1 w' Vc Vo r) : w'.cell? ⟨w.heap.size, 0, none⟩ = some (.int .i64 0) := (blk_cell h.res 0).trans rfl
theorem PS.r1 (h : PS w w1 w' Vc Vo r) : w'.cell? ⟨w.heap.size, 1, none⟩ = some (.slice none 0 0) := (blk_cell h.res 1).trans rfl
theorem PS.le (h : PS w w1 w' Vc Vo r) : w1.heap.size ≤ w'.heap.size := keep_size h.keep
/-- The header's first number is stored. -/
theorem PS.vars (h : PS w w1 w' Vc Vo r) (v : Nat) (r' : Rdr) (h1 : r'.vars = v) (h2 : r'.cls = r.cls) (h3 : r'.opn = r.opn) : PS w w1 (w'.setCell ⟨w.heap.size + 1, 0, none⟩ (.int .i64 (v : Int))) Vc Vo r' := by
  refine ⟨?_, blk_far h.res (p := ⟨w.heap.size + 1, 0, none⟩) (by simp) _, ?_, ?_, h.below.setCell (p := ⟨w.heap.size + 1, 0, none⟩) (by simp) _, h.keep.set_ 0 _, h.sz⟩
  · rw [h1]; exact blk_put (cs' := #[.int .i64 (v : Int), Vc]) h.blk 0 _ rfl
  · rw [h2]; exact Kd.R_set h.cls h.blk (by decide) 0 _
  · rw [h3]; exact Kd.R_set h.opn h.blk (by decide) 0 _
theorem PS.rowKeep {row : Option Nat} (h : PS w w1 w' Vc Vo r) (hg : w'.grownBy w2 row) (hrow : ∀ k, row = some k → w1.heap.size ≤ k) : KeepBut w1 w2 (w.heap.size + 1) none ∧ Below w.heap.size w w2 := by
  have hs := h.sz
  have hl := h.le
  refine ⟨h.keep.trans (KeepBut.of_grown hg _) ?_, h.below.grown hg (by omega) (fun k hk => by have := hrow k hk; omega)⟩
  cases row with
  | none => exact .inl rfl
  | some k => exact .inr ⟨k, rfl, hrow k rfl⟩
/-- A clause is closed. -/
theorem PS.close {v1 : Value} (h : PS w w1 w' Vc Vo r) (ho : Kd.R kForm 46 w2 w1.heap.size (fun _ => True) v1 (r.cls ++ [r.opn])) (hg : w'.grownBy w2 Vc.ownBlock) :
    w2.cell? ⟨w.heap.size + 1, 1, none⟩ = some Vc ∧ w2.frozen? ⟨w.heap.size + 1, 1, none⟩ = false ∧ PS w w1 (w2.setCell ⟨w.heap.size + 1, 1, none⟩ v1) v1 (.slice none 0 0) { r with cls := r.cls ++ [r.opn], opn := [] } := by
  obtain ⟨hk, hbw⟩ := h.rowKeep hg (Kd.R_base h.cls)
  have hb1 := blk_grown h.blk hg (Kd.R_ne h.cls h.blk (by decide))
  have hr1 := blk_grown h.res hg (Kd.R_ne h.cls h.res (by decide))
  refine ⟨(blk_cell hb1 1).trans rfl, blk_frozen hb1 1, blk_put (cs' := #[.int .i64 (r.vars : Int), v1]) hb1 1 _ rfl, blk_far hr1 (p := ⟨w.heap.size + 1, 1, none⟩) (by simp) _, ?_, Kd.R_nil _ _ _ _ _, hbw.setCell (p := ⟨w.heap.size + 1, 1, none⟩) (by simp) _, hk.set_ 1 _, h.sz⟩
  exact Kd.R_apart_nil (Kd.R_set ho hb1 (by decide) 1 _)
/-- A literal is added. -/
theorem PS.push {v1 : Value} {l : Int} {n : Nat} (h : PS w w1 w' Vc Vo r) (ho : Kd.R (Kd.int .i64) 3 w2 w1.heap.size (fun _ => True) v1 (r.opn ++ [l])) (hg : w'.grownBy w2 Vo.ownBlock) (hat : v1.ownBlock = Vo.ownBlock ∨ ∃ b, v1.ownBlock = some b ∧ w'.heap.size ≤ b) :
    PS w w1 w2 Vc v1 { r with lits := n, opn := r.opn ++ [l] } := by
  obtain ⟨hk, hbw⟩ := h.rowKeep hg (Kd.R_base h.opn)
  exact ⟨blk_grown h.blk hg (Kd.R_ne h.opn h.blk (by decide)), blk_grown h.res hg (Kd.R_ne h.opn h.res (by decide)), Kd.R_after h.cls hg hat, ho, hbw, hk, h.sz⟩
end

/-- What the law's parser leaves. -/
def ParsedSaid (w : World) (g : (Nat × Nat) ⊕ Rdr) (e : Ending) (w' : World) : Prop := Below w.heap.size w w' ∧ match g with
  | .inl (i, k) => e = .returned (.tuple #[.agg #[.int .i64 0, .slice none 0 0], .int .i64 (i : Int), .int .i64 (k : Int)])
  | .inr r => ∃ V, e = .returned (.tuple #[.agg #[.int .i64 (r.vars : Int), V], .int .i64 0, .int .i64 0]) ∧ Kd.R kForm 46 w' w.heap.size (fun _ => True) V r.cls

/-- The lines' rows, at the parser's world. -/
abbrev kLn : Kd (List ByteArray) := Kd.slice 9 Kd.string
theorem ln_keep {w w1 w' : World} {Vc Vo V : Value} {r : Rdr} {ls : List (List ByteArray)} {b : Nat} (h : PS w w1 w' Vc Vo r) (hb : w1.heap[w.heap.size + 1]? = some (.cells #[.int .i64 0, .slice none 0 0] 29 (0, 0))) (hl : Kd.R kLn 55 w1 b (fun _ => True) V ls) : Kd.R kLn 55 w' b (fun _ => True) V ls :=
  Kd.R_drop (ok' := fun k => k ≠ w.heap.size + 1) (Kd.R_keep (Kd.R_types hl hb (by decide)) h.keep (fun _ hk => hk.2))
theorem at_line {w : World} {A : Option Addr} {n : Nat} {ls : List (List (List UInt8))} (h : Kd.C kLn w A n (mb ls)) (j : Nat) (hj : j < n) : ∃ ad A1 c1, A = some ad ∧ w.cell? (ad.add j) = some (.slice A1 (nth ls [] j).length c1) ∧ (nth ls [] j).length ≤ c1 ∧ Kd.C Kd.string w A1 (nth ls [] j).length ((nth ls [] j).map bs) := by
  obtain ⟨ad, A1, c1, h1, h2, h3, h4⟩ := PDimacsCuts.at_L6 h (j : Int) (by omega) (by omega)
  have hn := Kd.C_len h
  have e : PDimacsCuts.rd_L6 (mb ls) (j : Int) = (nth ls [] j).map bs := by
    unfold PDimacsCuts.rd_L6 nth
    have hl : j < ls.length := by simp [mb] at hn; omega
    rw [Int.toNat_natCast, List.getD_eq_getElem?_getD, List.getD_eq_getElem?_getD, mb, List.getElem?_map, List.getElem?_eq_getElem hl]
    rfl
  rw [e, List.length_map] at h2 h3 h4
  exact ⟨ad, A1, c1, h1, h2, h3, h4⟩
end Go.Proofs.YtdbdilajjmijaaaGreatDoor
