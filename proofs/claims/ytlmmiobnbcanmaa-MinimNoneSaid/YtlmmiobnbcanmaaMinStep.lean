import Derived.Test.YtlmmiobnbcanmaaMinim
namespace Go.Proofs.Ytlmmiobnbcanmaa
open Go.RowKit

section
variable {γ γ' : Tags} {w w' : World} {h : MnH} {inn : Int → Bool} {st : Int → Int} {s : TrailS} {ha : ArH} {m : ArM}

/-- With the stack of a search. -/
structure Stk (γ : Tags) (w : World) (s : TrailS) (ha : ArH) (m : ArM) (h : MnH) (inn : Int → Bool) (st : Int → Int) (g n cap : Nat) (xs : List Value) : Prop where
  mini : Mini γ w [0, 0] [0, 1] [0, 2] s ha m h inn st
  row : Row γ w [0, 3] 71 2 (some ⟨g, 0, none⟩) n cap xs

variable {g n cap : Nat} {xs : List Value}
theorem Stk.drewN (Z : Stk γ w s ha m h inn st g n cap xs) (k : Nat) : Stk γ (w.drewN k) s ha m h inn st g n cap xs := ⟨Z.mini.drewN k, Z.row.drewN k⟩
theorem Stk.turn4 (Z : Stk γ w s ha m h inn st g n cap xs) (T : Turn γ γ' w w' [[0, 4]]) : Stk γ' w' s ha m h inn st g n cap xs := ⟨Z.mini.turn T (by simp) (by simp) (by simp), Z.row.turn T (by simp)⟩
theorem Stk.at_ {j : Nat} (Z : Stk γ w s ha m h inn st g n cap xs) (hj : j < xs.length) (v : Value) :
    Stk γ (w.setCell ⟨g, j, none⟩ v) s ha m h inn st g n cap (xs.set j v) ∧ Turn γ γ w (w.setCell ⟨g, j, none⟩ v) [[0, 3]] := by
  have T := Z.row.turned j v
  exact ⟨⟨Z.mini.turn T (by simp) (by simp) (by simp), Z.row.set hj v⟩, T⟩
/-- What is known of a variable is told. -/
theorem Stk.told (Z : Stk γ w s ha m h inn st g n cap xs) {v : Int} (hv : I64 v) (x : Int) (hsz : h.sz < 100000000) :
    ∃ w2, (Instr.mapUpdate 39 (.map (some h.sb)) (.int .i64 v) (.int .i64 x)).run Try.prog w.drew = .ok () w2 ∧ (∃ h2 : MnH, h2.b = h.b ∧ h2.tb = h.tb ∧ h2.sz ≤ h.sz + 1 ∧ Stk γ w2 s ha m h2 inn (upd st v x) g n cap xs) ∧ Turn γ γ w w2 [[0, 2]] := by
  have Zd := Z.drewN 1
  obtain ⟨w2, hrun, M2, T2⟩ := Zd.mini.mn.sm.put Try.tyII (show h.sz < maxLen by unfold maxLen; omega) hv (.int .i64 x)
  have T2' : Turn γ γ (w.drewN 1) w2 [[0, 2]] := T2.to (by simp)
  refine ⟨w2, hrun, ⟨{ h with fs := mset h.fs v (.int .i64 x), sz := (if (h.fs v).isSome then h.sz else h.sz + 1) }, rfl, rfl, by dsimp only; split <;> omega, ?_⟩, ((Turn.refl γ w [[0, 2]]).drewN 1).trans T2'⟩
  refine ⟨⟨Zd.mini.tr.turn T2' (by simp), Zd.mini.ar.turn T2' (by simp), Z.mini.ab, ⟨Zd.mini.mn.head.turn T2 (by simp), Zd.mini.mn.im.turn T2 (by simp), M2, Z.mini.mn.inn, fun y => ?_⟩⟩, Zd.row.turn T2' (by simp)⟩
  unfold mset upd
  by_cases hy : y = v
  · simp [hy]
  · simp only [hy, if_false]; exact Z.mini.mn.st y

set_option maxRecDepth 100000 in
set_option maxHeartbeats 4000000 in
theorem mn_step {L : List Int} {j k0 : Nat} {v : Int} (Z : Stk γ w s ha m h inn st g n cap xs) (hL : LitsOf [0, 1] [0, 4] ha m (s.reason v) L)
    (hv1 : xs[j]? = some (.int .i64 v)) (hv2 : xs[j + 1]? = some (.int .i64 k0)) (hvI : I64 v) (hk0 : k0 ≤ L.length) (hLl : L.length ≤ 1000000) (hLb : ∀ x ∈ L, -1000000 ≤ x ∧ x ≤ 1000000 ∧ x ≠ 0) (hsz : h.sz < 100000000) :
    Calls Try.prog 40 #[.pointer (some ⟨h.b, 0, none⟩), .pointer (some ⟨g, j, none⟩)] w
      (Gives γ w [[0, 2], [0, 3], [0, 4]] fun rv γ' w' => rv = .int .i64 (stepS inn s L v k0 st).1 ∧ ∃ h2 : MnH, h2.b = h.b ∧ h2.tb = h.tb ∧ h2.sz ≤ h.sz + 1 ∧ Stk γ' w' s ha m h2 inn (stepS inn s L v k0 st).2.2 g n cap (xs.set (j + 1) (.int .i64 (stepS inn s L v k0 st).2.1))) := by
  have f0 := Z.mini.mn.f0
  have f1 := Z.mini.mn.f1
  have c0 := Z.row.cell hv1
  rw [Z.mini.ab] at f1
  have Zd := Lib.hid (Z.drewN 1)
  have Zn := Lib.hid (fun k => Z.drewN k)
  have hjx : j + 1 < xs.length := (List.getElem?_eq_some_iff.1 hv2).1
  have hxs : xs.set (j + 1) (.int .i64 k0) = xs := by
    obtain ⟨h1, h2⟩ := List.getElem?_eq_some_iff.1 hv2
    conv => rhs; rw [← List.set_getElem_self h1, h2]
  have Zh := Lib.hid Z
  have hv1h := Lib.hid hv1
  have hxsh := Lib.hid hxs
  have hLh := Lib.hid hL
  obtain ⟨R, hR⟩ : ∃ R, scanS inn (firstS st s) v (L.drop k0) k0 = R := ⟨_, rfl⟩
  have hRh := Lib.hid hR
  have hst : stepS inn s L v k0 st = (if R.2 = 0 then (0, R.1, upd st v 1) else if R.2 < 0 then (0, R.1, upd st v 2) else (R.2, R.1, st)) := by simp only [stepS, hR]
  have hsth := Lib.hid hst
  clear Z hv1 hv2 hxs hL hR hst
  go_enter Try.func40, Try.ntmps40
  go_wp2_with fail
  go_region_held3 (fun w' => w'.cell? ⟨h.b, 0, none⟩ = some (.pointer (some ⟨h.tb, 0, none⟩)) ∧ w'.cell? ⟨h.b, 1, none⟩ = some (.pointer (some ⟨ha.b, 0, none⟩)) ∧ w'.cell? ⟨g, j, none⟩ = some (.int .i64 v)) (go_keep)
    (first
      | (go_at_call 25; refine (s_reason Zd.out.mini.tr v).mono ?_; rintro e wa ⟨rfl, na, rfl⟩)
      | (go_at_call 41; refine (hLh.out _ _ (Zn.out _).mini.ar).mono ?_; rintro e wb ⟨_, γb, rfl, ⟨a5, c5, rfl, RL⟩, Tb⟩; have Zb := (Zn.out _).turn4 Tb; have e0 := Zb.mini.mn.f0; have e1 := Zb.mini.mn.f1; have e2 := Zb.row.cell hv1h.out; rw [Zb.mini.ab] at e1))
  have TT : Turn γ γb w wb [[0, 2], [0, 3], [0, 4]] := Tb.of_drewN.to (by simp)
  have Zbh := Lib.hid (And.intro Zb (And.intro RL TT))
  clear Zb RL TT Tb e0 e1 e2 f0 f1 c0 Zd Zn Zh hLh
  go_wp2_with fail
  go_loopg [] (L.length - k0) (fun gk wr => ∃ (k : Nat) (γk : Tags), k + gk = L.length ∧ Stk γk wr s ha m h inn st g n cap (xs.set (j + 1) (.int .i64 k)) ∧ Row γk wr [0, 4] 3 1 a5 L.length c5 (ints L) ∧ Turn γ γk w wr [[0, 2], [0, 3], [0, 4]] ∧ RowKit.Hid (scanS inn (firstS st s) v (L.drop k) k = R))
  case atStart => exact ⟨k0, γb, by omega, by rw [hxsh.out]; exact Zbh.out.1, Zbh.out.2.1, Zbh.out.2.2, hRh⟩
  case round =>
    obtain ⟨k, γk, hk, Zk, Rk, Tk, Hs⟩ := hrel
    clear Zbh hRh
    have c1 : wr.cell? ⟨g, j + 1, none⟩ = some (.int .i64 k) := Zk.row.cell (by simp [hjx])
    have c0 : wr.cell? ⟨g, j, none⟩ = some (.int .i64 v) := Zk.row.cell (by rw [List.getElem?_set_ne (by omega)]; exact hv1h.out)
    have g1 := Zk.row.free (j + 1)
    have f2 := Zk.mini.mn.f2
    have f3 := Zk.mini.mn.f3
    by_cases hkl : k < L.length
    · have hx := List.getElem?_eq_getElem hkl
      have hxb := hLb _ (List.getElem_mem hkl)
      have hdr := List.drop_eq_getElem_cons hkl
      generalize L[k] = x at *
      have hsc : R = (if litVar x == v || inn (litVar x) then scanS inn (firstS st s) v (L.drop (k + 1)) (k + 1) else if firstS st s (litVar x) = 0 then (k, litVar x) else if firstS st s (litVar x) = 2 then (k, -1) else scanS inn (firstS st s) v (L.drop (k + 1)) (k + 1)) := by
        rw [← Hs.out, hdr]; rfl
      obtain ⟨g5, rfl⟩ := Rk.pos (by omega)
      have d := Rk.cell (j := k) (v := .int .i64 x) (by rw [ints, List.getElem?_map, hx]; rfl)
      have Cv := var_any x wr (by omega) (by omega)
      have hI : I64 (litVar x) := I64.small (by unfold litVar; split <;> omega) (by unfold litVar; split <;> omega)
      have hup : 0 < litVar x := by unfold litVar; split <;> omega
      have hrunI := Zk.mini.mn.im.seen Try.tyIB hI (Zk.mini.mn.inn (litVar x))
      have Cf := mn_first Zk.mini.tr Zk.mini.mn hI
      generalize litVar x = u at *
      generalize firstS st s u = fv at *
      have ZZ := fun (q : Nat) => (Zk.drewN q).at_ (j := j + 1) (by simp; exact hjx) (.int .i64 ((k : Int) + 1))
      simp only [List.set_set] at ZZ
      have Z1 : ∀ q : Nat, Stk γk ((wr.drewN q).setCell ⟨g, j + 1, none⟩ (.int .i64 ((k : Int) + 1))) s ha m h inn st g n cap (xs.set (j + 1) (.int .i64 ((k + 1 : Nat) : Int))) ∧ Row γk ((wr.drewN q).setCell ⟨g, j + 1, none⟩ (.int .i64 ((k : Int) + 1))) [0, 4] 3 1 (some ⟨g5, 0, none⟩) L.length c5 (ints L) ∧ Turn γ γk w ((wr.drewN q).setCell ⟨g, j + 1, none⟩ (.int .i64 ((k : Int) + 1))) [[0, 2], [0, 3], [0, 4]] :=
        fun q => ⟨by have := (ZZ q).1; push_cast; exact this, (Rk.drewN q).turn (ZZ q).2 (by simp), (Tk.drewN q).trans ((ZZ q).2.to (by simp))⟩
      have Z1h := Lib.hid Z1
      have Zkh := Lib.hid Zk
      have Tkh := Lib.hid Tk
      have Rkh := Lib.hid Rk
      clear Z1 ZZ Hs hdr hx Zk Rk Tk
      cases b1 : (u == v) with
      | true =>
        rw [b1, Bool.true_or, if_pos rfl] at hsc
        have Hs2 : RowKit.Hid (scanS inn (firstS st s) v (L.drop (k + 1)) (k + 1) = R) := Lib.hid hsc.symm
        clear hsc hrunI Cf
        go_wp2_with fail
        refine Cv.mono ?_
        clear Cv
        rintro e w' ⟨rfl, rfl⟩
        go_wp2_with fail
        go_roundg (L.length - (k + 1))
        case rel => exact ⟨k + 1, γk, by omega, (Z1h.out 0).1, (Z1h.out 0).2.1, (Z1h.out 0).2.2, Hs2⟩
        case measure => omega
      | false =>
        rw [b1, Bool.false_or] at hsc
        cases b2 : inn u with
        | true =>
          rw [b2] at hrunI hsc
          rw [if_pos rfl] at hsc
          have Hs2 : RowKit.Hid (scanS inn (firstS st s) v (L.drop (k + 1)) (k + 1) = R) := Lib.hid hsc.symm
          clear hsc Cf b2
          go_wp2_with fail
          refine Cv.mono ?_
          clear Cv
          rintro e w' ⟨rfl, rfl⟩
          go_wp2_with fail
          go_roundg (L.length - (k + 1))
          case rel => exact ⟨k + 1, γk, by omega, (Z1h.out 0).1, (Z1h.out 0).2.1, (Z1h.out 0).2.2, Hs2⟩
          case measure => omega
        | false =>
          rw [b2] at hrunI hsc
          rw [if_neg (by simp)] at hsc
          clear b2
          by_cases hf0 : fv = 0
          · rw [if_pos hf0] at hsc
            subst hf0
            have Hs2 := Lib.hid hsc
            clear hsc
            go_wp2_with fail
            refine Cv.mono ?_
            clear Cv
            rintro e w' ⟨rfl, rfl⟩
            go_wp2_with fail
            refine Cf.mono ?_
            clear Cf
            rintro e w' ⟨rfl, nq, rfl⟩
            go_wp2_with fail
            go_ret
            rw [hsth.out]
            have e := Hs2.out
            have hu0 : ¬ u = 0 := by omega
            have hu1 : ¬ u < 0 := by omega
            rw [e]
            simp only [hu0, hu1, if_false]
            exact ⟨_, γk, rfl, ⟨rfl, h, rfl, rfl, by omega, Zkh.out.drewN nq⟩, Tkh.out.drewN nq⟩
          · rw [if_neg hf0] at hsc
            have hb0 : (fv == 0) = false := by simpa using hf0
            by_cases hf2 : fv = 2
            · rw [if_pos hf2] at hsc
              subst hf2
              have Hs2 := Lib.hid hsc
              clear hsc hf0 hb0
              go_wp2_with fail
              refine Cv.mono ?_
              clear Cv
              rintro e w' ⟨rfl, rfl⟩
              go_wp2_with fail
              refine Cf.mono ?_
              clear Cf
              rintro e w' ⟨rfl, nq, rfl⟩
              obtain ⟨w2, hrun, Z2, T2⟩ := (Zkh.out.drewN nq).told hvI 2 hsz
              have hrund : (Instr.mapUpdate 39 (.map (some h.sb)) (.int .i64 v) (.int .i64 2)).run Try.prog (wr.drewN (nq + 1)) = .ok () w2 := hrun
              clear hrun
              have Z2h := Lib.hid (And.intro Z2 T2)
              clear Z2 T2
              go_wp2_with fail
              go_region
              all_goals
                go_wp2_with fail
                go_ret
                have e := Hs2.out
                rw [hsth.out, e]
                simp only [show ¬ (-1 : Int) = 0 by decide, show (-1 : Int) < 0 by decide, if_false, if_true]
                obtain ⟨⟨h2, a1, a2, a3, a4⟩, T2⟩ := Z2h.out
                exact ⟨_, γk, rfl, ⟨rfl, h2, a1, a2, a3, a4⟩, (Tkh.out.drewN nq).trans (T2.to (by simp))⟩
            · rw [if_neg hf2] at hsc
              have hb2 : (fv == 2) = false := by simpa using hf2
              have Hs2 : RowKit.Hid (scanS inn (firstS st s) v (L.drop (k + 1)) (k + 1) = R) := Lib.hid hsc.symm
              clear hsc hf0 hf2
              go_wp2_with fail
              refine Cv.mono ?_
              clear Cv
              rintro e w' ⟨rfl, rfl⟩
              go_wp2_with fail
              refine Cf.mono ?_
              clear Cf
              rintro e w' ⟨rfl, nq, rfl⟩
              go_wp2_with fail
              go_roundg (L.length - (k + 1))
              case rel => exact ⟨k + 1, γk, by omega, (Z1h.out nq).1, (Z1h.out nq).2.1, (Z1h.out nq).2.2, Hs2⟩
              case measure => omega
    · obtain rfl : k = L.length := by omega
      have hsc : R = (L.length, 0) := by rw [← Hs.out, List.drop_length]; rfl
      obtain ⟨w2, hrun, Z2, T2⟩ := Zk.told hvI 1 hsz
      have Z2h := Lib.hid (And.intro Z2 (And.intro T2 Tk))
      have Hs2 := Lib.hid hsc
      clear hsc Hs Z2 T2 Tk Zk Rk
      go_wp2_with fail
      go_region
      all_goals
        go_wp2_with fail
        go_ret
        have e := Hs2.out
        rw [hsth.out, e]
        simp only [if_true]
        obtain ⟨⟨h2, a1, a2, a3, a4⟩, T2, Tk⟩ := Z2h.out
        exact ⟨_, γk, rfl, ⟨rfl, h2, a1, a2, a3, a4⟩, Tk.trans (T2.to (by simp))⟩

end

end Go.Proofs.Ytlmmiobnbcanmaa
