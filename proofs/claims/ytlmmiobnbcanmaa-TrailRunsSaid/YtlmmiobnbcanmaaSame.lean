import Derived.Test.YtlmmiobnbcanmaaModel
namespace Go.Proofs.Ytlmmiobnbcanmaa
open Go.RowKit

section
variable {γ : Tags} {w : World} {p q : Tag} {b : Nat} {h : MdH} {s : TrailS}

theorem look_right {l : Int} {y : Step × Nat} (F : Fits s) (hk : s.look l = some y) : rightB l s.n = true := by
  obtain ⟨y, i⟩ := y
  obtain ⟨hy, hyl⟩ := look_some hk
  have hr := F.wf.right y (List.mem_of_getElem? hy)
  simp only [rightB, decide_eq_true_eq] at hr ⊢
  unfold litVar at hyl
  split at hyl <;> split at hyl <;> omega

/-- A callee that only reads, in a region behind another one that drew. -/
theorem quiet_at {P : Program} {f : FuncId} {args : Array Value} {w : World} {v : Value} {m a : Nat} (h : Calls P f args (w.drewN (m + a)) (Quiet (w.drewN (m + a)) v)) :
    Calls P f args (w.drewN (m + a)) fun e w'' => e = .returned v ∧ ∃ n, w'' = w.drewN (m + n) :=
  h.mono fun _ _ ⟨he, k, hk⟩ => ⟨he, a + k, by rw [hk, World.drewN_drewN, Nat.add_assoc]⟩

set_option maxRecDepth 100000 in
set_option maxHeartbeats 4000000 in
theorem same_no (T : TrS q b s γ w) (H : MdAt γ w p h s) (l : Int) (hl : I64 l) (hr : rightB l s.n = false) :
    Calls Try.prog 17 #[.pointer (some ⟨b, 0, none⟩), .pointer (some ⟨h.b, 0, none⟩), .int .i64 l] w (Idle γ w (.bool true)) := by
  have F := T.fits
  have hk : s.look l = none := by
    cases hk : s.look l with
    | none => rfl
    | some y => rw [look_right F hk] at hr; cases hr
  have C1 := m_where H F l hl
  rw [show s.place l = -1 by simp [TrailS.place, hk]] at C1
  go_enter Try.func17, Try.ntmps17
  go_wp2_with fail
  refine C1.mono ?_
  clear C1
  rintro e w1 ⟨rfl, T1⟩
  have H1 := H.turn T1 (by simp)
  have R1 := T.turn T1 (by simp)
  have C2 := m_right H1 F l
  rw [hr] at C2
  go_wp2_with fail
  refine C2.mono ?_
  clear C2
  rintro e w2 ⟨rfl, n2, rfl⟩
  have Cp : ∀ n, Calls Try.prog 26 #[.pointer (some ⟨b, 0, none⟩), .int .i64 l] (w1.drewN n) (Quiet (w1.drewN n) (.int .i64 (-1))) := fun n => by
    have := s_place (R1.drewN n) l
    rw [show s.place l = -1 by simp [TrailS.place, hk]] at this; exact this
  have Cv : ∀ n, Calls Try.prog 24 #[.pointer (some ⟨b, 0, none⟩), .int .i64 l] (w1.drewN n) (Quiet (w1.drewN n) (.int .i64 0)) := fun n => by
    have := s_value (R1.drewN n) l
    rw [show s.value l = 0 by simp [TrailS.value, hk]] at this; exact this
  have Cl : ∀ n, Calls Try.prog 31 #[.pointer (some ⟨b, 0, none⟩), .int .i64 l] (w1.drewN n) (Quiet (w1.drewN n) (.int .i64 (-1))) := fun n => by
    have := s_levelOf (R1.drewN n) l
    rw [show s.levelOf l = -1 by simp [TrailS.levelOf, hk]] at this; exact this
  have Cr : ∀ n, Calls Try.prog 25 #[.pointer (some ⟨b, 0, none⟩), .int .i64 l] (w1.drewN n) (Quiet (w1.drewN n) (.int .i64 (-1))) := fun n => by
    have := s_reason (R1.drewN n) l
    rw [show s.reason l = -1 by simp [TrailS.reason, hk]] at this; exact this
  have Ch : ∀ n, Calls Try.prog 27 #[.pointer (some ⟨b, 0, none⟩), .int .i64 l] (w1.drewN n) (Quiet (w1.drewN n) (.bool false)) := fun n => by
    have := s_phase (R1.drewN n) l
    rw [show s.phaseOf l = false by simp [TrailS.phaseOf, hr]] at this; exact this
  clear hr hk
  go_wp2_with (first
    | (go_at_call 26; refine (Cp _).mono ?_; rintro e wx ⟨rfl, nx, rfl⟩; simp only [World.drewN_drewN])
    | (go_at_call 24; refine (Cv _).mono ?_; rintro e wx ⟨rfl, nx, rfl⟩; simp only [World.drewN_drewN])
    | (go_at_call 31; refine (Cl _).mono ?_; rintro e wx ⟨rfl, nx, rfl⟩; simp only [World.drewN_drewN])
    | (go_at_call 25; refine (Cr _).mono ?_; rintro e wx ⟨rfl, nx, rfl⟩; simp only [World.drewN_drewN])
    | (go_at_call 27; refine (Ch _).mono ?_; rintro e wx ⟨rfl, nx, rfl⟩; simp only [World.drewN_drewN]))
  go_ret
  exact ⟨rfl, T1.drewN _⟩

theorem MapAt.look {P : Program} {t k e : TypeId} {z : Value} {b sz : Nat} {f : Int → Option Value} (h : MapAt P k γ w p b f sz) (M : MapTy P t k e z) {i : Int} (hi : I64 i) {v : Value} (hv : (f i).getD z = v) :
    (Instr.lookup t (.map (some b)) (.int .i64 i) false).run P w = .ok v w := by
  obtain ⟨D, h1, _, _, hD⟩ := h.own
  obtain ⟨v', ps, hrun, hv'⟩ := h1.lookup M.keyed M.map (M.zero w) (z := z) (zd := .held z) (zp := []) rfl (Maps.keyOf_int_mk M.key hi)
  rw [hD] at hv'
  have := at_get hv'
  rw [this, hv] at hrun
  exact hrun

set_option maxRecDepth 100000 in
set_option maxHeartbeats 4000000 in
theorem same_yes (T : TrS q b s γ w) (H : MdAt γ w p h s) (l : Int) (hl : I64 l) (hr : rightB l s.n = true) :
    Calls Try.prog 17 #[.pointer (some ⟨b, 0, none⟩), .pointer (some ⟨h.b, 0, none⟩), .int .i64 l] w (Idle γ w (.bool true)) := by
  have F := T.fits
  have hb : l ≠ 0 ∧ l ≤ s.n ∧ -s.n ≤ l := by simpa [rightB] using hr
  have hn := F.few
  have C1 := m_where H F l hl
  obtain ⟨pl, hpl⟩ : ∃ pl, s.place l = pl := ⟨_, rfl⟩
  rw [hpl] at C1
  have Hpl := Lib.hid hpl
  clear hpl
  go_enter Try.func17, Try.ntmps17
  go_wp2_with fail
  refine C1.mono ?_
  clear C1
  rintro e w1 ⟨rfl, T1⟩
  have H1 := H.turn T1 (by simp)
  have R1 := T.turn T1 (by simp)
  have C2 := m_right H1 F l
  rw [hr] at C2
  go_wp2_with fail
  refine C2.mono ?_
  clear C2
  rintro e w2 ⟨rfl, n2, rfl⟩
  replace T1 := T1.drewN n2
  replace H1 := H1.drewN n2
  replace R1 := R1.drewN n2
  generalize w1.drewN n2 = w1 at *
  have Ch : ∀ n, Calls Try.prog 27 #[.pointer (some ⟨b, 0, none⟩), .int .i64 l] (w1.drewN n) (Quiet (w1.drewN n) (.bool (s.phaseOf l))) := fun n => s_phase (R1.drewN n) l
  have Cp : ∀ n, Calls Try.prog 26 #[.pointer (some ⟨b, 0, none⟩), .int .i64 l] (w1.drewN n) (Quiet (w1.drewN n) (.int .i64 pl)) := fun n => by
    have := s_place (R1.drewN n) l
    rw [Hpl.out] at this; exact this
  have Cv : ∀ n, Calls Try.prog 24 #[.pointer (some ⟨b, 0, none⟩), .int .i64 l] (w1.drewN n) (Quiet (w1.drewN n) (.int .i64 (s.value l))) := fun n => s_value (R1.drewN n) l
  have Cl : ∀ n, Calls Try.prog 31 #[.pointer (some ⟨b, 0, none⟩), .int .i64 l] (w1.drewN n) (Quiet (w1.drewN n) (.int .i64 (s.levelOf l))) := fun n => s_levelOf (R1.drewN n) l
  have Cr : ∀ n, Calls Try.prog 25 #[.pointer (some ⟨b, 0, none⟩), .int .i64 l] (w1.drewN n) (Quiet (w1.drewN n) (.int .i64 (s.reason l))) := fun n => s_reason (R1.drewN n) l
  have f2 := H1.f2
  have f3 := H1.f3
  have Hrun : 0 < l → ∀ n, (Instr.lookup 27 (.map (some h.fb)) (.int .i64 l) false).run Try.prog (w1.drewN n) = .ok (.bool (s.phaseOf l)) (w1.drewN n) := fun hpos n => by
    refine (H1.map.drewN n).look Try.mapIB hl ?_
    obtain ⟨e1, e2⟩ := litVar_pos hr
    have e3 : l = (vix l : Int) + 1 := by rw [← e1]; unfold litVar; split <;> omega
    have := H1.ph (vix l) e2
    rw [← e3] at this
    rw [this]
    have : decide (0 < l) = true := by simpa using hpos
    simp only [TrailS.phaseOf, hr, this, Bool.true_and]
  generalize s.phaseOf l = ph at *
  clear hr
  cases hk : s.look l with
  | none =>
    have e0 : pl = -1 := by rw [← Hpl.out]; simp [TrailS.place, hk]
    have e1 : s.value l = 0 := by simp [TrailS.value, hk]
    have e2 : s.levelOf l = -1 := by simp [TrailS.levelOf, hk]
    have e3 : s.reason l = -1 := by simp [TrailS.reason, hk]
    rw [e1] at Cv
    rw [e2] at Cl
    rw [e3] at Cr
    subst e0
    clear e1 e2 e3 hk
    by_cases hpos : 0 < l
    · have hrun := Hrun hpos
      clear Hrun
      go_wp2_with fail
      go_quiet ((go_at_call 27; exact Calls.quiet_of (Ch _)))
      go_wp2_with (first
      | (go_at_call 26; refine (Cp _).mono ?_; rintro e wx ⟨rfl, nx, rfl⟩; simp only [World.drewN_drewN])
      | (go_at_call 24; refine (Cv _).mono ?_; rintro e wx ⟨rfl, nx, rfl⟩; simp only [World.drewN_drewN])
      | (go_at_call 31; refine (Cl _).mono ?_; rintro e wx ⟨rfl, nx, rfl⟩; simp only [World.drewN_drewN])
      | (go_at_call 25; refine (Cr _).mono ?_; rintro e wx ⟨rfl, nx, rfl⟩; simp only [World.drewN_drewN]))
      go_ret
      exact ⟨rfl, T1.drewN _⟩
    · have d : decide (0 < l) = false := by simpa using hpos
      clear Hrun
      go_wp2_with fail
      go_quiet (fail)
      go_wp2_with (first
      | (go_at_call 26; refine (Cp _).mono ?_; rintro e wx ⟨rfl, nx, rfl⟩; simp only [World.drewN_drewN])
      | (go_at_call 24; refine (Cv _).mono ?_; rintro e wx ⟨rfl, nx, rfl⟩; simp only [World.drewN_drewN])
      | (go_at_call 31; refine (Cl _).mono ?_; rintro e wx ⟨rfl, nx, rfl⟩; simp only [World.drewN_drewN])
      | (go_at_call 25; refine (Cr _).mono ?_; rintro e wx ⟨rfl, nx, rfl⟩; simp only [World.drewN_drewN]))
      go_ret
      exact ⟨rfl, T1.drewN _⟩
  | some y =>
    obtain ⟨x, i⟩ := y
    have e0 : pl = i := by rw [← Hpl.out]; simp [TrailS.place, hk]
    have e1 : s.value l = if x.l = l then 1 else -1 := by simp [TrailS.value, hk]
    have e2 : s.levelOf l = x.level := by simp [TrailS.levelOf, hk]
    have e3 : s.reason l = x.reason := by simp [TrailS.reason, hk]
    rw [e1] at Cv
    rw [e2] at Cl
    rw [e3] at Cr
    subst e0
    obtain ⟨hx, _⟩ := look_some hk
    have hi := (List.getElem?_eq_some_iff.1 hx).1
    obtain ⟨g, hg, c0, c1, c2⟩ := H1.cs hx
    have hlen := F.len
    have hi' : (i : Int) < s.steps.length := by omega
    have hw : IntKind.i64.wrap (i : Int) = i := IntWalk.i64_in _ (by omega)
    rw [hg] at f2
    clear e1 e2 e3 hk hx hg
    by_cases hxl : x.l = l
    · have hne : (x.l != l) = false := by simpa using hxl
      rw [if_pos hxl] at Cv
      clear hxl
      by_cases hpos : 0 < l
      · have hrun := Hrun hpos
        clear Hrun
        go_wp2_with fail
        go_quiet ((go_at_call 27; exact Calls.quiet_of (Ch _)))
        go_wp2_with fail
        go_quiet ((first
      | (go_at_call 26; exact quiet_at (Cp _))
      | (go_at_call 24; exact quiet_at (Cv _))
      | (go_at_call 31; exact quiet_at (Cl _))
      | (go_at_call 25; exact quiet_at (Cr _))))
        go_wp2_with fail
        go_ret
        exact ⟨rfl, (T1.drewN _).drewN _⟩
      · have d : decide (0 < l) = false := by simpa using hpos
        clear Hrun
        go_wp2_with fail
        go_quiet (fail)
        go_wp2_with fail
        go_quiet ((first
      | (go_at_call 26; exact quiet_at (Cp _))
      | (go_at_call 24; exact quiet_at (Cv _))
      | (go_at_call 31; exact quiet_at (Cl _))
      | (go_at_call 25; exact quiet_at (Cr _))))
        go_wp2_with fail
        go_ret
        exact ⟨rfl, (T1.drewN _).drewN _⟩
    · have hne : (x.l != l) = true := by simpa using hxl
      rw [if_neg hxl] at Cv
      clear hxl
      by_cases hpos : 0 < l
      · have hrun := Hrun hpos
        clear Hrun
        go_wp2_with fail
        go_quiet ((go_at_call 27; exact Calls.quiet_of (Ch _)))
        go_wp2_with fail
        go_quiet ((first
      | (go_at_call 26; exact quiet_at (Cp _))
      | (go_at_call 24; exact quiet_at (Cv _))
      | (go_at_call 31; exact quiet_at (Cl _))
      | (go_at_call 25; exact quiet_at (Cr _))))
        go_wp2_with fail
        go_ret
        exact ⟨rfl, (T1.drewN _).drewN _⟩
      · have d : decide (0 < l) = false := by simpa using hpos
        clear Hrun
        go_wp2_with fail
        go_quiet (fail)
        go_wp2_with fail
        go_quiet ((first
      | (go_at_call 26; exact quiet_at (Cp _))
      | (go_at_call 24; exact quiet_at (Cv _))
      | (go_at_call 31; exact quiet_at (Cl _))
      | (go_at_call 25; exact quiet_at (Cr _))))
        go_wp2_with fail
        go_ret
        exact ⟨rfl, (T1.drewN _).drewN _⟩

theorem same_any (T : TrS q b s γ w) (H : MdAt γ w p h s) (l : Int) (hl : I64 l) :
    Calls Try.prog 17 #[.pointer (some ⟨b, 0, none⟩), .pointer (some ⟨h.b, 0, none⟩), .int .i64 l] w (Idle γ w (.bool true)) := by
  cases hr : rightB l s.n with
  | false => exact same_no T H l hl hr
  | true => exact same_yes T H l hl hr

end

end Go.Proofs.Ytlmmiobnbcanmaa
