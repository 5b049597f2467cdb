import Derived.Test.YtlmmiobnbcanmaaModel
namespace Go.Proofs.Ytlmmiobnbcanmaa
open Go.RowKit

/-- The last ones of the trail: what goes. -/
def lastOf (s : TrailS) (k : Nat) : List Int := ((s.steps.drop (s.steps.length - k)).map (·.l)).reverse

theorem lastOf_len {s : TrailS} {k : Nat} (hk : k ≤ s.steps.length) : (lastOf s k).length = k := by simp [lastOf]; omega
theorem lastOf_succ {s : TrailS} {k m : Nat} {x : Step} (hm : s.steps.length - k = m + 1) (hx : s.steps[m]? = some x) : lastOf s (k + 1) = lastOf s k ++ [x.l] := by
  obtain ⟨h1, rfl⟩ := List.getElem?_eq_some_iff.1 hx
  unfold lastOf
  rw [hm, show s.steps.length - (k + 1) = m by omega, List.drop_eq_getElem_cons h1]
  simp only [List.map_cons, List.reverse_cons]

theorem back_at {s : TrailS} (W : TWf s) {level : Int} {lv m : Nat} (hlv : min (max level 0) s.level = lv) (hm : m ≤ s.steps.length)
    (hgo : ∀ j, m ≤ j → ∀ x, s.steps[j]? = some x → (lv : Int) < x.level) (hst : ∀ k, m = k + 1 → ∀ x, s.steps[k]? = some x → x.level ≤ lv) :
    s.back level = { s with steps := s.steps.take m, level := lv } ∧ s.gone level = lastOf s (s.steps.length - m) := by
  have hb : ∀ x ∈ s.steps, x.level ≤ max level 0 ↔ x.level ≤ lv := by
    intro x hx
    have := (W.bounds x hx).2
    omega
  have hin : ∀ x ∈ s.steps.take m, x.level ≤ lv := by
    intro x hx
    obtain ⟨i, hi⟩ := List.getElem?_of_mem hx
    rw [List.getElem?_take] at hi
    split at hi
    · obtain ⟨k, rfl⟩ : ∃ k, m = k + 1 := ⟨m - 1, by omega⟩
      have h1 := List.getElem?_eq_getElem (l := s.steps) (i := k) (by omega)
      have h2 := hst k rfl _ h1
      have h3 := W.mono hi h1 (by omega)
      omega
    · cases hi
  have hout : ∀ x ∈ s.steps.drop m, (lv : Int) < x.level := by
    intro x hx
    obtain ⟨i, hi⟩ := List.getElem?_of_mem hx
    rw [List.getElem?_drop] at hi
    exact hgo _ (by omega) x hi
  have e : s.steps = s.steps.take m ++ s.steps.drop m := (List.take_append_drop m s.steps).symm
  have ef : (s.steps.filter fun x => decide (x.level ≤ max level 0)) = s.steps.take m := by
    have h1 : ((s.steps.take m).filter fun x => decide (x.level ≤ max level 0)) = s.steps.take m := by
      rw [List.filter_eq_self]
      intro x hx
      simp [(hb x (List.mem_of_mem_take hx)).2 (hin x hx)]
    have h2 : ((s.steps.drop m).filter fun x => decide (x.level ≤ max level 0)) = [] := by
      rw [List.filter_eq_nil_iff]
      intro x hx
      have := hout x hx
      have := (hb x (List.mem_of_mem_drop hx)).1
      simp; omega
    rw [e, List.filter_append, ← e, h1, h2, List.append_nil]
  have eg : (s.steps.filter fun x => !decide (x.level ≤ max level 0)) = s.steps.drop m := by
    have h1 : ((s.steps.take m).filter fun x => !decide (x.level ≤ max level 0)) = [] := by
      rw [List.filter_eq_nil_iff]
      intro x hx
      simp [(hb x (List.mem_of_mem_take hx)).2 (hin x hx)]
    have h2 : ((s.steps.drop m).filter fun x => !decide (x.level ≤ max level 0)) = s.steps.drop m := by
      rw [List.filter_eq_self]
      intro x hx
      have := hout x hx
      have := (hb x (List.mem_of_mem_drop hx)).1
      simp; omega
    rw [e, List.filter_append, ← e, h1, h2, List.nil_append]
  constructor
  · have h1 := W.back_steps level
    rw [ef] at h1
    have h2 := back_level (s := s) level
    rw [hlv] at h2
    have h3 := back_n (s := s) level
    have h4 := back_phase (s := s) level
    generalize s.back level = s' at *
    obtain ⟨n', st', lv', ph'⟩ := s'
    simp only at h1 h2 h3 h4
    subst h1 h3 h4
    have : lv' = lv := by omega
    subst this
    rfl
  · rw [W.gone_eq, eg]
    unfold lastOf
    rw [show s.steps.length - (s.steps.length - m) = m by omega]

theorem m_back_end {γ γk : Tags} {w wr : World} {p q : Tag} {h : MdH} {s : TrailS} (F : Fits s) (hqp : ¬ Under [p] q) {level : Int} {lv m k : Nat} {a : Option Addr} {cap : Nat} (hlv : min (max level 0) s.level = lv) (hmk : m + k = s.steps.length)
    (Rk : Row γk wr q 3 1 a k cap (ints (lastOf s k))) (Hk : MdAt γk wr p h { s with steps := s.steps.take m }) (Tk : Turn γ γk w wr [p, q])
    (hgo : ∀ j, m ≤ j → ∀ x, s.steps[j]? = some x → (lv : Int) < x.level) (hst : ∀ k, m = k + 1 → ∀ x, s.steps[k]? = some x → x.level ≤ lv) {X : Int} (hX : X = lv) :
    Gives γ w [p, q] (fun v γ' w' => ∃ a cap, v = .slice a (s.gone level).length cap ∧ Row γ' w' q 3 1 a (s.gone level).length cap (ints (s.gone level)) ∧ Md p h.b h.sz (s.back level) γ' w') (.returned (.slice a k cap)) (wr.setCell ⟨h.b, 1, none⟩ (.int .i64 X)) := by
  obtain ⟨B1, B2⟩ := back_at F.wf hlv (m := m) (by omega) hgo hst
  have hk : s.steps.length - m = k := by omega
  obtain ⟨H', T'⟩ := Hk.level_set lv hX
  rw [B1, B2, hk, lastOf_len (by omega)]
  exact ⟨_, γk, rfl, ⟨a, cap, rfl, Rk.turn T' (by simpa using hqp), h, rfl, Nat.le_refl _, H'⟩, Tk.trans (T'.to (by simp))⟩

theorem flat_take {α : Type} (f : α → List Value) (k : Nat) (hk : ∀ x, (f x).length = k) (l : List α) {m : Nat} (hm : m < l.length) : ((l.take (m + 1)).flatMap f).take (m * k) = (l.take m).flatMap f := by
  rw [List.take_succ_eq_append_getElem hm, List.flatMap_append]
  have : ((l.take m).flatMap f).length = m * k := by rw [flatMap_length f k hk]; simp [Nat.min_eq_left (Nat.le_of_lt hm)]
  rw [List.take_left' this]

theorem MdAt.shorter {γ : Tags} {w : World} {p : Tag} {h : MdH} {s : TrailS} {m g : Nat} (H : MdAt γ w p h { s with steps := s.steps.take (m + 1) }) (hm : m < s.steps.length) (hg : h.a = some ⟨g, 0, none⟩) :
    MdAt γ (w.setCell ⟨h.b, 2, none⟩ (.slice (some ⟨g, 0, none⟩) m h.cap)) p h { s with steps := s.steps.take m } ∧ Turn γ γ w (w.setCell ⟨h.b, 2, none⟩ (.slice (some ⟨g, 0, none⟩) m h.cap)) [p] := by
  have hl : (s.steps.take (m + 1)).length = m + 1 := by simp; omega
  have hl2 : (s.steps.take m).length = m := by simp; omega
  have R := H.rows.take (m := m) (by rw [hl]; omega)
  dsimp only at R
  rw [flat_take _ 3 stepVals_length _ hm] at R
  have Z := H.rows_turned (a := h.a) (cap := h.cap) (l := s.steps.take m) (Turn.refl _ _ _) (by rw [hl2]; exact R)
  rw [hl2] at Z
  rw [← hg]
  exact Z

def sliceLen : Value → Nat | .slice _ n _ => n | _ => 0

set_option maxHeartbeats 4000000 in
theorem m_back {γ : Tags} {w : World} {p q : Tag} {h : MdH} {s : TrailS} (H : MdAt γ w p h s) (F : Fits s) (hpq : ∀ x, ¬ Under [q] (p ++ x)) (hqp : ¬ Under [p] q) (level : Int) : Calls Try.prog 11 #[.pointer (some ⟨h.b, 0, none⟩), .int .i64 level] w
    (Gives γ w [p, q] fun v γ' w' => ∃ a cap, v = .slice a (s.gone level).length cap ∧ Row γ' w' q 3 1 a (s.gone level).length cap (ints (s.gone level)) ∧ Md p h.b h.sz (s.back level) γ' w') := by
  obtain ⟨i0, ii⟩ := Try.infoInt
  have h1 := F.few
  have h2 := F.len
  have h3 := F.lev
  have f1 := H.f1
  obtain ⟨lv, hlv⟩ : ∃ lv : Nat, min (max level 0) s.level = lv := ⟨(min (max level 0) s.level).toNat, by omega⟩
  obtain ⟨Y, hY⟩ : ∃ Y : Int, (if level < 0 then 0 else level) = Y := ⟨_, rfl⟩
  have hX1 : (if (s.level : Int) < Y then (s.level : Int) else Y) = lv := by subst hY; split <;> split at * <;> omega
  have hX2 : (if Y < (s.level : Int) then Y else (s.level : Int)) = lv := by subst hY; split <;> split at * <;> omega
  have Hlv := Lib.hid hlv
  clear hlv
  go_enter Try.func11, Try.ntmps11
  go_wp2
  clear hY hX1 hX2
  go_loopw [5] (fun v wr => ∃ (m k : Nat) (a : Option Addr) (cap : Nat) (γk : Tags), m + k = s.steps.length ∧ v = .slice a k cap ∧ Row γk wr q 3 1 a k cap (ints (lastOf s k)) ∧ MdAt γk wr p h { s with steps := s.steps.take m } ∧ Turn γ γk w wr [p, q] ∧
    RowKit.Hid (∀ j, m ≤ j → ∀ x, s.steps[j]? = some x → (lv : Int) < x.level)) (fun v _ => s.steps.length - sliceLen v)
  case atStart =>
    refine ⟨s.steps.length, 0, none, 0, γ, by omega, rfl, ?_, ?_, Turn.refl _ _ _, Lib.hid fun j hj x hx => ?_⟩
    · have : lastOf s 0 = [] := by simp [lastOf]
      rw [this]
      exact Row.nil _ _ _ _ _
    · rw [List.take_length]; exact H
    · have := (List.getElem?_eq_some_iff.1 hx).1; omega
  case round =>
    obtain ⟨m, k, a, cap, γk, hmk, rfl, Rk, Hk, Tk, Hgo⟩ := hrel
    clear f1
    have f2 := Hk.f2
    have f1 := Hk.f1
    have g1 := Hk.head.free 1
    dsimp only at f1
    have hlen : (s.steps.take m).length = m := by simp; omega
    simp only [hlen] at f2
    cases m with
    | zero =>
      go_wp2_with fail
      go_quiet (fail)
      go_wp2_with fail
      go_ret
      exact m_back_end F hqp Hlv.out hmk (Rk.drewN nq) (Hk.drewN nq) (Tk.drewN nq) Hgo.out (fun k hk => by omega) rfl
    | succ m =>
      have hx0 := List.getElem?_eq_getElem (l := s.steps) (i := m) (by omega)
      have hxt : (s.steps.take (m + 1))[m]? = some s.steps[m] := by rw [List.getElem?_take, if_pos (by omega), hx0]
      generalize s.steps[m] = x at *
      obtain ⟨g, hg, c0, c1, c2⟩ := Hk.cs hxt
      rw [hg] at f2
      have Hx0 := Lib.hid hx0
      have Hg := Lib.hid hg
      clear hx0 hxt c2 hg
      by_cases hgt : (lv : Int) < x.level
      · have hw : IntKind.i64.wrap (m : Int) = m := IntWalk.i64_in _ (by omega)
        have d3 : (lv : Int) < x.level := hgt
        go_wp2_with fail
        go_quiet (fail)
        have Hq := Hk.drewN nq
        have Rq := Rk.drewN nq
        have Tq := Tk.drewN nq
        have f2q : (wr.drewN nq).cell? ⟨h.b, 2, none⟩ = some (.slice (some ⟨g, 0, none⟩) (m + 1) h.cap) := f2
        have c0q : (wr.drewN nq).cell? ⟨g, m * 3, none⟩ = some (.int .i64 x.l) := c0
        clear f1 f2 g1 c0 c1 Hk Rk Tk
        generalize wr.drewN nq = wq at *
        have hmm : (m : Int) < (m : Int) + 1 := by omega
        have Hq := Lib.hid Hq
        have Rq := Lib.hid Rq
        have Tq := Lib.hid Tq
        go_wp2_with fail
        go_region_law ((refine step_append_one _ rfl _ _ 36 rfl 3 i0 (.int .i64 0) 1 8 Try.underlying36 ii rfl (by decide) wq a cap k (ints (lastOf s k)) rfl Rq.out (((Turn.refl γk wq _).alloc _).drew) (World.ownsRow.alloc Rq.out.own _) ⟨wq.heap.size, 0, none⟩ 1 1 (by decide) [.int .i64 x.l] rfl rfl (cell_one_new wq _ _) (by simp [Value.oneCell']) (by unfold maxLen; omega) (by omega) ?_; intro γ4 g4 cap4 w4 hr4 hT4))
        all_goals
          have e1 : ints (lastOf s k) ++ [Value.int .i64 x.l] = ints (lastOf s (k + 1)) := by rw [lastOf_succ (m := m) (by omega) Hx0.out]; simp [ints]
          rw [e1] at hr4
          have H4 := Hq.out.turn hT4 hpq
          have T4 := Tq.out.trans (hT4.to (by simp))
          have f4 := H4.f2
          have hcp := H4.rows.le_cap
          simp only [hlen, Hg.out] at f4 hcp
          have gf4 := H4.head.free 2
          have hcp1 : m ≤ h.cap := by omega
          have hcp2 : (m : Int) ≤ h.cap := by omega
          have Z := Lib.hid (H4.shorter (by omega) Hg.out)
          clear H4
          have T4 := Lib.hid T4
          have R4 := Lib.hid hr4
          clear hr4 hT4 Hq Rq Tq f2q c0q e1 hcp
          go_wp2_with fail
          go_region
          all_goals
            go_wp2_with fail
            refine ⟨⟨m, k + 1, _, cap4, γ4, by omega, rfl, ?_, ?_, ?_, Lib.hid fun j hj y hy => ?_⟩, by simp [sliceLen]; omega⟩
            · exact (R4.out.turn Z.out.2 (by simpa using hqp)).drewN 1
            · exact Z.out.1.drewN 1
            · exact (T4.out.trans (Z.out.2.to (by simp))).drewN 1
            · by_cases hjm : j = m
              · rw [hjm, Hx0.out] at hy
                cases hy
                exact hgt
              · exact Hgo.out j (by omega) y hy
      · have hw : IntKind.i64.wrap (m : Int) = m := IntWalk.i64_in _ (by omega)
        have d3 : decide ((lv : Int) < x.level) = false := by simp; omega
        go_wp2_with fail
        go_quiet (fail)
        go_wp2_with fail
        go_ret
        exact m_back_end F hqp Hlv.out hmk (Rk.drewN nq) (Hk.drewN nq) (Tk.drewN nq) Hgo.out (fun k hk y hy => by
          obtain rfl : k = m := by omega
          rw [Hx0.out] at hy
          cases hy
          omega) rfl

end Go.Proofs.Ytlmmiobnbcanmaa
