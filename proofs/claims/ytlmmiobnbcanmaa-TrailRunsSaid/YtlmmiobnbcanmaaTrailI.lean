import Derived.Test.YtlmmiobnbcanmaaTrailE
import Derived.Test.YtlmmiobnbcanmaaTrailW
import Derived.Test.YtlmmiobnbcanmaaMap
namespace Go.Proofs.Ytlmmiobnbcanmaa
open Go.RowKit

theorem zero_run {P : Program} {e : TypeId} {z : Value} {i : TypeInfo} (hi : P.info? e = some i) (hz : i.zero = some z) : ∀ w, (zeroValue e).run P w = .ok z w := by
  intro w
  simp [zeroValue, typeInfo, hi, hz]

theorem Try.mapII : MapTy Try.prog 39 3 3 (.int .i64 0) :=
  ⟨Try.underlying39, Try.underlying3, let ⟨_, hi, hz, _⟩ := Try.infoInt; zero_run hi hz⟩
theorem Try.mapIB : MapTy Try.prog 27 3 4 (.bool false) :=
  ⟨Try.underlying27, Try.underlying3, let ⟨_, hi, hz, _⟩ := Try.infoBool; zero_run hi hz⟩

theorem wpList_lookup_v_ok {P : Program} {t k e : TypeId} {z : Value} {γ : Tags} {w : World} {p : Tag} {b : Nat} {f : Int → Option Value} {sz : Nat} {ops : Array Oper} {rest : List Oper} {o : Oper} {a : Act} {Q : Exit → Act → World → Prop} (hg : o.guard = none) (m x : Operand) (hop : o.op = Op.lookup t m x true) (M : MapTy P t k e z)
    (hm : a.eval m = .map (some b)) (h : MapAt P k γ w p b f sz) (i : Int) (hx : a.eval x = .int .i64 i) (hi : I64 i) {v : Value} (hv : (f i).getD z = v) {bo : Bool} (hb : (f i).isSome = bo)
    (hK : wpList P ops Q rest (a.put o.dst (.tuple #[v, .bool bo])) w) : wpList P ops Q (o :: rest) a w :=
  wpList_lookup_m_ok hg m x hop M hm h i hx hi (by rw [hv, hb]; exact hK)

/-- All reasons are ints. -/
def RsOk (t : TrailM) : Prop := ∀ c ∈ t.cells, I64 c.reason

theorem RsOk.set {cs : List TCell} (h : ∀ c ∈ cs, I64 c.reason) {i : Nat} {c : TCell} (hc : I64 c.reason) : ∀ x ∈ cs.set i c, I64 x.reason := by
  intro x hx
  rcases List.mem_or_eq_of_mem_set hx with h1 | rfl
  · exact h x h1
  · exact hc

theorem RsOk.new (n : Nat) : RsOk (TrailM.new n) := by
  intro c hc
  have := List.eq_of_mem_replicate hc
  subst this
  exact I64.small (by decide) (by decide)

theorem RsOk.doPut {t : TrailM} (h : RsOk t) (l : Int) {r : Int} (hr : I64 r) : RsOk (t.doPut l r) := by
  unfold TrailM.doPut
  split
  · exact RsOk.set h hr
  · exact h
theorem RsOk.doDecide {t : TrailM} (h : RsOk t) (l : Int) : RsOk (t.doDecide l) := by
  unfold TrailM.doDecide
  split
  · exact RsOk.set h (show I64 (-1) from I64.small (by decide) (by decide))
  · exact h
theorem RsOk.unset {cs : List TCell} (h : ∀ c ∈ cs, I64 c.reason) (x : Int) : ∀ c ∈ Go.Proofs.Ytlmmiobnbcanmaa.unset cs x, I64 c.reason := by
  intro c hc
  unfold Go.Proofs.Ytlmmiobnbcanmaa.unset at hc
  obtain ⟨i, hi⟩ := List.getElem?_of_mem hc
  rw [List.getElem?_modify] at hi
  cases hci : cs[i]? with
  | none => rw [hci] at hi; simp at hi
  | some d =>
    rw [hci] at hi
    have hd := h d (List.mem_of_getElem? hci)
    simp only [Option.map_eq_map, Option.map_some, Option.some.injEq] at hi
    subst hi
    split <;> exact hd
theorem RsOk.cut {t : TrailM} (h : RsOk t) (lv : Nat) : RsOk (t.cut lv) := by
  unfold TrailM.cut
  show ∀ c ∈ _, _
  generalize t.l.reverse.take (t.l.length - t.start lv) = xs
  have h' : ∀ c ∈ t.cells, I64 c.reason := h
  generalize t.cells = cs at h'
  induction xs generalizing cs with
  | nil => exact h'
  | cons x xs ih => exact ih _ (RsOk.unset h' x)
theorem RsOk.setPhase {t : TrailM} (h : RsOk t) (v : Int) (is : Bool) : RsOk (t.setPhase v is) := by
  unfold TrailM.setPhase
  split
  · rename_i c hg
    split
    · obtain ⟨_, i, _, hc⟩ := TrailM.get_some hg
      exact RsOk.set h (h c (List.mem_of_getElem? hc))
    · exact h
  · exact h

/-- A trail lies at b, and is s; and all reasons are ints. -/
def TrI (p : Tag) (b : Nat) (s : TrailS) (γ : Tags) (w : World) : Prop := ∃ (t : TrailM) (h : TrailH), h.b = b ∧ TrailAt γ w p h t ∧ Abs t s ∧ RsOk t

section
variable {γ γ' : Tags} {w w' : World} {p q : Tag} {b : Nat} {s : TrailS}

theorem TrI.tr (H : TrI p b s γ w) : TrS p b s γ w := let ⟨t, h, hb, H, A, _⟩ := H; ⟨t, h, hb, H, A⟩
theorem TrI.drewN (H : TrI p b s γ w) (n : Nat) : TrI p b s γ (w.drewN n) := let ⟨t, h, hb, H, A⟩ := H; ⟨t, h, hb, H.drewN n, A⟩
theorem TrI.turn (H : TrI p b s γ w) {ps : List Tag} (ht : Turn γ γ' w w' ps) (hp : ∀ x, ¬ Under ps (p ++ x)) : TrI p b s γ' w' := let ⟨t, h, hb, H, A⟩ := H; ⟨t, h, hb, H.turn ht hp, A⟩
theorem TrI.alloc (H : TrI p b s γ w) (o : Obj) : TrI p b s γ (w.alloc o) := H.turn ((Turn.refl γ w []).alloc o) (by simp)
theorem TrI.now {t : TrailM} (H : TrailNow p b t γ w) (A : Abs t s) (R : RsOk t) : TrI p b s γ w := let ⟨h, hb, H⟩ := H; ⟨t, h, hb, H, A, R⟩

theorem i_new (γ : Tags) (w : World) (p : Tag) (n : Nat) (hn : n ≤ 100000) :
    Calls Try.prog 6 #[.int .i64 n] w (Gives γ w [p] fun v γ' w' => ∃ b, v = .pointer (some ⟨b, 0, none⟩) ∧ TrI p b (TrailS.new n) γ' w' ∧ w.heap.size ≤ b) :=
  (trail_new γ w p n hn).mono fun _ _ ⟨b, γ', he, hN, hT, hb⟩ => ⟨_, γ', he, ⟨b, rfl, TrI.now hN (Abs.new n) (RsOk.new n), hb⟩, hT⟩

theorem i_put (H : TrI p b s γ w) (l r : Int) (hr : I64 r) : Calls Try.prog 7 #[.pointer (some ⟨b, 0, none⟩), .int .i64 l, .int .i64 r] w (Turned γ w [p] (.bool (s.free l)) (TrI p b (s.put l r))) := by
  have h1 := H.tr.few
  have h2 := H.tr.len
  obtain ⟨t, h, rfl, H, A, R⟩ := H
  have h3 := A.len_eq
  refine (put_any H l r (by omega)).mono fun e w' ⟨he, γ', hN, hT⟩ => ⟨by rw [he, A.free_eq], γ', TrI.now hN (A.put l r) (R.doPut l hr), hT⟩

theorem i_decide (H : TrI p b s γ w) (l : Int) : Calls Try.prog 9 #[.pointer (some ⟨b, 0, none⟩), .int .i64 l] w (Turned γ w [p] (.bool (s.free l)) (TrI p b (s.decide' l))) := by
  have h1 := H.tr.few
  have h2 := H.tr.len
  have h4 := H.tr.lev
  obtain ⟨t, h, rfl, H, A, R⟩ := H
  have h3 := A.len_eq
  have h5 := A.lv
  refine (decide_any H l (by omega) (by omega)).mono fun e w' ⟨he, γ', hN, hT⟩ => ⟨by rw [he, A.free_eq], γ', TrI.now hN (A.decides l) (R.doDecide l), hT⟩

theorem i_back (H : TrI p b s γ w) (hpq : ∀ x, ¬ Under [q] (p ++ x)) (hqp : ¬ Under [p] q) (level : Int) : Calls Try.prog 10 #[.pointer (some ⟨b, 0, none⟩), .int .i64 level] w
    (Gives γ w [p, q] fun v γ' w' => ∃ a cap, v = .slice a (s.gone level).length cap ∧ Row γ' w' q 3 1 a (s.gone level).length cap (ints (s.gone level)) ∧ TrI p b (s.back level) γ' w') := by
  have h1 := H.tr.few
  have h2 := H.tr.len
  obtain ⟨t, h, rfl, H, A, R⟩ := H
  have h3 := A.len_eq
  by_cases hlv : max level 0 < s.level
  · obtain ⟨lv, hv⟩ : ∃ lv : Nat, max level 0 = lv := ⟨(max level 0).toNat, by omega⟩
    have hlt : lv < s.level := by omega
    have e : (max level 0).toNat = lv := by omega
    obtain ⟨_, s2, s3⟩ := A.start_eq hlt
    obtain ⟨_, r2, _⟩ := A.removed hlt
    have hg : s.gone level = (t.l.drop (t.start lv)).reverse := by rw [r2]; simp [TrailS.gone, hlv, e]
    have hgl : (s.gone level).length = t.l.length - t.start lv := by rw [hg]; simp
    have hb : s.back level = s.cut lv := by simp [TrailS.back, hlv, e]
    rw [hb, hgl, hg]
    refine (back_cut H hpq hqp level lv hv (by rw [A.lv]; exact hlt) ⟨_, s3, s2⟩ (fun x hx => ?_) (by omega)).mono fun e w' ⟨v, γ', he, ⟨a, cap, hv, hr, hN⟩, hT⟩ => ⟨v, γ', he, ⟨a, cap, hv, hr, TrI.now hN (A.cut hlt) (R.cut lv)⟩, hT⟩
    rw [A.l] at hx
    obtain ⟨y, hy, rfl⟩ := List.mem_map.1 hx
    rw [A.n]
    exact A.right y hy
  · have hg : s.gone level = [] := by simp [TrailS.gone, hlv]
    have hb : s.back level = s := by simp [TrailS.back, hlv]
    rw [hg, hb]
    refine (back_no H level (by rw [A.lv]; omega)).mono fun e w' ⟨he, hw⟩ => ?_
    subst hw
    exact ⟨_, γ, he, ⟨none, 0, rfl, Row.nil _ _ _ _ _, ⟨t, h, rfl, H, A, R⟩⟩, Turn.refl _ _ _⟩

theorem i_setPhase (H : TrI p b s γ w) (v : Int) (is : Bool) : Calls Try.prog 12 #[.pointer (some ⟨b, 0, none⟩), .int .i64 v, .bool is] w (Turned γ w [p] (.bool (rightB v s.n && decide (0 ≤ v))) (TrI p b (s.setPhase v is))) := by
  obtain ⟨t, h, rfl, H, A, R⟩ := H
  rw [← A.mayPhase_eq]
  exact (setPhase_any H v is).mono fun e w' ⟨he, γ', hN, hT⟩ => ⟨he, γ', TrI.now hN (A.setPhase v is) (R.setPhase v is), hT⟩

end

/-- A reason that has another place. -/
def newR (F : Int → Option Int) (r : Int) : Int := (F r).getD r
def movedCell (F : Int → Option Int) (c : TCell) : TCell := if c.value = 0 then c else { c with reason := newR F c.reason }
/-- The first k are moved. -/
def movedTo (F : Int → Option Int) (cs : List TCell) (k : Nat) : List TCell := (cs.take k).map (movedCell F) ++ cs.drop k

theorem movedTo_len (F : Int → Option Int) (cs : List TCell) {k : Nat} (hk : k ≤ cs.length) : (movedTo F cs k).length = cs.length := by simp [movedTo]; omega
theorem movedTo_get (F : Int → Option Int) {cs : List TCell} {k : Nat} {c : TCell} (hc : cs[k]? = some c) : (movedTo F cs k)[k]? = some c := by
  obtain ⟨hk, rfl⟩ := List.getElem?_eq_some_iff.1 hc
  unfold movedTo
  rw [List.getElem?_append_right (by simp; omega)]
  simp [Nat.min_eq_left (Nat.le_of_lt hk)]
theorem movedTo_succ (F : Int → Option Int) {cs : List TCell} {k : Nat} {c : TCell} (hc : cs[k]? = some c) : movedTo F cs (k + 1) = (movedTo F cs k).set k (movedCell F c) := by
  obtain ⟨hk, rfl⟩ := List.getElem?_eq_some_iff.1 hc
  unfold movedTo
  rw [List.set_append_right _ _ (by simp; omega)]
  simp only [List.length_map, List.length_take, Nat.min_eq_left (Nat.le_of_lt hk), Nat.sub_self]
  rw [List.take_succ_eq_append_getElem hk, List.map_append, List.drop_eq_getElem_cons hk]
  simp only [List.map_cons, List.map_nil, List.append_assoc, List.cons_append, List.nil_append, List.set_cons_zero]

/-- Reasons have other places. -/
def TrailS.moved (s : TrailS) (F : Int → Option Int) : TrailS := { s with steps := s.steps.map fun x => { x with reason := newR F x.reason } }

set_option maxHeartbeats 1000000 in
theorem moved_any {γ : Tags} {w : World} {p q : Tag} {h : TrailH} {t : TrailM} (H : TrailAt γ w p h t) (F : Int → Option Int) {fb sz : Nat} (M : MapAt Try.prog 3 γ w q fb (fun x => (F x).map (Value.int .i64)) sz) (hpq : ¬ Under [p] q) (R : RsOk t) :
    Calls Try.prog 13 #[.pointer (some ⟨h.b, 0, none⟩), .map (some fb)] w fun e w' => e = .returned (.tuple #[]) ∧ TrailAt γ w' p h { t with cells := movedTo F t.cells t.cells.length } ∧ Turn γ γ w w' [p] := by
  have hn := H.few
  have f0 := H.f0
  go_enter Try.func13, Try.ntmps13
  go_wp2
  go_loopw [12] (fun v wr => ∃ (k : Nat), k ≤ t.cells.length ∧ v = .int .i64 k ∧ TrailAt γ wr p h { t with cells := movedTo F t.cells k } ∧ Turn γ γ w wr [p]) (fun v _ => t.cells.length - (intOf v).toNat)
  case atStart => exact ⟨0, Nat.zero_le _, rfl, H, Turn.refl _ _ _⟩
  case round =>
    obtain ⟨k, hk, rfl, Hk, Tk⟩ := hrel
    have Mk := M.turn Tk hpq
    by_cases hlt : k < t.cells.length
    · have hc0 := List.getElem?_eq_getElem hlt
      have hr := R _ (List.getElem_mem hlt)
      generalize t.cells[k] = c at *
      have hc := movedTo_get F hc0
      have hs := movedTo_succ F hc0
      have hl := movedTo_len F (cs := t.cells) hk
      have hsg : -1 ≤ c.value ∧ c.value ≤ 1 := H.signs c (List.mem_of_getElem? hc0)
      have hk' : k < (movedTo F t.cells k).length := by omega
      have hck : (movedTo F t.cells k)[k] = c := (List.getElem?_eq_some_iff.1 hc).2
      obtain ⟨k0, k1, k2, k3, k4⟩ := Hk.cs hc
      have g2 := Hk.vars.free (k * 5 + 2)
      have f1 := Hk.f0
      simp only [hl] at f1
      cases hf : F c.reason with
      | none =>
        have em : movedCell F c = c := by unfold movedCell newR; rw [hf]; split <;> rfl
        rw [em] at hs
        have es : movedTo F t.cells (k + 1) = movedTo F t.cells k := by
          rw [hs]
          conv => rhs; rw [← List.set_getElem_self hk', hck]
        have hm1 : (((F c.reason).map (Value.int .i64)).getD (.int .i64 0)) = .int .i64 0 := by rw [hf]; rfl
        have hm2 : ((F c.reason).map (Value.int .i64)).isSome = false := by rw [hf]; rfl
        clear hf em hs hck hc hc0
        go_wp2_with (at_lookup; go_must (refine wpList_lookup_v_ok rfl (.tmp 16) (.tmp 24) rfl Try.mapII rfl Mk _ rfl hr hm1 hm2 ?_))
        go_roundw
        case rel => exact ⟨k + 1, by omega, by go_num, by rw [es]; exact Hk, Tk⟩
        case measure => simp [intOf]; omega
      | some y =>
        have hm1 : (((F c.reason).map (Value.int .i64)).getD (.int .i64 0)) = .int .i64 y := by rw [hf]; rfl
        have hm2 : ((F c.reason).map (Value.int .i64)).isSome = true := by rw [hf]; rfl
        by_cases hv : c.value = 0
        · have em : movedCell F c = c := by unfold movedCell; rw [if_pos hv]
          rw [em] at hs
          have es : movedTo F t.cells (k + 1) = movedTo F t.cells k := by
            rw [hs]
            conv => rhs; rw [← List.set_getElem_self hk', hck]
          have hv' : (c.value != 0) = false := by simpa using hv
          clear hf em hs hck hc hc0 hv
          go_wp2_with (at_lookup; go_must (refine wpList_lookup_v_ok rfl (.tmp 16) (.tmp 24) rfl Try.mapII rfl Mk _ rfl hr hm1 hm2 ?_))
          go_roundw
          case rel => exact ⟨k + 1, by omega, by go_num, by rw [es]; exact Hk, Tk⟩
          case measure => simp [intOf]; omega
        · have em : movedCell F c = { c with reason := y } := by unfold movedCell newR; rw [if_neg hv, hf]; rfl
          rw [em] at hs
          have hv' : (c.value != 0) = true := by simpa using hv
          have S := Hk.set_one (i := k) hk' 0 2 (by omega) (.int .i64 y) { c with reason := y } hsg (by simp only [hck]; rfl) _ rfl
          obtain ⟨S, T⟩ := S
          have S' : TrailAt γ (wr.setCell ⟨h.bv, k * 5 + 2, none⟩ (.int .i64 y)) p h { t with cells := movedTo F t.cells (k + 1) } := by rw [hs]; exact S
          have T' : Turn γ γ w (wr.setCell ⟨h.bv, k * 5 + 2, none⟩ (.int .i64 y)) [p] := Tk.trans T.at
          clear hf em hs hck hc hc0 hv S T
          go_wp2_with (at_lookup; go_must (refine wpList_lookup_v_ok rfl (.tmp 16) (.tmp 24) rfl Try.mapII rfl Mk _ rfl hr hm1 hm2 ?_))
          go_roundw
          case rel => exact ⟨k + 1, by omega, by go_num, S', T'⟩
          case measure => simp [intOf]; omega
    · obtain rfl : k = t.cells.length := by omega
      go_wp2
      go_end0
      exact ⟨rfl, Hk, Tk⟩

theorem movedTo_all (F : Int → Option Int) (cs : List TCell) : movedTo F cs cs.length = cs.map (movedCell F) := by simp [movedTo]

theorem movedCell_value (F : Int → Option Int) (c : TCell) : (movedCell F c).value = c.value := by unfold movedCell; split <;> rfl
theorem movedCell_phase (F : Int → Option Int) (c : TCell) : (movedCell F c).phase = c.phase := by unfold movedCell; split <;> rfl
theorem sgn_ne (l : Int) : sgn l ≠ 0 := by unfold sgn; split <;> decide

theorem Abs.moved {t : TrailM} {s : TrailS} (A : Abs t s) (F : Int → Option Int) : Abs { t with cells := movedTo F t.cells t.cells.length } (s.moved F) := by
  rw [movedTo_all]
  refine ⟨by simp [TrailS.moved, A.n], ?_, A.lv, fun k h => ?_, fun x hx => ?_, fun i x hx => ?_, fun j c hc hv => ?_, fun j c hc => ?_, ?_, fun x hx => ?_, fun k hk => ?_⟩
  · simp [TrailS.moved, A.l, Function.comp_def]
  · have := A.starts k h
    rw [this]
    simp only [TrailS.moved, List.filter_map, List.length_map]
    rfl
  · simp only [TrailS.moved, List.mem_map] at hx
    obtain ⟨y, hy, rfl⟩ := hx
    exact A.right y hy
  · simp only [TrailS.moved, List.getElem?_map, Option.map_eq_some_iff] at hx
    obtain ⟨y, hy, rfl⟩ := hx
    have := A.on i y hy
    simp only [List.getElem?_map, this, Option.map_some, movedCell, sgn_ne, if_false, TrailS.moved]
  · simp only [List.getElem?_map, Option.map_eq_some_iff] at hc
    obtain ⟨d, hd, rfl⟩ := hc
    rw [movedCell_value] at hv
    obtain ⟨i, x, hx, hl⟩ := A.off j d hd hv
    exact ⟨i, { x with reason := newR F x.reason }, by simp [TrailS.moved, hx], hl⟩
  · simp only [List.getElem?_map, Option.map_eq_some_iff] at hc
    obtain ⟨d, hd, rfl⟩ := hc
    rw [movedCell_phase]
    exact A.phase j d hd
  · simp only [TrailS.moved]
    rw [List.pairwise_map]
    exact A.levels
  · simp only [TrailS.moved, List.mem_map] at hx
    obtain ⟨y, hy, rfl⟩ := hx
    exact A.bounds y hy
  · obtain ⟨y, hy, hl⟩ := A.each k hk
    exact ⟨{ y with reason := newR F y.reason }, by simp only [TrailS.moved, List.mem_map]; exact ⟨y, hy, rfl⟩, hl⟩

theorem RsOk.moved {t : TrailM} (h : RsOk t) {F : Int → Option Int} (hF : ∀ x y, F x = some y → I64 y) : RsOk { t with cells := movedTo F t.cells t.cells.length } := by
  rw [movedTo_all]
  intro c hc
  obtain ⟨d, hd, rfl⟩ := List.mem_map.1 hc
  have := h d hd
  unfold movedCell newR
  split
  · exact this
  · cases hf : F d.reason with
    | none => exact this
    | some y => exact hF _ _ hf

theorem i_moved {γ : Tags} {w : World} {p q : Tag} {b : Nat} {s : TrailS} (H : TrI p b s γ w) (F : Int → Option Int) (hF : ∀ x y, F x = some y → I64 y) {fb sz : Nat} (M : MapAt Try.prog 3 γ w q fb (fun x => (F x).map (Value.int .i64)) sz) (hpq : ¬ Under [p] q) :
    Calls Try.prog 13 #[.pointer (some ⟨b, 0, none⟩), .map (some fb)] w (Turned γ w [p] (.tuple #[]) (TrI p b (s.moved F))) := by
  obtain ⟨t, h, rfl, H, A, R⟩ := H
  exact (moved_any H F M hpq R).mono fun e w' ⟨he, H', T⟩ => ⟨he, γ, ⟨_, h, rfl, H', A.moved F, R.moved hF⟩, T⟩

end Go.Proofs.Ytlmmiobnbcanmaa
