import Derived.Test.YtlmmiobnbcanmaaTrailD
import Derived.Test.YtlmmiobnbcanmaaTrailT
namespace Go.Proofs.Ytlmmiobnbcanmaa
open Go.RowKit

/-- A trail lies at b, and is s. -/
def TrS (p : Tag) (b : Nat) (s : TrailS) (γ : Tags) (w : World) : Prop := ∃ (t : TrailM) (h : TrailH), h.b = b ∧ TrailAt γ w p h t ∧ Abs t s

section
variable {γ γ' : Tags} {w w' : World} {p q : Tag} {b : Nat} {s : TrailS}

theorem TrS.drewN (H : TrS p b s γ w) (n : Nat) : TrS p b s γ (w.drewN n) := let ⟨t, h, hb, H, A⟩ := H; ⟨t, h, hb, H.drewN n, A⟩
theorem TrS.turn (H : TrS p b s γ w) {ps : List Tag} (ht : Turn γ γ' w w' ps) (hp : ∀ x, ¬ Under ps (p ++ x)) : TrS p b s γ' w' := let ⟨t, h, hb, H, A⟩ := H; ⟨t, h, hb, H.turn ht hp, A⟩
theorem TrS.alloc (H : TrS p b s γ w) (o : Obj) : TrS p b s γ (w.alloc o) := H.turn ((Turn.refl γ w []).alloc o) (by simp)
theorem TrS.few (H : TrS p b s γ w) : s.n ≤ 100000 := let ⟨_, _, _, H, A⟩ := H; by rw [← A.n]; exact H.few
theorem TrS.len (H : TrS p b s γ w) : s.steps.length ≤ s.n := let ⟨_, _, _, _, A⟩ := H; A.len_le
theorem TrS.lev (H : TrS p b s γ w) : s.level ≤ s.steps.length := let ⟨_, _, _, _, A⟩ := H; A.level_le
theorem TrS.now {t : TrailM} (H : TrailNow p b t γ w) (A : Abs t s) : TrS p b s γ w := let ⟨h, hb, H⟩ := H; ⟨t, h, hb, H, A⟩

theorem s_new (γ : Tags) (w : World) (p : Tag) (n : Nat) (hn : n ≤ 100000) :
    Calls Try.prog 6 #[.int .i64 n] w (Gives γ w [p] fun v γ' w' => ∃ b, v = .pointer (some ⟨b, 0, none⟩) ∧ TrS p b (TrailS.new n) γ' w' ∧ w.heap.size ≤ b) :=
  (trail_new γ w p n hn).mono fun _ _ ⟨b, γ', he, hN, hT, hb⟩ => ⟨_, γ', he, ⟨b, rfl, TrS.now hN (Abs.new n), hb⟩, hT⟩

theorem s_put (H : TrS p b s γ w) (l r : Int) : Calls Try.prog 7 #[.pointer (some ⟨b, 0, none⟩), .int .i64 l, .int .i64 r] w (Turned γ w [p] (.bool (s.free l)) (TrS p b (s.put l r))) := by
  have h1 := H.few
  have h2 := H.len
  obtain ⟨t, h, rfl, H, A⟩ := H
  have h3 := A.len_eq
  refine (put_any H l r (by omega)).mono fun e w' ⟨he, γ', hN, hT⟩ => ⟨by rw [he, A.free_eq], γ', TrS.now hN (A.put l r), hT⟩

theorem s_decide (H : TrS p b s γ w) (l : Int) : Calls Try.prog 9 #[.pointer (some ⟨b, 0, none⟩), .int .i64 l] w (Turned γ w [p] (.bool (s.free l)) (TrS p b (s.decide' l))) := by
  have h1 := H.few
  have h2 := H.len
  have h4 := H.lev
  obtain ⟨t, h, rfl, H, A⟩ := H
  have h3 := A.len_eq
  have h5 := A.lv
  refine (decide_any H l (by omega) (by omega)).mono fun e w' ⟨he, γ', hN, hT⟩ => ⟨by rw [he, A.free_eq], γ', TrS.now hN (A.decides l), hT⟩

theorem s_back (H : TrS p b s γ w) (hpq : ∀ x, ¬ Under [q] (p ++ x)) (hqp : ¬ Under [p] q) (level : Int) : Calls Try.prog 10 #[.pointer (some ⟨b, 0, none⟩), .int .i64 level] w
    (Gives γ w [p, q] fun v γ' w' => ∃ a cap, v = .slice a (s.gone level).length cap ∧ Row γ' w' q 3 1 a (s.gone level).length cap (ints (s.gone level)) ∧ TrS p b (s.back level) γ' w') := by
  have h1 := H.few
  have h2 := H.len
  obtain ⟨t, h, rfl, H, A⟩ := H
  have h3 := A.len_eq
  by_cases hlv : max level 0 < s.level
  · obtain ⟨lv, hv⟩ : ∃ lv : Nat, max level 0 = lv := ⟨(max level 0).toNat, by omega⟩
    have hlt : lv < s.level := by omega
    have e : (max level 0).toNat = lv := by omega
    obtain ⟨_, s2, s3⟩ := A.start_eq hlt
    obtain ⟨_, r2, _⟩ := A.removed hlt
    have hg : s.gone level = (t.l.drop (t.start lv)).reverse := by rw [r2]; simp [TrailS.gone, hlv, e]
    have hgl : (s.gone level).length = t.l.length - t.start lv := by rw [hg]; simp
    have hb : s.back level = s.cut lv := by simp [TrailS.back, hlv, e]
    rw [hb, hgl, hg]
    refine (back_cut H hpq hqp level lv hv (by rw [A.lv]; exact hlt) ⟨_, s3, s2⟩ (fun x hx => ?_) (by omega)).mono fun e w' ⟨v, γ', he, ⟨a, cap, hv, hr, hN⟩, hT⟩ => ⟨v, γ', he, ⟨a, cap, hv, hr, TrS.now hN (A.cut hlt)⟩, hT⟩
    rw [A.l] at hx
    obtain ⟨y, hy, rfl⟩ := List.mem_map.1 hx
    rw [A.n]
    exact A.right y hy
  · have hg : s.gone level = [] := by simp [TrailS.gone, hlv]
    have hb : s.back level = s := by simp [TrailS.back, hlv]
    rw [hg, hb]
    refine (back_no H level (by rw [A.lv]; omega)).mono fun e w' ⟨he, hw⟩ => ?_
    subst hw
    exact ⟨_, γ, he, ⟨none, 0, rfl, Row.nil _ _ _ _ _, ⟨t, h, rfl, H, A⟩⟩, Turn.refl _ _ _⟩

theorem s_setPhase (H : TrS p b s γ w) (v : Int) (is : Bool) : Calls Try.prog 12 #[.pointer (some ⟨b, 0, none⟩), .int .i64 v, .bool is] w (Turned γ w [p] (.bool (rightB v s.n && decide (0 ≤ v))) (TrS p b (s.setPhase v is))) := by
  obtain ⟨t, h, rfl, H, A⟩ := H
  rw [← A.mayPhase_eq]
  exact (setPhase_any H v is).mono fun e w' ⟨he, γ', hN, hT⟩ => ⟨he, γ', TrS.now hN (A.setPhase v is), hT⟩

theorem s_level (H : TrS p b s γ w) : Calls Try.prog 14 #[.pointer (some ⟨b, 0, none⟩)] w (Quiet w (.int .i64 s.level)) := by
  obtain ⟨t, h, rfl, H, A⟩ := H; rw [← A.lv]; exact level_any H
theorem s_len (H : TrS p b s γ w) : Calls Try.prog 15 #[.pointer (some ⟨b, 0, none⟩)] w (Quiet w (.int .i64 s.steps.length)) := by
  obtain ⟨t, h, rfl, H, A⟩ := H; rw [← A.len_eq]; exact len_any H
theorem s_full (H : TrS p b s γ w) : Calls Try.prog 16 #[.pointer (some ⟨b, 0, none⟩)] w (Quiet w (.bool (decide (s.steps.length = s.n)))) := by
  obtain ⟨t, h, rfl, H, A⟩ := H; rw [← A.len_eq, ← A.n]; exact full_any H
theorem s_at (H : TrS p b s γ w) (i : Int) : Calls Try.prog 18 #[.pointer (some ⟨b, 0, none⟩), .int .i64 i] w (Quiet w (.int .i64 (s.at' i))) := by
  obtain ⟨t, h, rfl, H, A⟩ := H; rw [← A.at_eq]; exact at_any H i
theorem s_place (H : TrS p b s γ w) (l : Int) : Calls Try.prog 26 #[.pointer (some ⟨b, 0, none⟩), .int .i64 l] w (Quiet w (.int .i64 (s.place l))) := by
  obtain ⟨t, h, rfl, H, A⟩ := H; rw [← A.place_eq]; exact place_any H l
theorem s_value (H : TrS p b s γ w) (l : Int) : Calls Try.prog 24 #[.pointer (some ⟨b, 0, none⟩), .int .i64 l] w (Quiet w (.int .i64 (s.value l))) := by
  obtain ⟨t, h, rfl, H, A⟩ := H; rw [← A.value_eq]; exact value_any H l
theorem s_levelOf (H : TrS p b s γ w) (l : Int) : Calls Try.prog 31 #[.pointer (some ⟨b, 0, none⟩), .int .i64 l] w (Quiet w (.int .i64 (s.levelOf l))) := by
  obtain ⟨t, h, rfl, H, A⟩ := H; rw [← A.levelOf_eq]; exact levelOf_any H l
theorem s_reason (H : TrS p b s γ w) (l : Int) : Calls Try.prog 25 #[.pointer (some ⟨b, 0, none⟩), .int .i64 l] w (Quiet w (.int .i64 (s.reason l))) := by
  obtain ⟨t, h, rfl, H, A⟩ := H; rw [← A.reason_eq]; exact reason_any H l
theorem s_phase (H : TrS p b s γ w) (v : Int) : Calls Try.prog 27 #[.pointer (some ⟨b, 0, none⟩), .int .i64 v] w (Quiet w (.bool (s.phaseOf v))) := by
  obtain ⟨t, h, rfl, H, A⟩ := H; rw [← A.phase_eq]; exact phase_any H v

/-- A call that only reads, and what is known of the world ahead of it. -/
theorem still {P : Program} {f : FuncId} {args : Array Value} {w : World} {v : Value} (h : Calls P f args w (Quiet w v)) {R : World → Prop} (hR : ∀ n, R (w.drewN n)) : Calls P f args w fun e w' => e = .returned v ∧ R w' :=
  h.mono fun _ _ ⟨he, n, hw⟩ => ⟨he, hw ▸ hR n⟩

/-- A trail, and that nothing but what lies below p has turned since w0. -/
structure St (γ0 : Tags) (w0 : World) (ps : List Tag) (p : Tag) (b : Nat) (s : TrailS) (γ : Tags) (w : World) : Prop where
  tr : TrS p b s γ w
  turn : Turn γ0 γ w0 w ps

theorem St.drewN {γ0 : Tags} {w0 : World} {ps : List Tag} (H : St γ0 w0 ps p b s γ w) (n : Nat) : St γ0 w0 ps p b s γ (w.drewN n) := ⟨H.tr.drewN n, H.turn.drewN n⟩

end

end Go.Proofs.Ytlmmiobnbcanmaa
