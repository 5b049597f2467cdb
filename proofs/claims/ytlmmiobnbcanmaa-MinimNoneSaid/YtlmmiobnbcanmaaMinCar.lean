import Derived.Test.YtlmmiobnbcanmaaMinStep
namespace Go.Proofs.Ytlmmiobnbcanmaa
open Go.RowKit

def frv (f : Int × Nat) : List Value := [.int .i64 f.1, .int .i64 f.2]
theorem frv_length (f : Int × Nat) : (frv f).length = 2 := rfl

theorem scanS_le (inn : Int → Bool) (f : Int → Int) (v : Int) : ∀ (l : List Int) (k : Nat), k ≤ (scanS inn f v l k).1 ∧ (scanS inn f v l k).1 ≤ k + l.length
  | [], k => by simp [scanS]
  | y :: ys, k => by
    have ih := scanS_le inn f v ys (k + 1)
    simp only [scanS, List.length_cons]
    split
    · omega
    · split
      · simp
      · split
        · simp
        · omega

theorem scanS_what (inn : Int → Bool) (f : Int → Int) (v : Int) : ∀ (l : List Int) (k : Nat), (scanS inn f v l k).2 = 0 ∨ (scanS inn f v l k).2 = -1 ∨ ∃ y ∈ l, (scanS inn f v l k).2 = litVar y
  | [], k => by simp [scanS]
  | y :: ys, k => by
    have ih := scanS_what inn f v ys (k + 1)
    simp only [scanS]
    split
    · rcases ih with h | h | ⟨z, hz, h⟩
      · exact .inl h
      · exact .inr (.inl h)
      · exact .inr (.inr ⟨z, List.mem_cons_of_mem _ hz, h⟩)
    · split
      · exact .inr (.inr ⟨y, by simp, rfl⟩)
      · split
        · exact .inr (.inl rfl)
        · rcases ih with h | h | ⟨z, hz, h⟩
          · exact .inl h
          · exact .inr (.inl h)
          · exact .inr (.inr ⟨z, List.mem_cons_of_mem _ hz, h⟩)

theorem stepS_facts (inn : Int → Bool) (s : TrailS) (L : List Int) (v : Int) {k : Nat} (st : Int → Int) (hk : k ≤ L.length) :
    (stepS inn s L v k st).2.1 ≤ L.length ∧ ((stepS inn s L v k st).1 = 0 ∨ ∃ y ∈ L, (stepS inn s L v k st).1 = litVar y) := by
  have h1 := scanS_le inn (firstS st s) v (L.drop k) k
  have h2 := scanS_what inn (firstS st s) v (L.drop k) k
  simp only [List.length_drop] at h1
  unfold stepS
  simp only
  split
  · exact ⟨by dsimp only; omega, .inl rfl⟩
  · split
    · exact ⟨by dsimp only; omega, .inl rfl⟩
    · refine ⟨by dsimp only; omega, ?_⟩
      rcases h2 with h | h | ⟨y, hy, h⟩
      · exact .inl h
      · omega
      · exact .inr ⟨y, List.mem_of_mem_drop hy, h⟩

/-- One step of the search for what is carried: the stack's last is gone on with. -/
def mnext (inn : Int → Bool) (s : TrailS) (Ls : Int → List Int) (x : List (Int × Nat) × (Int → Int)) : List (Int × Nat) × (Int → Int) :=
  match x.1.getLast? with
  | none => x
  | some (v, k) =>
    let r := stepS inn s (Ls v) v k x.2
    if r.1 = 0 then (x.1.dropLast, r.2.2) else (x.1.dropLast ++ [(v, r.2.1), (r.1, 0)], r.2.2)

def mrun (inn : Int → Bool) (s : TrailS) (Ls : Int → List Int) : Nat → List (Int × Nat) × (Int → Int) → List (Int × Nat) × (Int → Int)
  | 0, x => x
  | n + 1, x => mrun inn s Ls n (mnext inn s Ls x)

theorem mrun_nil (inn : Int → Bool) (s : TrailS) (Ls : Int → List Int) (st : Int → Int) : ∀ n, mrun inn s Ls n ([], st) = ([], st)
  | 0 => rfl
  | n + 1 => by simp [mrun, mnext, mrun_nil inn s Ls st n]

theorem mnext_snoc (inn : Int → Bool) (s : TrailS) (Ls : Int → List Int) (fs0 : List (Int × Nat)) (v : Int) (k : Nat) (st : Int → Int) :
    mnext inn s Ls (fs0 ++ [(v, k)], st) = if (stepS inn s (Ls v) v k st).1 = 0 then (fs0, (stepS inn s (Ls v) v k st).2.2) else (fs0 ++ [(v, (stepS inn s (Ls v) v k st).2.1), ((stepS inn s (Ls v) v k st).1, 0)], (stepS inn s (Ls v) v k st).2.2) := by
  simp [mnext]

/-- Reasons' literals are handed out, and are literals. -/
def Rsns (ha : ArH) (m : ArM) (s : TrailS) (Ls : Int → List Int) : Prop :=
  ∀ v, I64 v → LitsOf [0, 1] [0, 4] ha m (s.reason v) (Ls v) ∧ (Ls v).length ≤ 1000000 ∧ ∀ x ∈ Ls v, -1000000 ≤ x ∧ x ≤ 1000000 ∧ x ≠ 0

section
variable {γ γ' : Tags} {w w' : World} {h : MnH} {inn : Int → Bool} {st st' : Int → Int} {s : TrailS} {ha : ArH} {m : ArM} {Ls : Int → List Int}

theorem mn_known (Z : Mini γ w [0, 0] [0, 1] [0, 2] s ha m h inn st) {v : Int} (hv : I64 v) {c : Int} (hc : firstS st s v = c) (h0 : c ≠ 0) :
    Calls Try.prog 34 #[.pointer (some ⟨h.b, 0, none⟩), .int .i64 v] w (Quiet w (.bool (c == 1))) := by
  have C := mn_first Z.tr Z.mn hv
  rw [hc] at C
  have hb : (c != 0) = true := by simpa using h0
  clear hc Z
  go_enter Try.func34, Try.ntmps34
  go_wp2_with fail
  refine C.mono ?_
  rintro e w1 ⟨rfl, n, rfl⟩
  clear C
  go_wp2_with fail
  go_ret
  exact ⟨rfl, n, rfl⟩

theorem Try.infoFrame : ∃ i, Try.prog.info? 71 = some i ∧ i.zero = some (.agg #[.int .i64 0, .int .i64 0]) ∧ i.size = 2 ∧ i.bytes = 16 := info_all (by kernel_rfl)

theorem frv_flat (fs : List (Int × Nat)) : (fs.flatMap frv).length = fs.length * 2 := flatMap_length _ 2 frv_length _
theorem frv_get (fs0 : List (Int × Nat)) (v : Int) (k : Nat) : ((fs0 ++ [(v, k)]).flatMap frv)[fs0.length * 2]? = some (.int .i64 v) ∧ ((fs0 ++ [(v, k)]).flatMap frv)[fs0.length * 2 + 1]? = some (.int .i64 k) := by
  rw [List.flatMap_append]
  have := frv_flat fs0
  constructor
  · rw [List.getElem?_append_right (by omega), this]; simp [frv]
  · rw [List.getElem?_append_right (by omega), this]; simp [frv]
theorem frv_set (fs0 : List (Int × Nat)) (v : Int) (k k' : Nat) : ((fs0 ++ [(v, k)]).flatMap frv).set (fs0.length * 2 + 1) (.int .i64 k') = (fs0 ++ [(v, k')]).flatMap frv := by
  rw [List.flatMap_append, List.flatMap_append]
  have := frv_flat fs0
  rw [List.set_append_right _ _ (by omega), this]
  simp [frv]
theorem frv_take (fs0 : List (Int × Nat)) (f : Int × Nat) : ((fs0 ++ [f]).flatMap frv).take (fs0.length * 2) = fs0.flatMap frv := by
  rw [List.flatMap_append, ← frv_flat fs0, List.take_left]

theorem cells_lit2 (w : World) (x y : Value) (e : TypeId) : ∀ j u, [x, y][j]? = some u → (w.alloc (.cells #[x, y] e)).cell? ((⟨w.heap.size, 0, none⟩ : Addr).add j) = some u := by
  intro j u hj
  match j, hj with
  | 0, hj => simp at hj; subst hj; simp [Addr.add]
  | 1, hj => simp at hj; subst hj; simp [Addr.add]

set_option maxRecDepth 100000 in
set_option maxHeartbeats 4000000 in
theorem mn_carries (Z : Mini γ w [0, 0] [0, 1] [0, 2] s ha m h inn st) (hR : Rsns ha m s Ls) {v : Int} (hv : I64 v) (hc : firstS st s v = 0) {n0 : Nat} (hrun : mrun inn s Ls n0 ([(v, 0)], st) = ([], st')) (hsz : h.sz + n0 < 10000000) :
    Calls Try.prog 34 #[.pointer (some ⟨h.b, 0, none⟩), .int .i64 v] w
      (Gives γ w [[0, 2], [0, 3], [0, 4]] fun rv γ' w' => rv = .bool (st' v == 1) ∧ ∃ h2 : MnH, h2.b = h.b ∧ h2.tb = h.tb ∧ h2.sz ≤ h.sz + n0 ∧ Mini γ' w' [0, 0] [0, 1] [0, 2] s ha m h2 inn st') := by
  have C := mn_first Z.tr Z.mn hv
  rw [hc] at C
  obtain ⟨i0, ii⟩ := Try.infoFrame
  have Zh := Lib.hid Z
  have hRh := Lib.hid hR
  have hrunh := Lib.hid hrun
  clear hc Z hR hrun
  obtain ⟨bm, hbm⟩ : ∃ bm, h.b = bm := ⟨_, rfl⟩
  rw [hbm] at C ⊢
  have hbmh := Lib.hid hbm
  clear hbm
  go_enter Try.func34, Try.ntmps34
  go_wp2_with fail
  refine C.mono ?_
  rintro e w1 ⟨rfl, n, rfl⟩
  clear C
  have R0 := Row.lit γ (w.drewN n) [0, 3] 71 2 1 #[.int .i64 v, .int .i64 0] (by decide) rfl
  have T0 := (((Turn.refl γ w [[0, 3]]).drewN n).trans (Turn.new_at γ (w.drewN n) (.cells #[.int .i64 v, .int .i64 0] 71) [0, 3]))
  have Z0 := Zh.out.turn T0 (by simp) (by simp) (by simp)
  have Z0h := Lib.hid (And.intro Z0 (And.intro R0 T0))
  clear R0 T0 Z0
  go_wp2_with fail
  go_loopg [6] n0 (fun gk v6 wr => ∃ (fs : List (Int × Nat)) (st1 : Int → Int) (γk : Tags) (g cap : Nat) (h2 : MnH), v6 = .slice (some ⟨g, 0, none⟩) fs.length cap ∧ Row γk wr [0, 3] 71 2 (some ⟨g, 0, none⟩) fs.length cap (fs.flatMap frv) ∧
    Mini γk wr [0, 0] [0, 1] [0, 2] s ha m h2 inn st1 ∧ Turn γ γk w wr [[0, 2], [0, 3], [0, 4]] ∧ RowKit.Hid (mrun inn s Ls gk (fs, st1) = ([], st')) ∧ gk ≤ n0 ∧ fs.length + gk ≤ 1 + n0 ∧ h2.b = bm ∧ h2.tb = h.tb ∧ h2.sz + gk ≤ h.sz + n0 ∧ ∀ f ∈ fs, I64 f.1 ∧ f.2 ≤ (Ls f.1).length)
  case atStart =>
    refine ⟨[(v, 0)], st, _, (w.drewN n).heap.size, 1, h, rfl, Z0h.out.2.1, Z0h.out.1, Z0h.out.2.2.to (by simp), hrunh, Nat.le_refl _, by simp, hbmh.out, rfl, Nat.le_refl _, ?_⟩
    intro f hf
    simp only [List.mem_singleton] at hf
    subst hf
    exact ⟨hv, Nat.zero_le _⟩
  case round =>
    obtain ⟨fs, st1, γk, g, cap, h2, rfl, Rk, Zk, Tk, Hr, hg1, hg2, hb, htb, hz, hfs⟩ := hrel
    clear Z0h hrunh
    subst hb
    have f3 := Zk.mn.f3
    rcases List.eq_nil_or_concat fs with rfl | ⟨fs0, f1, rfl⟩
    · have hst := Hr.out
      rw [mrun_nil] at hst
      simp only [Prod.mk.injEq, true_and] at hst
      subst hst
      have hl := Lib.hid (Zk.mn.st v)
      have Mh := Lib.hid Zk.mn.sm
      have Zkh := Lib.hid (And.intro Zk Tk)
      clear Zk Tk Rk Hr
      simp only [List.length_nil]
      go_wp2_with (at_lookup; go_must (refine wpList_lookup_v rfl (.tmp 43) (.tmp 44) rfl Try.tyII rfl Mh.out _ rfl hv hl.out ?_))
      go_ret
      exact ⟨_, γk, rfl, ⟨rfl, h2, rfl, htb, by omega, Zkh.out.1⟩, Zkh.out.2⟩
    · obtain ⟨v1, k1⟩ := f1
      simp only [List.concat_eq_append] at *
      obtain ⟨hI1, hk1⟩ := hfs (v1, k1) (by simp)
      obtain ⟨hLs, hLl, hLb⟩ := hRh.out v1 hI1
      obtain ⟨x1, x2⟩ := frv_get fs0 v1 k1
      cases gk with
      | zero =>
        have := Hr.out
        simp [mrun] at this
      | succ gk =>
        have hmr := Hr.out
        rw [mrun, mnext_snoc] at hmr
        simp only [List.length_append, List.length_singleton] at *
        have C := mn_step ⟨Zk, Rk⟩ hLs x1 x2 hI1 hk1 hLl hLb (by omega)
        obtain ⟨hk2, hr1⟩ := stepS_facts inn s (Ls v1) v1 st1 hk1
        have hrI : (stepS inn s (Ls v1) v1 k1 st1).1 = 0 ∨ I64 (stepS inn s (Ls v1) v1 k1 st1).1 := by
          rcases hr1 with h | ⟨y, hy, h⟩
          · exact .inl h
          · have := hLb y hy
            exact .inr (by rw [h]; exact I64.small (by unfold litVar; split <;> omega) (by unfold litVar; split <;> omega))
        generalize stepS inn s (Ls v1) v1 k1 st1 = r at *
        obtain ⟨r1, k2, st2⟩ := r
        dsimp only at C hmr hk2 hrI
        rw [frv_set] at C
        have hfs0 : ∀ f ∈ fs0, I64 f.1 ∧ f.2 ≤ (Ls f.1).length := fun f hf => hfs f (by simp [hf])
        have hmrh := Lib.hid hmr
        have Ch := Lib.hid C
        have Tkh := Lib.hid Tk
        have hfsh := Lib.hid hfs0
        have hw : IntKind.i64.wrap (fs0.length : Int) = fs0.length := IntWalk.i64_in _ (by omega)
        have hlt : (fs0.length : Int) < (fs0.length : Int) + 1 := by omega
        have hcap := Rk.le_cap
        have hcap2 := Rk.cap_le
        unfold maxLen at hcap2
        clear hr1 hLs hLb x1 x2 hfs hfs0 hmr Hr C Zk Rk Tk f3
        go_wp2_with fail
        refine Ch.out.mono ?_
        clear Ch
        rintro e w3 ⟨_, γ3, rfl, ⟨rfl, h3, hb3, htb3, hz3, Z3⟩, T3⟩
        have Z3h := Lib.hid (And.intro Z3 (Tkh.out.trans T3))
        clear Z3 T3 Tkh
        by_cases hr0 : r1 = 0
        · have hb0 : (r1 == 0) = true := by simpa using hr0
          rw [if_pos hr0] at hmrh
          clear hr0
          go_wp2_with fail
          go_roundg gk
          case rel =>
            have R := Z3h.out.1.row.take (m := fs0.length) (by omega)
            rw [frv_take] at R
            exact ⟨fs0, st2, γ3, g, cap, h3, rfl, R, Z3h.out.1.mini, Z3h.out.2, hmrh, by omega, by omega, hb3, htb3.trans htb, by omega, hfsh.out⟩
          case measure => omega
        · have hb0 : (r1 == 0) = false := by simpa using hr0
          rw [if_neg hr0] at hmrh
          have hI2 := hrI.resolve_left hr0
          clear hr0
          go_wp2_with (at_builtin; go_must (refine wpList_append_row _ rfl _ _ 72 rfl 71 i0 (.agg #[.int .i64 0, .int .i64 0]) 2 16 Try.underlying72 ii rfl (by decide) (some ⟨g, 0, none⟩) cap (fs0.length + 1) ((fs0 ++ [(v1, k2)]).flatMap frv) rfl w3 Z3h.out.1.row ((Turn.refl _ _ _).alloc _) (Z3h.out.1.row.own.alloc _) ⟨w3.heap.size, 0, none⟩ 1 1 (by decide) [.int .i64 r1, .int .i64 0] rfl rfl (cells_lit2 w3 _ _ _) (by simp [Value.oneCell']) (by unfold maxLen; omega) (by omega) ?_); intro γ4 g4 cap4 w4 R4 T4)
          go_roundg gk
          case rel =>
            refine ⟨fs0 ++ [(v1, k2), (r1, 0)], st2, γ4, g4, cap4, h3, by simp, ?_, ?_, Z3h.out.2.trans (T4.to (by simp)), hmrh, by omega, by simp; omega, hb3, htb3.trans htb, by omega, ?_⟩
            · simpa [frv] using R4
            · exact Z3h.out.1.mini.turn T4 (by simp) (by simp) (by simp)
            · intro f hf
              simp only [List.mem_append, List.mem_cons, List.not_mem_nil, or_false] at hf
              rcases hf with hf | rfl | rfl
              · exact hfsh.out f hf
              · exact ⟨hI1, hk2⟩
              · exact ⟨hI2, Nat.zero_le _⟩
          case measure => omega

/-- Is a variable's literal carried, and what is known then? In at most N steps. -/
def Carr (inn : Int → Bool) (s : TrailS) (Ls : Int → List Int) (N : Nat) (st : Int → Int) (v : Int) (b : Bool) (st' : Int → Int) : Prop :=
  (∃ c, firstS st s v = c ∧ c ≠ 0 ∧ b = (c == 1) ∧ st' = st) ∨ (firstS st s v = 0 ∧ (∃ n, n ≤ N ∧ mrun inn s Ls n ([(v, 0)], st) = ([], st')) ∧ b = (st' v == 1))

theorem mn_carr (Z : Mini γ w [0, 0] [0, 1] [0, 2] s ha m h inn st) (hR : Rsns ha m s Ls) {v : Int} (hv : I64 v) {N : Nat} {b : Bool} (hC : Carr inn s Ls N st v b st') (hsz : h.sz + N < 10000000) :
    Calls Try.prog 34 #[.pointer (some ⟨h.b, 0, none⟩), .int .i64 v] w
      (Gives γ w [[0, 2], [0, 3], [0, 4]] fun rv γ' w' => rv = .bool b ∧ ∃ h2 : MnH, h2.b = h.b ∧ h2.tb = h.tb ∧ h2.sz ≤ h.sz + N ∧ Mini γ' w' [0, 0] [0, 1] [0, 2] s ha m h2 inn st') := by
  rcases hC with ⟨c, hc, h0, rfl, rfl⟩ | ⟨hc, ⟨n, hn, hrun⟩, rfl⟩
  · exact (mn_known Z hv hc h0).mono fun e w' ⟨he, n, hw⟩ => ⟨_, γ, he, ⟨rfl, h, rfl, rfl, by omega, by rw [hw]; exact Z.drewN n⟩, by rw [hw]; exact (Turn.refl _ _ _).drewN n⟩
  · exact (mn_carries Z hR hv hc hrun (by omega)).mono fun e w' ⟨rv, γ', he, ⟨hb, h2, a1, a2, a3, a4⟩, T⟩ => ⟨rv, γ', he, ⟨hb, h2, a1, a2, by omega, a4⟩, T⟩

end

end Go.Proofs.Ytlmmiobnbcanmaa
