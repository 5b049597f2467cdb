import Derived.Test.YtlmmiobnbcanmaaTrailI
import Derived.Deep.DeepCutAuto
import Derived.Deep.CutBlock
namespace Go.Proofs.Ytlmmiobnbcanmaa
open Go.RowKit

def stepVals (x : Step) : List Value := [.int .i64 x.l, .int .i64 x.level, .int .i64 x.reason]
theorem stepVals_length (x : Step) : (stepVals x).length = 3 := rfl

/-- Where the law's own trail lies. -/
structure MdH where
  b : Nat
  a : Option Addr
  cap : Nat
  fb : Nat
  sz : Nat
  f : Int → Option Value

def MdH.head (h : MdH) (s : TrailS) : Array Value := #[.int .i64 s.n, .int .i64 s.level, .slice h.a s.steps.length h.cap, .map (some h.fb)]

structure MdAt (γ : Tags) (w : World) (p : Tag) (h : MdH) (s : TrailS) : Prop where
  head : Blk γ w (p ++ [0]) h.b 30 (h.head s)
  rows : Row γ w (p ++ [1]) 42 3 h.a s.steps.length h.cap (s.steps.flatMap stepVals)
  map : MapAt Try.prog 3 γ w (p ++ [2]) h.fb h.f h.sz
  ph : ∀ k, k < s.n → (h.f ((k : Int) + 1)).getD (.bool false) = .bool (s.phase k)

/-- What a trail has. -/
structure Fits (s : TrailS) : Prop where
  wf : TWf s
  few : s.n ≤ 100000
  len : s.steps.length ≤ s.n
  lev : s.level ≤ s.steps.length

theorem TrS.fits {γ : Tags} {w : World} {p : Tag} {b : Nat} {s : TrailS} (H : TrS p b s γ w) : Fits s := ⟨let ⟨_, _, _, _, A⟩ := H; A.wf, H.few, H.len, H.lev⟩

theorem Try.infoStep : ∃ i, Try.prog.info? 42 = some i ∧ i.zero = some (.agg #[.int .i64 0, .int .i64 0, .int .i64 0]) ∧ i.size = 3 ∧ i.bytes = 24 := info_all (by kernel_rfl)

section
variable {γ γ' : Tags} {w w' : World} {p q : Tag} {h : MdH} {s : TrailS}

theorem MdAt.drewN (H : MdAt γ w p h s) (n : Nat) : MdAt γ (w.drewN n) p h s := ⟨⟨H.head.heap, H.head.tag⟩, ⟨H.rows.own, H.rows.tag⟩, H.map.drewN n, H.ph⟩
theorem MdAt.turn (H : MdAt γ w q h s) {ps : List Tag} (ht : Turn γ γ' w w' ps) (hp : ∀ x, ¬ Under ps (q ++ x)) : MdAt γ' w' q h s :=
  ⟨H.head.turn ht (hp _), H.rows.turn ht (hp _), H.map.turn ht (hp _), H.ph⟩
theorem MdAt.f0 (H : MdAt γ w p h s) : w.cell? ⟨h.b, 0, none⟩ = some (.int .i64 s.n) := H.head.cell rfl
theorem MdAt.f1 (H : MdAt γ w p h s) : w.cell? ⟨h.b, 1, none⟩ = some (.int .i64 s.level) := H.head.cell rfl
theorem MdAt.f2 (H : MdAt γ w p h s) : w.cell? ⟨h.b, 2, none⟩ = some (.slice h.a s.steps.length h.cap) := H.head.cell rfl
theorem MdAt.f3 (H : MdAt γ w p h s) : w.cell? ⟨h.b, 3, none⟩ = some (.map (some h.fb)) := H.head.cell rfl

theorem MdAt.cs (H : MdAt γ w p h s) {i : Nat} {x : Step} (hi : s.steps[i]? = some x) :
    ∃ g, h.a = some ⟨g, 0, none⟩ ∧ w.cell? ⟨g, i * 3, none⟩ = some (.int .i64 x.l) ∧ w.cell? ⟨g, i * 3 + 1, none⟩ = some (.int .i64 x.level) ∧ w.cell? ⟨g, i * 3 + 2, none⟩ = some (.int .i64 x.reason) := by
  obtain ⟨hl, rfl⟩ := List.getElem?_eq_some_iff.1 hi
  obtain ⟨g, hg⟩ := H.rows.pos (by omega)
  have R := H.rows
  rw [hg] at R
  have e : ∀ j, j < 3 → ∀ v, (stepVals s.steps[i])[j]? = some v → w.cell? ⟨g, i * 3 + j, none⟩ = some v := fun j hj v hv => R.cell (by rw [flatMap_get _ 3 stepVals_length _ _ _ hl hj]; exact hv)
  exact ⟨g, hg, e 0 (by omega) _ rfl, e 1 (by omega) _ rfl, e 2 (by omega) _ rfl⟩

/-- A call that reads, and makes what nothing holds on to. -/
def Idle (γ : Tags) (w : World) (v : Value) (e : Ending) (w' : World) : Prop := e = .returned v ∧ Turn γ γ w w' []

set_option maxHeartbeats 400000 in
theorem m_right (H : MdAt γ w p h s) (F : Fits s) (l : Int) : Calls Try.prog 29 #[.pointer (some ⟨h.b, 0, none⟩), .int .i64 l] w (Quiet w (.bool (rightB l s.n))) := by
  have f0 := H.f0
  have hn := F.few
  go_enter Try.func29, Try.ntmps29
  go_wp2
  all_goals go_ret
  all_goals exact ⟨ret_bool (by unfold rightB; simp [*] <;> omega), 0, rfl⟩

theorem same_lit {x l : Int} {n : Nat} (hn : n ≤ 100000) (hx : rightB x n = true) (hl : I64 l) : (x == l || x == wrap64 (-l)) = (litVar x == litVar l) := by
  have hb : x ≠ 0 ∧ x ≤ n ∧ -n ≤ x := by simpa [rightB] using hx
  have hb2 : -9223372036854775808 ≤ l ∧ l ≤ 9223372036854775807 := by
    simp [I64, Lit.wf, IntKind.min, IntKind.max, IntKind.signed, IntKind.bits] at hl
    omega
  rw [Bool.eq_iff_iff]
  simp only [Bool.or_eq_true, beq_iff_eq]
  unfold litVar wrap64
  split <;> split <;> omega

set_option maxHeartbeats 1000000 in
theorem m_where (H : MdAt γ w p h s) (F : Fits s) (l : Int) (hl : I64 l) : Calls Try.prog 30 #[.pointer (some ⟨h.b, 0, none⟩), .int .i64 l] w (Idle γ w (.int .i64 (s.place l))) := by
  have f2 := H.f2
  have h1 := F.few
  have h2 := F.len
  go_enter Try.func30, Try.ntmps30
  go_wp2
  go_loopw [12] (fun v wr => ∃ (k : Nat), k ≤ s.steps.length ∧ v = .int .i64 k ∧ Turn γ γ w wr [] ∧ ∀ j, j < k → ∀ x, s.steps[j]? = some x → litVar x.l ≠ litVar l) (fun v _ => s.steps.length - (intOf v).toNat)
  case atStart => exact ⟨0, Nat.zero_le _, rfl, Turn.refl _ _ _, fun j hj => by omega⟩
  case round =>
    obtain ⟨k, hk, rfl, Tk, hno⟩ := hrel
    by_cases hlt : k < s.steps.length
    · have hx := List.getElem?_eq_getElem hlt
      generalize s.steps[k] = x at *
      have Hk := H.turn Tk (by simp)
      have hm := same_lit F.few (F.wf.right x (List.mem_of_getElem? hx)) hl
      obtain ⟨g, hg, c0, c1, c2⟩ := Hk.cs hx
      have Hx := Lib.hid hx
      have Hno := Lib.hid hno
      rw [hg] at f2 ⊢
      clear hx hno hg
      cases b1 : (x.l == l) with
      | true =>
        rw [b1, Bool.true_or] at hm
        have Hm := Lib.hid hm
        clear hm
        go_wp2
        go_ret
        exact ⟨ret_int (F.wf.place_ Hx.out (by simpa using Hm.out.symm)).symm, Tk.alloc _⟩
      | false =>
        rw [b1, Bool.false_or] at hm
        cases b2 : (x.l == wrap64 (-l)) with
        | true =>
          rw [b2] at hm
          have Hm := Lib.hid hm
          clear hm
          go_wp2
          go_ret
          exact ⟨ret_int (F.wf.place_ Hx.out (by simpa using Hm.out.symm)).symm, Tk.alloc _⟩
        | false =>
          rw [b2] at hm
          have Hm := Lib.hid hm
          clear hm
          go_wp2
          refine ⟨⟨k + 1, by omega, by push_cast; rfl, Tk.alloc _, fun j hj y hy => ?_⟩, by simp [intOf]; omega⟩
          by_cases hjk : j < k
          · exact Hno.out j hjk y hy
          · obtain rfl : j = k := by omega
            rw [Hx.out] at hy
            cases hy
            have := Hm.out
            simpa using this.symm
    · obtain rfl : k = s.steps.length := by omega
      have Hno := Lib.hid hno
      clear hno
      go_wp2
      go_ret
      refine ⟨ret_int ?_, Tk⟩
      unfold TrailS.place
      cases hl : s.look l with
      | none => rfl
      | some y =>
        obtain ⟨y, i⟩ := y
        obtain ⟨hy, hyl⟩ := look_some hl
        exact absurd hyl (Hno.out i (List.getElem?_eq_some_iff.1 hy).1 y hy)

theorem cells_new3 (w : World) (x y z : Value) (e : TypeId) : ∀ j u, [x, y, z][j]? = some u → (w.alloc (.cells #[x, y, z] e)).cell? ((⟨w.heap.size, 0, none⟩ : Addr).add j) = some u := by
  intro j u hj
  match j, hj with
  | 0, hj => simp at hj; subst hj; simp [Addr.add]
  | 1, hj => simp at hj; subst hj; simp [Addr.add]
  | 2, hj => simp at hj; subst hj; simp [Addr.add]

/-- The level is set. -/
theorem MdAt.level_set (H : MdAt γ w p h s) (lv : Nat) {x : Int} (hx : x = lv) : MdAt γ (w.setCell ⟨h.b, 1, none⟩ (.int .i64 x)) p h { s with level := lv } ∧ Turn γ γ w (w.setCell ⟨h.b, 1, none⟩ (.int .i64 x)) [p] := by
  subst hx
  have T := H.head.turned 1 (.int .i64 lv)
  refine ⟨⟨?_, H.rows.turn T (by simp), H.map.turn T (by simp), H.ph⟩, T.at⟩
  have := H.head.set 1 (.int .i64 lv)
  simpa [MdH.head] using this

/-- The steps' row has turned, and the law's trail tells so. -/
theorem MdAt.rows_turned (H : MdAt γ w p h s) {a : Option Addr} {cap : Nat} {l : List Step} (ht : Turn γ γ' w w' [p ++ [1]]) (hr : Row γ' w' (p ++ [1]) 42 3 a l.length cap (l.flatMap stepVals)) :
    MdAt γ' (w'.setCell ⟨h.b, 2, none⟩ (.slice a l.length cap)) p { h with a := a, cap := cap } { s with steps := l } ∧ Turn γ γ' w (w'.setCell ⟨h.b, 2, none⟩ (.slice a l.length cap)) [p] := by
  have hb := H.head.turn ht (by simp)
  have T2 := hb.turned 2 (.slice a l.length cap)
  refine ⟨⟨?_, hr.turn T2 (by simp), (H.map.turn ht (by simp)).turn T2 (by simp), H.ph⟩, ht.at.trans T2.at⟩
  have := hb.set 2 (.slice a l.length cap)
  simpa [MdH.head] using this

/-- The phases have turned. -/
theorem MdAt.map_turned (H : MdAt γ w p h s) (ht : Turn γ γ w w' [p ++ [2]]) {f : Int → Option Value} {sz : Nat} (M : MapAt Try.prog 3 γ w' (p ++ [2]) h.fb f sz) (ph : Nat → Bool) (hp : ∀ k, k < s.n → (f ((k : Int) + 1)).getD (.bool false) = .bool (ph k)) :
    MdAt γ w' p { h with f := f, sz := sz } { s with phase := ph } := ⟨H.head.turn ht (by simp), H.rows.turn ht (by simp), M, hp⟩

def Md (p : Tag) (b N : Nat) (s : TrailS) (γ : Tags) (w : World) : Prop := ∃ h : MdH, h.b = b ∧ h.sz ≤ N ∧ MdAt γ w p h s

set_option maxHeartbeats 1000000 in
theorem m_put (H : MdAt γ w p h s) (F : Fits s) (l r : Int) (hl : I64 l) (more : Nat) (hmore : more ≤ 1) (hsz : h.sz < 100000) :
    Calls Try.prog 8 #[.pointer (some ⟨h.b, 0, none⟩), .int .i64 l, .int .i64 r, .int .i64 more] w
      (Turned γ w [p] (.bool (s.free l)) (Md p h.b (h.sz + 1) (if s.free l then { s with level := s.level + more }.push l r else s))) := by
  have h1 := F.few
  have h2 := F.len
  have h3 := F.lev
  have C := m_right H F l
  cases hr : rightB l s.n with
  | false =>
    have hf : s.free l = false := by simp [TrailS.free, hr]
    rw [hf, if_neg (by simp)]
    rw [hr] at C
    clear hf hr
    go_enter Try.func8, Try.ntmps8
    go_wp2_with fail
    refine C.mono ?_
    rintro e w1 ⟨rfl, n, rfl⟩
    go_wp2_with fail
    go_ret
    exact ⟨rfl, γ, ⟨h, rfl, by omega, H.drewN n⟩, (Turn.refl _ _ _).drewN n⟩
  | true =>
    rw [hr] at C
    have hb : l ≠ 0 ∧ l ≤ s.n ∧ -s.n ≤ l := by simpa [rightB] using hr
    cases hk : s.look l with
    | some y =>
      obtain ⟨y, i⟩ := y
      have hf : s.free l = false := by simp [TrailS.free, hk]
      have hp : s.place l = i := by simp [TrailS.place, hk]
      rw [hf, if_neg (by simp)]
      clear hf hr hk hb
      go_enter Try.func8, Try.ntmps8
      go_wp2_with fail
      refine C.mono ?_
      rintro e w1 ⟨rfl, n, rfl⟩
      have C2 := m_where (H.drewN n) F l hl
      rw [hp] at C2
      go_wp2_with fail
      refine C2.mono ?_
      rintro e w2 ⟨rfl, T2⟩
      have T := ((Turn.refl γ w []).drewN n).trans T2
      clear C C2 T2
      go_wp2_with fail
      go_ret
      exact ⟨rfl, γ, ⟨h, rfl, by omega, H.turn T (by simp)⟩, T.to (by simp)⟩
    | none =>
      have hf : s.free l = true := by simp [TrailS.free, hr, hk]
      have hp : s.place l = -1 := by simp [TrailS.place, hk]
      have hv := litVar_pos hr
      rw [hf, if_pos rfl]
      obtain ⟨i0, ii⟩ := Try.infoStep
      clear hf hr hk
      go_enter Try.func8, Try.ntmps8
      go_wp2_with fail
      refine C.mono ?_
      rintro e w1 ⟨rfl, n, rfl⟩
      have C2 := m_where (H.drewN n) F l hl
      rw [hp] at C2
      go_wp2_with fail
      refine C2.mono ?_
      rintro e w2 ⟨rfl, T2⟩
      have T := ((Turn.refl γ w []).drewN n).trans T2
      have H2 := H.turn T (by simp)
      have f1 := H2.f1
      have g1 := H2.head.free 1
      obtain ⟨H3, T3⟩ := H2.level_set (s.level + more) (x := s.level + more) (by push_cast; rfl)
      have W3 := T.to (qs := [p]) (by simp)
      have W3 := W3.trans T3
      have hv3 := H3.f1
      have f2 := H3.f2
      have g2 := H3.head.free 2
      have hx3 : ({ s with level := s.level + more } : TrailS).steps = s.steps := rfl
      dsimp only at hv3 f2
      clear C C2 T2 T T3
      have H3 := Lib.hid H3
      have W3 := Lib.hid W3
      go_wp2_with fail
      generalize World.setCell w2 _ _ = w3 at *
      have q2 := fun o => (H3.out.head.alloc o).cell (j := 2) rfl
      have q1 := fun o => (H3.out.head.alloc o).cell (j := 1) rfl
      go_region_law ((refine step_append_one _ rfl _ _ 28 rfl 42 i0 (.agg #[.int .i64 0, .int .i64 0, .int .i64 0]) 3 24 Try.underlying28 ii rfl (by decide) w3 h.a h.cap s.steps.length (s.steps.flatMap stepVals) rfl H3.out.rows (((Turn.refl γ w3 _).alloc _).drew) (World.ownsRow.alloc H3.out.rows.own _) ⟨w3.heap.size, 0, none⟩ 1 1 (by decide) (stepVals ⟨l, (s.level : Int) + more, r⟩) rfl rfl (cells_new3 w3 _ _ _ _) (by simp [stepVals, Value.oneCell']) (by unfold maxLen; omega) (by omega) ?_; intro γ4 g cap w4 hr4 hT4; have hb := H3.out.head.turn hT4 (by simp); have f2 := hb.cell (j := 2) rfl; have g2 := hb.free 2))
      all_goals
        have e1 : s.steps.flatMap stepVals ++ stepVals ⟨l, (s.level : Int) + more, r⟩ = (s.steps ++ [(⟨l, (s.level : Int) + more, r⟩ : Step)]).flatMap stepVals := by simp
        rw [e1] at hr4
        have H5 := H3.out.rows_turned (a := some ⟨g, 0, none⟩) (cap := cap) (l := s.steps ++ [⟨l, (s.level : Int) + more, r⟩]) hT4 (by simpa using hr4)
        simp only [List.length_append, List.length_singleton] at H5
        obtain ⟨H5, T5⟩ := H5
        have W5 := W3.out.trans T5
        generalize World.setCell w4 _ _ = w5 at *
        have f3 := H5.f3
        have Hmap := H5.map
        have W5 := Lib.hid W5
        have H5 := Lib.hid H5
        clear q1 q2 f2 g2 hb hr4 hT4 T5 e1 H3 W3
        have hI : I64 (if l < -l then -l else l) := by split <;> exact I64.small (by omega) (by omega)
        have Z : ∀ w6 (_ : MapAt Try.prog 3 γ4 w6 (p ++ [2]) h.fb (mset h.f (if l < -l then -l else l) (.bool (decide (0 < l)))) (if (h.f (if l < -l then -l else l)).isSome then h.sz else h.sz + 1)) (_ : Turn γ4 γ4 w5 w6 [p ++ [2]]),
            Turned γ w [p] (.bool true) (Md p h.b (h.sz + 1) ({ s with level := s.level + more }.push l r)) (.returned (.bool true)) w6 := by
          intro w6 M6 T6
          have e2 : (if l < -l then -l else l) = (vix l : Int) + 1 := by rw [← hv.1]; unfold litVar; split <;> split <;> omega
          rw [e2] at M6
          have H6 := H5.out.map_turned T6 M6 (fun k => if k = vix l then decide (0 < l) else s.phase k) (fun k hk => by
            unfold mset
            by_cases hkv : k = vix l
            · subst hkv; simp
            · have : ¬ ((k : Int) + 1 = (vix l : Int) + 1) := by omega
              simp only [this, hkv, if_false]
              exact H.ph k hk)
          have e3 : ({ s with level := s.level + more }.push l r) = { s with steps := s.steps ++ [⟨l, (s.level : Int) + more, r⟩], level := s.level + more, phase := fun k => if k = vix l then decide (0 < l) else s.phase k } := by
            simp [TrailS.push]
          rw [e3]
          have hN : (if (h.f ((vix l : Int) + 1)).isSome then h.sz else h.sz + 1) ≤ h.sz + 1 := by split <;> omega
          refine ⟨rfl, γ4, ⟨_, ?_, ?_, H6⟩, W5.out.trans T6.at⟩
          · rfl
          · exact hN
        go_wp2_with (at_mapUpdate; go_must (refine wpList_update_m rfl (.tmp 46) (.tmp 50) (.tmp 52) rfl Try.mapIB rfl Hmap (show h.sz < maxLen by unfold maxLen; omega) _ rfl hI _ rfl ?_); intro w6 M6 T6; have Z6 := Lib.hid (Z w6 M6 T6); clear M6 T6)
        all_goals go_ret
        all_goals exact Z6.out

end

end Go.Proofs.Ytlmmiobnbcanmaa
