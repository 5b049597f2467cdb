import Derived.Test.YtlmmiobnbcanmaaMapTys
import Derived.Deep.RegionLaw
import Derived.Deep.RegionHeld3
import Derived.StillTailTactics
namespace Go.Proofs.Ytlmmiobnbcanmaa
open Go.RowKit

theorem bits_and_nat (x y : Nat) (hx : x < 2 ^ 63) (hy : y < 2 ^ 63) : bits .and .i64 (x : Int) (y : Int) = ((x &&& y : Nat) : Int) := by
  have h1 : x &&& y ≤ x := Nat.and_le_left
  unfold bits
  simp only [BitVec.ofInt_natCast, IntKind.bits]
  show IntKind.i64.wrap (((BitVec.ofNat 64 x &&& BitVec.ofNat 64 y).toNat : Nat) : Int) = _
  rw [BitVec.toNat_and, BitVec.toNat_ofNat, BitVec.toNat_ofNat]
  rw [Nat.mod_eq_of_lt (show x < 2 ^ 64 by omega), Nat.mod_eq_of_lt (show y < 2 ^ 64 by omega)]
  exact IntWalk.i64_in _ (by omega)

theorem bits_or_nat (x y : Nat) (hx : x < 2 ^ 62) (hy : y < 2 ^ 62) : bits .or .i64 (x : Int) (y : Int) = ((x ||| y : Nat) : Int) := by
  have h1 : x ||| y < 2 ^ 62 := Nat.or_lt_two_pow hx hy
  unfold bits
  simp only [BitVec.ofInt_natCast, IntKind.bits]
  show IntKind.i64.wrap (((BitVec.ofNat 64 x ||| BitVec.ofNat 64 y).toNat : Nat) : Int) = _
  rw [BitVec.toNat_or, BitVec.toNat_ofNat, BitVec.toNat_ofNat]
  rw [Nat.mod_eq_of_lt (show x < 2 ^ 64 by omega), Nat.mod_eq_of_lt (show y < 2 ^ 64 by omega)]
  exact IntWalk.i64_in _ (by omega)

theorem mask_len (n f : Nat) (hn : n < 2 ^ 40) (hf : f < 4) : bits .and .i64 ((n + f * 1099511627776 : Nat) : Int) 1099511627775 = n := by
  have e : (1099511627775 : Int) = ((1099511627775 : Nat) : Int) := rfl
  rw [e, bits_and_nat _ _ (by omega) (by omega)]
  have : (1099511627775 : Nat) = 2 ^ 40 - 1 := rfl
  rw [this, Nat.and_two_pow_sub_one_eq_mod]
  omega

/-- From 0 up to the greatest number. -/
def arFit (n : Int) : Int := min (max n 0) 2147483647
theorem arFit_le (n : Int) : 0 ≤ arFit n ∧ arFit n ≤ 2147483647 := by unfold arFit; omega

theorem ar_fit (n : Int) (w : World) : Calls Try.prog 38 #[.int .i64 n] w fun e w' => e = .returned (.int .i64 (arFit n)) ∧ w = w' := by
  go_enter Try.func38, Try.ntmps38
  go_wp2
  all_goals go_ret
  all_goals exact ⟨ret_int (by unfold arFit; (repeat' split) <;> omega), rfl⟩

theorem cells_lit3 (w : World) (x y z : Value) (e : TypeId) : ∀ j u, [x, y, z][j]? = some u → (w.alloc (.cells #[x, y, z] e)).cell? ((⟨w.heap.size, 0, none⟩ : Addr).add j) = some u := by
  intro j u hj
  match j, hj with
  | 0, hj => simp at hj; subst hj; simp [Addr.add]
  | 1, hj => simp at hj; subst hj; simp [Addr.add]
  | 2, hj => simp at hj; subst hj; simp [Addr.add]

theorem ints_one (l : List Int) : ∀ u ∈ ints l, u.oneCell' = true := by
  intro u hu
  obtain ⟨y, _, rfl⟩ := List.mem_map.1 hu
  rfl

/-- What an arena holds. -/
structure ArM where
  ws : List Int
  limit : Int
  count : Int
  liv : Int → Bool

/-- Where it lies. -/
structure ArH where
  b : Nat
  a : Option Addr
  cap : Nat
  fb : Nat
  sz : Nat
  f : Int → Option Value

def ArH.head (h : ArH) (m : ArM) : Array Value := #[.slice h.a m.ws.length h.cap, .int .i64 m.limit, .int .i64 m.count, .map (some h.fb)]

structure ArAt (γ : Tags) (w : World) (p : Tag) (h : ArH) (m : ArM) : Prop where
  head : Blk γ w (p ++ [0]) h.b 65 (h.head m)
  rows : Row γ w (p ++ [1]) 3 1 h.a m.ws.length h.cap (ints m.ws)
  map : MapAt Try.prog 3 γ w (p ++ [2]) h.fb h.f h.sz
  liv : ∀ x, (h.f x).getD (.bool false) = .bool (m.liv x)
  few : m.ws.length ≤ 1000000000
  sz : h.sz ≤ m.ws.length
  cnt : 0 ≤ m.count ∧ m.count ≤ m.ws.length

section
variable {γ γ' : Tags} {w w' : World} {p q : Tag} {h : ArH} {m : ArM}

theorem ArAt.drewN (H : ArAt γ w p h m) (n : Nat) : ArAt γ (w.drewN n) p h m := ⟨⟨H.head.heap, H.head.tag⟩, ⟨H.rows.own, H.rows.tag⟩, H.map.drewN n, H.liv, H.few, H.sz, H.cnt⟩
theorem ArAt.turn (H : ArAt γ w q h m) {ps : List Tag} (ht : Turn γ γ' w w' ps) (hp : ∀ x, ¬ Under ps (q ++ x)) : ArAt γ' w' q h m :=
  ⟨H.head.turn ht (hp _), H.rows.turn ht (hp _), H.map.turn ht (hp _), H.liv, H.few, H.sz, H.cnt⟩
theorem ArAt.f0 (H : ArAt γ w p h m) : w.cell? ⟨h.b, 0, none⟩ = some (.slice h.a m.ws.length h.cap) := H.head.cell rfl
theorem ArAt.f1 (H : ArAt γ w p h m) : w.cell? ⟨h.b, 1, none⟩ = some (.int .i64 m.limit) := H.head.cell rfl
theorem ArAt.f2 (H : ArAt γ w p h m) : w.cell? ⟨h.b, 2, none⟩ = some (.int .i64 m.count) := H.head.cell rfl
theorem ArAt.f3 (H : ArAt γ w p h m) : w.cell? ⟨h.b, 3, none⟩ = some (.map (some h.fb)) := H.head.cell rfl
theorem ArAt.word (H : ArAt γ w p h m) {i : Nat} {x : Int} (hx : m.ws[i]? = some x) : ∃ g, h.a = some ⟨g, 0, none⟩ ∧ w.cell? ⟨g, i, none⟩ = some (.int .i64 x) := by
  obtain ⟨hi, rfl⟩ := List.getElem?_eq_some_iff.1 hx
  obtain ⟨g, hg⟩ := H.rows.pos (by omega)
  have R := H.rows
  rw [hg] at R
  exact ⟨g, hg, R.cell (ints_get _ _ hi)⟩

theorem ar_new (γ : Tags) (w : World) (p : Tag) (lim : Int) :
    Calls Try.prog 20 #[.int .i64 lim] w (Gives γ w [p] fun v γ' w' => ∃ h, v = .pointer (some ⟨h.b, 0, none⟩) ∧ ArAt γ' w' p h ⟨[], lim, 0, fun _ => false⟩ ∧ w.heap.size ≤ h.b) := by
  have hmm := fun t w => run_makeMap (P := Try.prog) t w
  have M := MapAt.new Try.prog 3 γ w (p ++ [2])
  have T := Turn.new_at γ w (.map #[] 0) (p ++ [2])
  have hs : (w.alloc (.map #[] 0)).heap.size = w.heap.size + 1 := by simp
  have B := Blk.new (γ.set w.heap.size (p ++ [2])) (w.alloc (.map #[] 0)) (p ++ [0]) 65 #[.slice none 0 0, .int .i64 lim, .int .i64 0, .map (some w.heap.size)]
  have T2 := Turn.new_at (γ.set w.heap.size (p ++ [2])) (w.alloc (.map #[] 0)) (.cells #[.slice none 0 0, .int .i64 lim, .int .i64 0, .map (some w.heap.size)] 65) (p ++ [0])
  rw [hs] at B T2
  have Z : ArAt _ _ p ⟨w.heap.size + 1, none, 0, w.heap.size, 0, fun _ => none⟩ ⟨[], lim, 0, fun _ => false⟩ := ⟨B, Row.nil _ _ _ _ _, M.turn T2 (by simp), fun _ => rfl, by simp, by simp, by simp⟩
  have TT := T.at.trans T2.at
  have Zh := Lib.hid (And.intro Z TT)
  clear M T B T2 Z TT hs
  go_enter Try.func20, Try.ntmps20
  go_wp2
  go_ret
  exact ⟨_, _, rfl, ⟨_, rfl, Zh.out.1, Nat.le_succ _⟩, Zh.out.2⟩

theorem ar_has (H : ArAt γ w p h m) {ref : Int} (hI : I64 ref) :
    Calls Try.prog 43 #[.pointer (some ⟨h.b, 0, none⟩), .int .i64 ref] w fun e w' => e = .returned (.bool (m.liv ref)) ∧ w = w' := by
  have f3 := H.f3
  have M := H.map
  have hl := H.liv ref
  have Mh := Lib.hid M
  have hlh := Lib.hid hl
  clear M hl H
  go_enter Try.func43, Try.ntmps43
  go_wp2_with (at_lookup; go_must (refine wpList_lookup_v rfl (.tmp 8) (.tmp 9) rfl Try.tyIB rfl Mh.out _ rfl hI hlh.out ?_))
  go_ret
  exact ⟨rfl, rfl⟩

theorem ar_len_no (H : ArAt γ w p h m) {ref : Int} (hI : I64 ref) (hl : m.liv ref = false) :
    Calls Try.prog 42 #[.pointer (some ⟨h.b, 0, none⟩), .int .i64 ref] w fun e w' => e = .returned (.int .i64 0) ∧ w = w' := by
  have C := ar_has H hI
  rw [hl] at C
  clear H hl
  go_enter Try.func42, Try.ntmps42
  go_wp2_with fail
  refine C.mono ?_
  rintro e w' ⟨rfl, rfl⟩
  clear C
  go_wp2_with fail
  go_ret
  exact ⟨rfl, rfl⟩

theorem ar_len (H : ArAt γ w p h m) {i n : Nat} {x : Int} (hl : m.liv i = true) (hx : m.ws[i]? = some x) (hn : bits .and .i64 x 1099511627775 = n) :
    Calls Try.prog 42 #[.pointer (some ⟨h.b, 0, none⟩), .int .i64 i] w fun e w' => e = .returned (.int .i64 n) ∧ w = w' := by
  have hi := (List.getElem?_eq_some_iff.1 hx).1
  have hfew := H.few
  have C := ar_has H (ref := (i : Int)) (I64.small (by omega) (by omega))
  rw [hl] at C
  obtain ⟨g, hg, c⟩ := H.word hx
  have f0 := H.f0
  rw [hg] at f0
  have hi' : (i : Int) < m.ws.length := by omega
  have hw : IntKind.i64.wrap (i : Int) = i := IntWalk.i64_in _ (by omega)
  have hnh := Lib.hid hn
  clear H hl hg hx hn
  go_enter Try.func42, Try.ntmps42
  go_wp2_with fail
  refine C.mono ?_
  rintro e w' ⟨rfl, rfl⟩
  clear C
  go_wp2_with fail
  go_ret
  exact ⟨ret_int hnh.out, rfl⟩

theorem ar_lits_no (H : ArAt γ w p h m) {ref : Int} (hI : I64 ref) (hl : m.liv ref = false) :
    Calls Try.prog 41 #[.pointer (some ⟨h.b, 0, none⟩), .int .i64 ref] w fun e w' => e = .returned (.slice none 0 0) ∧ w = w' := by
  have C := ar_len_no H hI hl
  clear H hl
  go_enter Try.func41, Try.ntmps41
  go_wp2_with fail
  refine C.mono ?_
  rintro e w' ⟨rfl, rfl⟩
  clear C
  go_wp2_with fail
  go_ret
  exact ⟨rfl, rfl⟩

theorem ar_lits (H : ArAt γ w p h m) {i n : Nat} {x : Int} (hl : m.liv i = true) (hx : m.ws[i]? = some x) (hn : bits .and .i64 x 1099511627775 = n) (hfit : i + 3 + n ≤ m.ws.length) (hn0 : 0 < n) (hpq : ∀ y, ¬ Under [q] (p ++ y)) :
    Calls Try.prog 41 #[.pointer (some ⟨h.b, 0, none⟩), .int .i64 i] w
      (Gives γ w [q] fun v γ' w' => ∃ a cap, v = .slice a n cap ∧ Row γ' w' q 3 1 a n cap (ints ((m.ws.drop (i + 3)).take n)) ∧ ArAt γ' w' p h m) := by
  have hfew := H.few
  obtain ⟨i0, ii⟩ := Try.infoInt
  have C := ar_len H hl hx hn
  obtain ⟨g, hg, c⟩ := H.word hx
  have f0 := H.f0
  have hcap := H.rows.le_cap
  have hcap2 := H.rows.cap_le
  have R := H.rows
  rw [hg] at f0 R
  have hll : (ints ((m.ws.drop (i + 3)).take n)).length = n := by simp; omega
  have hnews : ∀ j u, (ints ((m.ws.drop (i + 3)).take n))[j]? = some u → w.cell? ((⟨g, i + 3, none⟩ : Addr).add j) = some u := by
    intro j u hj
    have hj' : j < n := by have := (List.getElem?_eq_some_iff.1 hj).1; omega
    have e : (ints m.ws)[i + 3 + j]? = some u := by
      rw [← hj]
      simp only [ints, List.getElem?_map, List.getElem?_take, hj', if_true, List.getElem?_drop]
    have hc := R.cell e
    unfold Addr.add
    split
    · rename_i h0
      subst h0
      exact hc
    · exact hc
  have hone := ints_one ((m.ws.drop (i + 3)).take n)
  have N0 := Row.nil γ w q 3 1
  have hnh := Lib.hid (And.intro hnews (And.intro hone hll))
  have hgh := Lib.hid hg
  have hnc : ¬ h.cap = i + 3 := by omega
  have e1 : IntKind.i64.wrap ((i : Int) + 3) = i + 3 := IntWalk.i64_in _ (by omega)
  have Hh := Lib.hid H
  unfold maxLen at hcap2
  clear H hl hx hn hnews hone hll R hg c
  go_enter Try.func41, Try.ntmps41
  go_wp2_with fail
  refine C.mono ?_
  rintro e w' ⟨rfl, rfl⟩
  clear C
  go_wp2_with (at_builtin; go_must (refine wpList_append_row w rfl _ _ 36 rfl 3 i0 (.int .i64 0) 1 8 Try.underlying36 ii rfl (by decide) none 0 0 [] rfl w N0 (Turn.refl _ _ _) N0.own ⟨g, i + 3, none⟩ (i + 3 + n - (i + 3)) (i + 3 + n - (i + 3)) (by omega) (ints ((m.ws.drop (i + 3)).take n)) rfl (by rw [hnh.out.2.2]; omega) hnh.out.1 hnh.out.2.1 (by unfold maxLen; omega) (by omega) ?_); intro γ4 g4 cap4 w4 R4 T4)
  rw [List.nil_append, show 0 + (i + 3 + n - (i + 3)) = n by omega] at R4
  go_ret
  exact ⟨_, γ4, rfl, ⟨_, cap4, rfl, R4, Hh.out.turn T4 hpq⟩, T4⟩


/-- A clause more. -/
def ArM.add (m : ArM) (c : List Int) (lr : Bool) (g : Int) : ArM :=
  ⟨m.ws ++ [(c.length : Int) + (if lr then 1099511627776 else 0), arFit g, 0] ++ c, m.limit, m.count + 1, fun x => if x = m.ws.length then true else m.liv x⟩

def Ar (p : Tag) (b : Nat) (m : ArM) (γ : Tags) (w : World) : Prop := ∃ h : ArH, h.b = b ∧ ArAt γ w p h m

theorem not_under_more {p q r : Tag} (h : ¬ Under [p] q) : ¬ Under [p ++ r] q := by
  intro hu
  refine h ?_
  simp only [under_cons, under_nil, or_false] at hu ⊢
  exact (List.prefix_append p r).trans hu

/-- The words' row has grown, and the arena's head tells so. -/
theorem ArAt.grown (H : ArAt γ w p h m) (T : Turn γ γ' w w' [p ++ [1]]) {a : Option Addr} {n cap : Nat} {ws : List Int} (R : Row γ' w' (p ++ [1]) 3 1 a n cap (ints ws)) (hn : n = ws.length) :
    Blk γ' (w'.setCell ⟨h.b, 0, none⟩ (.slice a n cap)) (p ++ [0]) h.b 65 (({ h with a := a, cap := cap } : ArH).head { m with ws := ws }) ∧ Row γ' (w'.setCell ⟨h.b, 0, none⟩ (.slice a n cap)) (p ++ [1]) 3 1 a ws.length cap (ints ws) ∧
      MapAt Try.prog 3 γ' (w'.setCell ⟨h.b, 0, none⟩ (.slice a n cap)) (p ++ [2]) h.fb h.f h.sz ∧ Turn γ γ' w (w'.setCell ⟨h.b, 0, none⟩ (.slice a n cap)) [p] := by
  subst hn
  have hb := H.head.turn T (by simp)
  have T2 := hb.turned 0 (.slice a ws.length cap)
  refine ⟨?_, R.turn T2 (by simp), (H.map.turn T (by simp)).turn T2 (by simp), T.at.trans T2.at⟩
  have := hb.set 0 (.slice a ws.length cap)
  simpa [ArH.head] using this

/-- .. and the clause is told to live. -/
theorem ArAt.added {w6 w8 : World} {γ5 : Tags} (H : ArAt γ w p h m) {c : List Int} {lr : Bool} {g : Int} {a : Option Addr} {cap : Nat} (hsm : m.ws.length + 3 + c.length ≤ 1000000000)
    (B : Blk γ5 w6 (p ++ [0]) h.b 65 (({ h with a := a, cap := cap } : ArH).head { m with ws := (m.add c lr g).ws })) (R : Row γ5 w6 (p ++ [1]) 3 1 a (m.add c lr g).ws.length cap (ints (m.add c lr g).ws))
    (T : Turn γ γ5 w w6 [p]) (M : MapAt Try.prog 3 γ5 w8 (p ++ [2]) h.fb (mset h.f m.ws.length (.bool true)) (if (h.f m.ws.length).isSome then h.sz else h.sz + 1))
    (T8 : Turn γ5 γ5 (w6.setCell ⟨h.b, 2, none⟩ (.int .i64 (m.count + 1))) w8 [p ++ [2]]) :
    Turned γ w [p] (.tuple #[.int .i64 m.ws.length, .bool true]) (Ar p h.b (m.add c lr g)) (.returned (.tuple #[.int .i64 m.ws.length, .bool true])) w8 := by
  have T7 := B.turned 2 (.int .i64 (m.count + 1))
  have B7 := B.set 2 (.int .i64 (m.count + 1))
  have hl : (m.add c lr g).ws.length = m.ws.length + 3 + c.length := by simp [ArM.add]; omega
  have hs := H.sz
  have hc := H.cnt
  refine ⟨rfl, γ5, ⟨⟨h.b, a, cap, h.fb, (if (h.f m.ws.length).isSome then h.sz else h.sz + 1), mset h.f m.ws.length (.bool true)⟩, rfl, ?_, (R.turn T7 (by simp)).turn T8 (by simp), M, fun x => ?_, by omega, ?_, ?_⟩, (T.trans T7.at).trans T8.at⟩
  · have := B7.turn T8 (by simp)
    simpa [ArH.head, ArM.add] using this
  · unfold mset
    by_cases hx : x = m.ws.length
    · simp [hx, ArM.add]
    · simpa [hx, ArM.add] using H.liv x
  · dsimp only; split <;> omega
  · rw [hl]; simp only [ArM.add]; omega

set_option maxHeartbeats 2000000 in
theorem ar_add (H : ArAt γ w p h m) (hlim : m.limit ≤ 0) {c : List Int} {ca cc : Nat} (R : Row γ w q 3 1 (some ⟨ca, 0, none⟩) c.length cc (ints c)) (hpq : ¬ Under [p] q) (hc : 0 < c.length) (lr : Bool) (g : Int) (hsm : m.ws.length + 3 + c.length ≤ 1000000000) :
    Calls Try.prog 32 #[.pointer (some ⟨h.b, 0, none⟩), .slice (some ⟨ca, 0, none⟩) c.length cc, .bool lr, .int .i64 g] w (Turned γ w [p] (.tuple #[.int .i64 m.ws.length, .bool true]) (Ar p h.b (m.add c lr g))) := by
  obtain ⟨i0, ii⟩ := Try.infoInt
  have f0 := H.f0
  have f1 := H.f1
  have hd : decide (0 < m.limit) = false := by simpa using hlim
  have hor : bits .or .i64 (c.length : Int) 1099511627776 = c.length + 1099511627776 := by
    have e : (1099511627776 : Int) = ((1099511627776 : Nat) : Int) := rfl
    rw [e, bits_or_nat _ _ (by omega) (by omega)]
    have e2 : (1099511627776 : Nat) = 2 ^ 40 := rfl
    rw [e2, Nat.or_comm]
    have := Nat.two_pow_add_eq_or_of_lt (i := 40) (b := c.length) (by omega) 1
    rw [Nat.mul_one] at this
    rw [← this]
    omega
  have q0 := fun o => (H.head.alloc o).cell (j := 0) rfl
  have Hh := Lib.hid H
  have Rh := Lib.hid R
  clear H R
  cases lr with
  | false =>
    clear hor
    go_enter Try.func32, Try.ntmps32
    go_wp2_with fail
    go_region_law (first
      | ((rw [if_pos (by rfl)]); go_simp; (go_at_call 38; refine (ar_fit _ _).mono ?_; rintro e w' ⟨rfl, rfl⟩))
      | (refine step_append_one _ rfl (.tmp 43) (.tmp 47) 36 rfl 3 i0 (.int .i64 0) 1 8 Try.underlying36 ii rfl (by decide) w h.a h.cap m.ws.length (ints m.ws) rfl Hh.out.rows (((Turn.refl γ w _).alloc _).drew) (World.ownsRow.alloc Hh.out.rows.own _) ⟨w.heap.size, 0, none⟩ 3 3 (by decide) [.int .i64 c.length, .int .i64 (arFit g), .int .i64 0] rfl rfl (cells_lit3 w _ _ _ _) (by simp [Value.oneCell']) (by unfold maxLen; omega) (by omega) ?_; intro γ4 g4 cap4 w4 R4 T4; have Rc := Rh.out.turn T4 (not_under_more hpq))
      | (refine step_append_one _ rfl (.tmp 48) (.tmp 49) 36 rfl 3 i0 (.int .i64 0) 1 8 Try.underlying36 ii rfl (by decide) w4 (some ⟨g4, 0, none⟩) cap4 (m.ws.length + 3) (ints m.ws ++ [.int .i64 c.length, .int .i64 (arFit g), .int .i64 0]) rfl R4 (Turn.refl _ _ _) R4.own ⟨ca, 0, none⟩ c.length cc hc (ints c) rfl (by simp) (Rc.own.cells (g := ca) rfl) (ints_one c) (by unfold maxLen; omega) (by omega) ?_; intro γ5 g5 cap5 w5 R5 T5; have hb := Hh.out.head.turn (T4.trans T5) (by simp); have k0 := hb.cell (j := 0) rfl; have g0 := hb.free 0))
    all_goals
      have e1 : ints m.ws ++ [.int .i64 c.length, .int .i64 (arFit g), .int .i64 0] ++ ints c = ints (m.add c false g).ws := by simp [ints, ArM.add]
      have e2 : m.ws.length + 3 + c.length = (m.add c false g).ws.length := by simp [ArM.add]; omega
      rw [e1] at R5
      obtain ⟨B6, R6, M6, T6⟩ := Hh.out.grown (T4.trans T5) R5 e2
      generalize World.setCell w5 _ _ = w6 at *
      have f2 : w6.cell? ⟨h.b, 2, none⟩ = some (.int .i64 m.count) := B6.cell (j := 2) rfl
      have g2 := B6.free 2
      have f3 : w6.cell? ⟨h.b, 3, none⟩ = some (.map (some h.fb)) := B6.cell (j := 3) rfl
      have M7 := M6.turn (B6.turned 2 (.int .i64 (m.count + 1))) (by simp)
      have Z := fun w8 M T8 => Hh.out.added (w8 := w8) hsm B6 R6 T6 M T8
      have hcnt := Hh.out.cnt
      have hsz := Hh.out.sz
      have Zh := Lib.hid Z
      have Mh := Lib.hid M7
      clear k0 g0 hb R5 R4 T4 T5 Rc e1 e2 B6 R6 M6 T6 M7 Z q0 f0 f1 hd
      go_wp2_with (at_mapUpdate; go_must (refine wpList_update_m rfl (.tmp 63) (.tmp 64) _ rfl Try.tyIB rfl Mh.out (show h.sz < maxLen by unfold maxLen; omega) _ rfl (I64.small (by omega) (by omega)) _ rfl ?_); intro w8 M8 T8; have Z8 := Lib.hid (Zh.out w8 M8 T8); clear M8 T8)
      go_ret2
      exact Z8.out
  | true =>
    go_enter Try.func32, Try.ntmps32
    go_wp2_with fail
    go_region_law (first
      | ((rw [if_pos (by rfl)]); go_simp; (go_at_call 38; refine (ar_fit _ _).mono ?_; rintro e w' ⟨rfl, rfl⟩))
      | (refine step_append_one _ rfl (.tmp 43) (.tmp 47) 36 rfl 3 i0 (.int .i64 0) 1 8 Try.underlying36 ii rfl (by decide) w h.a h.cap m.ws.length (ints m.ws) rfl Hh.out.rows (((Turn.refl γ w _).alloc _).drew) (World.ownsRow.alloc Hh.out.rows.own _) ⟨w.heap.size, 0, none⟩ 3 3 (by decide) [.int .i64 ((c.length : Int) + 1099511627776), .int .i64 (arFit g), .int .i64 0] rfl rfl (cells_lit3 w _ _ _ _) (by simp [Value.oneCell']) (by unfold maxLen; omega) (by omega) ?_; intro γ4 g4 cap4 w4 R4 T4; have Rc := Rh.out.turn T4 (not_under_more hpq))
      | (refine step_append_one _ rfl (.tmp 48) (.tmp 49) 36 rfl 3 i0 (.int .i64 0) 1 8 Try.underlying36 ii rfl (by decide) w4 (some ⟨g4, 0, none⟩) cap4 (m.ws.length + 3) (ints m.ws ++ [.int .i64 ((c.length : Int) + 1099511627776), .int .i64 (arFit g), .int .i64 0]) rfl R4 (Turn.refl _ _ _) R4.own ⟨ca, 0, none⟩ c.length cc hc (ints c) rfl (by simp) (Rc.own.cells (g := ca) rfl) (ints_one c) (by unfold maxLen; omega) (by omega) ?_; intro γ5 g5 cap5 w5 R5 T5; have hb := Hh.out.head.turn (T4.trans T5) (by simp); have k0 := hb.cell (j := 0) rfl; have g0 := hb.free 0))
    all_goals
      have e1 : ints m.ws ++ [.int .i64 ((c.length : Int) + 1099511627776), .int .i64 (arFit g), .int .i64 0] ++ ints c = ints (m.add c true g).ws := by simp [ints, ArM.add]
      have e2 : m.ws.length + 3 + c.length = (m.add c true g).ws.length := by simp [ArM.add]; omega
      rw [e1] at R5
      obtain ⟨B6, R6, M6, T6⟩ := Hh.out.grown (T4.trans T5) R5 e2
      generalize World.setCell w5 _ _ = w6 at *
      have f2 : w6.cell? ⟨h.b, 2, none⟩ = some (.int .i64 m.count) := B6.cell (j := 2) rfl
      have g2 := B6.free 2
      have f3 : w6.cell? ⟨h.b, 3, none⟩ = some (.map (some h.fb)) := B6.cell (j := 3) rfl
      have M7 := M6.turn (B6.turned 2 (.int .i64 (m.count + 1))) (by simp)
      have Z := fun w8 M T8 => Hh.out.added (w8 := w8) hsm B6 R6 T6 M T8
      have hcnt := Hh.out.cnt
      have hsz := Hh.out.sz
      have Zh := Lib.hid Z
      have Mh := Lib.hid M7
      clear k0 g0 hb R5 R4 T4 T5 Rc e1 e2 B6 R6 M6 T6 M7 Z q0 f0 f1 hd
      go_wp2_with (at_mapUpdate; go_must (refine wpList_update_m rfl (.tmp 63) (.tmp 64) _ rfl Try.tyIB rfl Mh.out (show h.sz < maxLen by unfold maxLen; omega) _ rfl (I64.small (by omega) (by omega)) _ rfl ?_); intro w8 M8 T8; have Z8 := Lib.hid (Zh.out w8 M8 T8); clear M8 T8)
      go_ret2
      exact Z8.out

end

end Go.Proofs.Ytlmmiobnbcanmaa
