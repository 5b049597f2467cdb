import Derived.Test.YtlmmiobnbcanmaaArena
import Derived.Deep.LoopGhost
namespace Go.Proofs.Ytlmmiobnbcanmaa
open Go.RowKit

/-- Where a minimiser lies. -/
structure MnH where
  b : Nat
  tb : Nat
  ab : Nat
  ib : Nat
  sb : Nat
  fi : Int → Option Value
  fs : Int → Option Value
  iz : Nat
  sz : Nat

def MnH.head (h : MnH) : Array Value := #[.pointer (some ⟨h.tb, 0, none⟩), .pointer (some ⟨h.ab, 0, none⟩), .map (some h.ib), .map (some h.sb)]

structure MnAt (γ : Tags) (w : World) (p : Tag) (h : MnH) (inn : Int → Bool) (st : Int → Int) : Prop where
  head : Blk γ w (p ++ [0]) h.b 69 h.head
  im : MapAt Try.prog 3 γ w (p ++ [1]) h.ib h.fi h.iz
  sm : MapAt Try.prog 3 γ w (p ++ [2]) h.sb h.fs h.sz
  inn : ∀ x, (h.fi x).getD (.bool false) = .bool (inn x)
  st : ∀ x, (h.fs x).getD (.int .i64 0) = .int .i64 (st x)

section
variable {γ γ' : Tags} {w w' : World} {p q : Tag} {h : MnH} {inn : Int → Bool} {st : Int → Int} {s : TrailS} {tb : Nat}

theorem MnAt.drewN (H : MnAt γ w p h inn st) (n : Nat) : MnAt γ (w.drewN n) p h inn st := ⟨⟨H.head.heap, H.head.tag⟩, H.im.drewN n, H.sm.drewN n, H.inn, H.st⟩
theorem MnAt.turn (H : MnAt γ w q h inn st) {ps : List Tag} (ht : Turn γ γ' w w' ps) (hp : ∀ x, ¬ Under ps (q ++ x)) : MnAt γ' w' q h inn st :=
  ⟨H.head.turn ht (hp _), H.im.turn ht (hp _), H.sm.turn ht (hp _), H.inn, H.st⟩
theorem MnAt.f0 (H : MnAt γ w p h inn st) : w.cell? ⟨h.b, 0, none⟩ = some (.pointer (some ⟨h.tb, 0, none⟩)) := H.head.cell rfl
theorem MnAt.f1 (H : MnAt γ w p h inn st) : w.cell? ⟨h.b, 1, none⟩ = some (.pointer (some ⟨h.ab, 0, none⟩)) := H.head.cell rfl
theorem MnAt.f2 (H : MnAt γ w p h inn st) : w.cell? ⟨h.b, 2, none⟩ = some (.map (some h.ib)) := H.head.cell rfl
theorem MnAt.f3 (H : MnAt γ w p h inn st) : w.cell? ⟨h.b, 3, none⟩ = some (.map (some h.sb)) := H.head.cell rfl

/-- What is known of a variable at once: 0: it has a reason. -/
def firstS (st : Int → Int) (s : TrailS) (v : Int) : Int := if st v ≠ 0 then st v else if s.levelOf v ≤ 0 then 1 else if s.reason v < 0 then 2 else 0

set_option maxHeartbeats 1000000 in
theorem mn_first (T : TrS q h.tb s γ w) (H : MnAt γ w p h inn st) {v : Int} (hv : I64 v) :
    Calls Try.prog 39 #[.pointer (some ⟨h.b, 0, none⟩), .int .i64 v] w (Quiet w (.int .i64 (firstS st s v))) := by
  have f0 := H.f0
  have f3 := H.f3
  have hst := Lib.hid (H.st v)
  have Mh := Lib.hid H.sm
  have Cl := s_levelOf T v
  have Cr := fun n => s_reason (T.drewN n) v
  unfold firstS
  clear H T
  by_cases h1 : st v = 0
  · rw [if_neg (by simpa using h1)]
    have hst0 := hst.out
    rw [h1] at hst0
    have hst0h := Lib.hid hst0
    clear hst0 hst h1
    generalize s.levelOf v = lv at *
    generalize s.reason v = rs at *
    by_cases h2 : lv ≤ 0
    · rw [if_pos h2]
      go_enter Try.func39, Try.ntmps39
      go_wp2_with (at_lookup; go_must (refine wpList_lookup_v rfl (.tmp 9) (.tmp 10) rfl Try.tyII rfl Mh.out _ rfl hv hst0h.out ?_))
      refine Cl.mono ?_
      rintro e w1 ⟨rfl, n1, rfl⟩
      clear Cl Cr
      go_wp2_with fail
      go_ret
      exact ⟨rfl, _, rfl⟩
    · rw [if_neg h2]
      by_cases h3 : rs < 0
      · rw [if_pos h3]
        go_enter Try.func39, Try.ntmps39
        go_wp2_with (at_lookup; go_must (refine wpList_lookup_v rfl (.tmp 9) (.tmp 10) rfl Try.tyII rfl Mh.out _ rfl hv hst0h.out ?_))
        refine Cl.mono ?_
        rintro e w1 ⟨rfl, n1, rfl⟩
        clear Cl
        go_wp2_with fail
        refine (Cr n1).mono ?_
        rintro e w2 ⟨rfl, n2, rfl⟩
        clear Cr
        go_wp2_with fail
        go_ret
        exact ⟨rfl, _, rfl⟩
      · rw [if_neg h3]
        go_enter Try.func39, Try.ntmps39
        go_wp2_with (at_lookup; go_must (refine wpList_lookup_v rfl (.tmp 9) (.tmp 10) rfl Try.tyII rfl Mh.out _ rfl hv hst0h.out ?_))
        refine Cl.mono ?_
        rintro e w1 ⟨rfl, n1, rfl⟩
        clear Cl
        go_wp2_with fail
        refine (Cr n1).mono ?_
        rintro e w2 ⟨rfl, n2, rfl⟩
        clear Cr
        go_wp2_with fail
        go_ret
        exact ⟨rfl, _, rfl⟩
  · have h1' : (st v != 0) = true := by simpa using h1
    rw [if_pos h1]
    clear h1 Cl Cr
    go_enter Try.func39, Try.ntmps39
    go_wp2_with (first
      | (at_lookup; refine wpList_lookup_v rfl (.tmp 9) (.tmp 10) rfl Try.tyII rfl Mh.out _ rfl hv hst.out ?_)
      | (at_lookup; refine wpList_lookup_v rfl (.tmp 16) (.tmp 17) rfl Try.tyII rfl Mh.out _ rfl hv hst.out ?_))
    go_ret
    exact ⟨rfl, 0, rfl⟩

/-- A list's variables. -/
def inS (l : List Int) (x : Int) : Bool := l.any fun y => litVar y == x
theorem inS_snoc (l : List Int) (y x : Int) : inS (l ++ [y]) x = (inS l x || (litVar y == x)) := by simp [inS]

set_option maxHeartbeats 1000000 in
theorem mn_begin (γ : Tags) (w : World) (p : Tag) (tb ab : Nat) {l : List Int} {a : Option Addr} {cap : Nat} {q : Tag} (R : Row γ w q 3 1 a l.length cap (ints l)) (hpq : ¬ Under [p] q) (hl : ∀ x ∈ l, -1000000 ≤ x ∧ x ≤ 1000000) :
    Calls Try.prog 33 #[.pointer (some ⟨tb, 0, none⟩), .pointer (some ⟨ab, 0, none⟩), .slice a l.length cap] w
      (Gives γ w [p] fun v γ' w' => ∃ h : MnH, v = .pointer (some ⟨h.b, 0, none⟩) ∧ h.tb = tb ∧ h.ab = ab ∧ h.sz = 0 ∧ MnAt γ' w' p h (inS l) (fun _ => 0)) := by
  have hmm := fun t w => run_makeMap (P := Try.prog) t w
  have hle := R.le
  have M1 := MapAt.new Try.prog 3 γ w (p ++ [1])
  have T1 := Turn.new_at γ w (.map #[] 0) (p ++ [1])
  generalize hγ1 : γ.set w.heap.size (p ++ [1]) = γ1 at *
  have s1 : (w.alloc (.map #[] 0)).heap.size = w.heap.size + 1 := by simp
  have M2 := MapAt.new Try.prog 3 γ1 (w.alloc (.map #[] 0)) (p ++ [2])
  have T2 := Turn.new_at γ1 (w.alloc (.map #[] 0)) (.map #[] 0) (p ++ [2])
  have s2 : ((w.alloc (.map #[] 0)).alloc (.map #[] 0)).heap.size = w.heap.size + 2 := by simp
  rw [s1] at M2 T2
  generalize hγ2 : γ1.set (w.heap.size + 1) (p ++ [2]) = γ2 at *
  have B := Blk.new γ2 ((w.alloc (.map #[] 0)).alloc (.map #[] 0)) (p ++ [0]) 69 #[.pointer (some ⟨tb, 0, none⟩), .pointer (some ⟨ab, 0, none⟩), .map (some w.heap.size), .map (some (w.heap.size + 1))]
  have T3 := Turn.new_at γ2 ((w.alloc (.map #[] 0)).alloc (.map #[] 0)) (.cells #[.pointer (some ⟨tb, 0, none⟩), .pointer (some ⟨ab, 0, none⟩), .map (some w.heap.size), .map (some (w.heap.size + 1))] 69) (p ++ [0])
  rw [s2] at B T3
  generalize hγ3 : γ2.set (w.heap.size + 2) (p ++ [0]) = γ3 at *
  have Z : MnAt γ3 _ p ⟨w.heap.size + 2, tb, ab, w.heap.size, w.heap.size + 1, fun _ => none, fun _ => none, 0, 0⟩ (inS []) (fun _ => 0) :=
    ⟨B, (M1.turn T2 (by simp)).turn T3 (by simp), M2.turn T3 (by simp), fun _ => rfl, fun _ => rfl⟩
  have TT := (T1.at.trans T2.at).trans T3.at
  have Zh := Lib.hid (And.intro Z TT)
  have Rh := Lib.hid R
  clear M1 T1 M2 T2 B T3 Z TT s1 s2 hγ1 hγ2 hγ3 R
  go_enter Try.func33, Try.ntmps33
  go_wp2_with fail
  clear hmm
  unfold maxLen at hle
  go_loopw [18] (fun v wr => ∃ (k : Nat) (h : MnH), k ≤ l.length ∧ v = .int .i64 k ∧ h.b = w.heap.size + 2 ∧ h.tb = tb ∧ h.ab = ab ∧ h.sz = 0 ∧ h.iz ≤ k ∧ MnAt γ3 wr p h (inS (l.take k)) (fun _ => 0) ∧ Turn γ γ3 w wr [p]) (fun v _ => l.length - (intOf v).toNat)
  case atStart => exact ⟨0, _, Nat.zero_le _, rfl, rfl, rfl, rfl, rfl, Nat.zero_le _, Zh.out.1, Zh.out.2⟩
  case round =>
    obtain ⟨k, h, hk, rfl, hb, htb, hab, hs0, hz, Hk, Tk⟩ := hrel
    clear Zh
    generalize w.heap.size + 2 = bm at *
    subst hb
    by_cases hkl : k < l.length
    · have hx := List.getElem?_eq_getElem hkl
      have hxb := hl _ (List.getElem_mem hkl)
      have hts := inS_snoc (l.take k) l[k]
      rw [← List.take_succ_eq_append_getElem hkl] at hts
      generalize l[k] = x at *
      have Rk := Rh.out.turn Tk hpq
      obtain ⟨g, rfl⟩ := Rk.pos (by omega)
      have c0 := Rk.cell (j := k) (v := .int .i64 x) (by rw [ints, List.getElem?_map, hx]; rfl)
      have f2 := Hk.f2
      have hI : I64 (litVar x) := I64.small (by unfold litVar; split <;> omega) (by unfold litVar; split <;> omega)
      obtain ⟨w5, hrun, M5, T5⟩ := (Hk.im.drewN 1).put Try.tyIB (show h.iz < maxLen by unfold maxLen; omega) hI (.bool true)
      have hrund : (Instr.mapUpdate 27 (.map (some h.ib)) (.int .i64 (litVar x)) (.bool true)).run Try.prog wr.drew = .ok () w5 := hrun
      have Z : MnAt γ3 w5 p { h with fi := mset h.fi (litVar x) (.bool true), iz := (if (h.fi (litVar x)).isSome then h.iz else h.iz + 1) } (inS (l.take (k + 1))) (fun _ => 0) := by
        have H1 := Hk.drewN 1
        refine ⟨H1.head.turn T5 (by simp), M5, H1.sm.turn T5 (by simp), fun y => ?_, Hk.st⟩
        rw [hts y]
        unfold mset
        by_cases hy : y = litVar x
        · simp [hy]
        · have hy' : (litVar x == y) = false := by simpa using fun e : litVar x = y => hy e.symm
          simp only [hy, if_false, hy', Bool.or_false]
          exact Hk.inn y
      have TZ : Turn γ γ3 w w5 [p] := (Tk.drewN 1).trans T5.at
      have ZZ : ∃ h2 : MnH, h2.b = h.b ∧ h2.tb = tb ∧ h2.ab = ab ∧ h2.sz = 0 ∧ h2.iz ≤ k + 1 ∧ MnAt γ3 w5 p h2 (inS (l.take (k + 1))) (fun _ => 0) := ⟨{ h with fi := mset h.fi (litVar x) (.bool true), iz := (if (h.fi (litVar x)).isSome then h.iz else h.iz + 1) }, rfl, htb, hab, hs0, by dsimp only; split <;> omega, Z⟩
      have Zh := Lib.hid (And.intro ZZ TZ)
      clear ZZ
      clear hts hx Rk Hk Tk hrun M5 T5 Z TZ
      go_wp2_with fail
      go_region_with ((go_at_call 35; refine (var_any _ _ (by omega) (by omega)).mono ?_; rintro e w' ⟨rfl, rfl⟩))
      all_goals
        go_wp2_with fail
        obtain ⟨h2, a1, a2, a3, a4, a5, a6⟩ := Zh.out.1
        exact ⟨⟨k + 1, h2, by omega, by go_num, a1, a2, a3, a4, a5, a6, Zh.out.2⟩, by simp [intOf]; omega⟩
    · obtain rfl : k = l.length := by omega
      have Hh := Lib.hid (And.intro Hk Tk)
      clear Hk Tk
      go_wp2_with fail
      go_ret
      refine ⟨_, γ3, rfl, ⟨h, rfl, htb, hab, hs0, ?_⟩, Hh.out.2⟩
      have := Hh.out.1
      rwa [List.take_length] at this

/-- How far a reason is gone through, and what stops it: 0: nothing; -1: a loose one; else a variable that has to be known first. -/
def scanS (inn : Int → Bool) (f : Int → Int) (v : Int) : List Int → Nat → Nat × Int
  | [], k => (k, 0)
  | y :: ys, k => if litVar y == v || inn (litVar y) then scanS inn f v ys (k + 1) else if f (litVar y) = 0 then (k, litVar y) else if f (litVar y) = 2 then (k, -1) else scanS inn f v ys (k + 1)

def upd (st : Int → Int) (v x : Int) : Int → Int := fun y => if y = v then x else st y

/-- What a step comes to: its answer, how far, and what is known then. -/
def stepS (inn : Int → Bool) (s : TrailS) (L : List Int) (v : Int) (k : Nat) (st : Int → Int) : Int × Nat × (Int → Int) :=
  let r := scanS inn (firstS st s) v (L.drop k) k
  if r.2 = 0 then (0, r.1, upd st v 1) else if r.2 < 0 then (0, r.1, upd st v 2) else (r.2, r.1, st)

/-- The clause's literals are handed out. -/
def LitsOf (qa ql : Tag) (ha : ArH) (m : ArM) (ref : Int) (L : List Int) : Prop :=
  ∀ γ w, ArAt γ w qa ha m → Calls Try.prog 41 #[.pointer (some ⟨ha.b, 0, none⟩), .int .i64 ref] w
    (Gives γ w [ql] fun v γ' w' => ∃ a cap, v = .slice a L.length cap ∧ Row γ' w' ql 3 1 a L.length cap (ints L))

/-- A trail, an arena and a minimiser. -/
structure Mini (γ : Tags) (w : World) (qt qa p : Tag) (s : TrailS) (ha : ArH) (m : ArM) (h : MnH) (inn : Int → Bool) (st : Int → Int) : Prop where
  tr : TrS qt h.tb s γ w
  ar : ArAt γ w qa ha m
  ab : h.ab = ha.b
  mn : MnAt γ w p h inn st

variable {qt qa ql qf : Tag} {ha : ArH} {m : ArM}
theorem Mini.drewN (Z : Mini γ w qt qa p s ha m h inn st) (n : Nat) : Mini γ (w.drewN n) qt qa p s ha m h inn st := ⟨Z.tr.drewN n, Z.ar.drewN n, Z.ab, Z.mn.drewN n⟩
theorem Mini.turn {ps : List Tag} (Z : Mini γ w qt qa p s ha m h inn st) (T : Turn γ γ' w w' ps) (h1 : ∀ x, ¬ Under ps (qt ++ x)) (h2 : ∀ x, ¬ Under ps (qa ++ x)) (h3 : ∀ x, ¬ Under ps (p ++ x)) : Mini γ' w' qt qa p s ha m h inn st :=
  ⟨Z.tr.turn T h1, Z.ar.turn T h2, Z.ab, Z.mn.turn T h3⟩

end

end Go.Proofs.Ytlmmiobnbcanmaa
