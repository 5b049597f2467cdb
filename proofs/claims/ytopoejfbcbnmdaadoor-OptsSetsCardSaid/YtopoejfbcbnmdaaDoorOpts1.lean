import Derived.Test.YtopoejfbcbnmdaaDoorRows
import Derived.Test.YtopoejfbcbnmdaaDoorMem
import Derived.WalkKit
import Derived.WalkSpells
import Derived.WalkLawsBesides
import Derived.BigQuiet
import Derived.BigRegion
import Derived.Deep.QuietTactic
import Derived.Lib.Hide
import Derived.Below
namespace Go.Proofs.YtopoejfbcbnmdaaDoor
open Go Go.RowKit

theorem ret_i {a b : Int} (h : a = b) : Ending.returned (.int .i64 a) = .returned (.int .i64 b) := by rw [h]
theorem ret_b {a b : Bool} (h : a = b) : Ending.returned (.bool a) = .returned (.bool b) := by rw [h]

/-- Options, as they lie. -/
structure Opt where
  co : Int
  wo : Int
  re : Int
  fi : Int
  ri : Int
  wa : Int
  ki : Int
  ba : Int
  no : Int
  mo : Int
  ph : Int
  lo : Int
  mi : Int
  mn : Int
  bi : Int
  se : Int

def Opt.vals (o : Opt) : Array Value := #[.int .i64 o.co, .int .i64 o.wo, .int .i64 o.re, .int .i64 o.fi, .int .i64 o.ri, .int .i64 o.wa, .int .i64 o.ki, .int .i64 o.ba, .int .i64 o.no, .int .i64 o.mo, .int .i64 o.ph, .int .i64 o.lo, .int .i64 o.mi, .int .i64 o.mn, .int .i64 o.bi, .int .u64 o.se]

def inB (n lo hi : Int) : Bool := decide (lo ≤ n) && decide (n ≤ hi)
theorem in_any (n lo hi : Int) (w : World) : Calls Tryd.prog 40 #[.int .i64 n, .int .i64 lo, .int .i64 hi] w fun e w' => e = .returned (.bool (inB n lo hi)) ∧ w = w' := by
  go_enter Tryd.func40, Tryd.ntmps40
  go_wp2
  all_goals go_ret
  all_goals exact ⟨ret_b (by unfold inB; first | (simp [*]; done) | (simp [*]; intro _; omega)), rfl⟩

def tblB (kind base : Int) : Bool := if kind = 0 then inB base 1 64 else if kind = 1 then inB base 17 256 else false
theorem tbl_any (kind base : Int) (w : World) : Calls Tryd.prog 48 #[.int .i64 kind, .int .i64 base] w fun e w' => e = .returned (.bool (tblB kind base)) ∧ w = w' := by
  unfold tblB inB
  by_cases h0 : kind = 0
  · subst h0
    rw [if_pos rfl]
    go_enter Tryd.func48, Tryd.ntmps48
    go_wp2
    all_goals go_ret
    all_goals exact ⟨ret_b (by first | (simp [*]; done) | (simp [*]; intro _; omega)), rfl⟩
  · rw [if_neg h0]
    have b0 : (kind == 0) = false := by simpa using h0
    by_cases h1 : kind = 1
    · subst h1
      rw [if_pos rfl]
      go_enter Tryd.func48, Tryd.ntmps48
      go_wp2
      all_goals go_ret
      all_goals exact ⟨ret_b (by first | (simp [*]; done) | (simp [*]; intro _; omega)), rfl⟩
    · rw [if_neg h1]
      have b1 : (kind == 1) = false := by simpa using h1
      go_enter Tryd.func48, Tryd.ntmps48
      go_wp2
      all_goals go_ret
      all_goals exact ⟨rfl, rfl⟩

def wayB (kind base noise : Int) : Bool := if kind = 2 then (base == 0) && inB noise 0 1000 else tblB kind base && (noise == 0)
theorem way_right (kind base noise : Int) (w : World) : Calls Tryd.prog 41 #[.agg #[.int .i64 kind, .int .i64 base, .int .i64 noise]] w fun e w' => e = .returned (.bool (wayB kind base noise)) ∧ w' = w.alloc (.cells #[.int .i64 kind, .int .i64 base, .int .i64 noise] 51) := by
  unfold wayB
  by_cases h0 : kind = 2
  · subst h0
    rw [if_pos rfl]
    unfold inB
    by_cases hb : base = 0
    · subst hb
      go_enter Tryd.func41, Tryd.ntmps41
      go_wp2
      all_goals go_ret
      all_goals exact ⟨ret_b (by first | (simp [*]; done) | (simp [*]; intro _; omega)), rfl⟩
    have hb0 : (base == 0) = false := by simpa using hb
    go_enter Tryd.func41, Tryd.ntmps41
    go_wp2
    all_goals go_ret
    all_goals exact ⟨ret_b (by first | (simp [*]; done) | (simp [*]; intro _; omega)), rfl⟩
  · rw [if_neg h0]
    have b0 : (kind == 2) = false := by simpa using h0
    obtain ⟨t, ht⟩ : ∃ t, tblB kind base = t := ⟨_, rfl⟩
    have C := fun w => tbl_any kind base w
    simp only [ht] at C ⊢
    clear ht h0
    go_enter Tryd.func41, Tryd.ntmps41
    go_wp2_with (go_at_call 48; refine (C _).mono ?_; rintro e w' ⟨rfl, rfl⟩)
    all_goals go_ret
    all_goals exact ⟨ret_b (by first | (simp [*]; done) | (simp [*]; intro _; omega)), rfl⟩

theorem way_any (o : Opt) (w : World) : Calls Tryd.prog 22 #[.agg o.vals] w fun e w' => e = .returned (.agg #[.int .i64 o.ki, .int .i64 o.ba, .int .i64 o.no]) ∧ w' = (w.alloc (.cells o.vals 24)).alloc (.cells #[.int .i64 o.ki, .int .i64 o.ba, .int .i64 o.no] 51) := by
  unfold Opt.vals
  go_enter Tryd.func22, Tryd.ntmps22
  go_wp2
  exact bodyPost_ret (v := .agg #[.int .i64 o.ki, .int .i64 o.ba, .int .i64 o.no]) (by simp [results, Tryd.results22, go_sem]) rfl ⟨rfl, rfl⟩

/-- The names, in order. -/
def optNames : List ByteArray := [⟨#[99, 111, 110, 102, 108, 105, 99, 116, 115]⟩, ⟨#[119, 111, 114, 100, 115]⟩, ⟨#[114, 101, 115, 116, 97, 114, 116]⟩, ⟨#[102, 105, 114, 115, 116]⟩, ⟨#[114, 105, 115, 101]⟩, ⟨#[119, 97, 108, 107]⟩, ⟨#[107, 105, 110, 100]⟩, ⟨#[98, 97, 115, 101]⟩, ⟨#[110, 111, 105, 115, 101]⟩, ⟨#[109, 111, 100, 101]⟩, ⟨#[112, 104, 97, 115, 101]⟩, ⟨#[108, 111, 119]⟩, ⟨#[109, 105, 100]⟩, ⟨#[109, 105, 110, 105, 109, 105, 115, 101]⟩, ⟨#[98, 105, 110, 97, 114, 121]⟩]
/-- What is looked at, in order. -/
def rowsO (o : Opt) : List (ByteArray × Bool) := [(⟨#[99, 111, 110, 102, 108, 105, 99, 116, 115]⟩, inB o.co (-1) 1099511627776), (⟨#[119, 111, 114, 100, 115]⟩, inB o.wo (-1) 1099511627776), (⟨#[114, 101, 115, 116, 97, 114, 116]⟩, inB o.re 1 10000), (⟨#[102, 105, 114, 115, 116]⟩, inB o.fi 1 100000), (⟨#[114, 105, 115, 101]⟩, inB o.ri 1 100000), (⟨#[119, 97, 108, 107]⟩, inB o.wa 0 100000), (⟨#[107, 105, 110, 100]⟩, inB o.ki 0 2), (⟨#[110, 111, 105, 115, 101]⟩, inB o.no 0 1000 && (o.ki == 2 || o.no == 0)), (⟨#[98, 97, 115, 101]⟩, wayB o.ki o.ba o.no), (⟨#[109, 111, 100, 101]⟩, inB o.mo 0 2), (⟨#[112, 104, 97, 115, 101]⟩, inB o.ph 0 2), (⟨#[108, 111, 119]⟩, inB o.lo 0 100), (⟨#[109, 105, 100]⟩, inB o.mi o.lo 1000), (⟨#[109, 105, 110, 105, 109, 105, 115, 101]⟩, inB o.mn 0 1), (⟨#[98, 105, 110, 97, 114, 121]⟩, inB o.bi 0 1)]
/-- The first option that may not be; "": all may. -/
def badS (o : Opt) : ByteArray := match (rowsO o).find? (fun r => !r.2) with | some r => r.1 | none => ⟨#[]⟩

def rowV (r : ByteArray × Bool) : List Value := [.string r.1, .bool r.2]
theorem rowV_length (r : ByteArray × Bool) : (rowV r).length = 2 := rfl

theorem Row.litO (γ : Tags) (w : World) (p : Tag) (e : TypeId) (size n : Nat) (cs : Array Value) (hn : n ≤ maxLen) (hs : cs.size = n * size) :
    Row (γ.set w.heap.size p) (w.alloc (.cells cs e)) p e size (some ⟨w.heap.size, 0, none⟩) n n cs.toList :=
  ⟨World.ownsRow_lit w cs n (Nat.zero_le _) hn hs, fun x hx => by cases hx; simp⟩

theorem Row.litAt (γ : Tags) (w : World) (p : Tag) (e : TypeId) (size n : Nat) (cs : Array Value) (xs : List Value) (g : Nat) (hg : w.heap.size = g) (hn : n ≤ maxLen) (hs : cs.size = n * size) (hx : cs.toList = xs) :
    Row (γ.set g p) (w.alloc (.cells cs e)) p e size (some ⟨g, 0, none⟩) n n xs := by
  subst hg hx
  exact Row.litO γ w p e size n cs hn hs

theorem find_first {α : Type} {f : α → Bool} {L : List α} {i : Nat} {r : α} (hi : L[i]? = some r) (hr : f r = true) (h : ∀ j, j < i → ∀ x, L[j]? = some x → f x = false) : L.find? f = some r := by
  induction L generalizing i with
  | nil => simp at hi
  | cons a L ih =>
    cases i with
    | zero => simp at hi; subst hi; simp [List.find?, hr]
    | succ i =>
      have ha := h 0 (by omega) a rfl
      simp only [List.find?, ha]
      exact ih (by simpa using hi) (fun j hj x hx => h (j + 1) (by omega) x (by simpa using hx))
theorem find_no {α : Type} {f : α → Bool} {L : List α} (h : ∀ j, j < L.length → ∀ x, L[j]? = some x → f x = false) : L.find? f = none := by
  rw [List.find?_eq_none]
  intro x hx
  obtain ⟨j, hj⟩ := List.getElem?_of_mem hx
  rw [h j (List.getElem?_eq_some_iff.1 hj).1 x hj]
  simp

theorem Turn.belowO {w w' : World} {γ : Tags} (T : Turn (fun _ => [1]) γ w w' [[0]]) : Below w.heap.size w w' := ⟨T.os, T.tape, T.output, T.size, fun k hk => T.block k hk (by simp)⟩

theorem cell_more {w : World} {a : Addr} {v : Value} (h : w.cell? a = some v) (o : Obj) : (w.alloc o).cell? a = some v := (World.cell?_alloc_lt _ _ _ (World.block_lt_of_cell? w a h)).trans h

/-- What opts.bad answers. -/
def BadSaid (o : Opt) (w : World) (e : Ending) (w' : World) : Prop := e = .returned (.string (badS o)) ∧ Below w.heap.size w w'

end Go.Proofs.YtopoejfbcbnmdaaDoor
