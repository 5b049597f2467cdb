import Derived.Test.YtdbdilajjmijaaaDoorPDimacsBackx0
import Derived.Test.YtdbdilajjmijaaaDoorDmRel
import Derived.Lib.OthersKept
namespace Go.Proofs.YtdbdilajjmijaaaDoor
open Go Go.RowKit Go.Proofs.YtdbdilajjmijaaaDoorW.PrintWords Go.Proofs.YtdbdilajjmijaaaDoorW.PrintLast Go.Proofs.YtdbdilajjmijaaaDoorW.PrintMore PDimacsBack

/-! Rows as the program lays them, and as plain data; iterators. -/

/-- What a callee leaves: its value, and all that stood. -/
def Said (w : World) (v : Value) (e : Ending) (w' : World) : Prop := e = .returned v ∧ Below w.heap.size w w'
/-- What stands at a place, under a name of its own. -/
def nth {α : Type} (xs : List α) (z : α) (j : Nat) : α := xs.getD j z
theorem take_snoc {α : Type} {xs : List α} {j : Nat} (h : j < xs.length) (z : α) : xs.take (j + 1) = xs.take j ++ [nth xs z j] := by
  unfold nth
  rw [List.take_succ_eq_append_getElem h, List.getD_eq_getElem?_getD, List.getElem?_eq_getElem h]; rfl
theorem nth_mem {α : Type} {xs : List α} {j : Nat} (h : j < xs.length) (z : α) : nth xs z j ∈ xs := by
  unfold nth
  rw [List.getD_eq_getElem?_getD, List.getElem?_eq_getElem h]; exact List.getElem_mem h
theorem drop_nth {α : Type} {xs : List α} {j : Nat} (h : j < xs.length) (z : α) : xs.drop j = nth xs z j :: xs.drop (j + 1) := by
  unfold nth
  rw [List.drop_eq_getElem_cons h, List.getD_eq_getElem?_getD, List.getElem?_eq_getElem h]; rfl
theorem at_num {w : World} {k : IntKind} {A : Option Addr} {n : Nat} {xs : List Int} (h : Kd.C (Kd.int k) w A n xs) (j : Nat) (hj : j < n) : ∃ ad, A = some ad ∧ w.cell? (ad.add j) = some (.int k (nth xs 0 j)) := by
  obtain ⟨ad, h1, h2⟩ := Kd.at_int h (j : Int) (by omega) (by omega)
  exact ⟨ad, h1, h2⟩
def strV (l : List UInt8) : Value := .string ⟨l.toArray⟩
def bs (l : List UInt8) : ByteArray := ⟨l.toArray⟩
theorem bs_size (l : List UInt8) : (bs l).size = l.length := rfl
theorem bs_data (l : List UInt8) : (bs l).data.toList = l := rfl
theorem bs_of (s : ByteArray) : bs s.data.toList = s := by cases s; simp [bs]
theorem at_word {w : World} {A : Option Addr} {n : Nat} {ws : List (List UInt8)} (h : Kd.C Kd.string w A n (ws.map bs)) (j : Nat) (hj : j < n) : ∃ ad, A = some ad ∧ w.cell? (ad.add j) = some (.string (bs (nth ws [] j))) := by
  obtain ⟨ad, h1, h2⟩ := Kd.at_string h (j : Int) (by omega) (by omega)
  refine ⟨ad, h1, h2.trans ?_⟩
  have hn := Kd.C_len h
  rw [List.length_map] at hn
  unfold rdOf nth
  rw [Int.toNat_natCast, List.getD_eq_getElem?_getD, List.getD_eq_getElem?_getD, List.getElem?_map, List.getElem?_eq_getElem (by omega)]
  rfl

/-- A row stays while an iterator moves on. -/
theorem R_iter {α : Type} {d : Kd α} {e : Nat} {w : World} {base : Nat} {ok : Nat → Prop} {v : Value} {xs : List α} (h : d.R e w base ok v xs) {k : Nat} {s : ByteArray} {p : Nat} (hk : w.heap[k]? = some (.stringIter s p)) (p' : Nat) : d.R e (w.iterAt k s p') base ok v xs :=
  Kd.R_mono (Kd.R_move (Kd.R_bound h) (fun j hj => Lib.iterAt_other w k j s p' (by
    obtain ⟨_, _, _, q, _, cells, hc⟩ := hj
    rintro rfl
    rw [hk] at hc
    cases hc))) (fun _ hk => hk.1)
theorem R_ne_iter {α : Type} {d : Kd α} {e : Nat} {w : World} {base : Nat} {ok : Nat → Prop} {v : Value} {xs : List α} (h : d.R e w base ok v xs) {k : Nat} {s : ByteArray} {p : Nat} (hk : w.heap[k]? = some (.stringIter s p)) : some k ≠ v.ownBlock := by
  intro he
  obtain ⟨inner, ho⟩ := Kd.R_own h
  obtain ⟨cells, hc⟩ := own_typed ho k he.symm
  rw [hk] at hc
  cases hc
theorem iter_grown {w w' : World} {row : Option Nat} {k : Nat} {s : ByteArray} {p : Nat} (hk : w.heap[k]? = some (.stringIter s p)) (hg : w.grownBy w' row) (hne : some k ≠ row) : w'.heap[k]? = some (.stringIter s p) :=
  (hg.block k (Array.getElem?_eq_some_iff.1 hk).1 hne).trans hk

/-- Blocks of one type stand. -/
def Stands (t : Nat) (w w' : World) : Prop := ∀ (k : Nat) (cs : Array Value) (fr : Nat × Nat), w.heap[k]? = some (.cells cs t fr) → w'.heap[k]? = some (.cells cs t fr)
theorem Stands.refl (t : Nat) (w : World) : Stands t w w := fun _ _ _ h => h
theorem Stands.trans {t : Nat} {a b c : World} (h : Stands t a b) (k : Stands t b c) : Stands t a c := fun _ _ _ x => k _ _ _ (h _ _ _ x)
theorem Stands.of_below {t : Nat} {w w' : World} (h : Below w.heap.size w w') : Stands t w w' := fun k _ _ x => (h.block k (Array.getElem?_eq_some_iff.1 x).1).trans x
theorem Stands.set {t t' : Nat} {w : World} {g : Nat} {cells : Array Value} {fr : Nat × Nat} (hb : w.heap[g]? = some (.cells cells t' fr)) (ht : t' ≠ t) (j : Nat) (u : Value) : Stands t w (w.setCell ⟨g, j, none⟩ u) := fun k cs fr' x => by
  rw [Below.heap_setCell w ⟨g, j, none⟩ u k (by
    rintro rfl
    rw [hb] at x
    injection x with x
    injection x with _ x
    exact ht x)]
  exact x
theorem Stands.grown {t : Nat} {w w' : World} {row : Option Nat} (hg : w.grownBy w' row) (hty : ∀ k, row = some k → ∃ cells t' fr, t' ≠ t ∧ w.heap[k]? = some (.cells cells t' fr)) : Stands t w w' := fun k cs fr x => by
  rw [hg.block k (Array.getElem?_eq_some_iff.1 x).1 (fun he => by
    obtain ⟨cells, t', fr', hne, hc⟩ := hty k he.symm
    rw [hc] at x
    injection x with x
    injection x with _ x
    exact hne x)]
  exact x
theorem Stands.append {t : Nat} {w w' : World} {α : Type} {d : Kd α} {e : Nat} {base : Nat} {ok : Nat → Prop} {v : Value} {xs : List α} (h : d.R e w base ok v xs) (he : e ≠ t) (hg : w.grownBy w' v.ownBlock) : Stands t w w' :=
  Stands.grown hg fun k hk => by
    obtain ⟨inner, ho⟩ := Kd.R_own h
    obtain ⟨cells, hc⟩ := own_typed ho k hk
    exact ⟨cells, e, (0, 0), he, hc⟩
theorem Stands.drewN {t : Nat} {a b : World} (h : Stands t a b) (n : Nat) : Stands t a (b.drewN n) := h
theorem Stands.alloc {t : Nat} {a b : World} (h : Stands t a b) (o : Obj) : Stands t a (b.alloc o) := h.trans (Stands.of_below ((Below.refl _ b).alloc (Nat.le_refl _) o))
theorem R_stands {α : Type} {d : Kd α} {e : Nat} {w w' : World} {base : Nat} {ok : Nat → Prop} {v : Value} {xs : List α} (hE : d.E = []) (h : d.R e w base ok v xs) (hs : Stands e w w') : d.R e w' base ok v xs :=
  Kd.R_mono (Kd.R_move (Kd.R_bound h) (fun j hj => by
    obtain ⟨_, _, _, q, hq, cells, hc⟩ := hj
    rw [hE] at hq
    simp only [List.mem_cons, List.not_mem_nil, or_false] at hq
    subst hq
    rw [hc]
    exact hs _ _ _ hc)) (fun _ hk => hk.1)
theorem string_info : (Tryd.prog.info? 9).map (fun i => (i.zero, i.size, i.bytes)) = some (some (.string ⟨#[]⟩), 1, 16) := by kernel_rfl
theorem rune_info : (Tryd.prog.info? 21).map (fun i => (i.zero, i.size, i.bytes)) = some (some (.int .i32 0), 1, 4) := by kernel_rfl
theorem int_info : (Tryd.prog.info? 3).map (fun i => (i.zero, i.size, i.bytes)) = some (some (.int .i64 0), 1, 8) := by kernel_rfl
theorem ints_info : (Tryd.prog.info? 42).map (fun i => (i.zero, i.size, i.bytes)) = some (some (.slice none 0 0), 1, 24) := by kernel_rfl
end Go.Proofs.YtdbdilajjmijaaaDoor
