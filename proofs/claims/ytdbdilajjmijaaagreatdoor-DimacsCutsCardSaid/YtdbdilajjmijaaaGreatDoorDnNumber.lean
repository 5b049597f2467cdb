import Derived.Test.YtdbdilajjmijaaaGreatDoorPDimacsCutsx0
import Derived.Test.YtdbdilajjmijaaaGreatDoorDnPlain
import Derived.Lib.OthersKept
import Derived.WalkLawsBesides
namespace Go.Proofs.YtdbdilajjmijaaaGreatDoor
open Go Go.RowKit Go.Proofs.YtdbdilajjmijaaaGreatDoorW.PrintWords Go.Proofs.YtdbdilajjmijaaaGreatDoorW.PrintLast Go.Proofs.YtdbdilajjmijaaaGreatDoorW.PrintMore PDimacsCuts

/-! Rows as the program lays them, and as plain data; iterators. -/

/-- What a callee leaves: its value, and all that stood. -/
def Said (w : World) (v : Value) (e : Ending) (w' : World) : Prop := e = .returned v ∧ Below w.heap.size w w'
/-- What stands at a place, under a name of its own. -/
def nth {α : Type} (xs : List α) (z : α) (j : Nat) : α := xs.getD j z
theorem take_snoc {α : Type} {xs : List α} {j : Nat} (h : j < xs.length) (z : α) : xs.take (j + 1) = xs.take j ++ [nth xs z j] := by
  unfold nth
  rw [List.take_succ_eq_append_getElem h, List.getD_eq_getElem?_getD, List.getElem?_eq_getElem h]; rfl
theorem nth_mem {α : Type} {xs : List α} {j : Nat} (h : j < xs.length) (z : α) : nth xs z j ∈ xs := by
  unfold nth
  rw [List.getD_eq_getElem?_getD, List.getElem?_eq_getElem h]; exact List.getElem_mem h
theorem drop_nth {α : Type} {xs : List α} {j : Nat} (h : j < xs.length) (z : α) : xs.drop j = nth xs z j :: xs.drop (j + 1) := by
  unfold nth
  rw [List.drop_eq_getElem_cons h, List.getD_eq_getElem?_getD, List.getElem?_eq_getElem h]; rfl
theorem at_num {w : World} {k : IntKind} {A : Option Addr} {n : Nat} {xs : List Int} (h : Kd.C (Kd.int k) w A n xs) (j : Nat) (hj : j < n) : ∃ ad, A = some ad ∧ w.cell? (ad.add j) = some (.int k (nth xs 0 j)) := by
  obtain ⟨ad, h1, h2⟩ := Kd.at_int h (j : Int) (by omega) (by omega)
  exact ⟨ad, h1, h2⟩
def strV (l : List UInt8) : Value := .string ⟨l.toArray⟩
def bs (l : List UInt8) : ByteArray := ⟨l.toArray⟩
theorem bs_size (l : List UInt8) : (bs l).size = l.length := rfl
theorem bs_data (l : List UInt8) : (bs l).data.toList = l := rfl
theorem bs_of (s : ByteArray) : bs s.data.toList = s := by cases s; simp [bs]
theorem at_word {w : World} {A : Option Addr} {n : Nat} {ws : List (List UInt8)} (h : Kd.C Kd.string w A n (ws.map bs)) (j : Nat) (hj : j < n) : ∃ ad, A = some ad ∧ w.cell? (ad.add j) = some (.string (bs (nth ws [] j))) := by
  obtain ⟨ad, h1, h2⟩ := Kd.at_string h (j : Int) (by omega) (by omega)
  refine ⟨ad, h1, h2.trans ?_⟩
  have hn := Kd.C_len h
  rw [List.length_map] at hn
  unfold rdOf nth
  rw [Int.toNat_natCast, List.getD_eq_getElem?_getD, List.getD_eq_getElem?_getD, List.getElem?_map, List.getElem?_eq_getElem (by omega)]
  rfl

/-- A row stays while an iterator moves on. -/
theorem R_iter {α : Type} {d : Kd α} {e : Nat} {w : World} {base : Nat} {ok : Nat → Prop} {v : Value} {xs : List α} (h : d.R e w base ok v xs) {k : Nat} {s : ByteArray} {p : Nat} (hk : w.heap[k]? = some (.stringIter s p)) (p' : Nat) : d.R e (w.iterAt k s p') base ok v xs :=
  Kd.R_mono (Kd.R_move (Kd.R_bound h) (fun j hj => Lib.iterAt_other w k j s p' (by
    obtain ⟨_, _, _, q, _, cells, hc⟩ := hj
    rintro rfl
    rw [hk] at hc
    cases hc))) (fun _ hk => hk.1)
theorem R_ne_iter {α : Type} {d : Kd α} {e : Nat} {w : World} {base : Nat} {ok : Nat → Prop} {v : Value} {xs : List α} (h : d.R e w base ok v xs) {k : Nat} {s : ByteArray} {p : Nat} (hk : w.heap[k]? = some (.stringIter s p)) : some k ≠ v.ownBlock := by
  intro he
  obtain ⟨inner, ho⟩ := Kd.R_own h
  obtain ⟨cells, hc⟩ := own_typed ho k he.symm
  rw [hk] at hc
  cases hc
theorem iter_grown {w w' : World} {row : Option Nat} {k : Nat} {s : ByteArray} {p : Nat} (hk : w.heap[k]? = some (.stringIter s p)) (hg : w.grownBy w' row) (hne : some k ≠ row) : w'.heap[k]? = some (.stringIter s p) :=
  (hg.block k (Array.getElem?_eq_some_iff.1 hk).1 hne).trans hk

/-- Blocks of one type stand. -/
def Stands (t : Nat) (w w' : World) : Prop := ∀ (k : Nat) (cs : Array Value) (fr : Nat × Nat), w.heap[k]? = some (.cells cs t fr) → w'.heap[k]? = some (.cells cs t fr)
theorem Stands.refl (t : Nat) (w : World) : Stands t w w := fun _ _ _ h => h
theorem Stands.trans {t : Nat} {a b c : World} (h : Stands t a b) (k : Stands t b c) : Stands t a c := fun _ _ _ x => k _ _ _ (h _ _ _ x)
theorem Stands.of_below {t : Nat} {w w' : World} (h : Below w.heap.size w w') : Stands t w w' := fun k _ _ x => (h.block k (Array.getElem?_eq_some_iff.1 x).1).trans x
theorem Stands.set {t t' : Nat} {w : World} {g : Nat} {cells : Array Value} {fr : Nat × Nat} (hb : w.heap[g]? = some (.cells cells t' fr)) (ht : t' ≠ t) (j : Nat) (u : Value) : Stands t w (w.setCell ⟨g, j, none⟩ u) := fun k cs fr' x => by
  rw [Below.heap_setCell w ⟨g, j, none⟩ u k (by
    rintro rfl
    rw [hb] at x
    injection x with x
    injection x with _ x
    exact ht x)]
  exact x
theorem Stands.grown {t : Nat} {w w' : World} {row : Option Nat} (hg : w.grownBy w' row) (hty : ∀ k, row = some k → ∃ cells t' fr, t' ≠ t ∧ w.heap[k]? = some (.cells cells t' fr)) : Stands t w w' := fun k cs fr x => by
  rw [hg.block k (Array.getElem?_eq_some_iff.1 x).1 (fun he => by
    obtain ⟨cells, t', fr', hne, hc⟩ := hty k he.symm
    rw [hc] at x
    injection x with x
    injection x with _ x
    exact hne x)]
  exact x
theorem Stands.append {t : Nat} {w w' : World} {α : Type} {d : Kd α} {e : Nat} {base : Nat} {ok : Nat → Prop} {v : Value} {xs : List α} (h : d.R e w base ok v xs) (he : e ≠ t) (hg : w.grownBy w' v.ownBlock) : Stands t w w' :=
  Stands.grown hg fun k hk => by
    obtain ⟨inner, ho⟩ := Kd.R_own h
    obtain ⟨cells, hc⟩ := own_typed ho k hk
    exact ⟨cells, e, (0, 0), he, hc⟩
theorem Stands.drewN {t : Nat} {a b : World} (h : Stands t a b) (n : Nat) : Stands t a (b.drewN n) := h
theorem Stands.alloc {t : Nat} {a b : World} (h : Stands t a b) (o : Obj) : Stands t a (b.alloc o) := h.trans (Stands.of_below ((Below.refl _ b).alloc (Nat.le_refl _) o))
theorem R_stands {α : Type} {d : Kd α} {e : Nat} {w w' : World} {base : Nat} {ok : Nat → Prop} {v : Value} {xs : List α} (hE : d.E = []) (h : d.R e w base ok v xs) (hs : Stands e w w') : d.R e w' base ok v xs :=
  Kd.R_mono (Kd.R_move (Kd.R_bound h) (fun j hj => by
    obtain ⟨_, _, _, q, hq, cells, hc⟩ := hj
    rw [hE] at hq
    simp only [List.mem_cons, List.not_mem_nil, or_false] at hq
    subst hq
    rw [hc]
    exact hs _ _ _ hc)) (fun _ hk => hk.1)
theorem string_info : (Tryz.prog.info? 9).map (fun i => (i.zero, i.size, i.bytes)) = some (some (.string ⟨#[]⟩), 1, 16) := by kernel_rfl
theorem rune_info : (Tryz.prog.info? 21).map (fun i => (i.zero, i.size, i.bytes)) = some (some (.int .i32 0), 1, 4) := by kernel_rfl
theorem int_info : (Tryz.prog.info? 3).map (fun i => (i.zero, i.size, i.bytes)) = some (some (.int .i64 0), 1, 8) := by kernel_rfl
theorem ints_info : (Tryz.prog.info? 46).map (fun i => (i.zero, i.size, i.bytes)) = some (some (.slice none 0 0), 1, 24) := by kernel_rfl
end Go.Proofs.YtdbdilajjmijaaaGreatDoor
namespace Go.Proofs.YtdbdilajjmijaaaGreatDoor
open Go Go.RowKit Go.Proofs.YtdbdilajjmijaaaGreatDoorW.PrintWords Go.Proofs.YtdbdilajjmijaaaGreatDoorW.PrintLast Go.Proofs.YtdbdilajjmijaaaGreatDoorW.PrintMore PDimacsCuts

/-! dimacs.words -/
theorem iterPos_of {w : World} {k : Nat} {s : ByteArray} {p : Nat} (h : w.heap[k]? = some (.stringIter s p)) : w.iterPos k = p := by simp [World.iterPos, h]

/-- What words' call leaves. -/
def WordsSaid (w : World) (wb : List (List UInt8)) (e : Ending) (w' : World) : Prop := Below w.heap.size w w' ∧ ∃ V ws, e = .returned V ∧ Kd.R Kd.string 9 w' w.heap.size (fun _ => True) V (ws.map bs) ∧ Likes ws wb ∧ (∀ y ∈ ws, y.length ≤ 8388608) ∧ ws.length ≤ 2097152

theorem runes_any (W : World) (base : Nat) (ok : Nat → Prop) (A : Option Addr) (n c : Nat) (rs : List Int) (h : (Kd.int .i32).R 21 W base ok (.slice A n c) rs) :
    (convert 108 9 (.slice A n c)).run Tryz.prog W = .ok (.string (bs (runesL rs))) W := by
  obtain ⟨hn, hc, hr⟩ := Kd.R_reads' h
  have e : bs (runesL rs) = runesBytes rs := by unfold runesL; exact bs_of _
  rw [e]
  cases rs with
  | nil =>
    simp only [List.length_nil] at hn
    subst hn
    cases A with
    | none => exact run_convert_runes_nil W _ _ _ _ _ Tryz.underlying108 Tryz.underlying21 Tryz.underlying9
    | some ad => exact run_convert_runes W _ _ _ ad 0 c [] (Nat.zero_le _) Tryz.underlying108 Tryz.underlying21 Tryz.underlying9 (fun j hj => absurd hj (Nat.not_lt_zero j))
  | cons r rs =>
    obtain ⟨ad, hA, _⟩ := at_num hr 0 (by simp)
    subst hA
    rw [hn]
    have := run_convert_runes W 108 9 21 ad (r :: rs).length c (r :: rs) (Nat.le_refl _) Tryz.underlying108 Tryz.underlying21 Tryz.underlying9 (fun j hj => by
      obtain ⟨ad', e1, hx⟩ := at_num hr j hj
      cases e1
      exact hx)
    rw [List.take_length] at this
    exact this

theorem runes_some {W : World} {base : Nat} {ok : Nat → Prop} {A : Option Addr} {n c : Nat} {rs : List Int} (h : (Kd.int .i32).R 21 W base ok (.slice A n c) rs) : n = rs.length := (Kd.R_reads' h).1

/-- One rune, at a place of the line. -/
structure RuneAt (L : ByteArray) (pos : Nat) (r : Int) (k : Nat) : Prop where
  step : 0 < k
  stay : pos + k ≤ L.size
  what : (∃ c : UInt8, r = (c.toNat : Int) ∧ c.toNat < 128 ∧ k = 1 ∧ L.data.toList.take (pos + k) = L.data.toList.take pos ++ [c]) ∨ (128 ≤ r ∧ ∃ f, High f ∧ L.data.toList.take (pos + k) = L.data.toList.take pos ++ f)
theorem rune_at (L : ByteArray) (pos : Nat) (h : pos < L.size) : RuneAt L pos ((Utf8.decode L pos).1 : Int) (Utf8.decode L pos).2 := by
  by_cases hb : (L.get! pos).toNat < 128
  · have hg : L.get! pos = L[pos]'h := by simp [ByteArray.get!, getElem!_pos, h]; rfl
    rw [hg] at hb
    have e := decode_ascii L pos h hb
    rw [e]
    refine ⟨Nat.one_pos, h, .inl ⟨L[pos]'h, rfl, hb, rfl, ?_⟩⟩
    rw [List.take_succ_eq_append_getElem (by simpa using h)]; rfl
  · obtain ⟨h1, h2, h3, h4⟩ := decode_high L pos h (by omega)
    refine ⟨h2, h3, .inr ⟨by omega, _, h4, ?_⟩⟩
    rw [List.take_add]

/-- What the loop knows: the words that were told and the word at hand are like those of the bytes so far. -/
structure AtW (L : ByteArray) (pos : Nat) (ws : List (List UInt8)) (rs : List Int) : Prop where
  out : Likes ws ((L.data.toList.take pos).foldl wstep ([], [])).1
  cur : Like (runesL rs) ((L.data.toList.take pos).foldl wstep ([], [])).2
  few : ws.length ≤ pos ∧ rs.length ≤ pos
  len : ∀ y ∈ ws, y.length ≤ 4 * pos
theorem AtW.start (L : ByteArray) : AtW L 0 [] [] := ⟨trivial, .inl rfl, by simp, by simp⟩
theorem runesL_ne {rs : List Int} (h : rs ≠ []) : runesL rs ≠ [] := by
  rw [← List.dropLast_concat_getLast h, runesL_snoc]
  intro he
  have h2 := (List.append_eq_nil_iff.1 he).2
  by_cases hr : 128 ≤ rs.getLast h
  · exact (encode_high _ hr).1 h2
  · have hs : (Utf8.encode (rs.getLast h)).size = 0 := by
      have := congrArg List.length h2
      simpa using this
    unfold Utf8.encode at hs
    simp only at hs
    revert hs
    repeat' split
    all_goals (intro hs; cases hs)
theorem runesL_len (rs : List Int) : (runesL rs).length ≤ 4 * rs.length := by
  have := runesBytes_size_le rs
  unfold runesL
  simpa using this
/-- A rune that is no blank. -/
theorem AtW.word {L : ByteArray} {pos k : Nat} {r : Int} {ws : List (List UInt8)} {rs : List Int} (h : AtW L pos ws rs) (hr : RuneAt L pos r k) (h1 : r ≠ 32) (h2 : r ≠ 9) : AtW L (pos + k) ws (rs ++ [r]) := by
  have hs := hr.step
  obtain ⟨a, b, c, d⟩ := h
  rcases hr.what with ⟨ch, hc, hlt, _, ht⟩ | ⟨hh, f, hf, ht⟩
  · have hw : ((L.data.toList.take (pos + k)).foldl wstep ([], [])) = ((((L.data.toList.take pos).foldl wstep ([], [])).1), ((L.data.toList.take pos).foldl wstep ([], [])).2 ++ [ch]) := by
      rw [ht, List.foldl_append, List.foldl_cons, List.foldl_nil]
      generalize (L.data.toList.take pos).foldl wstep ([], []) = s
      unfold wstep
      rw [if_pos]
      constructor
      · rintro rfl; exact h1 (by rw [hc]; rfl)
      · rintro rfl; exact h2 (by rw [hc]; rfl)
    refine ⟨by rw [hw]; exact a, ?_, by simp; omega, fun y hy => by have := d y hy; omega⟩
    rw [hw, runesL_snoc, hc, encode_plain ch hlt]
    exact b.snoc ch
  · have hw : ((L.data.toList.take (pos + k)).foldl wstep ([], [])) = ((((L.data.toList.take pos).foldl wstep ([], [])).1), ((L.data.toList.take pos).foldl wstep ([], [])).2 ++ f) := by
      rw [ht, List.foldl_append, wfold_high f hf]
    refine ⟨by rw [hw]; exact a, ?_, by simp; omega, fun y hy => by have := d y hy; omega⟩
    rw [hw, runesL_snoc]
    exact b.app (encode_high r hh) hf
theorem AtW.blank {L : ByteArray} {pos k : Nat} {r : Int} {ws : List (List UInt8)} {rs : List Int} (h : AtW L pos ws rs) (hr : RuneAt L pos r k) (h1 : r = 32 ∨ r = 9) :
    (rs ≠ [] → AtW L (pos + k) (ws ++ [runesL rs]) []) ∧ (rs = [] → AtW L (pos + k) ws []) := by
  have hs := hr.step
  obtain ⟨a, b, c, d⟩ := h
  rcases hr.what with ⟨ch, hc, hlt, _, ht⟩ | ⟨hh, f, hf, ht⟩
  · have hch : ¬ (ch ≠ 32 ∧ ch ≠ 9) := by
      rintro ⟨x, y⟩
      rcases h1 with h1 | h1
      · exact x (UInt8.toNat_inj.1 (by rw [show (32 : UInt8).toNat = 32 from rfl]; omega))
      · exact y (UInt8.toNat_inj.1 (by rw [show (9 : UInt8).toNat = 9 from rfl]; omega))
    have hw : (L.data.toList.take (pos + k)).foldl wstep ([], []) = wstep ((L.data.toList.take pos).foldl wstep ([], [])) ch := by rw [ht, List.foldl_append, List.foldl_cons, List.foldl_nil]
    generalize (L.data.toList.take pos).foldl wstep ([], []) = s at a b hw
    constructor
    · intro hne
      have hs2 : s.2 ≠ [] := fun he => runesL_ne hne (b.nil.2 he)
      have hw2 : wstep s ch = (s.1 ++ [s.2], []) := by unfold wstep; rw [if_neg hch, if_pos hs2]
      refine ⟨by rw [hw, hw2]; exact a.snoc b, by rw [hw, hw2]; exact .inl rfl, by simp; omega, fun y hy => ?_⟩
      rcases List.mem_append.1 hy with hy | hy
      · have := d y hy; omega
      · simp only [List.mem_singleton] at hy
        subst hy
        have := runesL_len rs
        omega
    · rintro rfl
      have hs2 : s.2 = [] := b.nil.1 rfl
      have hw2 : wstep s ch = s := by unfold wstep; rw [if_neg hch, if_neg (by simp [hs2])]
      refine ⟨by rw [hw, hw2]; exact a, by rw [hw, hw2, hs2]; exact .inl rfl, by simp; omega, fun y hy => by have := d y hy; omega⟩
  · rcases h1 with h1 | h1 <;> omega

set_option maxRecDepth 100000 in
set_option maxHeartbeats 4000000 in
theorem words_any (x : List UInt8) (w : World) (hX : x.length ≤ 1048576) :
    Calls Tryz.prog 30 #[strV x] w (WordsSaid w (wordsB x)) := by
  have hL : (bs x ++ ⟨#[32]⟩ : ByteArray).data.toList = x ++ [32] := by simp [bs]
  have hsz : (bs x ++ ⟨#[32]⟩ : ByteArray).size = x.length + 1 := by rw [ByteArray.size_append]; rfl
  have hov : (9223372036854775807 < (bs x).size + 1) = False := by rw [bs_size]; exact eq_false (by omega)
  show Calls Tryz.prog 30 #[.string (bs x)] w _
  have hwB : wordsB x = ((bs x ++ ⟨#[32]⟩ : ByteArray).data.toList.foldl wstep ([], [])).1 := by rw [hL]; rfl
  rw [hwB]
  have HLz := Aside0.mk hsz
  clear hL hsz hwB
  generalize hbx : bs x = B at *
  clear hbx
  generalize hLL : (B ++ ⟨#[32]⟩ : ByteArray) = L at *
  generalize hWB : (List.foldl wstep ([], []) L.data.toList).1 = WB
  have HWB := Aside0.mk hWB
  clear hWB
  go_enter Tryz.func30, Tryz.ntmps30
  go_wp2
  have HI0 := Aside0.mk (World.iter_heap w L 0)
  have HB0 := Aside0.mk (show Below w.heap.size w (w.iter L 0) from (Below.refl _ _).alloc (Nat.le_refl _) _)
  clear hLL hov
  generalize w.iter L 0 = W0 at *
  go_loopg [3, 4] L.size (fun gk v3 v4 w' => ∃ (pos : Nat) (ws : List (List UInt8)) (rs : List Int), pos + gk = L.size ∧ Aside0 (AtW L pos ws rs) ∧ Aside0 (w'.heap[w.heap.size]? = some (.stringIter L pos)) ∧ Aside0 (Kd.R Kd.string 9 w' w.heap.size (fun _ => True) v3 (ws.map bs)) ∧ Aside0 (Kd.R (Kd.int .i32) 21 w' w.heap.size (fun _ => True) v4 rs) ∧ Aside0 (Below w.heap.size w w'))
  case atStart => exact ⟨0, [], [], by omega, ⟨AtW.start L⟩, HI0, ⟨Kd.R_nil _ _ _ _ _⟩, ⟨Kd.R_nil _ _ _ _ _⟩, HB0⟩
  case round =>
    clear HB0 HI0
    obtain ⟨pos, ws, rs, hpk, HA, HI, HO, HR, HB⟩ := hrel
    by_cases hp : pos < L.size
    · have hnx : ∀ ty, (Instr.next (.pointer (some ⟨w.heap.size, 0, none⟩)) true ty).run Tryz.prog wr = _ := fun ty => Lib.run_next_any_at wr w.heap.size L pos ty HI.out hp
      have HRA := Aside0.mk (rune_at L pos hp)
      have HI2 := Aside0.mk (Lib.iterAt_heap wr w.heap.size L pos (pos + (Utf8.decode L pos).2) HI.out)
      have HB2 := Aside0.mk (Lib.below_iterAt HB.out (k := w.heap.size) (Nat.le_refl _) L (pos + (Utf8.decode L pos).2))
      have HO2 := Aside0.mk (R_iter HO.out HI.out (pos + (Utf8.decode L pos).2))
      have HR2 := Aside0.mk (R_iter HR.out HI.out (pos + (Utf8.decode L pos).2))
      clear HB HO HR HI
      generalize ((Utf8.decode L pos).1 : Int) = r at *
      generalize (Utf8.decode L pos).2 = k at *
      generalize wr.iterAt w.heap.size L (pos + k) = W1 at *
      clear hp
      have hk1 := HRA.out.step
      have hk2 := HRA.out.stay
      have hlen : rs.length ≤ 1048577 ∧ ws.length ≤ 1048577 := by have := HA.out.few; have := HLz.out; omega
      by_cases h1 : r = 32 ∨ r = 9
      · have hAB := HA.out.blank HRA.out h1
        obtain ⟨A4, c4, rfl⟩ := Kd.R_slice HR2.out
        by_cases hrs : rs = []
        · have hA2 := Aside0.mk (hAB.2 hrs)
          clear HA HRA hAB
          subst hrs
          rcases h1 with rfl | rfl
          all_goals
            go_wp2
            go_roundg (L.size - (pos + k))
            case measure => omega
            case rel => exact ⟨pos + k, ws, [], by omega, hA2, HI2, HO2, HR2, HB2⟩
        · have hA2 := Aside0.mk (hAB.1 hrs)
          have q3 : (0 < rs.length) = True := eq_true (List.length_pos_iff.2 hrs)
          have hcv := runes_any W1 w.heap.size (fun _ => True) A4 rs.length c4 rs HR2.out
          have HN := Aside0.mk (Kd.R_nil (Kd.int .i32) 21 W1 w.heap.size (fun _ => True))
          clear HA HRA hAB hrs
          have ht := Aside0.mk (show runesL rs = runesL rs from rfl)
          generalize runesL rs = y at *
          rcases h1 with rfl | rfl
          all_goals
            go_wp2_with (first
              | (rw [hcv])
              | ((with_reducible refine gate_builtin (b := .append) (xs := #[.tmp 28, .tmp 31]) rfl ?_); at_builtin; refine Kd.R_append Kd.string (w0 := w) w.heap.size rfl (.tmp 28) (.tmp 31) 55 9 (.string ⟨#[]⟩) 16 rfl Tryz.underlying55 string_info rfl (by decide) (by decide) _ (ws.map bs) (bs y) [.string (bs y)] (fun _ => True) (fun _ => False) rfl ?aX rfl (fun _ hk => hk.elim) (fun _ _ => trivial) ?aO ?aB ?aS ?aL ?_; (case aX => first | rfl | (simp [Act.eval]; done)); (case aO => exact HO2.out); (case aB => exact HB2.out); (case aS => exact below_size HB2.out); (case aL => rw [List.length_map]; omega)))
            intro v1 w2 ho hb hg hat
            have HI3 := Aside0.mk (iter_grown HI2.out hg (R_ne_iter HO2.out HI2.out))
            have e1 : ws.map bs ++ [bs y] = (ws ++ [y]).map bs := by simp
            rw [e1] at ho
            have HO3 := Aside0.mk ho
            have HB3 := Aside0.mk hb
            clear HI2 HO2 HR2 HB2 hg hb ho hat hcv HN
            go_wp2
            go_roundg (L.size - (pos + k))
            case measure => omega
            case rel => exact ⟨pos + k, ws ++ [y], [], by omega, hA2, HI3, HO3, ⟨Kd.R_nil _ _ _ _ _⟩, HB3⟩
      · have hA2 := Aside0.mk (HA.out.word HRA.out (by omega) (by omega))
        have q1 : (r != 32) = true := by simp; omega
        have q2 : (r != 9) = true := by simp; omega
        clear HA HRA h1
        go_wp2_with (first
          | ((with_reducible refine gate_builtin (b := .append) (xs := #[.tmp 20, .tmp 22]) rfl ?_); at_builtin; refine Kd.R_append (Kd.int .i32) (w0 := w) w.heap.size rfl (.tmp 20) (.tmp 22) 108 21 (.int .i32 0) 4 rfl Tryz.underlying108 rune_info rfl (by decide) (by decide) _ rs r [.int .i32 r] (fun _ => True) (fun _ => False) rfl ?aX rfl (fun _ hk => hk.elim) (fun _ _ => trivial) ?aO ?aB ?aS ?aL ?_; (case aX => first | rfl | (simp [Act.eval]; done)); (case aO => exact HR2.out); (case aB => exact HB2.out); (case aS => exact below_size HB2.out); (case aL => omega)))
        intro v1 w2 ho hb hg hat
        have HI3 := Aside0.mk (iter_grown HI2.out hg (R_ne_iter HR2.out HI2.out))
        have HO3 := Aside0.mk (Kd.R_over HO2.out HR2.out (by decide) hg)
        have HR3 := Aside0.mk ho
        have HB3 := Aside0.mk hb
        clear HI2 HO2 HR2 HB2 hg hb ho hat
        go_wp2
        go_roundg (L.size - (pos + k))
        case measure => omega
        case rel => exact ⟨pos + k, ws, rs ++ [r], by omega, hA2, HI3, HO3, HR3, HB3⟩
    · have hnx : ∀ ty, (Instr.next (.pointer (some ⟨w.heap.size, 0, none⟩)) true ty).run Tryz.prog wr = _ := fun ty => Lib.run_next_end_at wr w.heap.size L pos ty HI.out hp
      obtain ⟨A3, c3, rfl⟩ := Kd.R_slice HO.out
      have hsz := HLz.out
      have ht : L.data.toList.take pos = L.data.toList := List.take_of_length_le (by simp; omega)
      have hout := HA.out.out
      rw [ht, HWB.out] at hout
      have HO2 := HO.out
      rw [List.length_map] at HO2
      have HO3 := Aside0.mk HO2
      have HH := Aside0.mk hout
      have HF := Aside0.mk HA.out.few
      have HL2 := Aside0.mk HA.out.len
      clear HA hout ht HI HO2 HO
      go_wp2
      go_ret
      have hf := HF.out
      exact ⟨HB.out, .slice A3 ws.length c3, ws, by simp, HO3.out, HH.out, fun y hy => by have := HL2.out y hy; omega, by omega⟩
end Go.Proofs.YtdbdilajjmijaaaGreatDoor
namespace Go.Proofs.YtdbdilajjmijaaaGreatDoor
open Go Go.RowKit Go.Proofs.YtdbdilajjmijaaaGreatDoorW.PrintWords Go.Proofs.YtdbdilajjmijaaaGreatDoorW.PrintLast Go.Proofs.YtdbdilajjmijaaaGreatDoorW.PrintMore PDimacsCuts

/-! dimacs.number, literal -/
theorem drop_of_take {L f : List UInt8} {pos k : Nat} (h : L.take (pos + k) = L.take pos ++ f) : L.drop pos = f ++ L.drop (pos + k) := by
  have h1 := List.take_append_drop (pos + k) L
  rw [h, List.append_assoc] at h1
  have h2 := List.take_append_drop pos L
  rw [← h1] at h2
  have h3 : L.take pos ++ L.drop pos = L.take pos ++ (f ++ L.drop (pos + k)) := by rw [List.take_append_drop]; exact h1.symm
  exact List.append_cancel_left h3
theorem digit_step {L : ByteArray} {pos k : Nat} {r : Int} (h : RuneAt L pos r k) (n : Nat) :
    (48 ≤ r → r ≤ 57 → k = 1 ∧ digitsV n (L.data.toList.drop pos) = digitsV (10 * n + (r.toNat - 48)) (L.data.toList.drop (pos + k))) ∧ ((r < 48 ∨ 57 < r) → digitsV n (L.data.toList.drop pos) = none) := by
  rcases h.what with ⟨c, hc, hlt, hk, ht⟩ | ⟨hh, f, hf, ht⟩
  · have hd := drop_of_take ht
    rw [hd, List.singleton_append]
    simp only [digitsV]
    constructor
    · intro h1 h2
      refine ⟨hk, ?_⟩
      rw [if_neg (by omega)]
      rw [show r.toNat - 48 = c.toNat - 48 by omega]
    · intro h1
      rw [if_pos (by omega)]
  · have hd := drop_of_take ht
    rw [hd]
    constructor
    · intro h1 h2; omega
    · intro _
      obtain ⟨f1, f2⟩ := hf
      match f, f1 with
      | c :: rest, _ =>
        have := f2 c (by simp)
        rw [List.cons_append]
        simp only [digitsV]
        rw [if_pos (by omega)]

def NumSaid (w : World) (g : Option Nat) (e : Ending) (w' : World) : Prop := Below w.heap.size w w' ∧ match g with
  | some n => e = .returned (.tuple #[.int .i64 (n : Int), .bool true])
  | none => e = .returned (.tuple #[.int .i64 0, .bool false])

theorem toList_bs (x : List UInt8) : (bs x).toList = x := by
  have h := Lib.extract_toList (bs x) 0 x.length
  rw [bs_data, List.drop_zero] at h
  have e : (bs x).extract 0 x.length = bs x := by
    apply ByteArray.ext
    apply Array.ext'
    rw [ByteArray.data_extract, Array.toList_extract]
    simp [bs]
  rw [e] at h
  rw [h]; simp
theorem digitsV_bound : ∀ (x : List UInt8) (n m k : Nat), n < 10 ^ k → digitsV n x = some m → m < 10 ^ (k + x.length)
  | [], n, m, k, h, e => by simp only [digitsV, Option.some.injEq] at e; subst e; simpa using h
  | c :: r, n, m, k, h, e => by
    simp only [digitsV] at e
    split at e
    · cases e
    · rename_i hc
      have hp : 10 ^ (k + 1) = 10 ^ k * 10 := Nat.pow_succ _ _
      have h2 : 10 * n + (c.toNat - 48) < 10 ^ (k + 1) := by omega
      have := digitsV_bound r _ m (k + 1) h2 e
      rw [List.length_cons]
      rw [show k + (r.length + 1) = k + 1 + r.length by omega]
      exact this

set_option maxRecDepth 100000 in
set_option maxHeartbeats 4000000 in
theorem number_loop (x : List UInt8) (w : World) (h0 : x ≠ []) (h9 : x.length ≤ 9) (hz : x.length = 1 ∨ x[0]? ≠ some 48) :
    Calls Tryz.prog 43 #[strV x] w (NumSaid w (digitsV 0 x)) := by
  have hsz : (bs x).size = x.length := rfl
  have he1 : (bs x).toList.isEmpty = false := by rw [toList_bs]; simpa using h0
  have hz0 := hz
  have hfirst : ∀ h : 0 < (bs x).size, 1 < x.length → ¬ (((bs x)[0]'h).toNat : Int) = 48 := by
    intro h h1 he
    rcases hz with hz | hz
    · omega
    · refine hz ?_
      have : x[0]'(by omega) = (bs x)[0]'h := rfl
      rw [List.getElem?_eq_getElem (by omega), this]
      congr 1
      exact UInt8.toNat_inj.1 (by rw [show (48 : UInt8).toNat = 48 from rfl]; omega)
  have hq : ∀ h : 0 < (bs x).size, 1 < x.length → ((((bs x)[0]'h).toNat : Int) == 48) = false := fun h h1 => by simpa using hfirst h h1
  have HLz := Aside0.mk hsz
  have hV : digitsV 0 x = digitsV 0 (bs x).data.toList := rfl
  rw [hV]
  rw [← hsz] at h9 hq
  have hl0 : 0 < (bs x).size := by rw [hsz]; exact List.length_pos_iff.2 h0
  clear h0 hz hz0 hfirst hV hsz
  show Calls Tryz.prog 43 #[.string (bs x)] w _
  generalize hbx : bs x = B at *
  clear hbx
  have HD0 := Aside0.mk (show digitsV 0 (B.data.toList.drop 0) = digitsV 0 B.data.toList by rw [List.drop_zero])
  generalize digitsV 0 B.data.toList = D at *
  by_cases h1 : 1 < B.size
  case' pos => have hb := hq hl0 h1
  all_goals
    clear hq
    go_enter Tryz.func43, Tryz.ntmps43
    go_wp2
    have HI0 := Aside0.mk (World.iter_heap w B 0)
    have HB0 := Aside0.mk (show Below w.heap.size w (w.iter B 0) from (Below.refl _ _).alloc (Nat.le_refl _) _)
    clear he1
    generalize w.iter B 0 = W0 at *
    go_loopg [4] B.size (fun gk v4 w' => ∃ (pos n : Nat), v4 = .int .i64 (n : Int) ∧ pos + gk = B.size ∧ n < 10 ^ pos ∧ Aside0 (digitsV n (B.data.toList.drop pos) = D) ∧ Aside0 (w'.heap[w.heap.size]? = some (.stringIter B pos)) ∧ Aside0 (Below w.heap.size w w'))
    case atStart => exact ⟨0, 0, rfl, by omega, by decide, HD0, HI0, HB0⟩
    case round =>
      clear HB0 HI0 HD0
      obtain ⟨pos, n, rfl, hpk, hn, HA, HI, HB⟩ := hrel
      have hpow : 10 ^ pos ≤ 10 ^ 9 := Nat.pow_le_pow_right (by decide) (by have := HLz.out; omega)
      have hn9 : n < 1000000000 := by omega
      have HN := Aside0.mk hn
      clear hn hpow
      by_cases hp : pos < B.size
      · have hnx : ∀ ty, (Instr.next (.pointer (some ⟨w.heap.size, 0, none⟩)) true ty).run Tryz.prog wr = _ := fun ty => Lib.run_next_any_at wr w.heap.size B pos ty HI.out hp
        have HRA := Aside0.mk (rune_at B pos hp)
        have HI2 := Aside0.mk (Lib.iterAt_heap wr w.heap.size B pos (pos + (Utf8.decode B pos).2) HI.out)
        have HB2 := Aside0.mk (Lib.below_iterAt HB.out (k := w.heap.size) (Nat.le_refl _) B (pos + (Utf8.decode B pos).2))
        clear HB HI
        generalize ((Utf8.decode B pos).1 : Int) = r at *
        generalize (Utf8.decode B pos).2 = k at *
        generalize wr.iterAt w.heap.size B (pos + k) = W1 at *
        clear hp
        have hk1 := HRA.out.step
        have hk2 := HRA.out.stay
        by_cases h1 : r < 48
        · have hD : D = none := by rw [← HA.out]; exact (digit_step HRA.out n).2 (.inl h1)
          clear HA HRA
          subst hD
          go_wp2
          go_ret2
          exact ⟨HB2.out, rfl⟩
        · by_cases h2 : 57 < r
          · have hD : D = none := by rw [← HA.out]; exact (digit_step HRA.out n).2 (.inr h2)
            clear HA HRA
            subst hD
            have q1 : (r < 48) = False := eq_false h1
            go_wp2
            go_ret2
            exact ⟨HB2.out, rfl⟩
          · obtain ⟨hk, hD⟩ := (digit_step HRA.out n).1 (by omega) (by omega)
            rw [HA.out] at hD
            have HA2 := Aside0.mk hD.symm
            have q1 : (r < 48) = False := eq_false h1
            have q2 : (57 < r) = False := eq_false h2
            have h48 : 48 ≤ r := by omega
            have h57 : r ≤ 57 := by omega
            have HK := Aside0.mk hk
            clear HA HRA hD hk
            go_wp2
            go_roundg (B.size - (pos + k))
            case measure => omega
            case rel =>
              refine ⟨pos + k, 10 * n + (r.toNat - 48), ?_, by omega, ?_, HA2, HI2, HB2⟩
              · exact congrArg (Value.int .i64) (by omega)
              · have := HN.out
                rw [HK.out, Nat.pow_succ]
                omega
      · have hnx : ∀ ty, (Instr.next (.pointer (some ⟨w.heap.size, 0, none⟩)) true ty).run Tryz.prog wr = _ := fun ty => Lib.run_next_end_at wr w.heap.size B pos ty HI.out hp
        have hD : D = some n := by rw [← HA.out, List.drop_of_length_le (by simp; omega)]; rfl
        subst hD
        clear HA HI HLz
        go_wp2
        go_ret2
        exact ⟨HB.out, rfl⟩

theorem numW_eq (x : List UInt8) (h0 : x ≠ []) (h9 : x.length ≤ 9) (hz : x.length = 1 ∨ x[0]? ≠ some 48) : numW x = digitsV 0 x := by
  unfold numW
  rw [if_neg]
  rintro (h | h | ⟨h1, h2⟩)
  · exact h0 h
  · omega
  · rcases hz with hz | hz
    · omega
    · exact hz h2

set_option maxRecDepth 100000 in
set_option maxHeartbeats 4000000 in
theorem number_any (x : List UInt8) (w : World) (hx : x.length ≤ 1099511627776) :
    Calls Tryz.prog 43 #[strV x] w (NumSaid w (numW x)) := by
  by_cases h0 : x = []
  · subst h0
    show Calls Tryz.prog 43 #[.string ⟨#[]⟩] w (NumSaid w none)
    go_enter Tryz.func43, Tryz.ntmps43
    go_wp2
    go_ret2
    exact ⟨Below.refl _ _, rfl⟩
  by_cases h9 : x.length ≤ 9
  · by_cases hz : x.length = 1 ∨ x[0]? ≠ some 48
    · rw [numW_eq x h0 h9 hz]
      exact number_loop x w h0 h9 hz
    · have hz1 : x.length ≠ 1 := fun h => hz (.inl h)
      have hz2 : x[0]? = some 48 := Classical.not_not.1 fun h => hz (.inr h)
      have hl : 0 < x.length := List.length_pos_iff.2 h0
      have e : numW x = none := by unfold numW; rw [if_pos (.inr (.inr ⟨by omega, hz2⟩))]
      rw [e]
      have he1 : (bs x).toList.isEmpty = false := by rw [toList_bs]; simpa using h0
      have hl2 : 0 < (bs x).size := hl
      have hb : (((bs x)[0]'hl2).toNat : Int) = 48 := by
        have h1 : x[0]'hl = (bs x)[0]'hl2 := rfl
        rw [List.getElem?_eq_getElem hl, h1, Option.some.injEq] at hz2
        rw [hz2]; rfl
      have hs9 : (bs x).size ≤ 9 := h9
      have hs1 : 1 < (bs x).size := by rw [bs_size]; omega
      have hb2 : ((((bs x)[0]'hl2).toNat : Int) == 48) = true := by simpa using hb
      clear h9 hz hz1 hz2 hl h0 e hx hb
      show Calls Tryz.prog 43 #[.string (bs x)] w _
      generalize bs x = B at *
      go_enter Tryz.func43, Tryz.ntmps43
      go_wp2
      go_ret2
      exact ⟨Below.refl _ _, rfl⟩
  · have e : numW x = none := by unfold numW; rw [if_pos (.inr (.inl (by omega)))]
    rw [e]
    have he1 : (bs x).toList.isEmpty = false := by rw [toList_bs]; simpa using h0
    have hs9 : 9 < (bs x).size := by rw [bs_size]; omega
    have hsM : (bs x).size ≤ 1099511627776 := hx
    clear h9 h0 e hx
    show Calls Tryz.prog 43 #[.string (bs x)] w _
    generalize bs x = B at *
    go_enter Tryz.func43, Tryz.ntmps43
    go_wp2
    go_ret2
    exact ⟨Below.refl _ _, rfl⟩

end Go.Proofs.YtdbdilajjmijaaaGreatDoor
