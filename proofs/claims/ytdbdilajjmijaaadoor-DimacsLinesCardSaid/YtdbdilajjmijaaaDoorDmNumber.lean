import Derived.Test.YtdbdilajjmijaaaDoorDmWords
namespace Go.Proofs.YtdbdilajjmijaaaDoor
open Go Go.RowKit Go.Proofs.YtdbdilajjmijaaaDoorW.PrintWords Go.Proofs.YtdbdilajjmijaaaDoorW.PrintLast Go.Proofs.YtdbdilajjmijaaaDoorW.PrintMore PDimacsBack

/-! dimacs.number, literal -/
theorem drop_of_take {L f : List UInt8} {pos k : Nat} (h : L.take (pos + k) = L.take pos ++ f) : L.drop pos = f ++ L.drop (pos + k) := by
  have h1 := List.take_append_drop (pos + k) L
  rw [h, List.append_assoc] at h1
  have h2 := List.take_append_drop pos L
  rw [← h1] at h2
  have h3 : L.take pos ++ L.drop pos = L.take pos ++ (f ++ L.drop (pos + k)) := by rw [List.take_append_drop]; exact h1.symm
  exact List.append_cancel_left h3
theorem digit_step {L : ByteArray} {pos k : Nat} {r : Int} (h : RuneAt L pos r k) (n : Nat) :
    (48 ≤ r → r ≤ 57 → k = 1 ∧ digitsV n (L.data.toList.drop pos) = digitsV (10 * n + (r.toNat - 48)) (L.data.toList.drop (pos + k))) ∧ ((r < 48 ∨ 57 < r) → digitsV n (L.data.toList.drop pos) = none) := by
  rcases h.what with ⟨c, hc, hlt, hk, ht⟩ | ⟨hh, f, hf, ht⟩
  · have hd := drop_of_take ht
    rw [hd, List.singleton_append]
    simp only [digitsV]
    constructor
    · intro h1 h2
      refine ⟨hk, ?_⟩
      rw [if_neg (by omega)]
      rw [show r.toNat - 48 = c.toNat - 48 by omega]
    · intro h1
      rw [if_pos (by omega)]
  · have hd := drop_of_take ht
    rw [hd]
    constructor
    · intro h1 h2; omega
    · intro _
      obtain ⟨f1, f2⟩ := hf
      match f, f1 with
      | c :: rest, _ =>
        have := f2 c (by simp)
        rw [List.cons_append]
        simp only [digitsV]
        rw [if_pos (by omega)]

def NumSaid (w : World) (g : Option Nat) (e : Ending) (w' : World) : Prop := Below w.heap.size w w' ∧ match g with
  | some n => e = .returned (.tuple #[.int .i64 (n : Int), .bool true])
  | none => e = .returned (.tuple #[.int .i64 0, .bool false])

theorem toList_bs (x : List UInt8) : (bs x).toList = x := by
  have h := Lib.extract_toList (bs x) 0 x.length
  rw [bs_data, List.drop_zero] at h
  have e : (bs x).extract 0 x.length = bs x := by
    apply ByteArray.ext
    apply Array.ext'
    rw [ByteArray.data_extract, Array.toList_extract]
    simp [bs]
  rw [e] at h
  rw [h]; simp
theorem digitsV_bound : ∀ (x : List UInt8) (n m k : Nat), n < 10 ^ k → digitsV n x = some m → m < 10 ^ (k + x.length)
  | [], n, m, k, h, e => by simp only [digitsV, Option.some.injEq] at e; subst e; simpa using h
  | c :: r, n, m, k, h, e => by
    simp only [digitsV] at e
    split at e
    · cases e
    · rename_i hc
      have hp : 10 ^ (k + 1) = 10 ^ k * 10 := Nat.pow_succ _ _
      have h2 : 10 * n + (c.toNat - 48) < 10 ^ (k + 1) := by omega
      have := digitsV_bound r _ m (k + 1) h2 e
      rw [List.length_cons]
      rw [show k + (r.length + 1) = k + 1 + r.length by omega]
      exact this

set_option maxRecDepth 100000 in
set_option maxHeartbeats 4000000 in
theorem number_loop (x : List UInt8) (w : World) (h0 : x ≠ []) (h9 : x.length ≤ 9) (hz : x.length = 1 ∨ x[0]? ≠ some 48) :
    Calls Tryd.prog 52 #[strV x] w (NumSaid w (digitsV 0 x)) := by
  have hsz : (bs x).size = x.length := rfl
  have he1 : (bs x).toList.isEmpty = false := by rw [toList_bs]; simpa using h0
  have hz0 := hz
  have hfirst : ∀ h : 0 < (bs x).size, 1 < x.length → ¬ (((bs x)[0]'h).toNat : Int) = 48 := by
    intro h h1 he
    rcases hz with hz | hz
    · omega
    · refine hz ?_
      have : x[0]'(by omega) = (bs x)[0]'h := rfl
      rw [List.getElem?_eq_getElem (by omega), this]
      congr 1
      exact UInt8.toNat_inj.1 (by rw [show (48 : UInt8).toNat = 48 from rfl]; omega)
  have hq : ∀ h : 0 < (bs x).size, 1 < x.length → ((((bs x)[0]'h).toNat : Int) == 48) = false := fun h h1 => by simpa using hfirst h h1
  have HLz := Aside0.mk hsz
  have hV : digitsV 0 x = digitsV 0 (bs x).data.toList := rfl
  rw [hV]
  rw [← hsz] at h9 hq
  have hl0 : 0 < (bs x).size := by rw [hsz]; exact List.length_pos_iff.2 h0
  clear h0 hz hz0 hfirst hV hsz
  show Calls Tryd.prog 52 #[.string (bs x)] w _
  generalize hbx : bs x = B at *
  clear hbx
  have HD0 := Aside0.mk (show digitsV 0 (B.data.toList.drop 0) = digitsV 0 B.data.toList by rw [List.drop_zero])
  generalize digitsV 0 B.data.toList = D at *
  by_cases h1 : 1 < B.size
  case' pos => have hb := hq hl0 h1
  all_goals
    clear hq
    go_enter Tryd.func52, Tryd.ntmps52
    go_wp2
    have HI0 := Aside0.mk (World.iter_heap w B 0)
    have HB0 := Aside0.mk (show Below w.heap.size w (w.iter B 0) from (Below.refl _ _).alloc (Nat.le_refl _) _)
    clear he1
    generalize w.iter B 0 = W0 at *
    go_loopg [4] B.size (fun gk v4 w' => ∃ (pos n : Nat), v4 = .int .i64 (n : Int) ∧ pos + gk = B.size ∧ n < 10 ^ pos ∧ Aside0 (digitsV n (B.data.toList.drop pos) = D) ∧ Aside0 (w'.heap[w.heap.size]? = some (.stringIter B pos)) ∧ Aside0 (Below w.heap.size w w'))
    case atStart => exact ⟨0, 0, rfl, by omega, by decide, HD0, HI0, HB0⟩
    case round =>
      clear HB0 HI0 HD0
      obtain ⟨pos, n, rfl, hpk, hn, HA, HI, HB⟩ := hrel
      have hpow : 10 ^ pos ≤ 10 ^ 9 := Nat.pow_le_pow_right (by decide) (by have := HLz.out; omega)
      have hn9 : n < 1000000000 := by omega
      have HN := Aside0.mk hn
      clear hn hpow
      by_cases hp : pos < B.size
      · have hnx : ∀ ty, (Instr.next (.pointer (some ⟨w.heap.size, 0, none⟩)) true ty).run Tryd.prog wr = _ := fun ty => Lib.run_next_any_at wr w.heap.size B pos ty HI.out hp
        have HRA := Aside0.mk (rune_at B pos hp)
        have HI2 := Aside0.mk (Lib.iterAt_heap wr w.heap.size B pos (pos + (Utf8.decode B pos).2) HI.out)
        have HB2 := Aside0.mk (Lib.below_iterAt HB.out (k := w.heap.size) (Nat.le_refl _) B (pos + (Utf8.decode B pos).2))
        clear HB HI
        generalize ((Utf8.decode B pos).1 : Int) = r at *
        generalize (Utf8.decode B pos).2 = k at *
        generalize wr.iterAt w.heap.size B (pos + k) = W1 at *
        clear hp
        have hk1 := HRA.out.step
        have hk2 := HRA.out.stay
        by_cases h1 : r < 48
        · have hD : D = none := by rw [← HA.out]; exact (digit_step HRA.out n).2 (.inl h1)
          clear HA HRA
          subst hD
          go_wp2
          go_ret2
          exact ⟨HB2.out, rfl⟩
        · by_cases h2 : 57 < r
          · have hD : D = none := by rw [← HA.out]; exact (digit_step HRA.out n).2 (.inr h2)
            clear HA HRA
            subst hD
            have q1 : (r < 48) = False := eq_false h1
            go_wp2
            go_ret2
            exact ⟨HB2.out, rfl⟩
          · obtain ⟨hk, hD⟩ := (digit_step HRA.out n).1 (by omega) (by omega)
            rw [HA.out] at hD
            have HA2 := Aside0.mk hD.symm
            have q1 : (r < 48) = False := eq_false h1
            have q2 : (57 < r) = False := eq_false h2
            have h48 : 48 ≤ r := by omega
            have h57 : r ≤ 57 := by omega
            have HK := Aside0.mk hk
            clear HA HRA hD hk
            go_wp2
            go_roundg (B.size - (pos + k))
            case measure => omega
            case rel =>
              refine ⟨pos + k, 10 * n + (r.toNat - 48), ?_, by omega, ?_, HA2, HI2, HB2⟩
              · exact congrArg (Value.int .i64) (by omega)
              · have := HN.out
                rw [HK.out, Nat.pow_succ]
                omega
      · have hnx : ∀ ty, (Instr.next (.pointer (some ⟨w.heap.size, 0, none⟩)) true ty).run Tryd.prog wr = _ := fun ty => Lib.run_next_end_at wr w.heap.size B pos ty HI.out hp
        have hD : D = some n := by rw [← HA.out, List.drop_of_length_le (by simp; omega)]; rfl
        subst hD
        clear HA HI HLz
        go_wp2
        go_ret2
        exact ⟨HB.out, rfl⟩

theorem numW_eq (x : List UInt8) (h0 : x ≠ []) (h9 : x.length ≤ 9) (hz : x.length = 1 ∨ x[0]? ≠ some 48) : numW x = digitsV 0 x := by
  unfold numW
  rw [if_neg]
  rintro (h | h | ⟨h1, h2⟩)
  · exact h0 h
  · omega
  · rcases hz with hz | hz
    · omega
    · exact hz h2

set_option maxRecDepth 100000 in
set_option maxHeartbeats 4000000 in
theorem number_any (x : List UInt8) (w : World) (hx : x.length ≤ 1099511627776) :
    Calls Tryd.prog 52 #[strV x] w (NumSaid w (numW x)) := by
  by_cases h0 : x = []
  · subst h0
    show Calls Tryd.prog 52 #[.string ⟨#[]⟩] w (NumSaid w none)
    go_enter Tryd.func52, Tryd.ntmps52
    go_wp2
    go_ret2
    exact ⟨Below.refl _ _, rfl⟩
  by_cases h9 : x.length ≤ 9
  · by_cases hz : x.length = 1 ∨ x[0]? ≠ some 48
    · rw [numW_eq x h0 h9 hz]
      exact number_loop x w h0 h9 hz
    · have hz1 : x.length ≠ 1 := fun h => hz (.inl h)
      have hz2 : x[0]? = some 48 := Classical.not_not.1 fun h => hz (.inr h)
      have hl : 0 < x.length := List.length_pos_iff.2 h0
      have e : numW x = none := by unfold numW; rw [if_pos (.inr (.inr ⟨by omega, hz2⟩))]
      rw [e]
      have he1 : (bs x).toList.isEmpty = false := by rw [toList_bs]; simpa using h0
      have hl2 : 0 < (bs x).size := hl
      have hb : (((bs x)[0]'hl2).toNat : Int) = 48 := by
        have h1 : x[0]'hl = (bs x)[0]'hl2 := rfl
        rw [List.getElem?_eq_getElem hl, h1, Option.some.injEq] at hz2
        rw [hz2]; rfl
      have hs9 : (bs x).size ≤ 9 := h9
      have hs1 : 1 < (bs x).size := by rw [bs_size]; omega
      have hb2 : ((((bs x)[0]'hl2).toNat : Int) == 48) = true := by simpa using hb
      clear h9 hz hz1 hz2 hl h0 e hx hb
      show Calls Tryd.prog 52 #[.string (bs x)] w _
      generalize bs x = B at *
      go_enter Tryd.func52, Tryd.ntmps52
      go_wp2
      go_ret2
      exact ⟨Below.refl _ _, rfl⟩
  · have e : numW x = none := by unfold numW; rw [if_pos (.inr (.inl (by omega)))]
    rw [e]
    have he1 : (bs x).toList.isEmpty = false := by rw [toList_bs]; simpa using h0
    have hs9 : 9 < (bs x).size := by rw [bs_size]; omega
    have hsM : (bs x).size ≤ 1099511627776 := hx
    clear h9 h0 e hx
    show Calls Tryd.prog 52 #[.string (bs x)] w _
    generalize bs x = B at *
    go_enter Tryd.func52, Tryd.ntmps52
    go_wp2
    go_ret2
    exact ⟨Below.refl _ _, rfl⟩

end Go.Proofs.YtdbdilajjmijaaaDoor
