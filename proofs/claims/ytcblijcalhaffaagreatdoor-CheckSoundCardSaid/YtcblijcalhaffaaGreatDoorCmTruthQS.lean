import Derived.Test.YtcblijcalhaffaaGreatDoorCkTruthXQS
import Derived.Test.YtcblijcalhaffaaGreatDoorCmFormQS
namespace Go.Proofs.YtcblijcalhaffaaGreatDoor
open Go Go.RowKit Go.Proofs.YtcblijcalhaffaaGreatDoorW.PrintWords Go.Proofs.YtcblijcalhaffaaGreatDoorW.PrintLast Go.Proofs.YtcblijcalhaffaaGreatDoorW.PrintMore PCheckSound

/-! law02.Truth: whether some assignment satisfies a formula. -/
def litV (a : List Bool) (x : Int) : Bool := if 0 < x then rdOf false a (x - 1) else if x < 0 then !(rdOf false a (-x - 1)) else false
def holdsV (a : List Bool) (cs : List (List Int)) : Bool := cs.all (fun d => d.any (litV a))
def bitsV (V n : Nat) : List Bool := (List.range V).map (fun i => n.testBit i)
def truthV (V : Nat) (cs : List (List Int)) : Bool := (List.range (2 ^ V)).any (fun n => holdsV (bitsV V n) cs)

theorem holds_l1 (a : List Bool) (V : Nat) (hV : V ≤ 100000) (ha : a.length = V) (cs : List (List Int)) (i : Int) (d : List Int) (hd : d.length ≤ 1000000) (hr : ∀ x ∈ d, rightV V x = true) (r : Bool) :
    ∀ (m j : Nat) (b : Bool), j + m = d.length → ((b || (d.drop j).any (litV a)) = true → Ev (fun k => bradawllaw02_Holds.l0 k a cs cs.length (wrap64 (i + 1))) r) → ((b || (d.drop j).any (litV a)) = false → r = false) →
      Ev (fun k => bradawllaw02_Holds.l1 k a b cs cs.length i d d.length j) r
  | 0, j, b, hj, h1, h2 => by
    have hdr : d.drop j = [] := List.drop_eq_nil_of_le (by omega)
    rw [hdr] at h1 h2
    simp only [List.any_nil, Bool.or_false] at h1 h2
    cases b with
    | true => exact Ev.step (fun k => by simp only [bradawllaw02_Holds.l1]; rw [if_neg (by omega), if_pos trivial]) (h1 rfl)
    | false => rw [h2 rfl]; exact Ev.step (fun k => by simp only [bradawllaw02_Holds.l1]; rw [if_neg (by omega), if_neg (by decide)]) (Ev.now _)
  | m + 1, j, b, hj, h1, h2 => by
    have hjd : j < d.length := by omega
    have hdr : d.drop j = rd d j :: d.drop (j + 1) := by
      rw [List.drop_eq_getElem_cons hjd]
      congr 1
      unfold rd
      simp [hjd]
    have hmem : rd d j ∈ d := by
      have h3 : rd d j ∈ d.drop j := by rw [hdr]; exact List.mem_cons_self
      exact List.mem_of_mem_drop h3
    have hx := rightV_iff.1 (hr _ hmem)
    rw [hdr, List.any_cons] at h1 h2
    generalize hxe : rd d j = x at *
    have hwj : wrap64 ((j : Int) + 1) = ((j + 1 : Nat) : Int) := by unfold wrap64; omega
    cases b with
    | true =>
      refine Ev.step (fun k => ?_) (holds_l1 a V hV ha cs i d hd hr r m (j + 1) true (by omega) (fun _ => h1 (by simp)) (fun h => by simp at h))
      simp only [bradawllaw02_Holds.l1]
      rw [if_pos (by omega), if_pos (by omega), if_pos (by omega), if_pos trivial, hwj]
    | false =>
      have ih := holds_l1 a V hV ha cs i d hd hr r m (j + 1) (litV a x) (by omega) (fun h => h1 (by rw [Bool.false_or]; exact h)) (fun h => h2 (by rw [Bool.false_or]; exact h))
      refine Ev.step (fun k => ?_) ih
      simp only [bradawllaw02_Holds.l1]
      rw [if_pos (by omega), if_pos (by omega), if_pos (by omega), if_neg (by decide), hxe, hwj]
      by_cases hp : x > 0
      · have e1 : wrap64 (x - 1) = x - 1 := by unfold wrap64; omega
        rw [if_pos hp, e1, if_pos (by omega), if_pos (by omega)]
        have e2 : litV a x = rdOf false a (x - 1) := by unfold litV; rw [if_pos hp]
        rw [e2]
        cases rdOf false a (x - 1) with
        | true => rw [if_pos rfl]
        | false => rw [if_neg (by decide), if_neg (by omega)]
      · have e1 : wrap64 (wrap64 (-x) - 1) = -x - 1 := by unfold wrap64; omega
        rw [if_neg hp, if_pos (by omega), e1, if_pos (by omega), if_pos (by omega)]
        have e2 : litV a x = !(rdOf false a (-x - 1)) := by unfold litV; rw [if_neg (by omega), if_pos (by omega)]
        rw [e2]
theorem holds_l0 (a : List Bool) (V : Nat) (hV : V ≤ 100000) (ha : a.length = V) (cs : List (List Int)) (hn : cs.length ≤ 1000000) (hd : ∀ d ∈ cs, d.length ≤ 1000000 ∧ ∀ x ∈ d, rightV V x = true) :
    ∀ (m i : Nat), i + m = cs.length → Ev (fun k => bradawllaw02_Holds.l0 k a cs cs.length i) (holdsV a (cs.drop i))
  | 0, i, hi => by
    have hdr : cs.drop i = [] := List.drop_eq_nil_of_le (by omega)
    rw [hdr]
    exact Ev.step (fun k => by simp only [bradawllaw02_Holds.l0]; rw [if_neg (by omega)]; rfl) (Ev.now _)
  | m + 1, i, hi => by
    have hic : i < cs.length := by omega
    have hdr : cs.drop i = rd_L2 cs i :: cs.drop (i + 1) := by
      rw [List.drop_eq_getElem_cons hic]
      congr 1
      unfold rd_L2
      simp [hic]
    have hmem : rd_L2 cs i ∈ cs := by
      have h3 : rd_L2 cs i ∈ cs.drop i := by rw [hdr]; exact List.mem_cons_self
      exact List.mem_of_mem_drop h3
    obtain ⟨hd1, hd2⟩ := hd _ hmem
    have ih := holds_l0 a V hV ha cs hn hd m (i + 1) (by omega)
    have hwi : wrap64 ((i : Int) + 1) = ((i + 1 : Nat) : Int) := by unfold wrap64; omega
    rw [hdr]
    generalize hxe : rd_L2 cs i = d at *
    have e1 : holdsV a (d :: cs.drop (i + 1)) = (d.any (litV a) && holdsV a (cs.drop (i + 1))) := by unfold holdsV; rw [List.all_cons]
    rw [e1]
    refine Ev.step (fun k => ?_) (holds_l1 a V hV ha cs i d hd1 hd2 _ d.length 0 false (by omega) (fun h => ?_) (fun h => ?_))
    · simp only [bradawllaw02_Holds.l0]
      rw [if_pos (by omega), if_pos (by omega), if_pos (by omega), hxe]
      rfl
    · rw [hwi]
      rw [Bool.false_or, List.drop_zero] at h
      rw [h, Bool.true_and]
      exact ih
    · rw [Bool.false_or, List.drop_zero] at h
      rw [h, Bool.false_and]
theorem holds_f (a : List Bool) (V : Nat) (hV : V ≤ 100000) (ha : a.length = V) (cs : List (List Int)) (hn : cs.length ≤ 1000000) (hd : ∀ d ∈ cs, d.length ≤ 1000000 ∧ ∀ x ∈ d, rightV V x = true) :
    Ev (fun k => bradawllaw02_Holds.f k V cs a) (holdsV a cs) := by
  have h := holds_l0 a V hV ha cs hn hd cs.length 0 (by omega)
  rw [List.drop_zero] at h
  exact Ev.congr (fun k => by unfold bradawllaw02_Holds.f; rfl) h

theorem bits_and_n (x y : Nat) (hx : x < 2 ^ 63) (hy : y < 2 ^ 63) : bits .and .i64 (x : Int) (y : Int) = ((x &&& y : Nat) : Int) := by
  have h1 : x &&& y ≤ x := Nat.and_le_left
  unfold bits
  simp only [BitVec.ofInt_natCast, IntKind.bits]
  show IntKind.i64.wrap (((BitVec.ofNat 64 x &&& BitVec.ofNat 64 y).toNat : Nat) : Int) = _
  rw [BitVec.toNat_and, BitVec.toNat_ofNat, BitVec.toNat_ofNat]
  rw [Nat.mod_eq_of_lt (show x < 2 ^ 64 by omega), Nat.mod_eq_of_lt (show y < 2 ^ 64 by omega)]
  exact IntWalk.i64_in _ (by omega)
theorem bit_val (n i : Nat) (hn : n < 2 ^ 60) (hi : i ≤ 60) : (Go.bits .and .i64 (shr .i64 n i) 1 == 1) = n.testBit i := by
  have e1 : shr .i64 n i = ((n >>> i : Nat) : Int) := by
    unfold shr
    rw [Int.toNat_natCast, Nat.min_eq_left (by show i ≤ 64; omega), Nat.shiftRight_eq_div_pow]
    rw [Int.natCast_ediv, Int.natCast_pow]
    rfl
  have h2 : n >>> i ≤ n := by rw [Nat.shiftRight_eq_div_pow]; exact Nat.div_le_self _ _
  rw [e1, show (1 : Int) = ((1 : Nat) : Int) from rfl, bits_and_n _ _ (by omega) (by omega)]
  unfold Nat.testBit
  rw [Nat.and_comm]
  have h3 : 1 &&& (n >>> i) < 2 := by rw [Nat.one_and_eq_mod_two]; omega
  generalize 1 &&& (n >>> i) = z at *
  rcases (show z = 0 ∨ z = 1 by omega) with rfl | rfl <;> rfl

theorem bits_set (V n i : Nat) (hi : i < V) (y : List Bool) (hy : y = ((List.range i).map (fun i => n.testBit i)) ++ List.replicate (V - i) false) :
    y.set i (n.testBit i) = ((List.range (i + 1)).map (fun i => n.testBit i)) ++ List.replicate (V - (i + 1)) false := by
  subst hy
  rw [List.set_append_right _ _ (by simp), List.length_map, List.length_range, Nat.sub_self, List.range_succ, List.map_append, List.append_assoc]
  congr 1
  rw [show V - i = (V - (i + 1)) + 1 by omega, List.replicate_succ]
  rfl
theorem truth_l1 (V : Nat) (hV : V ≤ 20) (cs : List (List Int)) (hn : cs.length ≤ 1000000) (hd : ∀ d ∈ cs, d.length ≤ 1000000 ∧ ∀ x ∈ d, rightV V x = true) (n : Nat) (hN : n < 2 ^ V) (r : Bool)
    (hr1 : holdsV (bitsV V n) cs = true → r = true) (hr2 : holdsV (bitsV V n) cs = false → Ev (fun k => bradawllaw02_Truth.l0 k ((2 ^ V : Nat) : Int) ((n + 1 : Nat) : Int) V cs) r) :
    ∀ (m i : Nat) (y : List Bool), i + m = V → y = ((List.range i).map (fun i => n.testBit i)) ++ List.replicate (V - i) false →
      Ev (fun k => bradawllaw02_Truth.l1 k n y ((2 ^ V : Nat) : Int) n V i V cs) r
  | 0, i, y, hi, hy => by
    obtain rfl : i = V := by omega
    have hyb : y = bitsV i n := by rw [hy, Nat.sub_self]; simp [bitsV]
    have h2 : (2 : Nat) ^ i ≤ 2 ^ 20 := Nat.pow_le_pow_right (by omega) hV
    have hwn : wrap64 ((n : Int) + 1) = ((n + 1 : Nat) : Int) := by unfold wrap64; omega
    have hl : (bitsV i n).length = i := by simp [bitsV]
    refine Ev.step (f := fun k => (bradawllaw02_Holds.f k i cs y).bind fun t230 => (if t230 = true then (some true) else (bradawllaw02_Truth.l0 k ((2 ^ i : Nat) : Int) (wrap64 ((n : Int) + 1)) i cs))) (fun k => ?_) ?_
    · simp only [bradawllaw02_Truth.l1]
      rw [if_neg (by omega)]
    · rw [hyb]
      refine Ev.bind (holds_f (bitsV i n) i (by omega) hl cs hn hd) ?_
      cases hh : holdsV (bitsV i n) cs with
      | true => rw [hr1 hh]; exact Ev.congr (fun k => by rw [if_pos rfl]) (Ev.now _)
      | false => exact Ev.congr (fun k => by rw [if_neg (by decide), hwn]) (hr2 hh)
  | m + 1, i, y, hi, hy => by
    have hyl : y.length = V := by rw [hy]; simp; omega
    have h2 : (2 : Nat) ^ V ≤ 2 ^ 20 := Nat.pow_le_pow_right (by omega) hV
    have hwi : wrap64 ((i : Int) + 1) = ((i + 1 : Nat) : Int) := by unfold wrap64; omega
    refine Ev.step (fun k => ?_) (truth_l1 V hV cs hn hd n hN r hr1 hr2 m (i + 1) (y.set i (n.testBit i)) (by omega) (bits_set V n i (by omega) y hy))
    simp only [bradawllaw02_Truth.l1]
    rw [if_pos (by omega), if_pos (by omega), if_pos (by omega), bit_val n i (by omega) (by omega), hwi, Int.toNat_natCast]
theorem truth_l0 (V : Nat) (hV : V ≤ 20) (cs : List (List Int)) (hn : cs.length ≤ 1000000) (hd : ∀ d ∈ cs, d.length ≤ 1000000 ∧ ∀ x ∈ d, rightV V x = true) :
    ∀ (m n : Nat), n + m = 2 ^ V → Ev (fun k => bradawllaw02_Truth.l0 k ((2 ^ V : Nat) : Int) n V cs) ((List.range' n m).any (fun n => holdsV (bitsV V n) cs))
  | 0, n, hn0 => by
    exact Ev.step (fun k => by simp only [bradawllaw02_Truth.l0]; rw [if_neg (by omega)]; rfl) (Ev.now _)
  | m + 1, n, hn0 => by
    have ih := truth_l0 V hV cs hn hd m (n + 1) (by omega)
    have h1 := truth_l1 V hV cs hn hd n (by omega) ((List.range' n (m + 1)).any (fun n => holdsV (bitsV V n) cs)) (fun h => by rw [List.range'_succ, List.any_cons, h]; rfl) (fun h => by rw [List.range'_succ, List.any_cons, h, Bool.false_or]; exact ih) V 0 (List.replicate V false) (by omega) (by simp)
    refine Ev.step (fun k => ?_) h1
    simp only [bradawllaw02_Truth.l0]
    rw [if_pos (by omega), if_pos (by omega), if_pos (by omega), Option.bind_some, List.length_replicate, Int.toNat_natCast]
    rfl
theorem truth_any (V : Nat) (hV : V ≤ 20) (A : Option Addr) (c : Nat) (cs : List (List Int)) (hn : cs.length ≤ 1000000) (hd : ∀ d ∈ cs, d.length ≤ 1000000 ∧ ∀ x ∈ d, rightV V x = true) (hc : cs.length ≤ c) (w : World)
    (hr : Kd.C (Kd.slice 3 (Kd.int .i64)) w A cs.length cs) :
    Calls Tryz.prog 18 #[.agg #[.int .i64 V, .slice A cs.length c]] w (Said w (.bool (truthV V cs))) := by
  have h0 := truth_l0 V hV cs hn hd (2 ^ V) 0 (by omega)
  have h1 : Ev (fun k => bradawllaw02_Truth.f k V cs) (truthV V cs) := by
    unfold truthV
    rw [List.range_eq_range']
    have h2 : (2 : Nat) ^ V ≤ 2 ^ 20 := Nat.pow_le_pow_right (by omega) hV
    refine Ev.congr (fun k => ?_) h0
    have e1 : shl .i64 1 (V : Int) = ((2 ^ V : Nat) : Int) := by
      unfold shl
      rw [Int.toNat_natCast, Nat.min_eq_left (by show V ≤ 64; omega), Int.one_mul, show (2 : Int) ^ V = ((2 ^ V : Nat) : Int) by rw [Int.natCast_pow]; rfl]
      generalize (2 : Nat) ^ V = z at *
      exact IntWalk.i64_in _ (by omega)
    unfold bradawllaw02_Truth.f
    rw [if_pos (by omega), e1]
    rfl
  obtain ⟨k, h3⟩ := h1.rounds
  exact bradawllaw02_Truth.calls k V A c cs (truthV V cs) w hr hc h3
/-- What it says: of assignments. -/
theorem lit_assigns (a : List Bool) : Assigns (fun x => litV a x = true) where
  one := fun x hx hnx => by
    unfold litV at hx hnx
    by_cases h1 : 0 < x
    · rw [if_pos h1] at hx
      rw [if_neg (by omega), if_pos (by omega), show - -x - 1 = x - 1 by omega, hx] at hnx
      exact absurd hnx (by decide)
    · rw [if_neg h1] at hx
      by_cases h2 : x < 0
      · rw [if_pos h2] at hx
        rw [if_pos (by omega)] at hnx
        rw [hnx] at hx
        exact absurd hx (by decide)
      · rw [if_neg h2] at hx
        exact absurd hx (by decide)
  all := fun x hx hnx => by
    unfold litV at hnx ⊢
    by_cases h1 : 0 < x
    · rw [if_pos h1] at hnx
      rw [if_neg (by omega), if_pos (by omega), show - -x - 1 = x - 1 by omega]
      simpa using hnx
    · rw [if_neg h1, if_pos (by omega)] at hnx
      rw [if_pos (by omega)]
      simpa using hnx
theorem truth_sat {V : Nat} {cs : List (List Int)} (h : truthV V cs = true) : ∃ a, Assigns a ∧ ∀ d ∈ cs, ∃ x ∈ d, a x := by
  unfold truthV at h
  obtain ⟨n, _, hn⟩ := List.any_eq_true.1 h
  refine ⟨_, lit_assigns (bitsV V n), fun d hd => ?_⟩
  unfold holdsV at hn
  have h1 := List.all_eq_true.1 hn d hd
  obtain ⟨x, hx, hxa⟩ := List.any_eq_true.1 h1
  exact ⟨x, hx, hxa⟩
end Go.Proofs.YtcblijcalhaffaaGreatDoor
