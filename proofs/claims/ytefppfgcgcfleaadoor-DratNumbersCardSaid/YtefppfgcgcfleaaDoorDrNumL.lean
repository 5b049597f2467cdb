import Derived.Test.YtefppfgcgcfleaaDoorDrApp
namespace Go.Proofs.YtefppfgcgcfleaaDoor
open Go Go.RowKit Go.Proofs.YtefppfgcgcfleaaDoorW.PrintWords Go.Proofs.YtefppfgcgcfleaaDoorW.PrintLast Go.Proofs.YtefppfgcgcfleaaDoorW.PrintMore PDratJoins

/-! A literal's number, spoilt. -/
/-- A byte with its first bit. -/
def hi8 (c : UInt8) : UInt8 := UInt8.ofNat (c.toNat % 128 + 128)
theorem hi8_ge (c : UInt8) : 128 ≤ (hi8 c).toNat := by
  unfold hi8
  rw [UInt8.toNat_ofNat']
  omega
theorem hi8_or (c : UInt8) : Go.bits .or .u8 (c.toNat : Int) 128 = ((hi8 c).toNat : Int) := by
  have h := or128 c.toNat
  have hc := byte_lt c
  rw [show ((c.toNat : Int) % 256) = (c.toNat : Int) by omega] at h
  rw [h]
  unfold hi8
  rw [UInt8.toNat_ofNat']
  omega
theorem big_byte (n : Nat) : (UInt8.ofNat (n % 128 + 128)).toNat = n % 128 + 128 := by
  rw [UInt8.toNat_ofNat']
  omega
/-- The bytes, with a nought more at the number's end. -/
def spoilt (d : Bool) (e : List UInt8) : List UInt8 := ((dB d :: e ++ [0]).take (1 + e.length) ++ [0, 0]).set e.length (hi8 ((dB d :: e)[e.length]?.getD 0))
theorem parseB_first {d : Bool} {c : UInt8} {r : List UInt8} (h0 : c ≠ 0) (h : litP (c :: r) = .form) : parseB (dB d :: c :: r) = .form := by
  have e : stepP (dB d :: c :: r) = .form := by
    have hd : dB d = 97 ∨ dB d = 100 := by unfold dB; cases d <;> simp
    unfold stepP
    simp only [hd, if_true]
    have : litsP ((c :: r).length + 1) (c :: r) = .form := by
      unfold litsP
      simp only [h0, if_false, h]
    rw [this]
  unfold parseB binP
  simp only [e]
theorem endP_zero (n : Nat) (r : List UInt8) : endP n 0 r = .form := by unfold endP; simp
theorem not_zero {c : UInt8} (h : 128 ≤ c.toNat) : c ≠ 0 := fun e => by rw [e] at h; simp at h
theorem spoilt_form (d : Bool) {n : Nat} (h : n ≤ 200001) : parseB (spoilt d (encN n)) = .form := by
  by_cases a : n < 128
  · rw [encN_small a]
    show parseB (dB d :: hi8 _ :: [0, 0]) = .form
    have hg := hi8_ge (UInt8.ofNat n)
    refine parseB_first (not_zero hg) ?_
    show litP (hi8 (UInt8.ofNat n) :: [0, 0]) = .form
    unfold litP
    simp only
    rw [if_neg (by omega)]
    exact endP_zero _ _
  · rw [encN_big a]
    have h0 := big_byte n
    by_cases b : n / 128 < 128
    · rw [encN_small b]
      show parseB (dB d :: UInt8.ofNat (n % 128 + 128) :: hi8 (UInt8.ofNat (n / 128)) :: [0, 0]) = .form
      have hg := hi8_ge (UInt8.ofNat (n / 128))
      refine parseB_first (not_zero (by omega)) ?_
      unfold litP
      simp only
      rw [if_neg (by omega)]
      rw [if_neg (by omega)]
      exact endP_zero _ _
    · rw [encN_big b, encN_small (by omega)]
      have h1 := big_byte (n / 128)
      show parseB (dB d :: UInt8.ofNat (n % 128 + 128) :: UInt8.ofNat (n / 128 % 128 + 128) :: hi8 (UInt8.ofNat (n / 128 / 128)) :: [0, 0]) = .form
      have hg := hi8_ge (UInt8.ofNat (n / 128 / 128))
      refine parseB_first (not_zero (by omega)) ?_
      unfold litP
      simp only
      rw [if_neg (by omega)]
      rw [if_neg (by omega)]
      rw [if_neg (by omega)]
def lastE (d : Bool) (e : List UInt8) : UInt8 := (dB d :: e)[e.length]?.getD 0
theorem spoilt_take (d : Bool) (e : List UInt8) : (dB d :: e ++ [0]).take (e.length + 1) = dB d :: e := by
  rw [List.take_append_of_le_length (by simp), List.take_of_length_le (by simp)]
theorem spoilt_at (d : Bool) (e : List UInt8) : rdOf (0 : Int) (bts ((dB d :: e ++ [0]).take (e.length + 1) ++ [0, 0])) (e.length : Int) = ((lastE d e).toNat : Int) := by
  rw [spoilt_take]
  unfold rdOf lastE bts
  rw [Int.toNat_natCast, List.getD_eq_getElem?_getD, List.getElem?_map, List.getElem?_append_left (by simp)]
  have h : e.length < (dB d :: e).length := by simp
  rw [List.getElem?_eq_getElem h]
  rfl
theorem spoilt_set (d : Bool) (e : List UInt8) : (bts ((dB d :: e ++ [0]).take (e.length + 1) ++ [0, 0])).set e.length ((hi8 (lastE d e)).toNat : Int) = bts (spoilt d e) := by
  unfold spoilt bts lastE
  rw [Nat.add_comm 1, List.map_set]
theorem spoilt_length (d : Bool) (e : List UInt8) : (spoilt d e).length = e.length + 3 := by
  unfold spoilt
  rw [Nat.add_comm 1, spoilt_take]
  simp
/-- The number of bytes that a literal takes. -/
theorem taken {l : Int} (h : RightL l) : (encN (numL l)).length = if 8192 ≤ max l (-l) then 3 else if 64 ≤ max l (-l) then 2 else 1 := by
  rw [encN_length (numL_bd h).2]
  have : max l (-l) = (if l < 0 then -l else l) := by split <;> omega
  rw [this]
  unfold numL
  split <;> split <;> split <;> (repeat (first | rfl | omega | split))
theorem one_bin (d : Bool) (l : Int) : binT [⟨d, [l]⟩] = dB d :: encN (numL l) ++ [0] := by simp [binT, stepB, dB]

end Go.Proofs.YtefppfgcgcfleaaDoor
