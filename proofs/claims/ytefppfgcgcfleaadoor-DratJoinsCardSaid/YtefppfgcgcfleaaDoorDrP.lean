import Derived.Test.YtefppfgcgcfleaaDoorDrParseT
import Derived.Test.YtefppfgcgcfleaaDoorDrLawS
import Derived.Test.YtefppfgcgcfleaaDoorDrTextL
import Derived.Test.YtefppfgcgcfleaaDoorDrBinL
namespace Go.Proofs.YtefppfgcgcfleaaDoor
open Go Go.RowKit Go.Proofs.YtefppfgcgcfleaaDoorW.PrintWords Go.Proofs.YtefppfgcgcfleaaDoorW.PrintLast Go.Proofs.YtefppfgcgcfleaaDoorW.PrintMore PDratJoins

/-! The contracts over proofs as plain data. -/
/-- A proof that is read. -/
def PC (w : World) (A : Option Addr) (ps : List PStep) : Prop := Kd.C k36 w A ps.length (ps.map ofP)
theorem PC.below {w w' : World} {A : Option Addr} {ps : List PStep} (h : PC w A ps) (B : Below w.heap.size w w') : PC w' A ps := Kd.C_below h B
theorem PC.c {w : World} {A : Option Addr} {ps : List PStep} (h : PC w A ps) : Kd.C k36 w A (ps.map ofP).length (ps.map ofP) := by rw [List.length_map]; exact h
theorem PC.of {w : World} {A : Option Addr} {l : List S36} (h : Kd.C k36 w A l.length l) : PC w A (l.map toP) := by
  unfold PC
  rw [List.length_map, List.map_map]
  have : (ofP ∘ toP) = id := rfl
  rw [this, List.map_id]; exact h
theorem rightS_of {ps : List PStep} (h : RightP ps) : RightS (ps.map ofP) := by
  intro s hs l hl
  obtain ⟨p, hp, rfl⟩ := List.mem_map.1 hs
  exact h p hp l hl
theorem bin_of (ps : List PStep) : bin (ps.map ofP) = binT ps := by unfold bin; rw [map_toP_ofP]
theorem txt_of (ps : List PStep) : txt (ps.map ofP) = textT ps := by unfold txt; rw [map_toP_ofP]
theorem ofP_inj {ps qs : List PStep} (h : ps.map ofP = qs.map ofP) : ps = qs := by
  have := congrArg (List.map toP) h
  rwa [map_toP_ofP, map_toP_ofP] at this
noncomputable def sameP (ps qs : List PStep) : Bool := sameQ (ps.map ofP) (qs.map ofP)
theorem sameP_iff {ps qs : List PStep} : sameP ps qs = true ↔ ps = qs := by
  unfold sameP
  rw [sameQ_iff]
  exact ⟨ofP_inj, fun h => by rw [h]⟩
theorem sameP_refl (ps : List PStep) : sameP ps ps = true := sameP_iff.2 rfl
def rightQ (ps : List PStep) : Bool := rightB (ps.map ofP)
theorem rightQ_iff {ps : List PStep} : rightQ ps = true ↔ RightP ps := by
  unfold rightQ rightB
  rw [List.all_eq_true]
  constructor
  · intro h s hs l hl
    have := h (ofP s) (List.mem_map.2 ⟨s, hs, rfl⟩)
    rw [List.all_eq_true] at this
    exact rightL_iff.1 (this l hl)
  · intro h s hs
    obtain ⟨p, hp, rfl⟩ := List.mem_map.1 hs
    rw [List.all_eq_true]
    intro l hl
    exact rightL_iff.2 (h p hp l hl)

theorem p_binary (A : Option Addr) (c : Nat) (ps : List PStep) (w : World) (h : PC w A ps) (hR : RightP ps) (hX : (binT ps).length ≤ 140737488355000) :
    Calls Tryd.prog 19 #[.slice A ps.length c] w fun e w' => Below w.heap.size w w' ∧ ∃ A' c', e = .returned (.slice A' (binT ps).length c') ∧ (binT ps).length ≤ c' ∧ Rd w' A' (binT ps) := by
  have C := dr_binary A c (ps.map ofP) w h.c (rightS_of hR) (by rw [bin_of]; exact hX)
  rw [bin_of, List.length_map] at C
  refine C.mono ?_
  rintro e w' ⟨v, rfl, hv, hb⟩
  obtain ⟨A3, c3, rfl, hc3, hr3⟩ := Kd.R_reads hv
  rw [bts_length] at hc3 hr3
  exact ⟨hb, A3, c3, by rw [bts_length], hc3, hr3⟩
theorem p_text (A : Option Addr) (c : Nat) (ps : List PStep) (w : World) (h : PC w A ps) (hc : ps.length ≤ c) (hR : RightP ps) (hX : (textT ps).length ≤ 140737488355328) (E : Env w) :
    Calls Tryd.prog 20 #[.slice A ps.length c] w (Said w (strV (textT ps))) := by
  have C := dr_text A c (ps.map ofP) w h.c (by rw [List.length_map]; exact hc) (rightS_of hR) (by rw [txt_of]; exact hX) E
  rw [txt_of, List.length_map] at C
  exact C
theorem p_ltext (A : Option Addr) (c : Nat) (ps : List PStep) (w : World) (h : PC w A ps) (hR : RightP ps) (hX : (textT ps).length ≤ 140737488355328) (E : Env w) :
    Calls Tryd.prog 13 #[.slice A ps.length c] w (Said w (strV (textT ps))) := by
  have C := law_text A c (ps.map ofP) w h.c (rightS_of hR) (by rw [txt_of]; exact hX) E
  rw [txt_of, List.length_map] at C
  exact C
theorem p_lbinary (A : Option Addr) (c : Nat) (ps : List PStep) (w : World) (h : PC w A ps) (hR : RightP ps) (hX : (binT ps).length ≤ 140737488355000) :
    Calls Tryd.prog 15 #[.slice A ps.length c] w (Said w (strV (binT ps))) := by
  have C := law_binary A c (ps.map ofP) w h.c (rightS_of hR) (by rw [bin_of]; exact hX)
  rw [bin_of, List.length_map] at C
  exact C
theorem p_lright (A : Option Addr) (c : Nat) (ps : List PStep) (w : World) (h : PC w A ps) :
    Calls Tryd.prog 12 #[.slice A ps.length c] w (Said w (.bool (rightQ ps))) := by
  have C := law_right A c (ps.map ofP) w h.c
  rw [List.length_map] at C
  exact C
theorem p_right (A : Option Addr) (c : Nat) (ps : List PStep) (w : World) (h : PC w A ps) (hc : ps.length ≤ c) :
    Calls Tryd.prog 16 #[.slice A ps.length c] w (Said w (.bool (rightQ ps))) := by
  have C := dr_right A c (ps.map ofP) w h.c (by rw [List.length_map]; exact hc)
  rw [List.length_map] at C
  exact C
theorem p_same (A B : Option Addr) (c d : Nat) (ps qs : List PStep) (w : World) (h : PC w A ps) (k : PC w B qs) :
    Calls Tryd.prog 23 #[.slice A ps.length c, .slice B qs.length d] w (Said w (.bool (sameP ps qs))) := by
  have C := dr_same A B c d (ps.map ofP) (qs.map ofP) w h.c k.c
  rw [List.length_map, List.length_map] at C
  exact C
/-- Numbers of steps and literals within bounds. -/
def Few (ps : List PStep) : Prop := ps.length ≤ 4611686018427387904 ∧ ∀ s ∈ ps, s.lits.length ≤ 4611686018427387904
theorem p_lsame (A B : Option Addr) (c d : Nat) (ps qs : List PStep) (w : World) (h : PC w A ps) (hc : ps.length ≤ c) (k : PC w B qs) (hd : qs.length ≤ d) (hF : Few ps) :
    Calls Tryd.prog 21 #[.slice A ps.length c, .slice B qs.length d] w (fun e w' => e = .returned (.bool (sameP ps qs)) ∧ ∃ n, w' = w.drewN n) := by
  have C := law_same A B c d (ps.map ofP) (qs.map ofP) w h.c (by rw [List.length_map]; exact hc) k.c (by rw [List.length_map]; exact hd) (by rw [List.length_map]; exact hF.1) (fun s hs => by
    obtain ⟨p, hp, rfl⟩ := List.mem_map.1 hs
    exact hF.2 p hp)
  rw [List.length_map, List.length_map] at C
  exact C

/-- What a parser's call leaves: a proof that is read, or an error. -/
def Parsed (w : World) (g : Got (List PStep)) (e : Ending) (w' : World) : Prop := Below w.heap.size w w' ∧ match g with
  | .ok ps _ => ∃ A c, e = .returned (.tuple #[.slice A ps.length c, .int .i64 0]) ∧ ps.length ≤ c ∧ PC w' A ps
  | .form => e = .returned (.tuple #[.slice none 0 0, .int .i64 9])
  | .short => e = .returned (.tuple #[.slice none 0 0, .int .i64 10])
theorem p_parseBin (A : Option Addr) (c : Nat) (b : List UInt8) (w : World) (h0 : Rd w A b) (hc : b.length ≤ c) (hX : b.length ≤ 1099511627776) :
    Calls Tryd.prog 14 #[.slice A b.length c] w (Parsed w (parseB b)) := by
  refine (parseBin_any A c b w h0 hc hX).mono ?_
  cases parseB b with
  | form => exact fun e w' h => h
  | short => exact fun e w' h => h
  | ok ps r =>
    rintro e w' ⟨hb, V, rfl, hv⟩
    obtain ⟨A3, c3, rfl, hc3, hr3⟩ := Kd.R_reads hv
    rw [List.length_map] at hc3 hr3
    exact ⟨hb, A3, c3, by rw [List.length_map], hc3, hr3⟩
def optG : Option (List PStep) → Got (List PStep)
  | some ps => .ok ps []
  | none => .form
theorem p_parseText (x : List UInt8) (w : World) (hX : x.length ≤ 1048576) (E : Env w) :
    Calls Tryd.prog 11 #[strV x] w (Parsed w (optG (parseT x))) := by
  refine (parseText_any x w hX E).mono ?_
  cases parseT x with
  | none => exact fun e w' h => h
  | some ps =>
    rintro e w' ⟨hb, V, rfl, hv⟩
    obtain ⟨A3, c3, rfl, hc3, hr3⟩ := Kd.R_reads hv
    rw [List.length_map] at hc3 hr3
    exact ⟨hb, A3, c3, by rw [List.length_map], hc3, hr3⟩
/-- string(b). -/
theorem conv_rd {w : World} {A : Option Addr} {b : List UInt8} (h : Rd w A b) (c : Nat) : (convert 30 9 (.slice A b.length c)).run Tryd.prog w = .ok (strV b) w := by
  have := Kd.C_string (P := Tryd.prog) (src := 30) (dst := 9) (e := 5) Tryd.underlying30 Tryd.underlying5 Tryd.underlying9 (c := c) h
  rw [this]
  have e : strOfNums (bts b) = ⟨b.toArray⟩ := by
    unfold strOfNums bts
    rw [List.map_map]
    have : ((fun n : Int => UInt8.ofNat n.toNat) ∘ fun c : UInt8 => (c.toNat : Int)) = id := by funext c; simp
    rw [this, List.map_id]
  rw [e]
  rfl

end Go.Proofs.YtefppfgcgcfleaaDoor
