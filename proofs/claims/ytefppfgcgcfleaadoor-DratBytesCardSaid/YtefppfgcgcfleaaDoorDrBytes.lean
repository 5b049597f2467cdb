import Derived.Test.YtefppfgcgcfleaaDoorDrApp
import Derived.Deep.RegionWith
import Derived.Deep.RegionHeld3
namespace Go.Proofs.YtefppfgcgcfleaaDoor
open Go Go.RowKit Go.Proofs.YtefppfgcgcfleaaDoorW.PrintWords Go.Proofs.YtefppfgcgcfleaaDoorW.PrintLast Go.Proofs.YtefppfgcgcfleaaDoorW.PrintMore PDratJoins

/-! Bytes that are a proof, or are not. -/
def endL : List (List UInt8) := [[0], [1, 0], [2, 0], [1, 1, 0]]
def isOk (g : Got (List PStep)) : Bool := match g with
  | .ok _ _ => true
  | _ => false
def goes (b : List UInt8) (j : Nat) : Bool := (endL.take j).any fun x => isOk (parseB (b ++ x))
theorem goes_step (b : List UInt8) (j : Nat) (h : j < 4) : goes b (j + 1) = (goes b j || isOk (parseB (b ++ nth endL [] j))) := by
  unfold goes
  rw [take_snoc (z := []) h, List.any_append]
  simp
theorem goes_form {b : List UInt8} (h : parseB b = .form) : goes b 4 = false := by
  unfold goes
  rw [List.any_eq_false]
  intro x _
  rw [parseB_form h x]
  simp [isOk]
theorem goes_short {b : List UInt8} (h : parseB b = .short) : goes b 4 = true := by
  obtain ⟨x, hx, p, hp⟩ := parseB_short h
  unfold goes
  rw [List.any_eq_true]
  refine ⟨x, ?_, by rw [hp]; rfl⟩
  rcases hx with rfl | rfl <;> simp [endL]
theorem end_len (j : Nat) : (nth endL [] j).length ≤ 3 := by
  unfold nth endL
  match j with
  | 0 | 1 | 2 | 3 => decide
  | j + 4 => simp
theorem end_cell {W : World} {g : Nat} (h : W.heap[g]? = some (.cells #[.string ⟨#[0]⟩, .string ⟨#[1, 0]⟩, .string ⟨#[2, 0]⟩, .string ⟨#[1, 1, 0]⟩] 9 (0, 0))) (j : Nat) (hj : j < 4) : W.cell? ⟨g, j, none⟩ = some (.string ⟨(nth endL [] j).toArray⟩) := by
  rw [blk_cell h]
  match j, hj with
  | 0, _ | 1, _ | 2, _ | 3, _ => rfl
  | j + 4, hj => omega

theorem keepB {A : Option Addr} {n c : Nat} {B : ByteArray} {w7 w' w8 : World} (KC : Aside0 (∀ W, Below w7.heap.size w7 W → (convert 30 9 (.slice A n c)).run Tryd.prog W = .ok (.string B) W)) (h : Aside0 (Below w7.heap.size w7 w')) (hb : Below w'.heap.size w' w8) :
    (convert 30 9 (.slice A n c)).run Tryd.prog w8 = .ok (.string B) w8 ∧ Aside0 (Below w7.heap.size w7 w8) := ⟨KC.out _ (below_step h.out hb), ⟨below_step h.out hb⟩⟩
/-- What the loop over the ends leaves: nothing else of the code is told. -/
theorem p_ends (b x : List UInt8) (hb : b.length ≤ 400) (hx : x.length ≤ 3) (A : Option Addr) (c : Nat) (W : World) (h : Rd W A (b ++ x)) (hc : (b ++ x).length ≤ c) :
    (∃ p r, parseB (b ++ x) = .ok p r ∧ Calls Tryd.prog 14 #[.slice A (b ++ x).length c] W (fun e w' => Below W.heap.size W w' ∧ ∃ A2 c2, e = .returned (.tuple #[.slice A2 p.length c2, .int .i64 0]) ∧ ∀ W2, Below w'.heap.size w' W2 → Calls Tryd.prog 15 #[.slice A2 p.length c2] W2 (Said W2 (.string ⟨(b ++ x).toArray⟩)))) ∨
    (isOk (parseB (b ++ x)) = false ∧ ∃ f : Int, f ≠ 0 ∧ Calls Tryd.prog 14 #[.slice A (b ++ x).length c] W (fun e w' => Below W.heap.size W w' ∧ e = .returned (.tuple #[.slice none 0 0, .int .i64 f]))) := by
  have CP := p_parseBin A c (b ++ x) W h hc (by simp; omega)
  cases hp : parseB (b ++ x) with
  | form => rw [hp] at CP; exact .inr ⟨rfl, 9, by decide, CP⟩
  | short => rw [hp] at CP; exact .inr ⟨rfl, 10, by decide, CP⟩
  | ok p r =>
    refine .inl ⟨p, r, rfl, ?_⟩
    rw [hp] at CP
    obtain ⟨hr, he, _⟩ := parseB_sound hp
    refine CP.mono fun e w' ⟨h1, A2, c2, h2, _, h4⟩ => ⟨h1, A2, c2, h2, fun W2 B => ?_⟩
    have := p_lbinary A2 c2 p W2 (h4.below B) hr (by rw [← he]; simp; omega)
    rw [← he] at this
    exact this

set_option maxRecDepth 100000 in
set_option maxHeartbeats 1600000 in
theorem bytes_no (A : Option Addr) (c : Nat) (b : List UInt8) (_hc : b.length ≤ c) (w : World) (hr : Rd w A b) (E : Env w) (q1 : (400 < b.length) = False) (q2 : ((400 : Int) < (b.length : Int)) = False) (f0 : Int) (h0 : (f0 != 0) = true) (h0b : (f0 == 0) = false) (h0d : (f0 = 0) = False) (hg : (f0 = 9 ∧ goes b 4 = false) ∨ (f0 = 10 ∧ goes b 4 = true))
    (CP : ∀ W, Below w.heap.size w W → Calls Tryd.prog 14 #[.slice A b.length c] W (fun e w' => Below W.heap.size W w' ∧ e = .returned (.tuple #[.slice none 0 0, .int .i64 f0]))) :
    Calls Tryd.prog 4 #[.slice A b.length c] w (Said w (.bool true)) := by
  have C0 := fit_any w E
  have HR := Aside0.mk hr
  have HL : Aside0 (b.length ≤ 400) := ⟨by have := of_eq_false q1; omega⟩
  have HG := Aside0.mk hg
  clear hr E hg _hc
  go_enter Tryd.func4, Tryd.ntmps4
  go_wp2_with (first
    | (go_at_call 10; refine C0.mono ?_; rintro e w1 ⟨rfl, hb⟩; have HB := Aside0.mk hb; clear hb)
    | (go_at_call 14; refine (CP _ HB.out).mono ?_; rintro e w2 ⟨hb, rfl⟩; have HB2 := Aside0.mk (below_step (by repeat (first | (with_reducible first | exact HB.out | apply below_alloc | apply pw_below_drewN | apply below_drew1) | exact HB.out)) hb); clear HB; have HB := HB2; clear HB2 hb))
  have HBX := Aside0.mk (below_alloc HB.out (.cells #[.string ⟨#[0]⟩, .string ⟨#[1, 0]⟩, .string ⟨#[2, 0]⟩, .string ⟨#[1, 1, 0]⟩] 9))
  have hbx := blk_new w2 (.cells #[.string ⟨#[0]⟩, .string ⟨#[1, 0]⟩, .string ⟨#[2, 0]⟩, .string ⟨#[1, 1, 0]⟩] 9)
  generalize w2.alloc (.cells #[.string ⟨#[0]⟩, .string ⟨#[1, 0]⟩, .string ⟨#[2, 0]⟩, .string ⟨#[1, 1, 0]⟩] 9) = X at *
  generalize w2.heap.size = g0 at *
  have HX := Aside0.mk hbx
  clear hbx HB C0 CP
  go_loopg [5, 36] 4 (fun gk v5 v36 w' => ∃ j : Nat, v36 = .int .i64 j ∧ j + gk = 4 ∧ v5 = .bool (goes b j) ∧ Aside0 (Below X.heap.size X w'))
  case atStart => exact ⟨0, rfl, by omega, rfl, ⟨Below.refl _ _⟩⟩
  case round =>
    obtain ⟨j, rfl, hj, rfl, HB⟩ := hrel
    by_cases hjl : j < 4
    · have hcell := (HB.out.cell (World.block_lt_of_cell? X _ (end_cell HX.out j hjl))).trans (end_cell HX.out j hjl)
      have hxl := end_len j
      have HXL := Aside0.mk hxl
      have HST := Aside0.mk (goes_step b j hjl)
      have q3 : ((j : Int) < 4) = True := eq_true (by omega)
      have q4 : (0 ≤ (j : Int)) = True := eq_true (by omega)
      generalize nth endL [] j = x at *
      clear hxl
      go_wp2_with (first
        | ((with_reducible refine gate_builtin (b := .append) (xs := #[.const (.slice none 0 0), .tmp 41]) rfl ?_); at_builtin; refine app_row X rfl (.const (.slice none 0 0)) (.tmp 41) rfl (.slice none 0 0) [] b A c rfl rfl (own_nil _ _) (HR.out.below (below_step HBX.out HB.out)) HB.out ?aL ?_; (case aL => have := HL.out; simp; omega)))
      intro v5 w5 ho hb
      have HO := Aside0.mk ho
      have HB2 := Aside0.mk hb
      clear HB ho hb hcell
      have HB := HB2
      clear HB2
      go_wp2_with (first
        | ((with_reducible refine gate_builtin (b := .append) (xs := #[.tmp 42, .tmp 43]) rfl ?_); at_builtin; refine app_str X rfl (.tmp 42) (.tmp 43) rfl v5 ([] ++ b) x rfl rfl HO.out HB.out ?aL ?_; (case aL => have := HL.out; have := HXL.out; simp; omega)))
      intro v6 w6 ho hb
      obtain ⟨A6, c6, rfl, hc6, h6⟩ := own_rd ho
      have hpe := p_ends b x HL.out HXL.out A6 c6 w6 h6 hc6
      have HR6 := Aside0.mk (HR.out.below (below_step HBX.out hb))
      have HB2 := Aside0.mk hb
      have hcat := bytes_add b x
      have hle : (b ++ x).length ≤ 403 := by have := HL.out; have := HXL.out; simp; omega
      clear HB ho hb hc6 h6 HO
      have HB := HB2
      clear HB2
      have HST2 := HST.out
      generalize b ++ x = y at *
      rcases hpe with ⟨p, r, hp, CP⟩ | ⟨hn, f, hf, CP⟩
      · rw [hp] at HST2
        have HST3 := Aside0.mk HST2
        clear HST2 HST hp
        go_wp2_with (first
          | (go_at_call 14; with_reducible refine CP.mono ?_))
        rintro e w7 ⟨hb, A2, c2, rfl, S2⟩
        have KC : Aside0 (∀ W, Below w7.heap.size w7 W → (convert 30 9 (.slice A b.length c)).run Tryd.prog W = .ok (.string ⟨b.toArray⟩) W) := ⟨fun W B => conv_rd ((HR6.out.below hb).below B) c⟩
        have HBA := Aside0.mk (below_step HB.out hb)
        have kc1 := KC.out w7 (Below.refl _ _)
        have kc2 := fun n => KC.out (w7.drewN n) (pw_below_drewN (Below.refl _ _) n)
        clear HB hb CP
        have HB := Aside0.mk (Below.refl w7.heap.size w7)
        cases hG : goes b j with
        | true =>
          rw [hG] at HST3
          go_wp2
          go_region
          go_wp2
          go_roundg (4 - (j + 1))
          case measure => omega
          case rel => exact ⟨j + 1, by go_num, by omega, by rw [HST3.out]; rfl, ⟨below_step HBA.out (by repeat (first | (with_reducible first | exact HB.out | apply below_alloc | apply pw_below_drewN | apply below_drew1) | exact HB.out))⟩⟩
        | false =>
          rw [hG] at HST3
          go_wp2
          have z1 : (⟨b.toArray⟩ : ByteArray).size ≤ 400 := by rw [size_list]; exact HL.out
          have z2 : (⟨x.toArray⟩ : ByteArray).size ≤ 3 := by rw [size_list]; exact HXL.out
          generalize (⟨b.toArray⟩ : ByteArray) = B at *
          generalize (⟨x.toArray⟩ : ByteArray) = X1 at *
          generalize (⟨y.toArray⟩ : ByteArray) = Y at *
          have z3 : (9223372036854775807 < B.size + X1.size) = False := eq_false (by omega)
          clear z1 z2
          have S3 : ∀ W, (convert 30 9 (.slice A b.length c)).run Tryd.prog W = .ok (.string B) W ∧ Aside0 (Below w7.heap.size w7 W) → Calls Tryd.prog 15 #[.slice A2 p.length c2] W (Said W (.string Y)) := fun W h => S2 W h.2.out
          clear kc1 kc2 S2
          go_region_held3 (fun w' => (convert 30 9 (.slice A b.length c)).run Tryd.prog w' = .ok (.string B) w' ∧ Aside0 (Below w7.heap.size w7 w'))
            (first | assumption | exact keepB KC HB (pw_below_drewN (Below.refl _ _) 1) | exact keepB KC (And.right (by assumption)) hb)
            (first
              | (go_at_call 15; refine (S3 _ (by assumption)).mono ?_; rintro e w8 ⟨rfl, hb⟩))
          rename_i hH
          have HB2 := hH.2
          clear HB hb hH S3 KC
          have HB := HB2
          clear HB2
          go_wp2
          go_roundg (4 - (j + 1))
          case measure => omega
          case rel => exact ⟨j + 1, by go_num, by omega, by rw [HST3.out]; rfl, ⟨below_step HBA.out HB.out⟩⟩
      · rw [hn] at HST2
        have HST3 := Aside0.mk HST2
        clear HST2 HST hn
        have f1 : (f == 0) = false := by simp [hf]
        go_wp2_with (first
          | (go_at_call 14; with_reducible refine CP.mono ?_))
        rintro e w7 ⟨hb, rfl⟩
        have HBA := Aside0.mk (below_step HB.out hb)
        clear HB hb CP
        have HB := Aside0.mk (Below.refl w7.heap.size w7)
        cases hG : goes b j with
        | true =>
          rw [hG] at HST3
          go_wp2
          go_region
          go_wp2
          go_roundg (4 - (j + 1))
          case measure => omega
          case rel => exact ⟨j + 1, by go_num, by omega, by rw [HST3.out]; rfl, ⟨below_step HBA.out (by repeat (first | (with_reducible first | exact HB.out | apply below_alloc | apply pw_below_drewN | apply below_drew1) | exact HB.out))⟩⟩
        | false =>
          rw [hG] at HST3
          go_wp2
          go_region
          go_wp2
          go_roundg (4 - (j + 1))
          case measure => omega
          case rel => exact ⟨j + 1, by go_num, by omega, by rw [HST3.out]; rfl, ⟨below_step HBA.out (by repeat (first | (with_reducible first | exact HB.out | apply below_alloc | apply pw_below_drewN | apply below_drew1) | exact HB.out))⟩⟩
    · have q3 : ((j : Int) < 4) = False := eq_false (by omega)
      obtain rfl : j = 4 := by omega
      have hb := below_step HBX.out HB.out
      rcases HG.out with ⟨rfl, e⟩ | ⟨rfl, e⟩
      · rw [e]
        go_wp2
        go_ret
        exact ⟨rfl, hb⟩
      · rw [e]
        go_wp2
        go_ret
        exact ⟨rfl, hb⟩

set_option maxRecDepth 100000 in
set_option maxHeartbeats 1600000 in
theorem bytes_any (A : Option Addr) (c : Nat) (b : List UInt8) (hc : b.length ≤ c) (w : World) (hr : Rd w A b) (E : Env w) : Calls Tryd.prog 4 #[.slice A b.length c] w (Said w (.bool true)) := by
  have hu := Tryd.underlying36
  have C0 := fit_any w E
  by_cases hx : 400 < b.length
  · have q1 : (400 < b.length) = True := eq_true hx
    have q2 : ((400 : Int) < (b.length : Int)) = True := eq_true (by omega)
    clear hx hc hr E
    go_enter Tryd.func4, Tryd.ntmps4
    go_wp2_with (first | (go_at_call 10; refine C0.mono ?_; rintro e w1 ⟨rfl, hb⟩))
    go_ret
    exact ⟨rfl, hb⟩
  have q1 : (400 < b.length) = False := eq_false hx
  have q2 : ((400 : Int) < (b.length : Int)) = False := eq_false (by omega)
  have CP := fun W (B : Below w.heap.size w W) => p_parseBin A c b W (hr.below B) hc (by omega)
  have HR := Aside0.mk hr
  have HL : Aside0 (b.length ≤ 400) := ⟨by omega⟩
  have HC := Aside0.mk hc
  have HE := Aside0.mk E
  clear hx hc hr E
  cases hp : parseB b with
  | ok p r =>
    rw [hp] at CP
    obtain ⟨hr, he, _⟩ := parseB_sound hp
    have CB := fun A2 c2 W (h : PC W A2 p) => p_lbinary A2 c2 p W h hr (by rw [← he]; have := HL.out; omega)
    have CR := fun A2 c2 W (h : PC W A2 p) => p_lright A2 c2 p W h
    rw [rightQ_iff.2 hr] at CR
    rw [← he] at CB
    have HCB := Aside0.mk CB
    have HCR := Aside0.mk CR
    have HCP := Aside0.mk CP
    clear hr he CB CR CP hp
    go_enter Tryd.func4, Tryd.ntmps4
    go_wp2_with (first
      | (go_at_call 10; refine C0.mono ?_; rintro e w1 ⟨rfl, hb⟩; have HB := Aside0.mk hb; clear hb)
      | (go_at_call 14; with_reducible refine (HCP.out _ HB.out).mono ?_))
    rintro e w2 ⟨hb, A2, c2, rfl, hc2, hp2⟩
    have HP := Aside0.mk hp2
    have HR2 := Aside0.mk (HR.out.below (below_step HB.out hb))
    have HBA := Aside0.mk (below_step HB.out hb)
    clear HB hb
    have HB := Aside0.mk (Below.refl w2.heap.size w2)
    have S1 : ∀ W, Below w2.heap.size w2 W → Calls Tryd.prog 12 #[.slice A2 p.length c2] W (Said W (.bool true)) := fun W B => HCR.out A2 c2 W (HP.out.below B)
    have S2 : ∀ W, Below w2.heap.size w2 W → Calls Tryd.prog 15 #[.slice A2 p.length c2] W (Said W (.string ⟨b.toArray⟩)) := fun W B => HCB.out A2 c2 W (HP.out.below B)
    have KC : Aside0 (∀ W, Below w2.heap.size w2 W → (convert 30 9 (.slice A b.length c)).run Tryd.prog W = .ok (.string ⟨b.toArray⟩) W) := ⟨fun W B => conv_rd (HR2.out.below B) c⟩
    have kc1 := KC.out w2 (Below.refl _ _)
    have kc2 := fun n => KC.out (w2.drewN n) (pw_below_drewN (Below.refl _ _) n)
    clear hp2 hc2 HCB HCR HCP
    go_wp2
    go_region_with (first
      | (go_at_call 12; refine (S1 _ (by repeat (first | (with_reducible first | exact HB.out | apply below_alloc | apply pw_below_drewN | apply below_drew1) | exact HB.out))).mono ?_; rintro e w3 ⟨rfl, hb⟩; have HB2 := Aside0.mk (below_step (by repeat (first | (with_reducible first | exact HB.out | apply below_alloc | apply pw_below_drewN | apply below_drew1) | exact HB.out)) hb); clear HB; have HB := HB2; clear HB2 hb; have kc3 := KC.out w3 HB.out; have kc4 := fun n => KC.out (w3.drewN n) (pw_below_drewN HB.out n))
      | (go_at_call 15; refine (S2 _ (by repeat (first | (with_reducible first | exact HB.out | apply below_alloc | apply pw_below_drewN | apply below_drew1) | exact HB.out))).mono ?_; rintro e w4 ⟨rfl, hb⟩; have HB2 := Aside0.mk (below_step (by repeat (first | (with_reducible first | exact HB.out | apply below_alloc | apply pw_below_drewN | apply below_drew1) | exact HB.out)) hb); clear HB; have HB := HB2; clear HB2 hb; have kc5 := KC.out w4 HB.out; have kc6 := fun n => KC.out (w4.drewN n) (pw_below_drewN HB.out n)))
    all_goals (go_wp2; go_ret; exact ⟨by first | rfl | (simp; done) | (go_simp; done), below_step HBA.out (by repeat (first | (with_reducible first | exact HB.out | apply below_alloc | apply pw_below_drewN | apply below_drew1) | exact HB.out))⟩)
  | form => rw [hp] at CP; exact bytes_no A c b HC.out w HR.out HE.out q1 q2 9 rfl rfl (eq_false (by decide)) (.inl ⟨rfl, goes_form hp⟩) CP
  | short => rw [hp] at CP; exact bytes_no A c b HC.out w HR.out HE.out q1 q2 10 rfl rfl (eq_false (by decide)) (.inr ⟨rfl, goes_short hp⟩) CP

end Go.Proofs.YtefppfgcgcfleaaDoor
