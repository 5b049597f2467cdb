import Derived.Test.YtefppfgcgcfleaaDoorDrFit
import Derived.Lib.AppendStr
namespace Go.Proofs.YtefppfgcgcfleaaDoor
open Go Go.RowKit Go.Proofs.YtefppfgcgcfleaaDoorW.PrintWords Go.Proofs.YtefppfgcgcfleaaDoorW.PrintLast Go.Proofs.YtefppfgcgcfleaaDoorW.PrintMore PDratJoins

/-! Appends to rows of bytes. -/
abbrev Own (w W : World) (v : Value) (b : List UInt8) : Prop := Kd.R (Kd.int .u8) 5 W w.heap.size (fun _ => True) v (bts b)
section
variable {ops : Array Oper} {rest : List Oper} {o : Oper} {a : Act} {Q : Exit → Act → World → Prop}
theorem app_row (w : World) {W : World} (hgd : o.guard = none) (s x : Operand) (ho : o.op = .call { callee := .builtin .append, args := #[s, x], argTypes := #[30, 30] }) (v : Value) (b b2 : List UInt8) (A : Option Addr) (c : Nat)
    (hs : a.eval s = v) (hx : a.eval x = .slice A b2.length c) (HO : Own w W v b) (HR : Rd W A b2) (HB : Below w.heap.size w W) (hl : b.length + b2.length ≤ 140737488355328)
    (h : ∀ v1 w1, Own w w1 v1 (b ++ b2) → Below w.heap.size w w1 → wpList Tryd.prog ops Q rest (a.put o.dst v1) w1) : wpList Tryd.prog ops Q (o :: rest) a W :=
  Kd.R_append_row (Value.int .u8) (0 : Int) (h1 := fun _ => rfl) (w0 := w) w.heap.size hgd s x 30 5 (.int .u8 0) 1 ho Tryd.underlying30 byte_inf rfl (by decide) v (bts b) (bts b2) A b2.length c (fun _ => True) hs hx (fun _ _ => trivial) HO HR HB (below_size HB) (by rw [bts_length]; omega)
    (fun v1 w1 h1 h2 _ _ => h v1 w1 (by unfold Own; rw [bts_append]; exact h1) h2)
theorem app_str (w : World) {W : World} (hgd : o.guard = none) (s x : Operand) (ho : o.op = .call { callee := .builtin .append, args := #[s, x], argTypes := #[30, 9] }) (v : Value) (b b2 : List UInt8)
    (hs : a.eval s = v) (hx : a.eval x = strV b2) (HO : Own w W v b) (HB : Below w.heap.size w W) (hl : b.length + b2.length ≤ 140737488355328)
    (h : ∀ v1 w1, Own w w1 v1 (b ++ b2) → Below w.heap.size w w1 → wpList Tryd.prog ops Q rest (a.put o.dst v1) w1) : wpList Tryd.prog ops Q (o :: rest) a W := by
  obtain ⟨i0, hi, hz0, hz1, hz2⟩ := info_parts byte_inf
  have hown := Kd.own_of_R HO
  refine Lib.wpList_append_own_string W hgd s x 30 9 ho w.heap.size 5 i0 Tryd.underlying30 Tryd.underlying9 hi hz0 hz1 hz2 v _ _ hs hown ⟨b2.toArray⟩ hx ?_ ?_ (below_size HB) (fun v1 w1 h1 h2 _ => ?_)
  · rw [size_list, bts_length]; unfold maxLen; omega
  · rw [size_list, bts_length]; omega
  · refine h v1 w1 (Kd.R_of_own ?_ (fun _ _ => trivial)) (HB.grown h2 (below_size HB) (own_base hown))
    have e1 : (bts b).length + (⟨b2.toArray⟩ : ByteArray).size = (bts (b ++ b2)).length := by rw [size_list, bts_append, List.length_append, bts_length b2]
    have e2 : encs (Value.int .u8) (bts b) ++ Lib.strCells ⟨b2.toArray⟩ = encs (Value.int .u8) (bts (b ++ b2)) := by
      rw [strCells_list, bts_append]
      simp [encs, Lib.byteCells, bts]
    rw [← e1, ← e2]
    exact h1
end
theorem own_rd {w W : World} {v : Value} {b : List UInt8} (h : Own w W v b) : ∃ A c, v = .slice A b.length c ∧ b.length ≤ c ∧ Rd W A b := by
  obtain ⟨A, c, e, h1, h2⟩ := Kd.R_reads h
  rw [bts_length] at e h1 h2
  exact ⟨A, c, e, h1, h2⟩
theorem own_below {w W W2 : World} {v : Value} {b : List UInt8} (h : Own w W v b) (B : Below W.heap.size W W2) : Own w W2 v b := Kd.R_below h B
theorem own_nil (w W : World) : Own w W (.slice none 0 0) [] := Kd.R_nil _ _ _ _ _
/-- The first bytes of a row. -/
theorem head_bytes (A : Option Addr) (c : Nat) (b : List UInt8) (j : Int) (h0 : 0 ≤ j) (hm : j ≤ b.length) (hc : b.length ≤ c) :
    (∀ W : World, (Instr.slice 30 (.slice A b.length c) none (some (.int .i64 j)) none).run Tryd.prog W = .ok (.slice A (b.take j.toNat).length c) W) ∧ (∀ w, Rd w A b → Rd w A (b.take j.toNat)) := by
  obtain ⟨i0, hi, _, hz1, _⟩ := info_parts byte_inf
  refine ⟨fun W => ?_, fun w h => ?_⟩
  · rw [List.length_take, Nat.min_eq_left (by omega)]
    exact cut_to (P := Tryd.prog) 30 5 .i64 Tryd.underlying30 hi A b.length c j h0 hm hc W
  · unfold Rd at h ⊢
    have h2 : (Kd.int .u8).C w A (bts b).length (bts b) := by rw [bts_length]; exact h
    have h3 := Kd.C_take (m := j.toNat) h2 (by rw [bts_length]; omega)
    have e : (bts b).take j.toNat = bts (b.take j.toNat) := by simp [bts, List.map_take]
    rw [e, bts_length] at h3
    exact h3

/-! A literal of any number; conversions that a region holds. -/
theorem and20 (x : Int) : 0 ≤ Go.bits .and .i64 x 1048575 := by
  unfold Go.bits
  simp only [IntKind.bits]
  show 0 ≤ IntKind.i64.wrap (((BitVec.ofInt 64 x &&& BitVec.ofInt 64 1048575).toNat : Nat) : Int)
  rw [BitVec.toNat_and, show (BitVec.ofInt 64 1048575).toNat = 1048575 from rfl]
  have : (BitVec.ofInt 64 x).toNat &&& 1048575 ≤ 1048575 := Nat.and_le_right
  rw [IntKind.wrap_i64]; omega
theorem lit_right (n : Int) : ∃ l, PDratJoins.bradawllaw01_Lit.f n = some l ∧ RightL l := by
  have hk : ∀ x : Int, -100000 ≤ x → x ≤ 100000 → wrap64 x = x := fun x h1 h2 => by unfold wrap64; omega
  have hb : 0 ≤ Go.bits .and .i64 (n / 2) 1048575 := and20 (n / 2)
  unfold PDratJoins.bradawllaw01_Lit.f
  generalize Go.bits .and .i64 (n / 2) 1048575 = m at *
  have h1 : 0 ≤ Int.tmod m 100000 := Int.tmod_nonneg _ hb
  have h2 : Int.tmod m 100000 < 100000 := Int.tmod_lt_of_pos _ (by decide)
  split
  · exact ⟨_, rfl, by rw [hk (1 + _) (by omega) (by omega), hk _ (by omega) (by omega)]; unfold RightL; omega⟩
  · exact ⟨_, rfl, by rw [hk (1 + _) (by omega) (by omega)]; unfold RightL; omega⟩
theorem keepB {A : Option Addr} {n c : Nat} {B : ByteArray} {w7 w' w8 : World} (KC : Aside0 (∀ W, Below w7.heap.size w7 W → (convert 30 9 (.slice A n c)).run Tryd.prog W = .ok (.string B) W)) (h : Aside0 (Below w7.heap.size w7 w')) (hb : Below w'.heap.size w' w8) :
    (convert 30 9 (.slice A n c)).run Tryd.prog w8 = .ok (.string B) w8 ∧ Aside0 (Below w7.heap.size w7 w8) := ⟨KC.out _ (below_step h.out hb), ⟨below_step h.out hb⟩⟩

end Go.Proofs.YtefppfgcgcfleaaDoor
