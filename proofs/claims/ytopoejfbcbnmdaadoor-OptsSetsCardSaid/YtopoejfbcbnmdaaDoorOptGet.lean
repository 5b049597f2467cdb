import Derived.Test.YtopoejfbcbnmdaaDoorOptField
namespace Go.Proofs.YtopoejfbcbnmdaaDoor
open Go Go.RowKit

theorem ptrCells_get (b : Nat) : ∀ i, i < 15 → (ptrCells b)[i]? = some (.pointer (some ⟨b, i, none⟩))
  | 0, _ => rfl
  | 1, _ => rfl
  | 2, _ => rfl
  | 3, _ => rfl
  | 4, _ => rfl
  | 5, _ => rfl
  | 6, _ => rfl
  | 7, _ => rfl
  | 8, _ => rfl
  | 9, _ => rfl
  | 10, _ => rfl
  | 11, _ => rfl
  | 12, _ => rfl
  | 13, _ => rfl
  | 14, _ => rfl
  | n + 15, h => by omega
theorem nameCells_get : ∀ i, i < 15 → nameCells[i]? = some (.string (optNames.getD i ByteArray.empty))
  | 0, _ => rfl
  | 1, _ => rfl
  | 2, _ => rfl
  | 3, _ => rfl
  | 4, _ => rfl
  | 5, _ => rfl
  | 6, _ => rfl
  | 7, _ => rfl
  | 8, _ => rfl
  | 9, _ => rfl
  | 10, _ => rfl
  | 11, _ => rfl
  | 12, _ => rfl
  | 13, _ => rfl
  | 14, _ => rfl
  | n + 15, h => by omega

theorem field_hit (b : Nat) (name : ByteArray) (i : Nat) (hi : Lib.idxOfS optNames name = i) (h15 : i < 15) (w : World) :
    Calls Tryd.prog 26 #[.pointer (some ⟨b, 0, none⟩), .string name] w (Gave w (.pointer (some ⟨b, i, none⟩))) := by
  have Cn := names_any w
  have Ci := Tryd.slices_Index_string w.heap.size 0 15 15 optNames name (w.alloc (.cells nameCells 9)) (by decide) (by decide) (fun j hj => by
    rw [World.cell?_alloc_at _ _ _ _ (by simp)]
    rw [Nat.zero_add]
    exact nameCells_get j hj)
  rw [show optNames.take 15 = optNames from rfl, hi] at Ci
  have Cf := fields_any b (w.alloc (.cells nameCells 9))
  have c1 : ∀ n : Nat, (((w.alloc (.cells nameCells 9)).drewN n).alloc (.cells (ptrCells b) 61)).cell? ⟨w.heap.size + 1, i, none⟩ = some (.pointer (some ⟨b, i, none⟩)) := fun n => by
    rw [World.cell?_alloc_at _ _ _ _ (by simp [World.drewN])]
    exact ptrCells_get b i h15
  have hlt : (i : Int) < 15 := by omega
  have hw : IntKind.i64.wrap (i : Int) = i := IntWalk.i64_in _ (by omega)
  clear hi
  go_enter Tryd.func26, Tryd.ntmps26
  go_wp2_with fail
  refine Cn.mono ?_
  rintro e w1 ⟨rfl, rfl⟩
  go_wp2_with fail
  refine Ci.mono ?_
  rintro e w1 ⟨rfl, rfl⟩
  go_wp2_with fail
  refine Cf.mono ?_
  rintro e w1 ⟨rfl, n, rfl⟩
  have d := c1 n
  clear c1 Cn Ci Cf
  go_wp2_with fail
  go_ret
  exact ⟨rfl, (Below.drewNO ((Below.refl _ _).alloc (Nat.le_refl _) _) n).alloc (by simp) _⟩

theorem field_miss (b : Nat) (name : ByteArray) (hi : Lib.idxOfS optNames name = -1) (w : World) :
    Calls Tryd.prog 26 #[.pointer (some ⟨b, 0, none⟩), .string name] w (Gave w (.pointer none)) := by
  have Cn := names_any w
  have Ci := Tryd.slices_Index_string w.heap.size 0 15 15 optNames name (w.alloc (.cells nameCells 9)) (by decide) (by decide) (fun j hj => by
    rw [World.cell?_alloc_at _ _ _ _ (by simp)]
    rw [Nat.zero_add]
    exact nameCells_get j hj)
  rw [show optNames.take 15 = optNames from rfl, hi] at Ci
  clear hi
  go_enter Tryd.func26, Tryd.ntmps26
  go_wp2_with fail
  refine Cn.mono ?_
  rintro e w1 ⟨rfl, rfl⟩
  go_wp2_with fail
  refine Ci.mono ?_
  rintro e w1 ⟨rfl, rfl⟩
  go_wp2_with fail
  go_ret
  exact ⟨rfl, (Below.refl _ _).alloc (Nat.le_refl _) _⟩

theorem get_hit (b : Nat) (name : ByteArray) (i : Nat) (hi : Lib.idxOfS optNames name = i) (h15 : i < 15) (x : Int) (w : World) (hc : w.cell? ⟨b, i, none⟩ = some (.int .i64 x)) :
    Calls Tryd.prog 13 #[.pointer (some ⟨b, 0, none⟩), .string name] w (Gave w (.tuple #[.int .i64 x, .bool true])) := by
  have C := field_hit b name i hi h15 w
  have hb := World.block_lt_of_cell? w _ hc
  clear hi
  go_enter Tryd.func13, Tryd.ntmps13
  go_wp2_with fail
  refine C.mono ?_
  rintro e w1 ⟨rfl, B⟩
  have c1 := (B.cell (p := ⟨b, i, none⟩) hb).trans hc
  have Bh := Lib.hid B
  clear B C hc
  go_wp2_with fail
  go_ret2
  exact ⟨rfl, Bh.out⟩

theorem get_miss (b : Nat) (name : ByteArray) (hi : Lib.idxOfS optNames name = -1) (w : World) :
    Calls Tryd.prog 13 #[.pointer (some ⟨b, 0, none⟩), .string name] w (Gave w (.tuple #[.int .i64 0, .bool false])) := by
  have C := field_miss b name hi w
  clear hi
  go_enter Tryd.func13, Tryd.ntmps13
  go_wp2_with fail
  refine C.mono ?_
  rintro e w1 ⟨rfl, B⟩
  have Bh := Lib.hid B
  clear B C
  go_wp2_with fail
  go_ret2
  exact ⟨rfl, Bh.out⟩

/-- One cell of the options is set; besides, what nothing holds on to. -/
def SetAt (w : World) (b i : Nat) (n : Int) (e : Ending) (w' : World) : Prop := e = .returned (.bool true) ∧ ∃ w1, Below w.heap.size w w1 ∧ w' = w1.setCell ⟨b, i, none⟩ (.int .i64 n)

theorem set_hit (b : Nat) (name : ByteArray) (i : Nat) (hi : Lib.idxOfS optNames name = i) (h15 : i < 15) (x n : Int) (w : World) (hc : w.cell? ⟨b, i, none⟩ = some (.int .i64 x)) (hf : w.frozen? ⟨b, i, none⟩ = false) :
    Calls Tryd.prog 11 #[.pointer (some ⟨b, 0, none⟩), .string name, .int .i64 n] w (SetAt w b i n) := by
  have C := field_hit b name i hi h15 w
  have hb := World.block_lt_of_cell? w _ hc
  clear hi
  go_enter Tryd.func11, Tryd.ntmps11
  go_wp2_with fail
  refine C.mono ?_
  rintro e w1 ⟨rfl, B⟩
  have c1 := (B.cell (p := ⟨b, i, none⟩) hb).trans hc
  have g1 := (B.frozen (p := ⟨b, i, none⟩) hb).trans hf
  have Bh := Lib.hid B
  clear B C hc hf
  go_wp2_with fail
  go_ret
  exact ⟨rfl, w1, Bh.out, rfl⟩

theorem set_miss (b : Nat) (name : ByteArray) (hi : Lib.idxOfS optNames name = -1) (n : Int) (w : World) :
    Calls Tryd.prog 11 #[.pointer (some ⟨b, 0, none⟩), .string name, .int .i64 n] w (Gave w (.bool false)) := by
  have C := field_miss b name hi w
  clear hi
  go_enter Tryd.func11, Tryd.ntmps11
  go_wp2_with fail
  refine C.mono ?_
  rintro e w1 ⟨rfl, B⟩
  have Bh := Lib.hid B
  clear B C
  go_wp2_with fail
  go_ret
  exact ⟨rfl, Bh.out⟩

end Go.Proofs.YtopoejfbcbnmdaaDoor
