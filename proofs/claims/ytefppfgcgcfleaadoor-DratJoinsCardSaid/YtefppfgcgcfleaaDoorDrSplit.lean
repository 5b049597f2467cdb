import Derived.Test.YtefppfgcgcfleaaDoorDrEnv
import Derived.Lib.SplitLaws
namespace Go.Proofs.YtefppfgcgcfleaaDoor
open Go Go.RowKit Go.Proofs.YtefppfgcgcfleaaDoorW.PrintWords Go.Proofs.YtefppfgcgcfleaaDoorW.PrintLast Go.Proofs.YtefppfgcgcfleaaDoorW.PrintMore PDratJoins

def strV (l : List UInt8) : Value := .string ⟨l.toArray⟩
theorem split_list (s : List UInt8) (c : UInt8) : (Lib.splitB ⟨#[c]⟩ 0 (Lib.countB ⟨s.toArray⟩ ⟨#[c]⟩) ⟨s.toArray⟩).map Value.string = (cutC c s).map strV ∧ Lib.countB ⟨s.toArray⟩ ⟨#[c]⟩ + 1 = (cutC c s).length := by
  have h1 := Lib.splitB_data ⟨#[c]⟩ 0 (Lib.countB ⟨s.toArray⟩ ⟨#[c]⟩) ⟨s.toArray⟩
  have h2 : Lib.splitK [c] 0 (Lib.countB ⟨s.toArray⟩ ⟨#[c]⟩) s = cutC c s := by rw [← split_one c s]; rfl
  have h3 : (Lib.splitB ⟨#[c]⟩ 0 (Lib.countB ⟨s.toArray⟩ ⟨#[c]⟩) ⟨s.toArray⟩).map (·.data.toList) = cutC c s := h1.trans h2
  constructor
  · rw [← h3, List.map_map]
    apply List.map_congr_left
    intro x _
    show Value.string x = strV x.data.toList
    unfold strV
    cases x
    simp
  · rw [← h3, List.length_map]
    exact (Lib.splitB_all ⟨#[c]⟩ (show 1 ≤ 1 from Nat.le_refl _) 0 _ _ rfl).symm

theorem split_any (s : List UInt8) (c : UInt8) (hs : s.length < 4294967281) (w : World) (E : Env w) :
    Calls Tryd.prog 24 #[strV s, .string ⟨#[c]⟩] w fun e w' => e = .returned (.slice (some ⟨w.heap.size, 0, none⟩) (cutC c s).length (cutC c s).length) ∧ w' = w.alloc (.cells ((cutC c s).map strV).toArray 9) := by
  obtain ⟨m, hm⟩ := E.max
  have h := Tryd.strings_Split ⟨s.toArray⟩ ⟨#[c]⟩ m w hs hm (show 1 ≤ 1 from Nat.le_refl _)
  rw [(split_list s c).1, (split_list s c).2] at h
  exact h

theorem bytes_world_below (w : World) (t : ByteArray) : Below w.heap.size w (Lib.bytesWorld w 5 t) := bytes_below (Below.refl _ _) (Nat.le_refl _) _ _

theorem atoi_any (v : List UInt8) (hv : v.length ≤ 1099511627776) (w : World) (E : Env w) :
    Calls Tryd.prog 39 #[strV v] w fun e w' => Below w.heap.size w w' ∧ ((∃ l, Lib.atoiAll v = .ok l ∧ e = .returned (.tuple #[.int .i64 l, .nilIface])) ∨ ((∀ l, Lib.atoiAll v ≠ .ok l) ∧ ∃ k t a, e = .returned (.tuple #[.int .i64 k, .iface t a]))) := by
  have hsz : (⟨v.toArray⟩ : ByteArray).size = v.length := rfl
  have hd : (⟨v.toArray⟩ : ByteArray).data.toList = v := rfl
  cases h : Lib.atoiAll v with
  | ok l =>
    refine (Tryd.strconv_Atoi_ok ⟨v.toArray⟩ (by rw [hsz]; omega) l (by rw [hd]; exact h) w).mono ?_
    rintro e w' ⟨rfl, hw⟩
    refine ⟨?_, .inl ⟨l, rfl, rfl⟩⟩
    rcases hw with rfl | ⟨t, rfl⟩
    · exact Below.refl _ _
    · exact bytes_world_below w t
  | «syntax» =>
    obtain ⟨tp, p, hp⟩ := E.syn
    refine (Tryd.strconv_Atoi_syntax_var ⟨v.toArray⟩ (by rw [hsz]; omega) (by rw [hd]; exact h) tp p w hp).mono ?_
    rintro e w' ⟨N, rfl, _, _, hb⟩
    exact ⟨hb, .inr ⟨fun l hl => (by cases hl), _, _, _, rfl⟩⟩
  | range =>
    obtain ⟨tp, p, hp⟩ := E.ran
    refine (Tryd.strconv_Atoi_range_var ⟨v.toArray⟩ (by rw [hsz]; omega) (by rw [hd]; exact h) tp p w hp).mono ?_
    rintro e w' ⟨N, rfl, _, _, hb⟩
    exact ⟨hb, .inr ⟨fun l hl => (by cases hl), _, _, _, rfl⟩⟩

theorem cutPrefix_any (x p : List UInt8) (w : World) :
    Calls Tryd.prog 38 #[strV x, strV p] w fun e w' => e = .returned (.tuple #[strV (if Lib.hasPrefix x p then x.drop p.length else x), .bool (Lib.hasPrefix x p)]) ∧ w' = w :=
  Tryd.strings_CutPrefix ⟨x.toArray⟩ ⟨p.toArray⟩ w

end Go.Proofs.YtefppfgcgcfleaaDoor
