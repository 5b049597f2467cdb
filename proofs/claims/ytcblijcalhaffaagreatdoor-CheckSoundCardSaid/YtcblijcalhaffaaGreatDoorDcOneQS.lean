import Derived.Test.YtcblijcalhaffaaGreatDoorDcKdQS
import Derived.Test.YtcblijcalhaffaaGreatDoorShelfQS
import Derived.Lib.FrozenHead
import Derived.Lib.OthersKept
import Derived.Lib.AppendIntMem
import Derived.Shelf.Strings.BuilderK
import Derived.Laws.BitsLemmas
namespace Go.Proofs.YtcblijcalhaffaaGreatDoor
open Go Go.RowKit Go.Proofs.YtcblijcalhaffaaGreatDoorW.PrintWords Go.Proofs.YtcblijcalhaffaaGreatDoorW.PrintLast Go.Proofs.YtcblijcalhaffaaGreatDoorW.PrintMore PCheckSound

/-- What stands ahead of each call: the table and the errors that the library reads. -/
structure Env (w : World) : Prop where
  pow : Lib.TabIs Tryz.prog w "internal/strconv.uint64pow10" .u64 Lib.pow10Tab
  syn : ∃ tp p, w.var? Tryz.prog "strconv.ErrSyntax" = some #[.iface tp p]
  ran : ∃ tp p, w.var? Tryz.prog "strconv.ErrRange" = some #[.iface tp p]
  max : ∃ m, w.cell? ⟨0, 0, none⟩ = some (.int .i64 m)

theorem var_below {P : Program} {w w' : World} {n : String} {cs : Array Value} (h : w.var? P n = some cs) (B : Below w.heap.size w w') : w'.var? P n = some cs := by
  unfold World.var? at h ⊢
  cases hg : P.globalNamed n with
  | none => rw [hg] at h; simp at h
  | some g =>
    rw [hg] at h
    simp only [Option.bind_some] at h ⊢
    have hl : g < w.heap.size := by
      rcases Nat.lt_or_ge g w.heap.size with h1 | h1
      · exact h1
      · rw [Array.getElem?_eq_none h1] at h; simp at h
    rw [B.block g hl]; exact h
theorem Env.below {w w' : World} (h : Env w) (B : Below w.heap.size w w') : Env w' := by
  obtain ⟨m, hm⟩ := h.max
  obtain ⟨a, b, hs⟩ := h.syn
  obtain ⟨a', b', hr⟩ := h.ran
  exact ⟨var_below h.pow B, ⟨a, b, var_below hs B⟩, ⟨a', b', var_below hr B⟩, m, (B.cell (World.block_lt_of_cell? w _ hm)).trans hm⟩

theorem itoa_any (n : Int) (h0 : -9223372036854775808 ≤ n) (h1 : n ≤ 9223372036854775807) (w : World) (E : Env w) :
    Calls Tryz.prog 49 #[.int .i64 n] w (Said w (.string ⟨(Lib.itoa n).toArray⟩)) :=
  (Tryz.strconv_Itoa n h0 h1 w E.pow).mono fun e w' ⟨he, k, os, hw⟩ => ⟨he, by rw [hw]; exact Lib.below_grow _ _ (Nat.le_refl _) _ _⟩

/-- A builder stays one while what lies in its blocks stands. -/
theorem builder_below {T e : TypeId} {B b : Nat} {bs : List Value} {w w' : World} (h : Lib.IsBuilderF T e B b bs w) (hb : Below w.heap.size w w') : Lib.IsBuilderF T e B b bs w' := by
  have key : ∀ p, Lib.BuilderAtF T e B b p bs w → Lib.BuilderAtF T e B b p bs w' := by
    intro p ⟨hB, v, h1, ⟨h2, h3⟩, h4⟩
    refine ⟨hB, v, blk_below h1 hb, ⟨h2, ?_⟩, h4⟩
    rcases h3 with h3 | ⟨g, cap, cur, fz, hv, hg, hh, r⟩
    · exact .inl h3
    · exact .inr ⟨g, cap, cur, fz, hv, hg, blk_below hh hb, r⟩
  exact h.elim (fun x => .inl (key _ x)) (fun x => .inr (key _ x))

theorem builder_lt {T e : TypeId} {B b : Nat} {bs : List Value} {w : World} (h : Lib.IsBuilderF T e B b bs w) : b < w.heap.size := by
  rcases h with ⟨_, v, h1, _⟩ | ⟨_, v, h1, _⟩ <;> exact blk_lt h1

end Go.Proofs.YtcblijcalhaffaaGreatDoor
namespace Go.Proofs.YtcblijcalhaffaaGreatDoor
open Go Go.RowKit

/-! strings.Builder where its copy check is refused by the loader: the two ways that are left. -/
theorem builder_size : (Tryz.prog.info? 98).map (·.size) = some 2 := by kernel_rfl
theorem builder_lies : liesAt Tryz.prog Tryz.prog.depth 98 (2 / Tryz.prog.cellsOf 98) 0 98 1 = true := by kernel_rfl
theorem byte_info : (Tryz.prog.info? 5).map (fun i => (i.zero, i.size, i.bytes)) = some (some (.int .u8 0), 1, 1) := by kernel_rfl

set_option maxHeartbeats 1000000 in
set_option maxRecDepth 100000 in
theorem check_used (b : Nat) (w : World) (h0 : w.cell? ⟨b, 0, none⟩ = some (.pointer (some ⟨b, 0, none⟩))) :
    Calls Tryz.prog 65 #[.pointer (some ⟨b, 0, none⟩)] w fun e w' => e = .returned (.tuple #[]) ∧ w' = w := by
  obtain ⟨j, hj, _⟩ := Option.map_eq_some_iff.1 builder_size
  go_enter Tryz.func65, Tryz.ntmps65
  go_wp2
  rw [Lib.run_neq_ptr_same w _ Tryz.underlying96 hj]
  go_wp2
  go_end0
  exact ⟨rfl, rfl⟩

set_option maxHeartbeats 1000000 in
set_option maxRecDepth 100000 in
theorem check_fresh (b : Nat) (w : World) (h0 : w.cell? ⟨b, 0, none⟩ = some (.pointer none)) (hsh : w.shape? b = some (98, 2)) (hfz : w.frozen? ⟨b, 0, none⟩ = false) :
    Calls Tryz.prog 65 #[.pointer (some ⟨b, 0, none⟩)] w fun e w' => e = .returned (.tuple #[]) ∧ w' = w.setCell ⟨b, 0, none⟩ (.pointer (some ⟨b, 0, none⟩)) := by
  obtain ⟨j, hj, hjs⟩ := Option.map_eq_some_iff.1 builder_size
  go_enter Tryz.func65, Tryz.ntmps65
  go_wp2
  rw [Lib.run_to_unsafe w ⟨b, 0, none⟩ Tryz.underlying96 Tryz.underlying131 hj (by rw [hjs]; decide) hsh (Nat.zero_lt_succ 1)]
  simp only [Result.andThen]
  rw [Oper.upon_value]
  go_wp2
  rw [run_callFunc_extern Tryz.func85 (by kernel_rfl) (by kernel_rfl) (by kernel_rfl) (e := Extern.AbiNoEscape.same) (by kernel_rfl)]
  rw [Lib.run_noEscape]
  simp only [Result.andThen]
  rw [Oper.upon_value]
  go_wp2
  rw [Lib.run_from_unsafe w ⟨b, 0, none⟩ Tryz.underlying131 Tryz.underlying96 hj hsh builder_lies]
  simp only [Result.andThen]
  rw [Oper.upon_value]
  go_wp2
  go_end0
  exact ⟨rfl, rfl⟩

theorem check_any (B b : Nat) (bs : List Value) (w : World) (h : Lib.IsBuilderF 98 5 B b bs w) :
    Calls Tryz.prog 65 #[.pointer (some ⟨b, 0, none⟩)] w fun e w' => e = .returned (.tuple #[]) ∧ (Lib.BuilderAtF 98 5 B b (.pointer (some ⟨b, 0, none⟩)) bs w' ∧ Below B w w' ∧ Lib.OthersKept 5 (some b) w w') := by
  rcases h with h | h
  · refine (check_fresh b w h.cell0 h.shape h.frozen0).mono ?_
    rintro e w' ⟨rfl, rfl⟩
    exact ⟨rfl, h.used _, (Below.refl B w).setCell (p := ⟨b, 0, none⟩) h.1 _, (Lib.OthersKept.refl _ _ w).setCell ⟨b, 0, none⟩ rfl _⟩
  · refine (check_used b w h.cell0).mono ?_
    rintro e w' ⟨rfl, rfl⟩
    exact ⟨rfl, h, Below.refl B _, Lib.OthersKept.refl _ _ _⟩

set_option maxHeartbeats 2000000 in
set_option maxRecDepth 100000 in
theorem write_any (B b : Nat) (bs : List Value) (s : ByteArray) (w : World) (h : Lib.IsBuilderF 98 5 B b bs w) (hlen : bs.length + s.size ≤ 140737488355328) (hBw : B ≤ w.heap.size) :
    Calls Tryz.prog 48 #[.pointer (some ⟨b, 0, none⟩), .string s] w fun e w' => e = .returned (.tuple #[.int .i64 s.size, .nilIface]) ∧ (Lib.BuilderAtF 98 5 B b (.pointer (some ⟨b, 0, none⟩)) (bs ++ Lib.strCells s) w' ∧ Below B w w' ∧ Lib.OthersKept 5 (some b) w w') := by
  obtain ⟨i0, hi, hz0, hz1, hz2⟩ := info_parts byte_info
  go_enter Tryz.func48, Tryz.ntmps48
  go_wp2_with (go_at_call 65; refine (check_any B b bs _ h).mono ?_)
  rintro e w1 ⟨rfl, h1, hb1, hk1⟩
  obtain ⟨hB, v, hbk, hown, hne⟩ := h1
  have c0 : w1.cell? ⟨b, 0, none⟩ = some (.pointer (some ⟨b, 0, none⟩)) := by rw [Lib.cell_of_heap hbk]; rfl
  have c1 : w1.cell? ⟨b, 1, none⟩ = some v := by rw [Lib.cell_of_heap hbk]; rfl
  go_wp2_with (at_builtin; refine Lib.wpList_append_own_stringF _ rfl _ _ 53 9 rfl B 5 i0 Tryz.underlying53 Tryz.underlying9 hi hz0 hz1 hz2 _ _ _ rfl hown s rfl ?c3 ?c4 ?c5 ?_)
  case c3 => unfold maxLen; omega
  case c4 => omega
  case c5 => have := hb1.size; omega
  intro v' w2 hown' hgrow _
  have hlt : b < w1.heap.size := by
    rcases Nat.lt_or_ge b w1.heap.size with h' | h'
    · exact h'
    · simp [Array.getElem?_eq_none h'] at hbk
  have hb2 : w2.heap[b]? = some (.cells #[.pointer (some ⟨b, 0, none⟩), v] 98 (0, 0)) := by
    rw [hgrow.block b hlt (fun e => hne e.symm)]
    exact hbk
  have d0 : w2.cell? ⟨b, 0, none⟩ = some (.pointer (some ⟨b, 0, none⟩)) := by rw [Lib.cell_of_heap hb2]; rfl
  have d1 : w2.cell? ⟨b, 1, none⟩ = some v := by rw [Lib.cell_of_heap hb2]; rfl
  have f1 : w2.frozen? ⟨b, 1, none⟩ = false := Lib.frozen_of_heap hb2 1
  obtain ⟨ao, n', cap, rfl⟩ : ∃ ao n' cap, v' = .slice ao n' cap := by
    rcases hown'.2 with ⟨hv, _⟩ | ⟨g, cap, cur, fz, hv, _⟩
    · exact ⟨_, _, _, hv⟩
    · exact ⟨_, _, _, hv⟩
  go_wp2
  go_ret2
  refine ⟨rfl, ?_, ?_, (hk1.grown hgrow (Lib.ownsRowF_kind hown)).setCell ⟨b, 1, none⟩ rfl _⟩
  · exact Lib.BuilderAtF.put (T := 98) (e := 5) hB hb2 (bs' := bs ++ Lib.strCells s) (by simpa [Lib.strCells_length] using hown') (by decide)
  · exact (hb1.grown hgrow (by have := hb1.size; omega) (fun k hk => (hown.lt k hk).1)).setCell (p := ⟨b, 1, none⟩) hB _

end Go.Proofs.YtcblijcalhaffaaGreatDoor
namespace Go.Proofs.YtcblijcalhaffaaGreatDoor
open Go Go.RowKit Go.Proofs.YtcblijcalhaffaaGreatDoorW.PrintWords Go.Proofs.YtcblijcalhaffaaGreatDoorW.PrintLast Go.Proofs.YtcblijcalhaffaaGreatDoorW.PrintMore PCheckSound

def txt (l : List S41) : List UInt8 := textT (l.map toP)
def dT (d : Bool) : List UInt8 := if d then [100, 32] else []
theorem take_flat_le {α β : Type} (f : α → List β) (xs : List α) (j : Nat) : ((xs.take j).flatMap f).length ≤ (xs.flatMap f).length := by
  have h := congrArg (fun l => (l.flatMap f).length) (List.take_append_drop j xs)
  simp only [List.flatMap_append, List.length_append] at h
  omega
theorem txt_snoc {l : List S41} {j : Nat} (h : j < l.length) : txt (l.take (j + 1)) = txt (l.take j) ++ dT (nth l z41 j).f0 ++ litsT (nth l z41 j).f1 ++ [48, 10] := by
  unfold txt
  rw [take_snoc h z41, List.map_append, textT_append]
  simp [textT, lineT, toP, dT, List.append_assoc]
theorem txt_le (l : List S41) (j : Nat) : (txt (l.take j)).length ≤ (txt l).length := by
  unfold txt textT
  rw [List.map_take]
  exact take_flat_le _ _ _
theorem lits_snoc {l : List Int} {j : Nat} (h : j < l.length) : litsT (l.take (j + 1)) = litsT (l.take j) ++ (Lib.itoa (nth l 0 j) ++ [32]) := by
  unfold litsT
  rw [take_snoc h 0, List.flatMap_append]
  simp
theorem lits_le (l : List Int) (j : Nat) : (litsT (l.take j)).length ≤ (litsT l).length := take_flat_le _ _ _
theorem bytes_add (a b : List UInt8) : (⟨a.toArray⟩ : ByteArray) ++ (⟨b.toArray⟩ : ByteArray) = ⟨(a ++ b).toArray⟩ := by
  apply ByteArray.ext
  simp [ByteArray.data_append]
theorem strCells_list (a : List UInt8) : Lib.strCells ⟨a.toArray⟩ = Lib.byteCells a := rfl
theorem size_list (a : List UInt8) : (⟨a.toArray⟩ : ByteArray).size = a.length := rfl

set_option maxRecDepth 100000 in
set_option maxHeartbeats 8000000 in
theorem dr_text (A0 : Option Addr) (c0 : Nat) (l0 : List S41) (w : World) (hr : Kd.C k41 w A0 l0.length l0) (_hc : l0.length ≤ c0) (hS : RightS l0) (hX : (txt l0).length ≤ 140737488355328) (E : Env w) :
    Calls Tryz.prog 28 #[.slice A0 l0.length c0] w (Said w (.string ⟨(txt l0).toArray⟩)) := by
  have hm := hr.2.1
  have hu := Tryz.underlying41
  have HR := Aside0.mk hr
  have HE := Aside0.mk E
  have HSS := Aside0.mk hS
  have HXX := Aside0.mk hX
  clear hr _hc hS hX
  have HB0 := Aside0.mk (Below.refl w.heap.size w)
  have h0 : Lib.IsBuilderF 98 5 w.heap.size w.heap.size [] (w.alloc (.cells #[.pointer none, .slice none 0 0] 98)) := Lib.IsBuilderF.of (Lib.fresh_isBuilder 98 5 w)
  have H0 := Aside0.mk h0
  clear h0
  go_enter Tryz.func28, Tryz.ntmps28
  go_wp2
  go_loopg [10] l0.length (fun gk v10 w' => ∃ j : Nat, v10 = .int .i64 j ∧ j + gk = l0.length ∧ Aside0 (Lib.IsBuilderF 98 5 w.heap.size w.heap.size (Lib.byteCells (txt (l0.take j))) w') ∧ Aside0 (Below w.heap.size w w'))
  case atStart => exact ⟨0, rfl, by omega, ⟨builder_below H0.out (Below.refl _ _)⟩, ⟨((Below.refl _ w).alloc (Nat.le_refl _) _)⟩⟩
  case round =>
    clear HB0 H0
    obtain ⟨j, rfl, hj, HD, HB⟩ := hrel
    by_cases hjl : j < l0.length
    · obtain ⟨ad, A1, c1, e0, hx0, hx1, hl1, hi1⟩ := at_step HR.out j hjl
      cases e0
      replace hx0 := (HB.out.cell (World.block_lt_of_cell? w _ hx0)).trans hx0
      replace hx1 := (HB.out.cell (World.block_lt_of_cell? w _ hx1)).trans hx1
      have HI := Aside0.mk hi1
      have hm2 := hi1.2.1
      have HS := Aside0.mk (HSS.out _ (nth_mem hjl z41))
      have q1 : ((j : Int) < (l0.length : Int)) = True := eq_true (by omega)
      have q2 : (0 ≤ (j : Int)) = True := eq_true (by omega)
      have HTx := Aside0.mk (txt_snoc hjl)
      have HX := Aside0.mk (Nat.le_trans (txt_le l0 (j + 1)) HXX.out)
      clear hi1 hl1
      generalize nth l0 z41 j = s at *
      cases hd : s.f0
      · rw [hd] at hx0
        have HTx2 := HTx.out
        rw [hd] at HTx2
        have HTx := Aside0.mk HTx2
        clear HTx2 hd
        go_wp2_with (first | ((with_reducible refine gate_dst (N := 5) rfl ?_); refine box_event ?hg (N := 5) ?hd (cs := #[.bool false, .slice none 0 0]) (t := 41) ?hr ?_; (case hd => rfl); (case hg => rfl); (case hr => first | (go_simp; done) | (go_simp; rfl)); intro gb hg w5 hbox hb; have GE := Aside0.mk ((by rw [hg]; exact (below_size (by repeat (first | (with_reducible first | exact HB.out | apply below_alloc | apply pw_below_drewN | apply below_drew1) | exact HB.out)))) : w.heap.size ≤ gb); have GN := Aside0.mk hg; have HW5 := Aside0.mk hb; have n0_ := Aside0.mk (below_step (by repeat (first | (with_reducible first | exact HB.out | apply below_alloc | apply pw_below_drewN | apply below_drew1) | exact HB.out)) hb); have BK := Aside0.mk hbox; clear HB; have HB := n0_; clear n0_ hb hbox hg; have hcz0 : w5.cell? ⟨gb, 0, none⟩ = some (.bool false) := (blk_cell BK.out 0).trans rfl; have hcz1 : w5.cell? ⟨gb, 1, none⟩ = some (.slice none 0 0) := (blk_cell BK.out 1).trans rfl; have hfz0 := blk_frozen BK.out 0; have hfz1 := blk_frozen BK.out 1))
        go_loopg [20] s.f1.length (fun gk2 v20 w' => ∃ k : Nat, v20 = .int .i64 k ∧ k + gk2 = s.f1.length ∧ Aside0 (Lib.IsBuilderF 98 5 w.heap.size w.heap.size (Lib.byteCells (txt (l0.take j) ++ dT false ++ litsT (s.f1.take k))) w') ∧ Aside0 (Below w.heap.size w w'))
        case atStart => exact ⟨0, rfl, by omega, ⟨by rw [show dT false = [] from rfl, show litsT (s.f1.take 0) = [] from rfl, List.append_nil, List.append_nil]; exact builder_below HD.out (by repeat (first | exact HW5.out | refine below_set ?_ (by rw [GN.out]; exact Nat.le_refl _)))⟩, ⟨(by repeat (first | (with_reducible first | exact HB.out | apply below_alloc | apply pw_below_drewN | apply below_drew1 | refine below_set ?_ GE.out) | exact HB.out))⟩⟩
        case round =>
          clear HB BK GE GN HW5
          (try clear hcz0 hcz1 hfz0 hfz1)
          (try clear HD)
          obtain ⟨k, rfl, hk, HD, HB⟩ := hrel
          by_cases hkl : k < s.f1.length
          · obtain ⟨ad2, e1, hy⟩ := at_num HI.out k hkl
            cases e1
            replace hy := (HB.out.cell (World.block_lt_of_cell? w _ hy)).trans hy
            have q1 : ((k : Int) < (s.f1.length : Int)) = True := eq_true (by omega)
            have q2 : (0 ≤ (k : Int)) = True := eq_true (by omega)
            have hR : RightL (nth s.f1 0 k) := HS.out _ (nth_mem hkl 0)
            have hL := Aside0.mk (lits_snoc hkl)
            have hlen : (txt (l0.take j) ++ dT false ++ litsT (s.f1.take k)).length + (Lib.itoa (nth s.f1 0 k) ++ [32]).length ≤ 140737488355328 := by
              have h1 := lits_le s.f1 (k + 1)
              rw [hL.out] at h1
              have h2 := HX.out
              have h3 := HTx.out
              rw [h3] at h2
              simp only [List.length_append, List.length_cons, List.length_nil] at h1 h2 ⊢
              omega
            unfold RightL at hR
            have HR2 := Aside0.mk hR
            have HL2 := Aside0.mk hlen
            have q3 : (9223372036854775807 < (Lib.itoa (nth s.f1 0 k)).length + 1) = False := eq_false (by simp only [List.length_append, List.length_cons, List.length_nil] at hlen; omega)
            clear hR hlen
            generalize nth s.f1 0 k = y at *
            go_wp2_with (first
              | (go_at_call 49; refine (itoa_any _ (by have := HR2.out; omega) (by have := HR2.out; omega) _ (HE.out.below (by repeat (first | (with_reducible first | exact HB.out | apply below_alloc | apply pw_below_drewN | apply below_drew1) | exact HB.out)))).mono ?_; rintro e wa ⟨rfl, hb⟩; have HD2 := Aside0.mk (builder_below HD.out (by repeat (first | (with_reducible first | exact hb | apply below_alloc | apply pw_below_drewN | apply below_drew1) | exact hb))); clear HD; have HD := HD2; clear HD2; have HB2 := Aside0.mk (below_step (by repeat (first | (with_reducible first | exact HB.out | apply below_alloc | apply pw_below_drewN | apply below_drew1) | exact HB.out)) hb); clear HB; have HB := HB2; clear HB2 hb)
              | (go_at_call 48; rw [bytes_add _ [32]]; go_loud (with_reducible refine (write_any w.heap.size w.heap.size _ ⟨(Lib.itoa y ++ [32]).toArray⟩ _ HD.out (by rw [Lib.byteCells_length, size_list]; exact HL2.out) HB.out.size).mono ?_); rintro e wb ⟨rfl, h1, b1, k1⟩; have HB2 := Aside0.mk (HB.out.trans b1); clear HB; have HB := HB2; clear HB2 HD; have HD : Aside0 (Lib.IsBuilderF 98 5 w.heap.size w.heap.size (Lib.byteCells (txt (l0.take j) ++ dT false ++ litsT (s.f1.take (k + 1)))) wb) := ⟨.inr (by rw [hL.out, ← List.append_assoc, Lib.byteCells_append]; rw [strCells_list] at h1; with_reducible exact h1)⟩; clear h1 b1 k1))
            go_roundg (s.f1.length - (k + 1))
            case measure => omega
            case rel => exact ⟨k + 1, by go_num, by omega, HD, HB⟩
          · have q1 : ((k : Int) < (s.f1.length : Int)) = False := eq_false (by omega)
            have hT2 : s.f1.take k = s.f1 := List.take_of_length_le (by omega)
            have HD2 := HD.out
            rw [hT2] at HD2
            have HD3 := Aside0.mk HD2
            clear HD2 HD hT2
            have hlen : (txt (l0.take j) ++ dT false ++ litsT s.f1).length + 2 ≤ 140737488355328 := by
              have h2 := HX.out
              have h3 := HTx.out
              rw [h3] at h2
              simp only [List.length_append, List.length_cons, List.length_nil] at h2 ⊢
              omega
            have HL2 := Aside0.mk hlen
            clear hlen
            go_wp2_with (first
              | (go_at_call 48; refine (write_any w.heap.size w.heap.size _ ⟨[48, 10].toArray⟩ _ HD3.out (by rw [Lib.byteCells_length, size_list]; exact HL2.out) HB.out.size).mono ?_; rintro e wb ⟨rfl, h1, b1, k1⟩; have HB2 := Aside0.mk (HB.out.trans b1); clear HB; have HB := HB2; clear HB2; have HD : Aside0 (Lib.IsBuilderF 98 5 w.heap.size w.heap.size (Lib.byteCells (txt (l0.take (j + 1)))) wb) := ⟨.inr (by rw [HTx.out, Lib.byteCells_append]; rw [strCells_list] at h1; with_reducible exact h1)⟩; clear h1 b1 k1))
            go_roundg (l0.length - (j + 1))
            case measure => omega
            case rel => exact ⟨j + 1, by go_num, by omega, HD, HB⟩
      · rw [hd] at hx0
        have HTx2 := HTx.out
        rw [hd] at HTx2
        have HTx := Aside0.mk HTx2
        have hlen : (txt (l0.take j)).length + 2 ≤ 140737488355328 := by
          have h2 := HX.out
          rw [HTx2] at h2
          simp only [List.length_append, List.length_cons, List.length_nil] at h2
          omega
        have HL0 := Aside0.mk hlen
        have HWS := Aside0.mk (builder_lt HD.out)
        clear HTx2 hd hlen
        go_wp2_with (first | ((with_reducible refine gate_dst (N := 5) rfl ?_); refine box_event ?hg (N := 5) ?hd (cs := #[.bool false, .slice none 0 0]) (t := 41) ?hr ?_; (case hd => rfl); (case hg => rfl); (case hr => first | (go_simp; done) | (go_simp; rfl)); intro gb hg w5 hbox hb; have GE := Aside0.mk ((by rw [hg]; exact (below_size (by repeat (first | (with_reducible first | exact HB.out | apply below_alloc | apply pw_below_drewN | apply below_drew1) | exact HB.out)))) : w.heap.size ≤ gb); have GN := Aside0.mk hg; have HW5 := Aside0.mk hb; have n0_ := Aside0.mk (below_step (by repeat (first | (with_reducible first | exact HB.out | apply below_alloc | apply pw_below_drewN | apply below_drew1) | exact HB.out)) hb); have BK := Aside0.mk hbox; clear HB; have HB := n0_; clear n0_ hb hbox hg; have hcz0 : w5.cell? ⟨gb, 0, none⟩ = some (.bool false) := (blk_cell BK.out 0).trans rfl; have hcz1 : w5.cell? ⟨gb, 1, none⟩ = some (.slice none 0 0) := (blk_cell BK.out 1).trans rfl; have hfz0 := blk_frozen BK.out 0; have hfz1 := blk_frozen BK.out 1) | (go_at_call 48; refine (write_any w.heap.size w.heap.size _ ⟨[100, 32].toArray⟩ _ (builder_below HD.out (by repeat (first | exact HW5.out | refine below_set ?_ (by rw [GN.out]; exact Nat.le_refl _)))) (by rw [Lib.byteCells_length, size_list]; exact HL0.out) (Nat.le_trans HB.out.size (by simp))).mono ?_))
        rintro e wb ⟨rfl, h1, b1, k1⟩
        have hgb := k1 gb _ (blk_put (cs := #[.bool true, .slice none 0 0]) (blk_put (cs := #[.bool false, .slice none 0 0]) BK.out 0 _ rfl) 1 _ rfl) (by intro h; injection h with h; have := GN.out; have := HWS.out; omega) (by intro c fz h; cases h)
        have HB2 : Aside0 (Below w.heap.size w wb) := ⟨Below.trans (by repeat (first | (with_reducible first | exact HB.out | apply below_alloc | apply pw_below_drewN | apply below_drew1 | refine below_set ?_ GE.out) | exact HB.out)) b1⟩
        clear HB
        have HB := HB2
        clear HB2 HD
        have HD : Aside0 (Lib.IsBuilderF 98 5 w.heap.size w.heap.size (Lib.byteCells (txt (l0.take j) ++ dT true)) wb) := ⟨.inr (by rw [show dT true = [100, 32] from rfl, Lib.byteCells_append]; rw [strCells_list] at h1; with_reducible exact h1)⟩
        have hz1 : wb.cell? ⟨gb, 1, none⟩ = some (.slice A1 s.f1.length c1) := (blk_cell hgb 1).trans rfl
        clear h1 b1 k1 hgb
        go_wp2
        go_loopg [20] s.f1.length (fun gk2 v20 w' => ∃ k : Nat, v20 = .int .i64 k ∧ k + gk2 = s.f1.length ∧ Aside0 (Lib.IsBuilderF 98 5 w.heap.size w.heap.size (Lib.byteCells (txt (l0.take j) ++ dT true ++ litsT (s.f1.take k))) w') ∧ Aside0 (Below w.heap.size w w'))
        case atStart => exact ⟨0, rfl, by omega, ⟨by rw [show litsT (s.f1.take 0) = [] from rfl, List.append_nil]; exact HD.out⟩, ⟨(by repeat (first | (with_reducible first | exact HB.out | apply below_alloc | apply pw_below_drewN | apply below_drew1 | refine below_set ?_ GE.out) | exact HB.out))⟩⟩
        case round =>
          clear HB BK GE GN HW5
          (try clear hcz0 hcz1 hfz0 hfz1)
          (try clear HD)
          obtain ⟨k, rfl, hk, HD, HB⟩ := hrel
          by_cases hkl : k < s.f1.length
          · obtain ⟨ad2, e1, hy⟩ := at_num HI.out k hkl
            cases e1
            replace hy := (HB.out.cell (World.block_lt_of_cell? w _ hy)).trans hy
            have q1 : ((k : Int) < (s.f1.length : Int)) = True := eq_true (by omega)
            have q2 : (0 ≤ (k : Int)) = True := eq_true (by omega)
            have hR : RightL (nth s.f1 0 k) := HS.out _ (nth_mem hkl 0)
            have hL := Aside0.mk (lits_snoc hkl)
            have hlen : (txt (l0.take j) ++ dT true ++ litsT (s.f1.take k)).length + (Lib.itoa (nth s.f1 0 k) ++ [32]).length ≤ 140737488355328 := by
              have h1 := lits_le s.f1 (k + 1)
              rw [hL.out] at h1
              have h2 := HX.out
              have h3 := HTx.out
              rw [h3] at h2
              simp only [List.length_append, List.length_cons, List.length_nil] at h1 h2 ⊢
              omega
            unfold RightL at hR
            have HR2 := Aside0.mk hR
            have HL2 := Aside0.mk hlen
            have q3 : (9223372036854775807 < (Lib.itoa (nth s.f1 0 k)).length + 1) = False := eq_false (by simp only [List.length_append, List.length_cons, List.length_nil] at hlen; omega)
            clear hR hlen
            generalize nth s.f1 0 k = y at *
            go_wp2_with (first
              | (go_at_call 49; refine (itoa_any _ (by have := HR2.out; omega) (by have := HR2.out; omega) _ (HE.out.below (by repeat (first | (with_reducible first | exact HB.out | apply below_alloc | apply pw_below_drewN | apply below_drew1) | exact HB.out)))).mono ?_; rintro e wa ⟨rfl, hb⟩; have HD2 := Aside0.mk (builder_below HD.out (by repeat (first | (with_reducible first | exact hb | apply below_alloc | apply pw_below_drewN | apply below_drew1) | exact hb))); clear HD; have HD := HD2; clear HD2; have HB2 := Aside0.mk (below_step (by repeat (first | (with_reducible first | exact HB.out | apply below_alloc | apply pw_below_drewN | apply below_drew1) | exact HB.out)) hb); clear HB; have HB := HB2; clear HB2 hb)
              | (go_at_call 48; rw [bytes_add _ [32]]; go_loud (with_reducible refine (write_any w.heap.size w.heap.size _ ⟨(Lib.itoa y ++ [32]).toArray⟩ _ HD.out (by rw [Lib.byteCells_length, size_list]; exact HL2.out) HB.out.size).mono ?_); rintro e wb ⟨rfl, h1, b1, k1⟩; have HB2 := Aside0.mk (HB.out.trans b1); clear HB; have HB := HB2; clear HB2 HD; have HD : Aside0 (Lib.IsBuilderF 98 5 w.heap.size w.heap.size (Lib.byteCells (txt (l0.take j) ++ dT true ++ litsT (s.f1.take (k + 1)))) wb) := ⟨.inr (by rw [hL.out, ← List.append_assoc, Lib.byteCells_append]; rw [strCells_list] at h1; with_reducible exact h1)⟩; clear h1 b1 k1))
            go_roundg (s.f1.length - (k + 1))
            case measure => omega
            case rel => exact ⟨k + 1, by go_num, by omega, HD, HB⟩
          · have q1 : ((k : Int) < (s.f1.length : Int)) = False := eq_false (by omega)
            have hT2 : s.f1.take k = s.f1 := List.take_of_length_le (by omega)
            have HD2 := HD.out
            rw [hT2] at HD2
            have HD3 := Aside0.mk HD2
            clear HD2 HD hT2
            have hlen : (txt (l0.take j) ++ dT true ++ litsT s.f1).length + 2 ≤ 140737488355328 := by
              have h2 := HX.out
              have h3 := HTx.out
              rw [h3] at h2
              simp only [List.length_append, List.length_cons, List.length_nil] at h2 ⊢
              omega
            have HL2 := Aside0.mk hlen
            clear hlen
            go_wp2_with (first
              | (go_at_call 48; refine (write_any w.heap.size w.heap.size _ ⟨[48, 10].toArray⟩ _ HD3.out (by rw [Lib.byteCells_length, size_list]; exact HL2.out) HB.out.size).mono ?_; rintro e wb ⟨rfl, h1, b1, k1⟩; have HB2 := Aside0.mk (HB.out.trans b1); clear HB; have HB := HB2; clear HB2; have HD : Aside0 (Lib.IsBuilderF 98 5 w.heap.size w.heap.size (Lib.byteCells (txt (l0.take (j + 1)))) wb) := ⟨.inr (by rw [HTx.out, Lib.byteCells_append]; rw [strCells_list] at h1; with_reducible exact h1)⟩; clear h1 b1 k1))
            go_roundg (l0.length - (j + 1))
            case measure => omega
            case rel => exact ⟨j + 1, by go_num, by omega, HD, HB⟩
    · have q1 : ((j : Int) < (l0.length : Int)) = False := eq_false (by omega)
      have hT : l0.take j = l0 := List.take_of_length_le (by omega)
      have HD2 := HD.out
      rw [hT] at HD2
      have HD3 := Aside0.mk HD2
      clear HD2 HD hT
      go_wp2_with (first
        | (go_at_call 50; refine (Tryz.Builder_String_any_k w.heap.size w.heap.size _ _ HD3.out HB.out.size).mono ?_; rintro e wb ⟨rfl, h1, b1, k1⟩; have HB2 := Aside0.mk (HB.out.trans b1); clear HB; have HB := HB2; clear HB2))
      go_ret
      exact ⟨rfl, HB.out⟩

end Go.Proofs.YtcblijcalhaffaaGreatDoor
namespace Go.Proofs.YtcblijcalhaffaaGreatDoor
open Go Go.RowKit Go.Proofs.YtcblijcalhaffaaGreatDoorW.PrintWords Go.Proofs.YtcblijcalhaffaaGreatDoorW.PrintLast Go.Proofs.YtcblijcalhaffaaGreatDoorW.PrintMore PCheckSound

theorem byte_inf : (Tryz.prog.info? 5).map (fun i => (i.zero, i.size, i.bytes)) = some (some (.int .u8 0), 1, 1) := by kernel_rfl
/-- Bytes as numbers. -/
def bts (l : List UInt8) : List Int := l.map fun b => (b.toNat : Int)
theorem bts_length (l : List UInt8) : (bts l).length = l.length := by simp [bts]
theorem bts_append (a b : List UInt8) : bts (a ++ b) = bts a ++ bts b := by simp [bts]
def bin (l : List S41) : List UInt8 := binT (l.map toP)
def litB (ls : List Int) : List UInt8 := ls.flatMap fun l => encN (numL l)
def dB (d : Bool) : UInt8 := if d then 100 else 97
theorem bin_snoc {l : List S41} {j : Nat} (h : j < l.length) : bin (l.take (j + 1)) = bin (l.take j) ++ [dB (nth l z41 j).f0] ++ litB (nth l z41 j).f1 ++ [0] := by
  unfold bin
  rw [take_snoc h z41, List.map_append, binT_append]
  simp [binT, stepB, toP, dB, litB, List.append_assoc]
theorem take_flat_len {α β : Type} (f : α → List β) (xs : List α) (j : Nat) : ((xs.take j).flatMap f).length ≤ (xs.flatMap f).length := by
  have h := congrArg (fun l => (l.flatMap f).length) (List.take_append_drop j xs)
  simp only [List.flatMap_append, List.length_append] at h
  omega
theorem bin_le (l : List S41) (j : Nat) : (bin (l.take j)).length ≤ (bin l).length := by
  unfold bin binT
  rw [List.map_take]
  exact take_flat_len _ _ _
theorem litB_snoc {l : List Int} {j : Nat} (h : j < l.length) : litB (l.take (j + 1)) = litB (l.take j) ++ encN (numL (nth l 0 j)) := by
  unfold litB
  rw [take_snoc h 0, List.flatMap_append]
  simp
theorem litB_le (l : List Int) (j : Nat) : (litB (l.take j)).length ≤ (litB l).length := take_flat_len _ _ _
theorem or128 (n : Nat) : Go.bits .or .u8 ((n : Int) % 256) 128 = ((n % 128 + 128 : Nat) : Int) := by
  have key : ∀ m : Fin 256, Go.bits .or .u8 (m.val : Int) 128 = ((m.val % 128 + 128 : Nat) : Int) := by decide +kernel
  have h := key ⟨n % 256, by omega⟩
  simp only at h
  rw [show ((n : Int) % 256) = ((n % 256 : Nat) : Int) by omega, h]
  omega
theorem byte_num (n : Nat) (h : n < 256) : bts [UInt8.ofNat n] = [(n : Int)] := by
  simp only [bts, List.map_cons, List.map_nil, UInt8.toNat_ofNat', List.cons.injEq, and_true]
  omega

set_option maxRecDepth 100000 in
set_option maxHeartbeats 1600000 in
theorem index_any (l : Int) (h : RightL l) (w : World) : Calls Tryz.prog 67 #[.int .i64 l] w (Said w (.int .i64 ((numL l : Int) - 2))) := by
  obtain ⟨h0, h1, h2⟩ := h
  by_cases hn : l < 0
  · have e : ((numL l : Nat) : Int) - 2 = 2 * (-l - 1) + 1 := by unfold numL; rw [if_pos hn]; omega
    rw [e]
    clear e
    have q1 : (l < 0) = True := eq_true hn
    go_enter Tryz.func67, Tryz.ntmps67
    go_wp2
    go_ret
    exact ⟨rfl, Below.refl _ _⟩
  · have e : ((numL l : Nat) : Int) - 2 = 2 * (l - 1) := by unfold numL; rw [if_neg hn]; omega
    rw [e]
    clear e
    have q1 : (l < 0) = False := eq_false hn
    go_enter Tryz.func67, Tryz.ntmps67
    go_wp2
    go_ret
    exact ⟨rfl, Below.refl _ _⟩
theorem numL_bd {l : Int} (h : RightL l) : 2 ≤ numL l ∧ numL l ≤ 200001 := by
  unfold RightL at h
  unfold numL
  split <;> omega
set_option maxRecDepth 100000 in
set_option maxHeartbeats 1600000 in
theorem number_any (l : Int) (h : RightL l) (w : World) : Calls Tryz.prog 51 #[.int .i64 l] w (Said w (.int .i64 (numL l))) := by
  have C := index_any l h w
  have hb := numL_bd h
  generalize numL l = n at *
  clear h
  have e : (n : Int) - 2 + 2 = n := by omega
  go_enter Tryz.func51, Tryz.ntmps51
  go_wp2_with (first | (go_at_call 67; refine C.mono ?_; rintro e w1 ⟨rfl, HB⟩))
  go_ret
  exact ⟨by rw [show (n : Int) = (n : Int) - 2 + 2 by omega]; rfl, HB⟩

set_option maxRecDepth 100000 in
set_option maxHeartbeats 3200000 in
theorem dr_binary (A0 : Option Addr) (c0 : Nat) (l0 : List S41) (w : World) (hr : Kd.C k41 w A0 l0.length l0) (hS : RightS l0) (hX : (bin l0).length ≤ 140737488355000) :
    Calls Tryz.prog 29 #[.slice A0 l0.length c0] w fun e w' => ∃ v : Value, e = .returned v ∧ Kd.R (Kd.int .u8) 5 w' w.heap.size (fun _ => True) v (bts (bin l0)) ∧ Below w.heap.size w w' := by
  have hm := hr.2.1
  have hu := Tryz.underlying41
  have HR := Aside0.mk hr
  have HSS := Aside0.mk hS
  have HXX := Aside0.mk hX
  clear hr hS hX
  go_enter Tryz.func29, Tryz.ntmps29
  go_wp2
  go_loopg [3, 12] l0.length (fun gk v3 v12 w' => ∃ j : Nat, v12 = .int .i64 j ∧ j + gk = l0.length ∧ Aside0 (Kd.R (Kd.int .u8) 5 w' w.heap.size (fun _ => True) v3 (bts (bin (l0.take j)))) ∧ Aside0 (Below w.heap.size w w'))
  case atStart => exact ⟨0, rfl, by omega, ⟨Kd.R_nil _ _ _ _ _⟩, ⟨Below.refl _ _⟩⟩
  case round =>
    obtain ⟨j, rfl, hj, HO, HB⟩ := hrel
    by_cases hjl : j < l0.length
    · obtain ⟨ad, A1, c1, e0, hx0, hx1, hl1, hi1⟩ := at_step HR.out j hjl
      cases e0
      replace hx0 := (HB.out.cell (World.block_lt_of_cell? w _ hx0)).trans hx0
      replace hx1 := (HB.out.cell (World.block_lt_of_cell? w _ hx1)).trans hx1
      have HI := Aside0.mk hi1
      have hm2 := hi1.2.1
      have HS := Aside0.mk (HSS.out _ (nth_mem hjl z41))
      have q1 : ((j : Int) < (l0.length : Int)) = True := eq_true (by omega)
      have q2 : (0 ≤ (j : Int)) = True := eq_true (by omega)
      have HTx := Aside0.mk (bin_snoc hjl)
      have HX := Aside0.mk (Nat.le_trans (bin_le l0 (j + 1)) HXX.out)
      clear hi1 hl1
      generalize nth l0 z41 j = s at *
      generalize bin (l0.take j) = T at *
      cases hd : s.f0
      · rw [hd] at hx0
        have HTx2 := HTx.out
        rw [hd] at HTx2
        have HTx := Aside0.mk HTx2
        have hlen : T.length + 1 ≤ 140737488355000 := by
          have h2 := HX.out
          rw [HTx2] at h2
          simp only [List.length_append, List.length_cons, List.length_nil] at h2
          omega
        have HL0 := Aside0.mk hlen
        clear HTx2 hd hlen
        go_wp2_with (first | ((with_reducible refine gate_dst (N := 5) rfl ?_); refine box_event ?hg (N := 5) ?hd (cs := #[.bool false, .slice none 0 0]) (t := 41) ?hr ?_; (case hd => rfl); (case hg => rfl); (case hr => first | (go_simp; done) | (go_simp; rfl)); intro gb hg w5 hbox hb; have GE := Aside0.mk ((by rw [hg]; exact (below_size (by repeat (first | (with_reducible first | exact HB.out | apply below_alloc | apply pw_below_drewN | apply below_drew1) | exact HB.out)))) : w.heap.size ≤ gb); have GN := Aside0.mk hg; have HW5 := Aside0.mk hb; have n0_ := Aside0.mk (below_step (by repeat (first | (with_reducible first | exact HB.out | apply below_alloc | apply pw_below_drewN | apply below_drew1) | exact HB.out)) hb); have BK := Aside0.mk hbox; clear HB; have HB := n0_; clear n0_ hb hbox hg; have hcz0 : w5.cell? ⟨gb, 0, none⟩ = some (.bool false) := (blk_cell BK.out 0).trans rfl; have hcz1 : w5.cell? ⟨gb, 1, none⟩ = some (.slice none 0 0) := (blk_cell BK.out 1).trans rfl; have hfz0 := blk_frozen BK.out 0; have hfz1 := blk_frozen BK.out 1) | ((with_reducible refine gate_builtin (b := .append) (xs := #[.tmp 18, .tmp 20]) rfl ?_); at_builtin; refine Kd.R_append (Kd.int .u8) (w0 := w) w.heap.size rfl (.tmp 18) (.tmp 20) 53 5 (.int .u8 0) 1 rfl Tryz.underlying53 byte_inf rfl (by decide) (by decide) _ (bts (T)) 97 [.int .u8 97] (fun _ => True) (fun _ => False) rfl ?aX rfl (fun _ hk => hk.elim) (fun _ _ => trivial) ?aO ?aB ?aS ?aL ?_; (case aX => first | rfl | (simp [Act.eval]; done) | (go_simp; done)); (case aO => exact (Kd.R_below HO.out (by repeat (first | exact HW5.out | refine below_set ?_ (by rw [GN.out]; exact Nat.le_refl _))))); (case aB => exact (by repeat (first | (with_reducible first | exact HB.out | apply below_alloc | apply pw_below_drewN | apply below_drew1 | refine below_set ?_ GE.out) | exact HB.out))); (case aS => exact (below_size (by repeat (first | (with_reducible first | exact HB.out | apply below_alloc | apply pw_below_drewN | apply below_drew1 | refine below_set ?_ GE.out) | exact HB.out)))); (case aL => rw [bts_length]; have := HL0.out; omega)))
        intro v1 w1 ho hb hg hat
        have hgb := blk_grown (g := gb) (o := .cells #[.bool false, .slice A1 s.f1.length c1] 41 (0, 0)) (blk_put (cs := #[.bool false, .slice none 0 0]) (blk_put (cs := #[.bool false, .slice none 0 0]) BK.out 0 (.bool false) rfl) 1 (.slice A1 s.f1.length c1) rfl) hg (Kd.R_ne (Kd.R_below HO.out (by repeat (first | exact HW5.out | refine below_set ?_ (by rw [GN.out]; exact Nat.le_refl _)))) (blk_put (cs := #[.bool false, .slice none 0 0]) (blk_put (cs := #[.bool false, .slice none 0 0]) BK.out 0 (.bool false) rfl) 1 (.slice A1 s.f1.length c1) rfl) (by decide))
        have HO2 : Aside0 (Kd.R (Kd.int .u8) 5 w1 w.heap.size (fun _ => True) v1 (bts (T ++ [dB false]))) := ⟨by rw [bts_append]; exact ho⟩
        have HB2 := Aside0.mk hb
        clear HO HB
        have HO := HO2
        have HB := HB2
        clear HO2 HB2
        have hz1 : w1.cell? ⟨gb, 1, none⟩ = some (.slice A1 s.f1.length c1) := (blk_cell hgb 1).trans rfl
        clear ho hb hg hat hgb; go_wp2
        clear BK GE GN HW5
        (try clear hcz0 hcz1 hfz0 hfz1 hz1)
        go_loopg [3, 25] s.f1.length (fun gk2 v3 v25 w' => ∃ k : Nat, v25 = .int .i64 k ∧ k + gk2 = s.f1.length ∧ Aside0 (Kd.R (Kd.int .u8) 5 w' w.heap.size (fun _ => True) v3 (bts (T ++ [dB false] ++ litB (s.f1.take k)))) ∧ Aside0 (Below w.heap.size w w'))
        case atStart => exact ⟨0, rfl, by omega, ⟨by rw [show litB (s.f1.take 0) = [] from rfl, List.append_nil]; exact HO.out⟩, HB⟩
        case round =>
          clear HB HO
          obtain ⟨k, rfl, hk, HO, HB⟩ := hrel
          by_cases hkl : k < s.f1.length
          · obtain ⟨ad2, e1, hy⟩ := at_num HI.out k hkl
            cases e1
            replace hy := (HB.out.cell (World.block_lt_of_cell? w _ hy)).trans hy
            have q1 : ((k : Int) < (s.f1.length : Int)) = True := eq_true (by omega)
            have q2 : (0 ≤ (k : Int)) = True := eq_true (by omega)
            have hR : RightL (nth s.f1 0 k) := HS.out _ (nth_mem hkl 0)
            have hL := Aside0.mk (litB_snoc hkl)
            have hlen : (T ++ [dB false] ++ litB (s.f1.take k)).length + (encN (numL (nth s.f1 0 k))).length ≤ 140737488355000 := by
              have h1 := litB_le s.f1 (k + 1)
              rw [hL.out] at h1
              have h2 := HX.out
              have h3 := HTx.out
              rw [h3] at h2
              simp only [List.length_append, List.length_cons, List.length_nil] at h1 h2 ⊢
              omega
            have HL2 := Aside0.mk hlen
            have HR2 := Aside0.mk hR
            have hnb := numL_bd hR
            clear hR hlen
            generalize nth s.f1 0 k = y at *
            have HN : Aside0 (T ++ [dB false] ++ litB (s.f1.take k) ++ encN (numL y) = T ++ [dB false] ++ litB (s.f1.take (k + 1))) := ⟨by rw [hL.out, List.append_assoc]⟩
            go_wp2_with (first
              | (go_at_call 51; refine (number_any _ HR2.out _).mono ?_; rintro e wa ⟨rfl, hb⟩; have HO2 := Aside0.mk (Kd.R_below (by (with_reducible repeat (first | apply Kd.R_alloc | apply Kd.R_drewN | apply Kd.R_drew)); exact HO.out) hb); clear HO; have HO := HO2; clear HO2; have HB2 := Aside0.mk (below_step (by repeat (first | (with_reducible first | exact HB.out | apply below_alloc | apply pw_below_drewN | apply below_drew1) | exact HB.out)) hb); clear HB; have HB := HB2; clear HB2 hb))
            have hq := HL2.out
            generalize litB (s.f1.take k) = Z at *
            generalize numL y = n0 at *
            go_loopg [3, 9] n0 (fun n v3 v9 w' => v9 = .int .i64 (n : Int) ∧ n ≤ 200001 ∧ ∃ U : List UInt8, Aside0 (U ++ encN n = T ++ [dB false] ++ litB (s.f1.take (k + 1))) ∧ Aside0 (U.length + (encN n).length ≤ 140737488355000) ∧ Aside0 (Kd.R (Kd.int .u8) 5 w' w.heap.size (fun _ => True) v3 (bts (U))) ∧ Aside0 (Below w.heap.size w w'))
            case atStart => exact ⟨rfl, hnb.2, _, HN, ⟨hq⟩, HO, HB⟩
            case round =>
              clear HB HO hq
              obtain ⟨rfl, hn2, U, HU, HUL, HO, HB⟩ := hrel
              by_cases hb : gk < 128
              · have q5 : ((128 : Int) ≤ (gk : Int)) = False := eq_false (by omega)
                have hU := HU.out
                have hUL := HUL.out
                rw [encN_small hb] at hU hUL
                simp only [List.length_cons, List.length_nil] at hUL
                have hmod : ((gk : Int) % 256) = (gk : Int) := by omega
                have HU2 := Aside0.mk hU
                have HHb := Aside0.mk hb
                clear hU HU hb
                go_wp2_with (first | ((with_reducible refine gate_builtin (b := .append) (xs := #[.tmp 41, .tmp 44]) rfl ?_); at_builtin; refine Kd.R_append (Kd.int .u8) (w0 := w) w.heap.size rfl (.tmp 41) (.tmp 44) 53 5 (.int .u8 0) 1 rfl Tryz.underlying53 byte_inf rfl (by decide) (by decide) _ (bts (U)) (gk : Int) [.int .u8 (gk : Int)] (fun _ => True) (fun _ => False) rfl ?aX rfl (fun _ hk => hk.elim) (fun _ _ => trivial) ?aO ?aB ?aS ?aL ?_; (case aX => first | rfl | (simp [Act.eval]; done) | (go_simp; done)); (case aO => exact HO.out); (case aB => exact HB.out); (case aS => exact (below_size HB.out)); (case aL => rw [bts_length]; omega)))
                intro v1 w1 ho hb hg hat
                have HO2 : Aside0 (Kd.R (Kd.int .u8) 5 w1 w.heap.size (fun _ => True) v1 (bts (T ++ [dB false] ++ litB (s.f1.take (k + 1))))) := ⟨by rw [← HU2.out, bts_append, byte_num gk (by have := HHb.out; omega)]; exact ho⟩
                have HB2 := Aside0.mk hb
                clear HO HB
                have HO := HO2
                have HB := HB2
                clear HO2 HB2 ho hb hg hat; go_wp2
                go_roundg (s.f1.length - (k + 1))
                case measure => omega
                case rel => exact ⟨k + 1, by go_num, by omega, HO, HB⟩
              · have q5 : ((128 : Int) ≤ (gk : Int)) = True := eq_true (by omega)
                have hU := HU.out
                have hUL := HUL.out
                rw [encN_big hb] at hU hUL
                simp only [List.length_cons] at hUL
                have hor := or128 gk
                have HU2 := Aside0.mk hU
                clear hU HU
                have hd : ((gk : Int) / 128) = ((gk / 128 : Nat) : Int) := by omega
                have Hd := Aside0.mk hd
                clear hd
                go_wp2_with (first | ((with_reducible refine gate_builtin (b := .append) (xs := #[.tmp 35, .tmp 39]) rfl ?_); at_builtin; refine Kd.R_append (Kd.int .u8) (w0 := w) w.heap.size rfl (.tmp 35) (.tmp 39) 53 5 (.int .u8 0) 1 rfl Tryz.underlying53 byte_inf rfl (by decide) (by decide) _ (bts (U)) ((gk % 128 + 128 : Nat) : Int) [.int .u8 ((gk % 128 + 128 : Nat) : Int)] (fun _ => True) (fun _ => False) rfl ?aX rfl (fun _ hk => hk.elim) (fun _ _ => trivial) ?aO ?aB ?aS ?aL ?_; (case aX => first | rfl | (simp [Act.eval]; done) | (go_simp; done)); (case aO => exact HO.out); (case aB => exact HB.out); (case aS => exact (below_size HB.out)); (case aL => rw [bts_length]; omega)))
                intro v1 w1 ho hb hg hat
                have HO2 : Aside0 (Kd.R (Kd.int .u8) 5 w1 w.heap.size (fun _ => True) v1 (bts (U ++ [UInt8.ofNat (gk % 128 + 128)]))) := ⟨by rw [bts_append, byte_num (gk % 128 + 128) (by omega)]; exact ho⟩
                have HB2 := Aside0.mk hb
                clear HO HB
                have HO := HO2
                have HB := HB2
                clear HO2 HB2 ho hb hg hat; go_wp2
                go_roundg (gk / 128)
                case measure => omega
                case rel => exact ⟨by first | rfl | (rw [← Hd.out]), by omega, _, ⟨by rw [List.append_assoc]; exact HU2.out⟩, ⟨by simp only [List.length_append, List.length_cons, List.length_nil]; omega⟩, HO, HB⟩
          · have q1 : ((k : Int) < (s.f1.length : Int)) = False := eq_false (by omega)
            have hT2 : s.f1.take k = s.f1 := List.take_of_length_le (by omega)
            have HO2 := HO.out
            rw [hT2] at HO2
            clear HO hT2
            have hlen : (T ++ [dB false] ++ litB s.f1).length + 1 ≤ 140737488355000 := by
              have h2 := HX.out
              have h3 := HTx.out
              rw [h3] at h2
              simp only [List.length_append, List.length_cons, List.length_nil] at h2 ⊢
              omega
            obtain ⟨U, hU⟩ : ∃ U, T ++ [dB false] ++ litB s.f1 = U := ⟨_, rfl⟩
            have HU := Aside0.mk hU
            rw [hU] at hlen HO2
            have HO3 := Aside0.mk HO2
            have HL2 := Aside0.mk hlen
            clear hlen hU HO2
            go_wp2_with (first | ((with_reducible refine gate_builtin (b := .append) (xs := #[.tmp 47, .tmp 48]) rfl ?_); at_builtin; refine Kd.R_append (Kd.int .u8) (w0 := w) w.heap.size rfl (.tmp 47) (.tmp 48) 53 5 (.int .u8 0) 1 rfl Tryz.underlying53 byte_inf rfl (by decide) (by decide) _ (bts (U)) 0 [.int .u8 0] (fun _ => True) (fun _ => False) rfl ?aX rfl (fun _ hk => hk.elim) (fun _ _ => trivial) ?aO ?aB ?aS ?aL ?_; (case aX => first | rfl | (simp [Act.eval]; done) | (go_simp; done)); (case aO => exact HO3.out); (case aB => exact HB.out); (case aS => exact (below_size HB.out)); (case aL => rw [bts_length]; have := HL2.out; omega)))
            intro v1 w1 ho hb hg hat
            have HO : Aside0 (Kd.R (Kd.int .u8) 5 w1 w.heap.size (fun _ => True) v1 (bts (bin (l0.take (j + 1))))) := ⟨by rw [HTx.out, HU.out, bts_append]; exact ho⟩
            have HB2 := Aside0.mk hb
            clear HO3 HB
            have HB := HB2
            clear HB2 ho hb hg hat; go_wp2
            go_roundg (l0.length - (j + 1))
            case measure => omega
            case rel => exact ⟨j + 1, by go_num, by omega, HO, HB⟩
      · rw [hd] at hx0
        have HTx2 := HTx.out
        rw [hd] at HTx2
        have HTx := Aside0.mk HTx2
        have hlen : T.length + 1 ≤ 140737488355000 := by
          have h2 := HX.out
          rw [HTx2] at h2
          simp only [List.length_append, List.length_cons, List.length_nil] at h2
          omega
        have HL0 := Aside0.mk hlen
        clear HTx2 hd hlen
        go_wp2_with (first | ((with_reducible refine gate_dst (N := 5) rfl ?_); refine box_event ?hg (N := 5) ?hd (cs := #[.bool false, .slice none 0 0]) (t := 41) ?hr ?_; (case hd => rfl); (case hg => rfl); (case hr => first | (go_simp; done) | (go_simp; rfl)); intro gb hg w5 hbox hb; have GE := Aside0.mk ((by rw [hg]; exact (below_size (by repeat (first | (with_reducible first | exact HB.out | apply below_alloc | apply pw_below_drewN | apply below_drew1) | exact HB.out)))) : w.heap.size ≤ gb); have GN := Aside0.mk hg; have HW5 := Aside0.mk hb; have n0_ := Aside0.mk (below_step (by repeat (first | (with_reducible first | exact HB.out | apply below_alloc | apply pw_below_drewN | apply below_drew1) | exact HB.out)) hb); have BK := Aside0.mk hbox; clear HB; have HB := n0_; clear n0_ hb hbox hg; have hcz0 : w5.cell? ⟨gb, 0, none⟩ = some (.bool false) := (blk_cell BK.out 0).trans rfl; have hcz1 : w5.cell? ⟨gb, 1, none⟩ = some (.slice none 0 0) := (blk_cell BK.out 1).trans rfl; have hfz0 := blk_frozen BK.out 0; have hfz1 := blk_frozen BK.out 1) | ((with_reducible refine gate_builtin (b := .append) (xs := #[.tmp 18, .tmp 20]) rfl ?_); at_builtin; refine Kd.R_append (Kd.int .u8) (w0 := w) w.heap.size rfl (.tmp 18) (.tmp 20) 53 5 (.int .u8 0) 1 rfl Tryz.underlying53 byte_inf rfl (by decide) (by decide) _ (bts (T)) 100 [.int .u8 100] (fun _ => True) (fun _ => False) rfl ?aX rfl (fun _ hk => hk.elim) (fun _ _ => trivial) ?aO ?aB ?aS ?aL ?_; (case aX => first | rfl | (simp [Act.eval]; done) | (go_simp; done)); (case aO => exact (Kd.R_below HO.out (by repeat (first | exact HW5.out | refine below_set ?_ (by rw [GN.out]; exact Nat.le_refl _))))); (case aB => exact (by repeat (first | (with_reducible first | exact HB.out | apply below_alloc | apply pw_below_drewN | apply below_drew1 | refine below_set ?_ GE.out) | exact HB.out))); (case aS => exact (below_size (by repeat (first | (with_reducible first | exact HB.out | apply below_alloc | apply pw_below_drewN | apply below_drew1 | refine below_set ?_ GE.out) | exact HB.out)))); (case aL => rw [bts_length]; have := HL0.out; omega)))
        intro v1 w1 ho hb hg hat
        have hgb := blk_grown (g := gb) (o := .cells #[.bool true, .slice A1 s.f1.length c1] 41 (0, 0)) (blk_put (cs := #[.bool true, .slice none 0 0]) (blk_put (cs := #[.bool false, .slice none 0 0]) BK.out 0 (.bool true) rfl) 1 (.slice A1 s.f1.length c1) rfl) hg (Kd.R_ne (Kd.R_below HO.out (by repeat (first | exact HW5.out | refine below_set ?_ (by rw [GN.out]; exact Nat.le_refl _)))) (blk_put (cs := #[.bool true, .slice none 0 0]) (blk_put (cs := #[.bool false, .slice none 0 0]) BK.out 0 (.bool true) rfl) 1 (.slice A1 s.f1.length c1) rfl) (by decide))
        have HO2 : Aside0 (Kd.R (Kd.int .u8) 5 w1 w.heap.size (fun _ => True) v1 (bts (T ++ [dB true]))) := ⟨by rw [bts_append]; exact ho⟩
        have HB2 := Aside0.mk hb
        clear HO HB
        have HO := HO2
        have HB := HB2
        clear HO2 HB2
        have hz1 : w1.cell? ⟨gb, 1, none⟩ = some (.slice A1 s.f1.length c1) := (blk_cell hgb 1).trans rfl
        clear ho hb hg hat hgb; go_wp2
        clear BK GE GN HW5
        (try clear hcz0 hcz1 hfz0 hfz1 hz1)
        go_loopg [3, 25] s.f1.length (fun gk2 v3 v25 w' => ∃ k : Nat, v25 = .int .i64 k ∧ k + gk2 = s.f1.length ∧ Aside0 (Kd.R (Kd.int .u8) 5 w' w.heap.size (fun _ => True) v3 (bts (T ++ [dB true] ++ litB (s.f1.take k)))) ∧ Aside0 (Below w.heap.size w w'))
        case atStart => exact ⟨0, rfl, by omega, ⟨by rw [show litB (s.f1.take 0) = [] from rfl, List.append_nil]; exact HO.out⟩, HB⟩
        case round =>
          clear HB HO
          obtain ⟨k, rfl, hk, HO, HB⟩ := hrel
          by_cases hkl : k < s.f1.length
          · obtain ⟨ad2, e1, hy⟩ := at_num HI.out k hkl
            cases e1
            replace hy := (HB.out.cell (World.block_lt_of_cell? w _ hy)).trans hy
            have q1 : ((k : Int) < (s.f1.length : Int)) = True := eq_true (by omega)
            have q2 : (0 ≤ (k : Int)) = True := eq_true (by omega)
            have hR : RightL (nth s.f1 0 k) := HS.out _ (nth_mem hkl 0)
            have hL := Aside0.mk (litB_snoc hkl)
            have hlen : (T ++ [dB true] ++ litB (s.f1.take k)).length + (encN (numL (nth s.f1 0 k))).length ≤ 140737488355000 := by
              have h1 := litB_le s.f1 (k + 1)
              rw [hL.out] at h1
              have h2 := HX.out
              have h3 := HTx.out
              rw [h3] at h2
              simp only [List.length_append, List.length_cons, List.length_nil] at h1 h2 ⊢
              omega
            have HL2 := Aside0.mk hlen
            have HR2 := Aside0.mk hR
            have hnb := numL_bd hR
            clear hR hlen
            generalize nth s.f1 0 k = y at *
            have HN : Aside0 (T ++ [dB true] ++ litB (s.f1.take k) ++ encN (numL y) = T ++ [dB true] ++ litB (s.f1.take (k + 1))) := ⟨by rw [hL.out, List.append_assoc]⟩
            go_wp2_with (first
              | (go_at_call 51; refine (number_any _ HR2.out _).mono ?_; rintro e wa ⟨rfl, hb⟩; have HO2 := Aside0.mk (Kd.R_below (by (with_reducible repeat (first | apply Kd.R_alloc | apply Kd.R_drewN | apply Kd.R_drew)); exact HO.out) hb); clear HO; have HO := HO2; clear HO2; have HB2 := Aside0.mk (below_step (by repeat (first | (with_reducible first | exact HB.out | apply below_alloc | apply pw_below_drewN | apply below_drew1) | exact HB.out)) hb); clear HB; have HB := HB2; clear HB2 hb))
            have hq := HL2.out
            generalize litB (s.f1.take k) = Z at *
            generalize numL y = n0 at *
            go_loopg [3, 9] n0 (fun n v3 v9 w' => v9 = .int .i64 (n : Int) ∧ n ≤ 200001 ∧ ∃ U : List UInt8, Aside0 (U ++ encN n = T ++ [dB true] ++ litB (s.f1.take (k + 1))) ∧ Aside0 (U.length + (encN n).length ≤ 140737488355000) ∧ Aside0 (Kd.R (Kd.int .u8) 5 w' w.heap.size (fun _ => True) v3 (bts (U))) ∧ Aside0 (Below w.heap.size w w'))
            case atStart => exact ⟨rfl, hnb.2, _, HN, ⟨hq⟩, HO, HB⟩
            case round =>
              clear HB HO hq
              obtain ⟨rfl, hn2, U, HU, HUL, HO, HB⟩ := hrel
              by_cases hb : gk < 128
              · have q5 : ((128 : Int) ≤ (gk : Int)) = False := eq_false (by omega)
                have hU := HU.out
                have hUL := HUL.out
                rw [encN_small hb] at hU hUL
                simp only [List.length_cons, List.length_nil] at hUL
                have hmod : ((gk : Int) % 256) = (gk : Int) := by omega
                have HU2 := Aside0.mk hU
                have HHb := Aside0.mk hb
                clear hU HU hb
                go_wp2_with (first | ((with_reducible refine gate_builtin (b := .append) (xs := #[.tmp 41, .tmp 44]) rfl ?_); at_builtin; refine Kd.R_append (Kd.int .u8) (w0 := w) w.heap.size rfl (.tmp 41) (.tmp 44) 53 5 (.int .u8 0) 1 rfl Tryz.underlying53 byte_inf rfl (by decide) (by decide) _ (bts (U)) (gk : Int) [.int .u8 (gk : Int)] (fun _ => True) (fun _ => False) rfl ?aX rfl (fun _ hk => hk.elim) (fun _ _ => trivial) ?aO ?aB ?aS ?aL ?_; (case aX => first | rfl | (simp [Act.eval]; done) | (go_simp; done)); (case aO => exact HO.out); (case aB => exact HB.out); (case aS => exact (below_size HB.out)); (case aL => rw [bts_length]; omega)))
                intro v1 w1 ho hb hg hat
                have HO2 : Aside0 (Kd.R (Kd.int .u8) 5 w1 w.heap.size (fun _ => True) v1 (bts (T ++ [dB true] ++ litB (s.f1.take (k + 1))))) := ⟨by rw [← HU2.out, bts_append, byte_num gk (by have := HHb.out; omega)]; exact ho⟩
                have HB2 := Aside0.mk hb
                clear HO HB
                have HO := HO2
                have HB := HB2
                clear HO2 HB2 ho hb hg hat; go_wp2
                go_roundg (s.f1.length - (k + 1))
                case measure => omega
                case rel => exact ⟨k + 1, by go_num, by omega, HO, HB⟩
              · have q5 : ((128 : Int) ≤ (gk : Int)) = True := eq_true (by omega)
                have hU := HU.out
                have hUL := HUL.out
                rw [encN_big hb] at hU hUL
                simp only [List.length_cons] at hUL
                have hor := or128 gk
                have HU2 := Aside0.mk hU
                clear hU HU
                have hd : ((gk : Int) / 128) = ((gk / 128 : Nat) : Int) := by omega
                have Hd := Aside0.mk hd
                clear hd
                go_wp2_with (first | ((with_reducible refine gate_builtin (b := .append) (xs := #[.tmp 35, .tmp 39]) rfl ?_); at_builtin; refine Kd.R_append (Kd.int .u8) (w0 := w) w.heap.size rfl (.tmp 35) (.tmp 39) 53 5 (.int .u8 0) 1 rfl Tryz.underlying53 byte_inf rfl (by decide) (by decide) _ (bts (U)) ((gk % 128 + 128 : Nat) : Int) [.int .u8 ((gk % 128 + 128 : Nat) : Int)] (fun _ => True) (fun _ => False) rfl ?aX rfl (fun _ hk => hk.elim) (fun _ _ => trivial) ?aO ?aB ?aS ?aL ?_; (case aX => first | rfl | (simp [Act.eval]; done) | (go_simp; done)); (case aO => exact HO.out); (case aB => exact HB.out); (case aS => exact (below_size HB.out)); (case aL => rw [bts_length]; omega)))
                intro v1 w1 ho hb hg hat
                have HO2 : Aside0 (Kd.R (Kd.int .u8) 5 w1 w.heap.size (fun _ => True) v1 (bts (U ++ [UInt8.ofNat (gk % 128 + 128)]))) := ⟨by rw [bts_append, byte_num (gk % 128 + 128) (by omega)]; exact ho⟩
                have HB2 := Aside0.mk hb
                clear HO HB
                have HO := HO2
                have HB := HB2
                clear HO2 HB2 ho hb hg hat; go_wp2
                go_roundg (gk / 128)
                case measure => omega
                case rel => exact ⟨by first | rfl | (rw [← Hd.out]), by omega, _, ⟨by rw [List.append_assoc]; exact HU2.out⟩, ⟨by simp only [List.length_append, List.length_cons, List.length_nil]; omega⟩, HO, HB⟩
          · have q1 : ((k : Int) < (s.f1.length : Int)) = False := eq_false (by omega)
            have hT2 : s.f1.take k = s.f1 := List.take_of_length_le (by omega)
            have HO2 := HO.out
            rw [hT2] at HO2
            clear HO hT2
            have hlen : (T ++ [dB true] ++ litB s.f1).length + 1 ≤ 140737488355000 := by
              have h2 := HX.out
              have h3 := HTx.out
              rw [h3] at h2
              simp only [List.length_append, List.length_cons, List.length_nil] at h2 ⊢
              omega
            obtain ⟨U, hU⟩ : ∃ U, T ++ [dB true] ++ litB s.f1 = U := ⟨_, rfl⟩
            have HU := Aside0.mk hU
            rw [hU] at hlen HO2
            have HO3 := Aside0.mk HO2
            have HL2 := Aside0.mk hlen
            clear hlen hU HO2
            go_wp2_with (first | ((with_reducible refine gate_builtin (b := .append) (xs := #[.tmp 47, .tmp 48]) rfl ?_); at_builtin; refine Kd.R_append (Kd.int .u8) (w0 := w) w.heap.size rfl (.tmp 47) (.tmp 48) 53 5 (.int .u8 0) 1 rfl Tryz.underlying53 byte_inf rfl (by decide) (by decide) _ (bts (U)) 0 [.int .u8 0] (fun _ => True) (fun _ => False) rfl ?aX rfl (fun _ hk => hk.elim) (fun _ _ => trivial) ?aO ?aB ?aS ?aL ?_; (case aX => first | rfl | (simp [Act.eval]; done) | (go_simp; done)); (case aO => exact HO3.out); (case aB => exact HB.out); (case aS => exact (below_size HB.out)); (case aL => rw [bts_length]; have := HL2.out; omega)))
            intro v1 w1 ho hb hg hat
            have HO : Aside0 (Kd.R (Kd.int .u8) 5 w1 w.heap.size (fun _ => True) v1 (bts (bin (l0.take (j + 1))))) := ⟨by rw [HTx.out, HU.out, bts_append]; exact ho⟩
            have HB2 := Aside0.mk hb
            clear HO3 HB
            have HB := HB2
            clear HB2 ho hb hg hat; go_wp2
            go_roundg (l0.length - (j + 1))
            case measure => omega
            case rel => exact ⟨j + 1, by go_num, by omega, HO, HB⟩
    · have q1 : ((j : Int) < (l0.length : Int)) = False := eq_false (by omega)
      have hT : l0.take j = l0 := List.take_of_length_le (by omega)
      have HO2 := HO.out
      rw [hT] at HO2
      have HO3 := Aside0.mk HO2
      clear HO HO2 hT
      go_wp2
      go_ret
      exact ⟨_, rfl, HO3.out, HB.out⟩

end Go.Proofs.YtcblijcalhaffaaGreatDoor
