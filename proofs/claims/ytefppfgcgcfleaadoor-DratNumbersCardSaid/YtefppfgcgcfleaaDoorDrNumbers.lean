import Derived.Test.YtefppfgcgcfleaaDoorDrNumL
namespace Go.Proofs.YtefppfgcgcfleaaDoor
open Go Go.RowKit Go.Proofs.YtefppfgcgcfleaaDoorW.PrintWords Go.Proofs.YtefppfgcgcfleaaDoorW.PrintLast Go.Proofs.YtefppfgcgcfleaaDoorW.PrintMore PDratJoins

theorem and20 (x : Int) : 0 ≤ Go.bits .and .i64 x 1048575 := by
  unfold Go.bits
  simp only [IntKind.bits]
  show 0 ≤ IntKind.i64.wrap (((BitVec.ofInt 64 x &&& BitVec.ofInt 64 1048575).toNat : Nat) : Int)
  rw [BitVec.toNat_and, show (BitVec.ofInt 64 1048575).toNat = 1048575 from rfl]
  have : (BitVec.ofInt 64 x).toNat &&& 1048575 ≤ 1048575 := Nat.and_le_right
  rw [IntKind.wrap_i64]; omega
theorem rd_at {w : World} {A : Option Addr} {b : List UInt8} (h : Rd w A b) (j : Nat) (c : UInt8) (hj : b[j]? = some c) : ∃ ad, A = some ad ∧ w.cell? (ad.add j) = some (.int .u8 (c.toNat : Int)) := by
  have hl : j < b.length := (List.getElem?_eq_some_iff.1 hj).1
  obtain ⟨ad, e, hc⟩ := at_num h j hl
  refine ⟨ad, e, ?_⟩
  rw [hc]
  simp [nth, bts, hj]
theorem lit_right (n : Int) : ∃ l, PDratJoins.bradawllaw01_Lit.f n = some l ∧ RightL l := by
  have hk : ∀ x : Int, -100000 ≤ x → x ≤ 100000 → wrap64 x = x := fun x h1 h2 => by unfold wrap64; omega
  have hb : 0 ≤ Go.bits .and .i64 (n / 2) 1048575 := and20 (n / 2)
  unfold PDratJoins.bradawllaw01_Lit.f
  generalize Go.bits .and .i64 (n / 2) 1048575 = m at *
  have h1 : 0 ≤ Int.tmod m 100000 := Int.tmod_nonneg _ hb
  have h2 : Int.tmod m 100000 < 100000 := Int.tmod_lt_of_pos _ (by decide)
  split
  · exact ⟨_, rfl, by rw [hk (1 + _) (by omega) (by omega), hk _ (by omega) (by omega)]; unfold RightL; omega⟩
  · exact ⟨_, rfl, by rw [hk (1 + _) (by omega) (by omega)]; unfold RightL; omega⟩
theorem lit_any (n : Int) : ∃ l, RightL l ∧ ∀ w, Calls Tryd.prog 22 #[.int .i64 n] w (Said w (.int .i64 l)) := by
  obtain ⟨l, e, h⟩ := lit_right n
  exact ⟨l, h, fun w => (PDratJoins.bradawllaw01_Lit.calls n l w e).mono fun e w' ⟨h1, h2⟩ => ⟨h1, h2.below⟩⟩

set_option maxRecDepth 100000 in
set_option maxHeartbeats 1600000 in
theorem numbers_1 (n : Int) (del : Bool) (w : World) (E : Env w) (l : Int) (hl : RightL l) (CL : ∀ w, Calls Tryd.prog 22 #[.int .i64 n] w (Said w (.int .i64 l))) (he : (encN (numL l)).length = 1) (h1 : (64 ≤ max l (-l)) = False) (h2 : (8192 ≤ max l (-l)) = False) :
    Calls Tryd.prog 7 #[.int .i64 n, .bool del] w (Said w (.bool true)) := by
  have hu := Tryd.underlying36
  have C0 := fit_any w E
  have hP : RightP [⟨del, [l]⟩] := fun s hs x hx => by
    obtain rfl := List.mem_singleton.1 hs
    obtain rfl := List.mem_singleton.1 hx
    exact hl
  have hsp := spoilt_form del (numL_bd hl).2
  have hb := one_bin del l
  have hpar := parseB_binT hP
  have hlen : (binT [⟨del, [l]⟩]).length = 3 := by rw [hb]; simp [he]
  have HC : ∀ w1, Below w.heap.size w w1 → PC ((w1.alloc (.cells #[.int .i64 l] 3)).alloc (.cells #[.bool del, .slice (some ⟨w1.heap.size, 0, none⟩) 1 1] 36)) (some ⟨w1.heap.size + 1, 0, none⟩) [⟨del, [l]⟩] := by
    intro w1 _
    have hbA : ((w1.alloc (.cells #[.int .i64 l] 3)).alloc (.cells #[.bool del, .slice (some ⟨w1.heap.size, 0, none⟩) 1 1] 36)).heap[w1.heap.size]? = some (.cells (nums .i64 [l]).toArray 3 (0, 0)) := blk_alloc (blk_new w1 _) _
    have hbB := blk_new (w1.alloc (.cells #[.int .i64 l] 3)) (.cells #[.bool del, .slice (some ⟨w1.heap.size, 0, none⟩) 1 1] 36)
    rw [show (w1.alloc (.cells #[.int .i64 l] 3)).heap.size = w1.heap.size + 1 by simp] at hbB
    exact pc_one ⟨del, [l]⟩ _ 1 hbB (Nat.le_refl _) (C_nums [l] (by simp) hbA)
  have CB := fun A w (h : PC w A [⟨del, [l]⟩]) => p_binary A 1 [⟨del, [l]⟩] w h hP (by rw [hlen]; decide)
  have CS := fun A B d w (h : PC w A [⟨del, [l]⟩]) (k : PC w B [⟨del, [l]⟩]) (hd : 1 ≤ d) => p_lsame A B 1 d [⟨del, [l]⟩] [⟨del, [l]⟩] w h (Nat.le_refl _) k hd ⟨by simp, fun s hs => by rw [List.mem_singleton.1 hs]; simp⟩
  rw [sameP_refl] at CS
  have HCB := Aside0.mk CB
  have HCS := Aside0.mk CS
  have HHC := Aside0.mk HC
  have HSP := Aside0.mk hsp
  have HB1 := Aside0.mk hb
  have HPA := Aside0.mk hpar
  have HLE := Aside0.mk hlen
  have HE := Aside0.mk he
  have hR := hl
  unfold RightL at hR
  obtain ⟨r0, r1, r2⟩ := hR
  clear CB CS HC hsp hb hpar hlen he E hP hl
  go_enter Tryd.func7, Tryd.ntmps7
  go_wp2_with (first
    | (go_at_call 10; refine C0.mono ?_; rintro e w1 ⟨rfl, hb⟩; have HB := Aside0.mk hb; clear hb)
    | (go_at_call 22; refine (CL _).mono ?_; rintro e w2 ⟨rfl, hb⟩; have HB2 := Aside0.mk (below_step (by repeat (first | (with_reducible first | exact HB.out | apply below_alloc | apply pw_below_drewN | apply below_drew1) | exact HB.out)) hb); clear HB; have HB := HB2; clear HB2 hb)
    | (go_at_call 19; have HP := Aside0.mk (HHC.out _ HB.out); with_reducible refine (show Calls _ _ #[.slice _ 1 1] _ _ from HCB.out _ _ HP.out).mono ?_))
  rintro e w3 ⟨hb, A3, c3, rfl, hc3, hr3⟩
  have HP2 := Aside0.mk (HP.out.below hb)
  have HB2 := Aside0.mk (below_step (by repeat (first | (with_reducible first | exact HB.out | apply below_alloc | apply pw_below_drewN | apply below_drew1) | exact HB.out)) hb); clear HB; have HB := HB2; clear HB2 hb
  clear HP
  have CP := p_parseBin A3 c3 _ w3 hr3 hc3 (by rw [HLE.out]; decide)
  rw [HPA.out] at CP
  obtain ⟨ad, e3, hy⟩ := rd_at hr3 0 (dB del) (by rw [HB1.out]; rfl)
  subst e3
  have hcut := (head_bytes (some ad) c3 _ 2 (by decide) (by rw [HLE.out]; decide) hc3).1
  have HT := Aside0.mk ((head_bytes (some ad) c3 _ 2 (by decide) (by rw [HLE.out]; decide) hc3).2 _ hr3)
  have HTL : Aside0 (((binT [⟨del, [l]⟩]).take 2).length = 2) := ⟨by rw [List.length_take, HLE.out]; rfl⟩
  have htl := HTL.out
  rw [show (2 : Int).toNat = 2 from rfl, htl] at hcut
  have hl3 := HLE.out
  have hcc : 3 ≤ c3 := by rw [← hl3]; exact hc3
  have HCP := Aside0.mk CP
  rw [hl3] at CP hcut
  have Hhy := Aside0.mk hy
  clear hr3 hc3 HCP HCB HHC hl3 htl hy
  rw [HLE.out]
  go_wp2_with (go_at_call 14; with_reducible refine CP.mono ?_)
  rintro e w4 ⟨hb, A4, c4, rfl, hc4, hp4⟩
  have S1 := fun W (B : Below w4.heap.size w4 W) => show Calls Tryd.prog 21 #[.slice _ 1 1, .slice A4 1 c4] W _ from HCS.out _ A4 c4 W ((HP2.out.below hb).below B) (hp4.below B) hc4
  have HT4 := Aside0.mk (HT.out.below hb)
  have hy4 := pw_cell_below hb Hhy.out
  have HS1 := Aside0.mk S1
  have HB2 := Aside0.mk (below_step (by repeat (first | (with_reducible first | exact HB.out | apply below_alloc | apply pw_below_drewN | apply below_drew1) | exact HB.out)) hb); clear HB; have HB := HB2; clear HB2 hb
  clear HT Hhy HP2 HCS hc4 hp4 S1 CP
  have hdel : ((dB del).toNat : Int) = if del then 100 else 97 := by cases del <;> rfl
  have Hdel := Aside0.mk hdel
  have hbr : Aside0 (((dB del).toNat : Int) = 100 ↔ del = true) := ⟨by rw [hdel]; cases del <;> simp⟩
  have hyz : w4.cell? ad = some (.int .u8 ((dB del).toNat : Int)) := by
    have ha : ad.add 0 = ad := by simp [Addr.add]
    rw [ha] at hy4; exact hy4
  generalize ((dB del).toNat : Int) = y0 at *
  have hbq : (!(y0 == 100) == del) = false := by
    have := hbr.out
    cases del <;> simp_all
  clear hdel hbr Hdel
  go_wp2_with (first
    | (go_at_call 21; refine (HS1.out _ (Below.refl _ _)).mono ?_; rintro e wz ⟨rfl, nz, rfl⟩)
    | ((with_reducible refine gate_builtin (b := .append) (xs := #[.const (.slice none 0 0), .tmp 65]) rfl ?_); at_builtin; refine app_row w rfl (.const (.slice none 0 0)) (.tmp 65) rfl (.slice none 0 0) [] (List.take 2 (binT [⟨del, [l]⟩])) (some ad) c3 rfl ?aX (own_nil _ _) ?aR ?aB ?aL ?_; (case aX => rw [HTL.out]; rfl); (case aR => exact HT4.out); (case aB => exact (by repeat (first | (with_reducible first | exact HB.out | apply below_alloc | apply pw_below_drewN | apply below_drew1) | exact HB.out))); (case aL => rw [HTL.out]; decide)))
  intro v5 w5 ho hb
  have HO := Aside0.mk ho
  have HB2 := Aside0.mk hb
  clear HB ho hb hyz hy4 hcut HT4 HS1
  have HB := HB2
  clear HB2
  go_wp2_with (first
    | ((with_reducible refine gate_builtin (b := .append) (xs := #[.tmp 66, .tmp 67]) rfl ?_); at_builtin; refine app_row w rfl (.tmp 66) (.tmp 67) rfl v5 ([] ++ List.take 2 (binT [⟨del, [l]⟩])) [0, 0] (some ⟨w5.heap.size, 0, none⟩) 2 rfl rfl (own_below HO.out (below_alloc (Below.refl _ _) _)) (C_nums (k := .u8) [0, 0] (by decide) (blk_new w5 _)) (below_alloc HB.out _) ?aL ?_; (case aL => (try rw [List.nil_append]); rw [HTL.out]; decide)))
  intro v6 w6 ho hb
  rw [HB1.out] at ho
  have ek := HE.out
  have hta := spoilt_at del (encN (numL l))
  have hst := spoilt_set del (encN (numL l))
  have hsl := spoilt_length del (encN (numL l))
  rw [ek] at hta hst hsl
  have hlen6 : (bts ((dB del :: encN (numL l) ++ [0]).take 2 ++ [0, 0])).length = 4 := by
    have := congrArg List.length hst
    rw [List.length_set, bts_length (spoilt _ _), hsl] at this
    exact this
  obtain ⟨g, cap, e6, hg, hg2, _⟩ := Kd.R_form ho (by rw [hlen6]; decide)
  rw [hlen6] at e6
  subst e6
  have hcl := Kd.R_celln (0 : Int) ho 1 (by decide) (by decide)
  have hpu := Kd.R_putn ho 1 ((hi8 (lastE del (encN (numL l)))).toNat : Int)
  have hta2 : rdOf (0 : Int) (bts ((dB del :: encN (numL l) ++ [0]).take 2 ++ [0, 0])) 1 = ((lastE del (encN (numL l))).toNat : Int) := hta
  rw [hta2] at hcl
  have hor := hi8_or (lastE del (encN (numL l)))
  generalize ((lastE del (encN (numL l))).toNat : Int) = y1 at *
  rw [show ((1 : Int).toNat) = 1 from rfl, hst] at hpu
  generalize ((hi8 (lastE del (encN (numL l)))).toNat : Int) = y2 at *
  obtain ⟨hc1, hf1⟩ := hcl
  replace hc1 : w6.cell? ⟨g, 1, none⟩ = some (.int .u8 y1) := hc1
  replace hf1 : w6.frozen? ⟨g, 1, none⟩ = false := hf1
  have hrd : Rd (w6.setCell ⟨g, 1, none⟩ (.int .u8 y2)) (some ⟨g, 0, none⟩) (spoilt del (encN (numL l))) ∧ 4 ≤ cap := by
    obtain ⟨A, c, e9, h8, h9⟩ := Kd.R_reads hpu
    rw [bts_length, hsl] at e9 h9 h8
    injection e9 with ea eb ec
    subst ea; subst ec
    unfold Rd
    rw [hsl]
    exact ⟨h9, h8⟩
  have CP := p_parseBin (some ⟨g, 0, none⟩) cap (spoilt del (encN (numL l))) _ hrd.1 (by rw [hsl]; exact hrd.2) (by rw [hsl]; decide)
  rw [HSP.out, hsl] at CP
  have HB2 := Aside0.mk (below_set hb hg (j := 1) (v := .int .u8 y2))
  clear HB HO ho hb hpu hrd hta hta2 hst hsl hlen6 ek HTL HLE HE HSP HPA
  have HB := HB2
  clear HB2
  go_wp2_with (first
    | (go_at_call 14; with_reducible refine CP.mono ?_))
  rintro e w7 ⟨hb, rfl⟩
  go_wp2
  go_ret
  exact ⟨rfl, below_step HB.out hb⟩

set_option maxRecDepth 100000 in
set_option maxHeartbeats 1600000 in
theorem numbers_2 (n : Int) (del : Bool) (w : World) (E : Env w) (l : Int) (hl : RightL l) (CL : ∀ w, Calls Tryd.prog 22 #[.int .i64 n] w (Said w (.int .i64 l))) (he : (encN (numL l)).length = 2) (h1 : (64 ≤ max l (-l)) = True) (h2 : (8192 ≤ max l (-l)) = False) :
    Calls Tryd.prog 7 #[.int .i64 n, .bool del] w (Said w (.bool true)) := by
  have hu := Tryd.underlying36
  have C0 := fit_any w E
  have hP : RightP [⟨del, [l]⟩] := fun s hs x hx => by
    obtain rfl := List.mem_singleton.1 hs
    obtain rfl := List.mem_singleton.1 hx
    exact hl
  have hsp := spoilt_form del (numL_bd hl).2
  have hb := one_bin del l
  have hpar := parseB_binT hP
  have hlen : (binT [⟨del, [l]⟩]).length = 4 := by rw [hb]; simp [he]
  have HC : ∀ w1, Below w.heap.size w w1 → PC ((w1.alloc (.cells #[.int .i64 l] 3)).alloc (.cells #[.bool del, .slice (some ⟨w1.heap.size, 0, none⟩) 1 1] 36)) (some ⟨w1.heap.size + 1, 0, none⟩) [⟨del, [l]⟩] := by
    intro w1 _
    have hbA : ((w1.alloc (.cells #[.int .i64 l] 3)).alloc (.cells #[.bool del, .slice (some ⟨w1.heap.size, 0, none⟩) 1 1] 36)).heap[w1.heap.size]? = some (.cells (nums .i64 [l]).toArray 3 (0, 0)) := blk_alloc (blk_new w1 _) _
    have hbB := blk_new (w1.alloc (.cells #[.int .i64 l] 3)) (.cells #[.bool del, .slice (some ⟨w1.heap.size, 0, none⟩) 1 1] 36)
    rw [show (w1.alloc (.cells #[.int .i64 l] 3)).heap.size = w1.heap.size + 1 by simp] at hbB
    exact pc_one ⟨del, [l]⟩ _ 1 hbB (Nat.le_refl _) (C_nums [l] (by simp) hbA)
  have CB := fun A w (h : PC w A [⟨del, [l]⟩]) => p_binary A 1 [⟨del, [l]⟩] w h hP (by rw [hlen]; decide)
  have CS := fun A B d w (h : PC w A [⟨del, [l]⟩]) (k : PC w B [⟨del, [l]⟩]) (hd : 1 ≤ d) => p_lsame A B 1 d [⟨del, [l]⟩] [⟨del, [l]⟩] w h (Nat.le_refl _) k hd ⟨by simp, fun s hs => by rw [List.mem_singleton.1 hs]; simp⟩
  rw [sameP_refl] at CS
  have HCB := Aside0.mk CB
  have HCS := Aside0.mk CS
  have HHC := Aside0.mk HC
  have HSP := Aside0.mk hsp
  have HB1 := Aside0.mk hb
  have HPA := Aside0.mk hpar
  have HLE := Aside0.mk hlen
  have HE := Aside0.mk he
  have hR := hl
  unfold RightL at hR
  obtain ⟨r0, r1, r2⟩ := hR
  clear CB CS HC hsp hb hpar hlen he E hP hl
  go_enter Tryd.func7, Tryd.ntmps7
  go_wp2_with (first
    | (go_at_call 10; refine C0.mono ?_; rintro e w1 ⟨rfl, hb⟩; have HB := Aside0.mk hb; clear hb)
    | (go_at_call 22; refine (CL _).mono ?_; rintro e w2 ⟨rfl, hb⟩; have HB2 := Aside0.mk (below_step (by repeat (first | (with_reducible first | exact HB.out | apply below_alloc | apply pw_below_drewN | apply below_drew1) | exact HB.out)) hb); clear HB; have HB := HB2; clear HB2 hb)
    | (go_at_call 19; have HP := Aside0.mk (HHC.out _ HB.out); with_reducible refine (show Calls _ _ #[.slice _ 1 1] _ _ from HCB.out _ _ HP.out).mono ?_))
  rintro e w3 ⟨hb, A3, c3, rfl, hc3, hr3⟩
  have HP2 := Aside0.mk (HP.out.below hb)
  have HB2 := Aside0.mk (below_step (by repeat (first | (with_reducible first | exact HB.out | apply below_alloc | apply pw_below_drewN | apply below_drew1) | exact HB.out)) hb); clear HB; have HB := HB2; clear HB2 hb
  clear HP
  have CP := p_parseBin A3 c3 _ w3 hr3 hc3 (by rw [HLE.out]; decide)
  rw [HPA.out] at CP
  obtain ⟨ad, e3, hy⟩ := rd_at hr3 0 (dB del) (by rw [HB1.out]; rfl)
  subst e3
  have hcut := (head_bytes (some ad) c3 _ 3 (by decide) (by rw [HLE.out]; decide) hc3).1
  have HT := Aside0.mk ((head_bytes (some ad) c3 _ 3 (by decide) (by rw [HLE.out]; decide) hc3).2 _ hr3)
  have HTL : Aside0 (((binT [⟨del, [l]⟩]).take 3).length = 3) := ⟨by rw [List.length_take, HLE.out]; rfl⟩
  have htl := HTL.out
  rw [show (3 : Int).toNat = 3 from rfl, htl] at hcut
  have hl3 := HLE.out
  have hcc : 4 ≤ c3 := by rw [← hl3]; exact hc3
  have HCP := Aside0.mk CP
  rw [hl3] at CP hcut
  have Hhy := Aside0.mk hy
  clear hr3 hc3 HCP HCB HHC hl3 htl hy
  rw [HLE.out]
  go_wp2_with (go_at_call 14; with_reducible refine CP.mono ?_)
  rintro e w4 ⟨hb, A4, c4, rfl, hc4, hp4⟩
  have S1 := fun W (B : Below w4.heap.size w4 W) => show Calls Tryd.prog 21 #[.slice _ 1 1, .slice A4 1 c4] W _ from HCS.out _ A4 c4 W ((HP2.out.below hb).below B) (hp4.below B) hc4
  have HT4 := Aside0.mk (HT.out.below hb)
  have hy4 := pw_cell_below hb Hhy.out
  have HS1 := Aside0.mk S1
  have HB2 := Aside0.mk (below_step (by repeat (first | (with_reducible first | exact HB.out | apply below_alloc | apply pw_below_drewN | apply below_drew1) | exact HB.out)) hb); clear HB; have HB := HB2; clear HB2 hb
  clear HT Hhy HP2 HCS hc4 hp4 S1 CP
  have hdel : ((dB del).toNat : Int) = if del then 100 else 97 := by cases del <;> rfl
  have Hdel := Aside0.mk hdel
  have hbr : Aside0 (((dB del).toNat : Int) = 100 ↔ del = true) := ⟨by rw [hdel]; cases del <;> simp⟩
  have hyz : w4.cell? ad = some (.int .u8 ((dB del).toNat : Int)) := by
    have ha : ad.add 0 = ad := by simp [Addr.add]
    rw [ha] at hy4; exact hy4
  generalize ((dB del).toNat : Int) = y0 at *
  have hbq : (!(y0 == 100) == del) = false := by
    have := hbr.out
    cases del <;> simp_all
  clear hdel hbr Hdel
  go_wp2_with (first
    | (go_at_call 21; refine (HS1.out _ (Below.refl _ _)).mono ?_; rintro e wz ⟨rfl, nz, rfl⟩)
    | ((with_reducible refine gate_builtin (b := .append) (xs := #[.const (.slice none 0 0), .tmp 65]) rfl ?_); at_builtin; refine app_row w rfl (.const (.slice none 0 0)) (.tmp 65) rfl (.slice none 0 0) [] (List.take 3 (binT [⟨del, [l]⟩])) (some ad) c3 rfl ?aX (own_nil _ _) ?aR ?aB ?aL ?_; (case aX => rw [HTL.out]; rfl); (case aR => exact HT4.out); (case aB => exact (by repeat (first | (with_reducible first | exact HB.out | apply below_alloc | apply pw_below_drewN | apply below_drew1) | exact HB.out))); (case aL => rw [HTL.out]; decide)))
  intro v5 w5 ho hb
  have HO := Aside0.mk ho
  have HB2 := Aside0.mk hb
  clear HB ho hb hyz hy4 hcut HT4 HS1
  have HB := HB2
  clear HB2
  go_wp2_with (first
    | ((with_reducible refine gate_builtin (b := .append) (xs := #[.tmp 66, .tmp 67]) rfl ?_); at_builtin; refine app_row w rfl (.tmp 66) (.tmp 67) rfl v5 ([] ++ List.take 3 (binT [⟨del, [l]⟩])) [0, 0] (some ⟨w5.heap.size, 0, none⟩) 2 rfl rfl (own_below HO.out (below_alloc (Below.refl _ _) _)) (C_nums (k := .u8) [0, 0] (by decide) (blk_new w5 _)) (below_alloc HB.out _) ?aL ?_; (case aL => (try rw [List.nil_append]); rw [HTL.out]; decide)))
  intro v6 w6 ho hb
  rw [HB1.out] at ho
  have ek := HE.out
  have hta := spoilt_at del (encN (numL l))
  have hst := spoilt_set del (encN (numL l))
  have hsl := spoilt_length del (encN (numL l))
  rw [ek] at hta hst hsl
  have hlen6 : (bts ((dB del :: encN (numL l) ++ [0]).take 3 ++ [0, 0])).length = 5 := by
    have := congrArg List.length hst
    rw [List.length_set, bts_length (spoilt _ _), hsl] at this
    exact this
  obtain ⟨g, cap, e6, hg, hg2, _⟩ := Kd.R_form ho (by rw [hlen6]; decide)
  rw [hlen6] at e6
  subst e6
  have hcl := Kd.R_celln (0 : Int) ho 2 (by decide) (by decide)
  have hpu := Kd.R_putn ho 2 ((hi8 (lastE del (encN (numL l)))).toNat : Int)
  have hta2 : rdOf (0 : Int) (bts ((dB del :: encN (numL l) ++ [0]).take 3 ++ [0, 0])) 2 = ((lastE del (encN (numL l))).toNat : Int) := hta
  rw [hta2] at hcl
  have hor := hi8_or (lastE del (encN (numL l)))
  generalize ((lastE del (encN (numL l))).toNat : Int) = y1 at *
  rw [show ((2 : Int).toNat) = 2 from rfl, hst] at hpu
  generalize ((hi8 (lastE del (encN (numL l)))).toNat : Int) = y2 at *
  obtain ⟨hc1, hf1⟩ := hcl
  replace hc1 : w6.cell? ⟨g, 2, none⟩ = some (.int .u8 y1) := hc1
  replace hf1 : w6.frozen? ⟨g, 2, none⟩ = false := hf1
  have hrd : Rd (w6.setCell ⟨g, 2, none⟩ (.int .u8 y2)) (some ⟨g, 0, none⟩) (spoilt del (encN (numL l))) ∧ 5 ≤ cap := by
    obtain ⟨A, c, e9, h8, h9⟩ := Kd.R_reads hpu
    rw [bts_length, hsl] at e9 h9 h8
    injection e9 with ea eb ec
    subst ea; subst ec
    unfold Rd
    rw [hsl]
    exact ⟨h9, h8⟩
  have CP := p_parseBin (some ⟨g, 0, none⟩) cap (spoilt del (encN (numL l))) _ hrd.1 (by rw [hsl]; exact hrd.2) (by rw [hsl]; decide)
  rw [HSP.out, hsl] at CP
  have HB2 := Aside0.mk (below_set hb hg (j := 2) (v := .int .u8 y2))
  clear HB HO ho hb hpu hrd hta hta2 hst hsl hlen6 ek HTL HLE HE HSP HPA
  have HB := HB2
  clear HB2
  go_wp2_with (first
    | (go_at_call 14; with_reducible refine CP.mono ?_))
  rintro e w7 ⟨hb, rfl⟩
  go_wp2
  go_ret
  exact ⟨rfl, below_step HB.out hb⟩

set_option maxRecDepth 100000 in
set_option maxHeartbeats 1600000 in
theorem numbers_3 (n : Int) (del : Bool) (w : World) (E : Env w) (l : Int) (hl : RightL l) (CL : ∀ w, Calls Tryd.prog 22 #[.int .i64 n] w (Said w (.int .i64 l))) (he : (encN (numL l)).length = 3) (h1 : (64 ≤ max l (-l)) = True) (h2 : (8192 ≤ max l (-l)) = True) :
    Calls Tryd.prog 7 #[.int .i64 n, .bool del] w (Said w (.bool true)) := by
  have hu := Tryd.underlying36
  have C0 := fit_any w E
  have hP : RightP [⟨del, [l]⟩] := fun s hs x hx => by
    obtain rfl := List.mem_singleton.1 hs
    obtain rfl := List.mem_singleton.1 hx
    exact hl
  have hsp := spoilt_form del (numL_bd hl).2
  have hb := one_bin del l
  have hpar := parseB_binT hP
  have hlen : (binT [⟨del, [l]⟩]).length = 5 := by rw [hb]; simp [he]
  have HC : ∀ w1, Below w.heap.size w w1 → PC ((w1.alloc (.cells #[.int .i64 l] 3)).alloc (.cells #[.bool del, .slice (some ⟨w1.heap.size, 0, none⟩) 1 1] 36)) (some ⟨w1.heap.size + 1, 0, none⟩) [⟨del, [l]⟩] := by
    intro w1 _
    have hbA : ((w1.alloc (.cells #[.int .i64 l] 3)).alloc (.cells #[.bool del, .slice (some ⟨w1.heap.size, 0, none⟩) 1 1] 36)).heap[w1.heap.size]? = some (.cells (nums .i64 [l]).toArray 3 (0, 0)) := blk_alloc (blk_new w1 _) _
    have hbB := blk_new (w1.alloc (.cells #[.int .i64 l] 3)) (.cells #[.bool del, .slice (some ⟨w1.heap.size, 0, none⟩) 1 1] 36)
    rw [show (w1.alloc (.cells #[.int .i64 l] 3)).heap.size = w1.heap.size + 1 by simp] at hbB
    exact pc_one ⟨del, [l]⟩ _ 1 hbB (Nat.le_refl _) (C_nums [l] (by simp) hbA)
  have CB := fun A w (h : PC w A [⟨del, [l]⟩]) => p_binary A 1 [⟨del, [l]⟩] w h hP (by rw [hlen]; decide)
  have CS := fun A B d w (h : PC w A [⟨del, [l]⟩]) (k : PC w B [⟨del, [l]⟩]) (hd : 1 ≤ d) => p_lsame A B 1 d [⟨del, [l]⟩] [⟨del, [l]⟩] w h (Nat.le_refl _) k hd ⟨by simp, fun s hs => by rw [List.mem_singleton.1 hs]; simp⟩
  rw [sameP_refl] at CS
  have HCB := Aside0.mk CB
  have HCS := Aside0.mk CS
  have HHC := Aside0.mk HC
  have HSP := Aside0.mk hsp
  have HB1 := Aside0.mk hb
  have HPA := Aside0.mk hpar
  have HLE := Aside0.mk hlen
  have HE := Aside0.mk he
  have hR := hl
  unfold RightL at hR
  obtain ⟨r0, r1, r2⟩ := hR
  clear CB CS HC hsp hb hpar hlen he E hP hl
  go_enter Tryd.func7, Tryd.ntmps7
  go_wp2_with (first
    | (go_at_call 10; refine C0.mono ?_; rintro e w1 ⟨rfl, hb⟩; have HB := Aside0.mk hb; clear hb)
    | (go_at_call 22; refine (CL _).mono ?_; rintro e w2 ⟨rfl, hb⟩; have HB2 := Aside0.mk (below_step (by repeat (first | (with_reducible first | exact HB.out | apply below_alloc | apply pw_below_drewN | apply below_drew1) | exact HB.out)) hb); clear HB; have HB := HB2; clear HB2 hb)
    | (go_at_call 19; have HP := Aside0.mk (HHC.out _ HB.out); with_reducible refine (show Calls _ _ #[.slice _ 1 1] _ _ from HCB.out _ _ HP.out).mono ?_))
  rintro e w3 ⟨hb, A3, c3, rfl, hc3, hr3⟩
  have HP2 := Aside0.mk (HP.out.below hb)
  have HB2 := Aside0.mk (below_step (by repeat (first | (with_reducible first | exact HB.out | apply below_alloc | apply pw_below_drewN | apply below_drew1) | exact HB.out)) hb); clear HB; have HB := HB2; clear HB2 hb
  clear HP
  have CP := p_parseBin A3 c3 _ w3 hr3 hc3 (by rw [HLE.out]; decide)
  rw [HPA.out] at CP
  obtain ⟨ad, e3, hy⟩ := rd_at hr3 0 (dB del) (by rw [HB1.out]; rfl)
  subst e3
  have hcut := (head_bytes (some ad) c3 _ 4 (by decide) (by rw [HLE.out]; decide) hc3).1
  have HT := Aside0.mk ((head_bytes (some ad) c3 _ 4 (by decide) (by rw [HLE.out]; decide) hc3).2 _ hr3)
  have HTL : Aside0 (((binT [⟨del, [l]⟩]).take 4).length = 4) := ⟨by rw [List.length_take, HLE.out]; rfl⟩
  have htl := HTL.out
  rw [show (4 : Int).toNat = 4 from rfl, htl] at hcut
  have hl3 := HLE.out
  have hcc : 5 ≤ c3 := by rw [← hl3]; exact hc3
  have HCP := Aside0.mk CP
  rw [hl3] at CP hcut
  have Hhy := Aside0.mk hy
  clear hr3 hc3 HCP HCB HHC hl3 htl hy
  rw [HLE.out]
  go_wp2_with (go_at_call 14; with_reducible refine CP.mono ?_)
  rintro e w4 ⟨hb, A4, c4, rfl, hc4, hp4⟩
  have S1 := fun W (B : Below w4.heap.size w4 W) => show Calls Tryd.prog 21 #[.slice _ 1 1, .slice A4 1 c4] W _ from HCS.out _ A4 c4 W ((HP2.out.below hb).below B) (hp4.below B) hc4
  have HT4 := Aside0.mk (HT.out.below hb)
  have hy4 := pw_cell_below hb Hhy.out
  have HS1 := Aside0.mk S1
  have HB2 := Aside0.mk (below_step (by repeat (first | (with_reducible first | exact HB.out | apply below_alloc | apply pw_below_drewN | apply below_drew1) | exact HB.out)) hb); clear HB; have HB := HB2; clear HB2 hb
  clear HT Hhy HP2 HCS hc4 hp4 S1 CP
  have hdel : ((dB del).toNat : Int) = if del then 100 else 97 := by cases del <;> rfl
  have Hdel := Aside0.mk hdel
  have hbr : Aside0 (((dB del).toNat : Int) = 100 ↔ del = true) := ⟨by rw [hdel]; cases del <;> simp⟩
  have hyz : w4.cell? ad = some (.int .u8 ((dB del).toNat : Int)) := by
    have ha : ad.add 0 = ad := by simp [Addr.add]
    rw [ha] at hy4; exact hy4
  generalize ((dB del).toNat : Int) = y0 at *
  have hbq : (!(y0 == 100) == del) = false := by
    have := hbr.out
    cases del <;> simp_all
  clear hdel hbr Hdel
  go_wp2_with (first
    | (go_at_call 21; refine (HS1.out _ (Below.refl _ _)).mono ?_; rintro e wz ⟨rfl, nz, rfl⟩)
    | ((with_reducible refine gate_builtin (b := .append) (xs := #[.const (.slice none 0 0), .tmp 65]) rfl ?_); at_builtin; refine app_row w rfl (.const (.slice none 0 0)) (.tmp 65) rfl (.slice none 0 0) [] (List.take 4 (binT [⟨del, [l]⟩])) (some ad) c3 rfl ?aX (own_nil _ _) ?aR ?aB ?aL ?_; (case aX => rw [HTL.out]; rfl); (case aR => exact HT4.out); (case aB => exact (by repeat (first | (with_reducible first | exact HB.out | apply below_alloc | apply pw_below_drewN | apply below_drew1) | exact HB.out))); (case aL => rw [HTL.out]; decide)))
  intro v5 w5 ho hb
  have HO := Aside0.mk ho
  have HB2 := Aside0.mk hb
  clear HB ho hb hyz hy4 hcut HT4 HS1
  have HB := HB2
  clear HB2
  go_wp2_with (first
    | ((with_reducible refine gate_builtin (b := .append) (xs := #[.tmp 66, .tmp 67]) rfl ?_); at_builtin; refine app_row w rfl (.tmp 66) (.tmp 67) rfl v5 ([] ++ List.take 4 (binT [⟨del, [l]⟩])) [0, 0] (some ⟨w5.heap.size, 0, none⟩) 2 rfl rfl (own_below HO.out (below_alloc (Below.refl _ _) _)) (C_nums (k := .u8) [0, 0] (by decide) (blk_new w5 _)) (below_alloc HB.out _) ?aL ?_; (case aL => (try rw [List.nil_append]); rw [HTL.out]; decide)))
  intro v6 w6 ho hb
  rw [HB1.out] at ho
  have ek := HE.out
  have hta := spoilt_at del (encN (numL l))
  have hst := spoilt_set del (encN (numL l))
  have hsl := spoilt_length del (encN (numL l))
  rw [ek] at hta hst hsl
  have hlen6 : (bts ((dB del :: encN (numL l) ++ [0]).take 4 ++ [0, 0])).length = 6 := by
    have := congrArg List.length hst
    rw [List.length_set, bts_length (spoilt _ _), hsl] at this
    exact this
  obtain ⟨g, cap, e6, hg, hg2, _⟩ := Kd.R_form ho (by rw [hlen6]; decide)
  rw [hlen6] at e6
  subst e6
  have hcl := Kd.R_celln (0 : Int) ho 3 (by decide) (by decide)
  have hpu := Kd.R_putn ho 3 ((hi8 (lastE del (encN (numL l)))).toNat : Int)
  have hta2 : rdOf (0 : Int) (bts ((dB del :: encN (numL l) ++ [0]).take 4 ++ [0, 0])) 3 = ((lastE del (encN (numL l))).toNat : Int) := hta
  rw [hta2] at hcl
  have hor := hi8_or (lastE del (encN (numL l)))
  generalize ((lastE del (encN (numL l))).toNat : Int) = y1 at *
  rw [show ((3 : Int).toNat) = 3 from rfl, hst] at hpu
  generalize ((hi8 (lastE del (encN (numL l)))).toNat : Int) = y2 at *
  obtain ⟨hc1, hf1⟩ := hcl
  replace hc1 : w6.cell? ⟨g, 3, none⟩ = some (.int .u8 y1) := hc1
  replace hf1 : w6.frozen? ⟨g, 3, none⟩ = false := hf1
  have hrd : Rd (w6.setCell ⟨g, 3, none⟩ (.int .u8 y2)) (some ⟨g, 0, none⟩) (spoilt del (encN (numL l))) ∧ 6 ≤ cap := by
    obtain ⟨A, c, e9, h8, h9⟩ := Kd.R_reads hpu
    rw [bts_length, hsl] at e9 h9 h8
    injection e9 with ea eb ec
    subst ea; subst ec
    unfold Rd
    rw [hsl]
    exact ⟨h9, h8⟩
  have CP := p_parseBin (some ⟨g, 0, none⟩) cap (spoilt del (encN (numL l))) _ hrd.1 (by rw [hsl]; exact hrd.2) (by rw [hsl]; decide)
  rw [HSP.out, hsl] at CP
  have HB2 := Aside0.mk (below_set hb hg (j := 3) (v := .int .u8 y2))
  clear HB HO ho hb hpu hrd hta hta2 hst hsl hlen6 ek HTL HLE HE HSP HPA
  have HB := HB2
  clear HB2
  go_wp2_with (first
    | (go_at_call 14; with_reducible refine CP.mono ?_))
  rintro e w7 ⟨hb, rfl⟩
  go_wp2
  go_ret
  exact ⟨rfl, below_step HB.out hb⟩

theorem numbers_any (n : Int) (_h0 : -9223372036854775808 ≤ n) (_h1 : n ≤ 9223372036854775807) (del : Bool) (w : World) (E : Env w) : Calls Tryd.prog 7 #[.int .i64 n, .bool del] w (Said w (.bool true)) := by
  obtain ⟨l, hl, CL⟩ := lit_any n
  have ht := taken hl
  by_cases h1 : 64 ≤ max l (-l)
  · by_cases h2 : 8192 ≤ max l (-l)
    · rw [if_pos h2] at ht
      exact numbers_3 n del w E l hl CL ht (eq_true h1) (eq_true h2)
    · rw [if_neg h2, if_pos h1] at ht
      exact numbers_2 n del w E l hl CL ht (eq_true h1) (eq_false h2)
  · rw [if_neg (by omega), if_neg h1] at ht
    exact numbers_1 n del w E l hl CL ht (eq_false h1) (eq_false (by omega))

end Go.Proofs.YtefppfgcgcfleaaDoor
