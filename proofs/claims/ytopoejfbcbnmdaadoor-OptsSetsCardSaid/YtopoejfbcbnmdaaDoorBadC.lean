import Derived.Test.YtopoejfbcbnmdaaDoorOpts1
import Derived.Deep.RegionHeld3
namespace Go.Proofs.YtopoejfbcbnmdaaDoor
open Go Go.RowKit

theorem Row.drewC {γ : Tags} {w : World} {p : Tag} {e : TypeId} {size n cap : Nat} {a : Option Addr} {xs : List Value} (h : Row γ w p e size a n cap xs) : Row γ w.drew p e size a n cap xs := ⟨h.own, h.tag⟩

set_option maxRecDepth 100000 in
set_option maxHeartbeats 30000000 in
theorem bad_c (o : Opt) (w : World) (k7 : inB o.no 0 1000 = true) (hk : (o.ki == 2) = false) (hn : (o.no == 0) = true) : Calls Tryd.prog 27 #[.agg o.vals] w (BadSaid o w) := by
  have Cw := fun w => way_any o w
  have Cn := fun w => in_any o.no 0 1000 w
  rw [k7] at Cn
  have k7h := Lib.hid k7
  clear k7
  unfold Opt.vals at Cw ⊢
  obtain ⟨L, hL⟩ : ∃ L, rowsO o = L := ⟨_, rfl⟩
  have hbs : badS o = match L.find? (fun r => !r.2) with | some r => r.1 | none => ⟨#[]⟩ := by rw [← hL]; rfl
  have hlen : L.length = 15 := by rw [← hL]; rfl
  have hbsh := Lib.hid hbs
  have hLh := Lib.hid hL
  have hlenh := Lib.hid hlen
  clear hbs hL hlen
  obtain ⟨γ1, B0, T0⟩ : ∃ γ1, Blk γ1 (w.alloc (.cells #[.int .i64 o.co, .int .i64 o.wo, .int .i64 o.re, .int .i64 o.fi, .int .i64 o.ri, .int .i64 o.wa, .int .i64 o.ki, .int .i64 o.ba, .int .i64 o.no, .int .i64 o.mo, .int .i64 o.ph, .int .i64 o.lo, .int .i64 o.mi, .int .i64 o.mn, .int .i64 o.bi, .int .u64 o.se] 24)) [0, 1] w.heap.size 24 #[.int .i64 o.co, .int .i64 o.wo, .int .i64 o.re, .int .i64 o.fi, .int .i64 o.ri, .int .i64 o.wa, .int .i64 o.ki, .int .i64 o.ba, .int .i64 o.no, .int .i64 o.mo, .int .i64 o.ph, .int .i64 o.lo, .int .i64 o.mi, .int .i64 o.mn, .int .i64 o.bi, .int .u64 o.se] ∧ Turn (fun _ => [1]) γ1 w (w.alloc (.cells #[.int .i64 o.co, .int .i64 o.wo, .int .i64 o.re, .int .i64 o.fi, .int .i64 o.ri, .int .i64 o.wa, .int .i64 o.ki, .int .i64 o.ba, .int .i64 o.no, .int .i64 o.mo, .int .i64 o.ph, .int .i64 o.lo, .int .i64 o.mi, .int .i64 o.mn, .int .i64 o.bi, .int .u64 o.se] 24)) [[0]] := ⟨_, Blk.new _ _ _ _ _, (Turn.new_at _ _ _ _).to (by simp)⟩
  have T0h := Lib.hid T0
  clear T0
  go_enter Tryd.func27, Tryd.ntmps27
  go_wp2_with fail
  generalize w.alloc _ = w1 at *
  generalize w.heap.size = bb at *
  have f0 : w1.cell? ⟨bb, 0, none⟩ = some (.int .i64 o.co) := B0.cell (j := 0) rfl
  have f1 : w1.cell? ⟨bb, 1, none⟩ = some (.int .i64 o.wo) := B0.cell (j := 1) rfl
  have f2 : w1.cell? ⟨bb, 2, none⟩ = some (.int .i64 o.re) := B0.cell (j := 2) rfl
  have f3 : w1.cell? ⟨bb, 3, none⟩ = some (.int .i64 o.fi) := B0.cell (j := 3) rfl
  have f4 : w1.cell? ⟨bb, 4, none⟩ = some (.int .i64 o.ri) := B0.cell (j := 4) rfl
  have f5 : w1.cell? ⟨bb, 5, none⟩ = some (.int .i64 o.wa) := B0.cell (j := 5) rfl
  have f6 : w1.cell? ⟨bb, 6, none⟩ = some (.int .i64 o.ki) := B0.cell (j := 6) rfl
  have f7 : w1.cell? ⟨bb, 7, none⟩ = some (.int .i64 o.ba) := B0.cell (j := 7) rfl
  have f8 : w1.cell? ⟨bb, 8, none⟩ = some (.int .i64 o.no) := B0.cell (j := 8) rfl
  have f9 : w1.cell? ⟨bb, 9, none⟩ = some (.int .i64 o.mo) := B0.cell (j := 9) rfl
  have f10 : w1.cell? ⟨bb, 10, none⟩ = some (.int .i64 o.ph) := B0.cell (j := 10) rfl
  have f11 : w1.cell? ⟨bb, 11, none⟩ = some (.int .i64 o.lo) := B0.cell (j := 11) rfl
  have f12 : w1.cell? ⟨bb, 12, none⟩ = some (.int .i64 o.mi) := B0.cell (j := 12) rfl
  have f13 : w1.cell? ⟨bb, 13, none⟩ = some (.int .i64 o.mn) := B0.cell (j := 13) rfl
  have f14 : w1.cell? ⟨bb, 14, none⟩ = some (.int .i64 o.bi) := B0.cell (j := 14) rfl
  have f15 : w1.cell? ⟨bb, 15, none⟩ = some (.int .u64 o.se) := B0.cell (j := 15) rfl
  clear B0
  simp only [List.append_eq, List.cons_append, List.nil_append]
  refine wp_region_held_drew (S := (fun w' => w'.cell? ⟨bb, 0, none⟩ = some (.int .i64 o.co) ∧ w'.cell? ⟨bb, 1, none⟩ = some (.int .i64 o.wo) ∧ w'.cell? ⟨bb, 2, none⟩ = some (.int .i64 o.re) ∧ w'.cell? ⟨bb, 3, none⟩ = some (.int .i64 o.fi) ∧ w'.cell? ⟨bb, 4, none⟩ = some (.int .i64 o.ri) ∧ w'.cell? ⟨bb, 5, none⟩ = some (.int .i64 o.wa) ∧ w'.cell? ⟨bb, 6, none⟩ = some (.int .i64 o.ki) ∧ w'.cell? ⟨bb, 7, none⟩ = some (.int .i64 o.ba) ∧ w'.cell? ⟨bb, 8, none⟩ = some (.int .i64 o.no) ∧ w'.cell? ⟨bb, 9, none⟩ = some (.int .i64 o.mo) ∧ w'.cell? ⟨bb, 10, none⟩ = some (.int .i64 o.ph) ∧ w'.cell? ⟨bb, 11, none⟩ = some (.int .i64 o.lo) ∧ w'.cell? ⟨bb, 12, none⟩ = some (.int .i64 o.mi) ∧ w'.cell? ⟨bb, 13, none⟩ = some (.int .i64 o.mn) ∧ w'.cell? ⟨bb, 14, none⟩ = some (.int .i64 o.bi) ∧ w'.cell? ⟨bb, 15, none⟩ = some (.int .u64 o.se))) (by kernel_rfl) ?_ (fun hH0 => ?_)
  · exact ⟨f0, f1, f2, f3, f4, f5, f6, f7, f8, f9, f10, f11, f12, f13, f14, f15⟩
  refine wpAnyH_take (i := 0) (oi := { dst := some 6, op := Go.Op.fieldAddr 24 (Go.Operand.tmp 1) 0, type := 0, pos := "opts.go:86", after := #[], guard := none }) (v := ?v0) rfl (by kernel_rfl) (by kernel_rfl) (by kernel_rfl) (fun _ _ _ h => h) (Or.inl ⟨by rfl, ?y0⟩) hH0 ?_
  case y0 => (intro w hSw; (try dsimp only at hSw); go_simp; try (with_reducible rfl))
  try simp only [Act.put, List.setIfInBounds_toArray, List.set_cons_zero, List.set_cons_succ]
  refine wpAnyH_take (i := 1) (oi := { dst := some 7, op := Go.Op.load 3 (Go.Operand.tmp 6), type := 3, pos := "opts.go:86", after := #[{ on := 0, ground := Go.Ground.data }], guard := none }) (v := ?v1) rfl (by kernel_rfl) (by kernel_rfl) (by kernel_rfl) (fun _ _ _ h => h) (Or.inl ⟨by rfl, ?y1⟩) hH0 ?_
  case y1 => (intro w hSw; (try dsimp only at hSw); go_simp; try (with_reducible rfl))
  try simp only [Act.put, List.setIfInBounds_toArray, List.set_cons_zero, List.set_cons_succ]
  refine wpAnyH_take (i := 4) (oi := { dst := some 10, op := Go.Op.fieldAddr 24 (Go.Operand.tmp 1) 1, type := 0, pos := "opts.go:86", after := #[], guard := none }) (v := ?v4) rfl (by kernel_rfl) (by kernel_rfl) (by kernel_rfl) (fun _ _ _ h => h) (Or.inl ⟨by rfl, ?y4⟩) hH0 ?_
  case y4 => (intro w hSw; (try dsimp only at hSw); go_simp; try (with_reducible rfl))
  try simp only [Act.put, List.setIfInBounds_toArray, List.set_cons_zero, List.set_cons_succ]
  refine wpAnyH_take (i := 5) (oi := { dst := some 11, op := Go.Op.load 3 (Go.Operand.tmp 10), type := 3, pos := "opts.go:86", after := #[{ on := 4, ground := Go.Ground.data }], guard := none }) (v := ?v5) rfl (by kernel_rfl) (by kernel_rfl) (by kernel_rfl) (fun _ _ _ h => h) (Or.inl ⟨by rfl, ?y5⟩) hH0 ?_
  case y5 => (intro w hSw; (try dsimp only at hSw); go_simp; try (with_reducible rfl))
  try simp only [Act.put, List.setIfInBounds_toArray, List.set_cons_zero, List.set_cons_succ]
  refine wpAnyH_take (i := 8) (oi := { dst := some 14, op := Go.Op.fieldAddr 24 (Go.Operand.tmp 1) 2, type := 0, pos := "opts.go:86", after := #[], guard := none }) (v := ?v8) rfl (by kernel_rfl) (by kernel_rfl) (by kernel_rfl) (fun _ _ _ h => h) (Or.inl ⟨by rfl, ?y8⟩) hH0 ?_
  case y8 => (intro w hSw; (try dsimp only at hSw); go_simp; try (with_reducible rfl))
  try simp only [Act.put, List.setIfInBounds_toArray, List.set_cons_zero, List.set_cons_succ]
  refine wpAnyH_take (i := 9) (oi := { dst := some 15, op := Go.Op.load 3 (Go.Operand.tmp 14), type := 3, pos := "opts.go:86", after := #[{ on := 8, ground := Go.Ground.data }], guard := none }) (v := ?v9) rfl (by kernel_rfl) (by kernel_rfl) (by kernel_rfl) (fun _ _ _ h => h) (Or.inl ⟨by rfl, ?y9⟩) hH0 ?_
  case y9 => (intro w hSw; (try dsimp only at hSw); go_simp; try (with_reducible rfl))
  try simp only [Act.put, List.setIfInBounds_toArray, List.set_cons_zero, List.set_cons_succ]
  refine wpAnyH_take (i := 12) (oi := { dst := some 18, op := Go.Op.fieldAddr 24 (Go.Operand.tmp 1) 3, type := 0, pos := "opts.go:86", after := #[], guard := none }) (v := ?v12) rfl (by kernel_rfl) (by kernel_rfl) (by kernel_rfl) (fun _ _ _ h => h) (Or.inl ⟨by rfl, ?y12⟩) hH0 ?_
  case y12 => (intro w hSw; (try dsimp only at hSw); go_simp; try (with_reducible rfl))
  try simp only [Act.put, List.setIfInBounds_toArray, List.set_cons_zero, List.set_cons_succ]
  refine wpAnyH_take (i := 13) (oi := { dst := some 19, op := Go.Op.load 3 (Go.Operand.tmp 18), type := 3, pos := "opts.go:86", after := #[{ on := 12, ground := Go.Ground.data }], guard := none }) (v := ?v13) rfl (by kernel_rfl) (by kernel_rfl) (by kernel_rfl) (fun _ _ _ h => h) (Or.inl ⟨by rfl, ?y13⟩) hH0 ?_
  case y13 => (intro w hSw; (try dsimp only at hSw); go_simp; try (with_reducible rfl))
  try simp only [Act.put, List.setIfInBounds_toArray, List.set_cons_zero, List.set_cons_succ]
  refine wpAnyH_take (i := 16) (oi := { dst := some 22, op := Go.Op.fieldAddr 24 (Go.Operand.tmp 1) 4, type := 0, pos := "opts.go:86", after := #[], guard := none }) (v := ?v16) rfl (by kernel_rfl) (by kernel_rfl) (by kernel_rfl) (fun _ _ _ h => h) (Or.inl ⟨by rfl, ?y16⟩) hH0 ?_
  case y16 => (intro w hSw; (try dsimp only at hSw); go_simp; try (with_reducible rfl))
  try simp only [Act.put, List.setIfInBounds_toArray, List.set_cons_zero, List.set_cons_succ]
  refine wpAnyH_take (i := 17) (oi := { dst := some 23, op := Go.Op.load 3 (Go.Operand.tmp 22), type := 3, pos := "opts.go:86", after := #[{ on := 16, ground := Go.Ground.data }], guard := none }) (v := ?v17) rfl (by kernel_rfl) (by kernel_rfl) (by kernel_rfl) (fun _ _ _ h => h) (Or.inl ⟨by rfl, ?y17⟩) hH0 ?_
  case y17 => (intro w hSw; (try dsimp only at hSw); go_simp; try (with_reducible rfl))
  try simp only [Act.put, List.setIfInBounds_toArray, List.set_cons_zero, List.set_cons_succ]
  refine wpAnyH_take (i := 20) (oi := { dst := some 26, op := Go.Op.fieldAddr 24 (Go.Operand.tmp 1) 5, type := 0, pos := "opts.go:86", after := #[], guard := none }) (v := ?v20) rfl (by kernel_rfl) (by kernel_rfl) (by kernel_rfl) (fun _ _ _ h => h) (Or.inl ⟨by rfl, ?y20⟩) hH0 ?_
  case y20 => (intro w hSw; (try dsimp only at hSw); go_simp; try (with_reducible rfl))
  try simp only [Act.put, List.setIfInBounds_toArray, List.set_cons_zero, List.set_cons_succ]
  refine wpAnyH_take (i := 21) (oi := { dst := some 27, op := Go.Op.load 3 (Go.Operand.tmp 26), type := 3, pos := "opts.go:86", after := #[{ on := 20, ground := Go.Ground.data }], guard := none }) (v := ?v21) rfl (by kernel_rfl) (by kernel_rfl) (by kernel_rfl) (fun _ _ _ h => h) (Or.inl ⟨by rfl, ?y21⟩) hH0 ?_
  case y21 => (intro w hSw; (try dsimp only at hSw); go_simp; try (with_reducible rfl))
  try simp only [Act.put, List.setIfInBounds_toArray, List.set_cons_zero, List.set_cons_succ]
  refine wpAnyH_take (i := 24) (oi := { dst := some 30, op := Go.Op.fieldAddr 24 (Go.Operand.tmp 1) 6, type := 0, pos := "opts.go:86", after := #[], guard := none }) (v := ?v24) rfl (by kernel_rfl) (by kernel_rfl) (by kernel_rfl) (fun _ _ _ h => h) (Or.inl ⟨by rfl, ?y24⟩) hH0 ?_
  case y24 => (intro w hSw; (try dsimp only at hSw); go_simp; try (with_reducible rfl))
  try simp only [Act.put, List.setIfInBounds_toArray, List.set_cons_zero, List.set_cons_succ]
  refine wpAnyH_take (i := 25) (oi := { dst := some 31, op := Go.Op.load 3 (Go.Operand.tmp 30), type := 3, pos := "opts.go:86", after := #[{ on := 24, ground := Go.Ground.data }], guard := none }) (v := ?v25) rfl (by kernel_rfl) (by kernel_rfl) (by kernel_rfl) (fun _ _ _ h => h) (Or.inl ⟨by rfl, ?y25⟩) hH0 ?_
  case y25 => (intro w hSw; (try dsimp only at hSw); go_simp; try (with_reducible rfl))
  try simp only [Act.put, List.setIfInBounds_toArray, List.set_cons_zero, List.set_cons_succ]
  refine wpAnyH_take (i := 28) (oi := { dst := some 34, op := Go.Op.fieldAddr 24 (Go.Operand.tmp 1) 8, type := 0, pos := "opts.go:86", after := #[], guard := none }) (v := ?v28) rfl (by kernel_rfl) (by kernel_rfl) (by kernel_rfl) (fun _ _ _ h => h) (Or.inl ⟨by rfl, ?y28⟩) hH0 ?_
  case y28 => (intro w hSw; (try dsimp only at hSw); go_simp; try (with_reducible rfl))
  try simp only [Act.put, List.setIfInBounds_toArray, List.set_cons_zero, List.set_cons_succ]
  refine wpAnyH_take (i := 29) (oi := { dst := some 35, op := Go.Op.load 3 (Go.Operand.tmp 34), type := 3, pos := "opts.go:86", after := #[{ on := 28, ground := Go.Ground.data }], guard := none }) (v := ?v29) rfl (by kernel_rfl) (by kernel_rfl) (by kernel_rfl) (fun _ _ _ h => h) (Or.inl ⟨by rfl, ?y29⟩) hH0 ?_
  case y29 => (intro w hSw; (try dsimp only at hSw); go_simp; try (with_reducible rfl))
  try simp only [Act.put, List.setIfInBounds_toArray, List.set_cons_zero, List.set_cons_succ]
  refine wpAnyH_take (i := 42) (oi := { dst := some 48, op := Go.Op.load 24 (Go.Operand.tmp 1), type := 24, pos := "opts.go:86", after := #[], guard := none }) (v := ?v42) rfl (by kernel_rfl) (by kernel_rfl) (by kernel_rfl) (fun _ _ _ h => h) (Or.inl ⟨by rfl, ?y42⟩) hH0 ?_
  case y42 => (intro w hSw; (try dsimp only at hSw); go_simp; try (with_reducible rfl))
  try simp only [Act.put, List.setIfInBounds_toArray, List.set_cons_zero, List.set_cons_succ]
  refine wpAnyH_take (i := 46) (oi := { dst := some 52, op := Go.Op.fieldAddr 24 (Go.Operand.tmp 1) 9, type := 0, pos := "opts.go:86", after := #[], guard := none }) (v := ?v46) rfl (by kernel_rfl) (by kernel_rfl) (by kernel_rfl) (fun _ _ _ h => h) (Or.inl ⟨by rfl, ?y46⟩) hH0 ?_
  case y46 => (intro w hSw; (try dsimp only at hSw); go_simp; try (with_reducible rfl))
  try simp only [Act.put, List.setIfInBounds_toArray, List.set_cons_zero, List.set_cons_succ]
  refine wpAnyH_take (i := 47) (oi := { dst := some 53, op := Go.Op.load 3 (Go.Operand.tmp 52), type := 3, pos := "opts.go:86", after := #[{ on := 46, ground := Go.Ground.data }], guard := none }) (v := ?v47) rfl (by kernel_rfl) (by kernel_rfl) (by kernel_rfl) (fun _ _ _ h => h) (Or.inl ⟨by rfl, ?y47⟩) hH0 ?_
  case y47 => (intro w hSw; (try dsimp only at hSw); go_simp; try (with_reducible rfl))
  try simp only [Act.put, List.setIfInBounds_toArray, List.set_cons_zero, List.set_cons_succ]
  refine wpAnyH_take (i := 50) (oi := { dst := some 56, op := Go.Op.fieldAddr 24 (Go.Operand.tmp 1) 10, type := 0, pos := "opts.go:86", after := #[], guard := none }) (v := ?v50) rfl (by kernel_rfl) (by kernel_rfl) (by kernel_rfl) (fun _ _ _ h => h) (Or.inl ⟨by rfl, ?y50⟩) hH0 ?_
  case y50 => (intro w hSw; (try dsimp only at hSw); go_simp; try (with_reducible rfl))
  try simp only [Act.put, List.setIfInBounds_toArray, List.set_cons_zero, List.set_cons_succ]
  refine wpAnyH_take (i := 51) (oi := { dst := some 57, op := Go.Op.load 3 (Go.Operand.tmp 56), type := 3, pos := "opts.go:86", after := #[{ on := 50, ground := Go.Ground.data }], guard := none }) (v := ?v51) rfl (by kernel_rfl) (by kernel_rfl) (by kernel_rfl) (fun _ _ _ h => h) (Or.inl ⟨by rfl, ?y51⟩) hH0 ?_
  case y51 => (intro w hSw; (try dsimp only at hSw); go_simp; try (with_reducible rfl))
  try simp only [Act.put, List.setIfInBounds_toArray, List.set_cons_zero, List.set_cons_succ]
  refine wpAnyH_take (i := 54) (oi := { dst := some 60, op := Go.Op.fieldAddr 24 (Go.Operand.tmp 1) 11, type := 0, pos := "opts.go:86", after := #[], guard := none }) (v := ?v54) rfl (by kernel_rfl) (by kernel_rfl) (by kernel_rfl) (fun _ _ _ h => h) (Or.inl ⟨by rfl, ?y54⟩) hH0 ?_
  case y54 => (intro w hSw; (try dsimp only at hSw); go_simp; try (with_reducible rfl))
  try simp only [Act.put, List.setIfInBounds_toArray, List.set_cons_zero, List.set_cons_succ]
  refine wpAnyH_take (i := 55) (oi := { dst := some 61, op := Go.Op.load 3 (Go.Operand.tmp 60), type := 3, pos := "opts.go:86", after := #[{ on := 54, ground := Go.Ground.data }], guard := none }) (v := ?v55) rfl (by kernel_rfl) (by kernel_rfl) (by kernel_rfl) (fun _ _ _ h => h) (Or.inl ⟨by rfl, ?y55⟩) hH0 ?_
  case y55 => (intro w hSw; (try dsimp only at hSw); go_simp; try (with_reducible rfl))
  try simp only [Act.put, List.setIfInBounds_toArray, List.set_cons_zero, List.set_cons_succ]
  refine wpAnyH_take (i := 58) (oi := { dst := some 64, op := Go.Op.fieldAddr 24 (Go.Operand.tmp 1) 12, type := 0, pos := "opts.go:86", after := #[], guard := none }) (v := ?v58) rfl (by kernel_rfl) (by kernel_rfl) (by kernel_rfl) (fun _ _ _ h => h) (Or.inl ⟨by rfl, ?y58⟩) hH0 ?_
  case y58 => (intro w hSw; (try dsimp only at hSw); go_simp; try (with_reducible rfl))
  try simp only [Act.put, List.setIfInBounds_toArray, List.set_cons_zero, List.set_cons_succ]
  refine wpAnyH_take (i := 59) (oi := { dst := some 65, op := Go.Op.load 3 (Go.Operand.tmp 64), type := 3, pos := "opts.go:86", after := #[{ on := 58, ground := Go.Ground.data }], guard := none }) (v := ?v59) rfl (by kernel_rfl) (by kernel_rfl) (by kernel_rfl) (fun _ _ _ h => h) (Or.inl ⟨by rfl, ?y59⟩) hH0 ?_
  case y59 => (intro w hSw; (try dsimp only at hSw); go_simp; try (with_reducible rfl))
  try simp only [Act.put, List.setIfInBounds_toArray, List.set_cons_zero, List.set_cons_succ]
  refine wpAnyH_take (i := 60) (oi := { dst := some 66, op := Go.Op.fieldAddr 24 (Go.Operand.tmp 1) 11, type := 0, pos := "opts.go:86", after := #[], guard := none }) (v := ?v60) rfl (by kernel_rfl) (by kernel_rfl) (by kernel_rfl) (fun _ _ _ h => h) (Or.inl ⟨by rfl, ?y60⟩) hH0 ?_
  case y60 => (intro w hSw; (try dsimp only at hSw); go_simp; try (with_reducible rfl))
  try simp only [Act.put, List.setIfInBounds_toArray, List.set_cons_zero, List.set_cons_succ]
  refine wpAnyH_take (i := 61) (oi := { dst := some 67, op := Go.Op.load 3 (Go.Operand.tmp 66), type := 3, pos := "opts.go:86", after := #[{ on := 60, ground := Go.Ground.data }], guard := none }) (v := ?v61) rfl (by kernel_rfl) (by kernel_rfl) (by kernel_rfl) (fun _ _ _ h => h) (Or.inl ⟨by rfl, ?y61⟩) hH0 ?_
  case y61 => (intro w hSw; (try dsimp only at hSw); go_simp; try (with_reducible rfl))
  try simp only [Act.put, List.setIfInBounds_toArray, List.set_cons_zero, List.set_cons_succ]
  refine wpAnyH_take (i := 64) (oi := { dst := some 70, op := Go.Op.fieldAddr 24 (Go.Operand.tmp 1) 13, type := 0, pos := "opts.go:86", after := #[], guard := none }) (v := ?v64) rfl (by kernel_rfl) (by kernel_rfl) (by kernel_rfl) (fun _ _ _ h => h) (Or.inl ⟨by rfl, ?y64⟩) hH0 ?_
  case y64 => (intro w hSw; (try dsimp only at hSw); go_simp; try (with_reducible rfl))
  try simp only [Act.put, List.setIfInBounds_toArray, List.set_cons_zero, List.set_cons_succ]
  refine wpAnyH_take (i := 65) (oi := { dst := some 71, op := Go.Op.load 3 (Go.Operand.tmp 70), type := 3, pos := "opts.go:86", after := #[{ on := 64, ground := Go.Ground.data }], guard := none }) (v := ?v65) rfl (by kernel_rfl) (by kernel_rfl) (by kernel_rfl) (fun _ _ _ h => h) (Or.inl ⟨by rfl, ?y65⟩) hH0 ?_
  case y65 => (intro w hSw; (try dsimp only at hSw); go_simp; try (with_reducible rfl))
  try simp only [Act.put, List.setIfInBounds_toArray, List.set_cons_zero, List.set_cons_succ]
  refine wpAnyH_take (i := 68) (oi := { dst := some 74, op := Go.Op.fieldAddr 24 (Go.Operand.tmp 1) 14, type := 0, pos := "opts.go:86", after := #[], guard := none }) (v := ?v68) rfl (by kernel_rfl) (by kernel_rfl) (by kernel_rfl) (fun _ _ _ h => h) (Or.inl ⟨by rfl, ?y68⟩) hH0 ?_
  case y68 => (intro w hSw; (try dsimp only at hSw); go_simp; try (with_reducible rfl))
  try simp only [Act.put, List.setIfInBounds_toArray, List.set_cons_zero, List.set_cons_succ]
  refine wpAnyH_take (i := 69) (oi := { dst := some 75, op := Go.Op.load 3 (Go.Operand.tmp 74), type := 3, pos := "opts.go:86", after := #[{ on := 68, ground := Go.Ground.data }], guard := none }) (v := ?v69) rfl (by kernel_rfl) (by kernel_rfl) (by kernel_rfl) (fun _ _ _ h => h) (Or.inl ⟨by rfl, ?y69⟩) hH0 ?_
  case y69 => (intro w hSw; (try dsimp only at hSw); go_simp; try (with_reducible rfl))
  try simp only [Act.put, List.setIfInBounds_toArray, List.set_cons_zero, List.set_cons_succ]
  refine wpAnyH_ready (rs := [2]) (by kernel_rfl) (by simp) ?_
  refine AllReadyH.cons (o := { dst := some 8, op := Go.Op.call { callee := Go.Callee.value (Go.Operand.func 40), args := #[Go.Operand.tmp 7, Go.Operand.const (Go.Value.int Go.IntKind.i64 (-1)), Go.Operand.const (Go.Value.int Go.IntKind.i64 1099511627776)], argTypes := #[3, 3, 3] }, type := 4, pos := "opts.go:90", after := #[{ on := 1, ground := Go.Ground.data }], guard := none }) rfl (fun K hK => ?s2) ?n2
  case n2 => exact AllReadyH.nil
  rw [if_pos (by rfl)]
  go_simp
  (first
        | (go_at_call 40; (with_reducible refine (Cn _).mono ?_); rintro e w' ⟨rfl, rfl⟩)
        | (go_at_call 40; refine (in_any _ _ _ _).mono ?_; rintro e w' ⟨rfl, rfl⟩)
        | (go_at_call 22; refine (Cw _).mono ?_; rintro e w' ⟨rfl, rfl⟩)
        | (go_at_call 41; refine (way_right _ _ _ _).mono ?_; rintro e w' ⟨rfl, rfl⟩))
  first | (refine hK.out _ _ ?_ (fun hH1 => ?_)) | (go_wp2_with fail; refine hK.out _ _ ?_ (fun hH1 => ?_))
  · first | exact hH0 | (obtain ⟨q0, q1, q2, q3, q4, q5, q6, q7, q8, q9, q10, q11, q12, q13, q14, q15⟩ := hH0; exact ⟨cell_more q0 _, cell_more q1 _, cell_more q2 _, cell_more q3 _, cell_more q4 _, cell_more q5 _, cell_more q6 _, cell_more q7 _, cell_more q8 _, cell_more q9 _, cell_more q10 _, cell_more q11 _, cell_more q12 _, cell_more q13 _, cell_more q14 _, cell_more q15 _⟩)
  clear hK K hH0
  try simp only [Act.put, List.setIfInBounds_toArray, List.set_cons_zero, List.set_cons_succ]
  refine wpAnyH_take (i := 3) (oi := { dst := some 9, op := Go.Op.build 84 #[(0, Go.Operand.const (Go.Value.string { data := #[99, 111, 110, 102, 108, 105, 99, 116, 115] })), (1, Go.Operand.tmp 8)], type := 84, pos := "opts.go:86", after := #[{ on := 2, ground := Go.Ground.data }], guard := none }) (v := ?v3) rfl (by kernel_rfl) (by kernel_rfl) (by kernel_rfl) (fun _ _ _ h => h) (Or.inl ⟨by rfl, ?y3⟩) hH1 ?_
  case y3 => (intro w hSw; (try dsimp only at hSw); go_simp; try (with_reducible rfl))
  try simp only [Act.put, List.setIfInBounds_toArray, List.set_cons_zero, List.set_cons_succ]
  refine wpAnyH_ready (rs := [6]) (by kernel_rfl) (by simp) ?_
  refine AllReadyH.cons (o := { dst := some 12, op := Go.Op.call { callee := Go.Callee.value (Go.Operand.func 40), args := #[Go.Operand.tmp 11, Go.Operand.const (Go.Value.int Go.IntKind.i64 (-1)), Go.Operand.const (Go.Value.int Go.IntKind.i64 1099511627776)], argTypes := #[3, 3, 3] }, type := 4, pos := "opts.go:90", after := #[{ on := 5, ground := Go.Ground.data }, { on := 2, ground := Go.Ground.chain }], guard := none }) rfl (fun K hK => ?s6) ?n6
  case n6 => exact AllReadyH.nil
  rw [if_pos (by rfl)]
  go_simp
  (first
        | (go_at_call 40; (with_reducible refine (Cn _).mono ?_); rintro e w' ⟨rfl, rfl⟩)
        | (go_at_call 40; refine (in_any _ _ _ _).mono ?_; rintro e w' ⟨rfl, rfl⟩)
        | (go_at_call 22; refine (Cw _).mono ?_; rintro e w' ⟨rfl, rfl⟩)
        | (go_at_call 41; refine (way_right _ _ _ _).mono ?_; rintro e w' ⟨rfl, rfl⟩))
  first | (refine hK.out _ _ ?_ (fun hH2 => ?_)) | (go_wp2_with fail; refine hK.out _ _ ?_ (fun hH2 => ?_))
  · first | exact hH1 | (obtain ⟨q0, q1, q2, q3, q4, q5, q6, q7, q8, q9, q10, q11, q12, q13, q14, q15⟩ := hH1; exact ⟨cell_more q0 _, cell_more q1 _, cell_more q2 _, cell_more q3 _, cell_more q4 _, cell_more q5 _, cell_more q6 _, cell_more q7 _, cell_more q8 _, cell_more q9 _, cell_more q10 _, cell_more q11 _, cell_more q12 _, cell_more q13 _, cell_more q14 _, cell_more q15 _⟩)
  clear hK K hH1
  try simp only [Act.put, List.setIfInBounds_toArray, List.set_cons_zero, List.set_cons_succ]
  refine wpAnyH_take (i := 7) (oi := { dst := some 13, op := Go.Op.build 84 #[(0, Go.Operand.const (Go.Value.string { data := #[119, 111, 114, 100, 115] })), (1, Go.Operand.tmp 12)], type := 84, pos := "opts.go:86", after := #[{ on := 6, ground := Go.Ground.data }], guard := none }) (v := ?v7) rfl (by kernel_rfl) (by kernel_rfl) (by kernel_rfl) (fun _ _ _ h => h) (Or.inl ⟨by rfl, ?y7⟩) hH2 ?_
  case y7 => (intro w hSw; (try dsimp only at hSw); go_simp; try (with_reducible rfl))
  try simp only [Act.put, List.setIfInBounds_toArray, List.set_cons_zero, List.set_cons_succ]
  refine wpAnyH_ready (rs := [10]) (by kernel_rfl) (by simp) ?_
  refine AllReadyH.cons (o := { dst := some 16, op := Go.Op.call { callee := Go.Callee.value (Go.Operand.func 40), args := #[Go.Operand.tmp 15, Go.Operand.const (Go.Value.int Go.IntKind.i64 1), Go.Operand.const (Go.Value.int Go.IntKind.i64 10000)], argTypes := #[3, 3, 3] }, type := 4, pos := "opts.go:90", after := #[{ on := 9, ground := Go.Ground.data }, { on := 6, ground := Go.Ground.chain }], guard := none }) rfl (fun K hK => ?s10) ?n10
  case n10 => exact AllReadyH.nil
  rw [if_pos (by rfl)]
  go_simp
  (first
        | (go_at_call 40; (with_reducible refine (Cn _).mono ?_); rintro e w' ⟨rfl, rfl⟩)
        | (go_at_call 40; refine (in_any _ _ _ _).mono ?_; rintro e w' ⟨rfl, rfl⟩)
        | (go_at_call 22; refine (Cw _).mono ?_; rintro e w' ⟨rfl, rfl⟩)
        | (go_at_call 41; refine (way_right _ _ _ _).mono ?_; rintro e w' ⟨rfl, rfl⟩))
  first | (refine hK.out _ _ ?_ (fun hH3 => ?_)) | (go_wp2_with fail; refine hK.out _ _ ?_ (fun hH3 => ?_))
  · first | exact hH2 | (obtain ⟨q0, q1, q2, q3, q4, q5, q6, q7, q8, q9, q10, q11, q12, q13, q14, q15⟩ := hH2; exact ⟨cell_more q0 _, cell_more q1 _, cell_more q2 _, cell_more q3 _, cell_more q4 _, cell_more q5 _, cell_more q6 _, cell_more q7 _, cell_more q8 _, cell_more q9 _, cell_more q10 _, cell_more q11 _, cell_more q12 _, cell_more q13 _, cell_more q14 _, cell_more q15 _⟩)
  clear hK K hH2
  try simp only [Act.put, List.setIfInBounds_toArray, List.set_cons_zero, List.set_cons_succ]
  refine wpAnyH_take (i := 11) (oi := { dst := some 17, op := Go.Op.build 84 #[(0, Go.Operand.const (Go.Value.string { data := #[114, 101, 115, 116, 97, 114, 116] })), (1, Go.Operand.tmp 16)], type := 84, pos := "opts.go:86", after := #[{ on := 10, ground := Go.Ground.data }], guard := none }) (v := ?v11) rfl (by kernel_rfl) (by kernel_rfl) (by kernel_rfl) (fun _ _ _ h => h) (Or.inl ⟨by rfl, ?y11⟩) hH3 ?_
  case y11 => (intro w hSw; (try dsimp only at hSw); go_simp; try (with_reducible rfl))
  try simp only [Act.put, List.setIfInBounds_toArray, List.set_cons_zero, List.set_cons_succ]
  refine wpAnyH_ready (rs := [14]) (by kernel_rfl) (by simp) ?_
  refine AllReadyH.cons (o := { dst := some 20, op := Go.Op.call { callee := Go.Callee.value (Go.Operand.func 40), args := #[Go.Operand.tmp 19, Go.Operand.const (Go.Value.int Go.IntKind.i64 1), Go.Operand.const (Go.Value.int Go.IntKind.i64 100000)], argTypes := #[3, 3, 3] }, type := 4, pos := "opts.go:91", after := #[{ on := 13, ground := Go.Ground.data }, { on := 10, ground := Go.Ground.chain }], guard := none }) rfl (fun K hK => ?s14) ?n14
  case n14 => exact AllReadyH.nil
  rw [if_pos (by rfl)]
  go_simp
  (first
        | (go_at_call 40; (with_reducible refine (Cn _).mono ?_); rintro e w' ⟨rfl, rfl⟩)
        | (go_at_call 40; refine (in_any _ _ _ _).mono ?_; rintro e w' ⟨rfl, rfl⟩)
        | (go_at_call 22; refine (Cw _).mono ?_; rintro e w' ⟨rfl, rfl⟩)
        | (go_at_call 41; refine (way_right _ _ _ _).mono ?_; rintro e w' ⟨rfl, rfl⟩))
  first | (refine hK.out _ _ ?_ (fun hH4 => ?_)) | (go_wp2_with fail; refine hK.out _ _ ?_ (fun hH4 => ?_))
  · first | exact hH3 | (obtain ⟨q0, q1, q2, q3, q4, q5, q6, q7, q8, q9, q10, q11, q12, q13, q14, q15⟩ := hH3; exact ⟨cell_more q0 _, cell_more q1 _, cell_more q2 _, cell_more q3 _, cell_more q4 _, cell_more q5 _, cell_more q6 _, cell_more q7 _, cell_more q8 _, cell_more q9 _, cell_more q10 _, cell_more q11 _, cell_more q12 _, cell_more q13 _, cell_more q14 _, cell_more q15 _⟩)
  clear hK K hH3
  try simp only [Act.put, List.setIfInBounds_toArray, List.set_cons_zero, List.set_cons_succ]
  refine wpAnyH_take (i := 15) (oi := { dst := some 21, op := Go.Op.build 84 #[(0, Go.Operand.const (Go.Value.string { data := #[102, 105, 114, 115, 116] })), (1, Go.Operand.tmp 20)], type := 84, pos := "opts.go:86", after := #[{ on := 14, ground := Go.Ground.data }], guard := none }) (v := ?v15) rfl (by kernel_rfl) (by kernel_rfl) (by kernel_rfl) (fun _ _ _ h => h) (Or.inl ⟨by rfl, ?y15⟩) hH4 ?_
  case y15 => (intro w hSw; (try dsimp only at hSw); go_simp; try (with_reducible rfl))
  try simp only [Act.put, List.setIfInBounds_toArray, List.set_cons_zero, List.set_cons_succ]
  refine wpAnyH_ready (rs := [18]) (by kernel_rfl) (by simp) ?_
  refine AllReadyH.cons (o := { dst := some 24, op := Go.Op.call { callee := Go.Callee.value (Go.Operand.func 40), args := #[Go.Operand.tmp 23, Go.Operand.const (Go.Value.int Go.IntKind.i64 1), Go.Operand.const (Go.Value.int Go.IntKind.i64 100000)], argTypes := #[3, 3, 3] }, type := 4, pos := "opts.go:91", after := #[{ on := 17, ground := Go.Ground.data }, { on := 14, ground := Go.Ground.chain }], guard := none }) rfl (fun K hK => ?s18) ?n18
  case n18 => exact AllReadyH.nil
  rw [if_pos (by rfl)]
  go_simp
  (first
        | (go_at_call 40; (with_reducible refine (Cn _).mono ?_); rintro e w' ⟨rfl, rfl⟩)
        | (go_at_call 40; refine (in_any _ _ _ _).mono ?_; rintro e w' ⟨rfl, rfl⟩)
        | (go_at_call 22; refine (Cw _).mono ?_; rintro e w' ⟨rfl, rfl⟩)
        | (go_at_call 41; refine (way_right _ _ _ _).mono ?_; rintro e w' ⟨rfl, rfl⟩))
  first | (refine hK.out _ _ ?_ (fun hH5 => ?_)) | (go_wp2_with fail; refine hK.out _ _ ?_ (fun hH5 => ?_))
  · first | exact hH4 | (obtain ⟨q0, q1, q2, q3, q4, q5, q6, q7, q8, q9, q10, q11, q12, q13, q14, q15⟩ := hH4; exact ⟨cell_more q0 _, cell_more q1 _, cell_more q2 _, cell_more q3 _, cell_more q4 _, cell_more q5 _, cell_more q6 _, cell_more q7 _, cell_more q8 _, cell_more q9 _, cell_more q10 _, cell_more q11 _, cell_more q12 _, cell_more q13 _, cell_more q14 _, cell_more q15 _⟩)
  clear hK K hH4
  try simp only [Act.put, List.setIfInBounds_toArray, List.set_cons_zero, List.set_cons_succ]
  refine wpAnyH_take (i := 19) (oi := { dst := some 25, op := Go.Op.build 84 #[(0, Go.Operand.const (Go.Value.string { data := #[114, 105, 115, 101] })), (1, Go.Operand.tmp 24)], type := 84, pos := "opts.go:86", after := #[{ on := 18, ground := Go.Ground.data }], guard := none }) (v := ?v19) rfl (by kernel_rfl) (by kernel_rfl) (by kernel_rfl) (fun _ _ _ h => h) (Or.inl ⟨by rfl, ?y19⟩) hH5 ?_
  case y19 => (intro w hSw; (try dsimp only at hSw); go_simp; try (with_reducible rfl))
  try simp only [Act.put, List.setIfInBounds_toArray, List.set_cons_zero, List.set_cons_succ]
  refine wpAnyH_ready (rs := [22]) (by kernel_rfl) (by simp) ?_
  refine AllReadyH.cons (o := { dst := some 28, op := Go.Op.call { callee := Go.Callee.value (Go.Operand.func 40), args := #[Go.Operand.tmp 27, Go.Operand.const (Go.Value.int Go.IntKind.i64 0), Go.Operand.const (Go.Value.int Go.IntKind.i64 100000)], argTypes := #[3, 3, 3] }, type := 4, pos := "opts.go:91", after := #[{ on := 21, ground := Go.Ground.data }, { on := 18, ground := Go.Ground.chain }], guard := none }) rfl (fun K hK => ?s22) ?n22
  case n22 => exact AllReadyH.nil
  rw [if_pos (by rfl)]
  go_simp
  (first
        | (go_at_call 40; (with_reducible refine (Cn _).mono ?_); rintro e w' ⟨rfl, rfl⟩)
        | (go_at_call 40; refine (in_any _ _ _ _).mono ?_; rintro e w' ⟨rfl, rfl⟩)
        | (go_at_call 22; refine (Cw _).mono ?_; rintro e w' ⟨rfl, rfl⟩)
        | (go_at_call 41; refine (way_right _ _ _ _).mono ?_; rintro e w' ⟨rfl, rfl⟩))
  first | (refine hK.out _ _ ?_ (fun hH6 => ?_)) | (go_wp2_with fail; refine hK.out _ _ ?_ (fun hH6 => ?_))
  · first | exact hH5 | (obtain ⟨q0, q1, q2, q3, q4, q5, q6, q7, q8, q9, q10, q11, q12, q13, q14, q15⟩ := hH5; exact ⟨cell_more q0 _, cell_more q1 _, cell_more q2 _, cell_more q3 _, cell_more q4 _, cell_more q5 _, cell_more q6 _, cell_more q7 _, cell_more q8 _, cell_more q9 _, cell_more q10 _, cell_more q11 _, cell_more q12 _, cell_more q13 _, cell_more q14 _, cell_more q15 _⟩)
  clear hK K hH5
  try simp only [Act.put, List.setIfInBounds_toArray, List.set_cons_zero, List.set_cons_succ]
  refine wpAnyH_take (i := 23) (oi := { dst := some 29, op := Go.Op.build 84 #[(0, Go.Operand.const (Go.Value.string { data := #[119, 97, 108, 107] })), (1, Go.Operand.tmp 28)], type := 84, pos := "opts.go:86", after := #[{ on := 22, ground := Go.Ground.data }], guard := none }) (v := ?v23) rfl (by kernel_rfl) (by kernel_rfl) (by kernel_rfl) (fun _ _ _ h => h) (Or.inl ⟨by rfl, ?y23⟩) hH6 ?_
  case y23 => (intro w hSw; (try dsimp only at hSw); go_simp; try (with_reducible rfl))
  try simp only [Act.put, List.setIfInBounds_toArray, List.set_cons_zero, List.set_cons_succ]
  refine wpAnyH_ready (rs := [26]) (by kernel_rfl) (by simp) ?_
  refine AllReadyH.cons (o := { dst := some 32, op := Go.Op.call { callee := Go.Callee.value (Go.Operand.func 40), args := #[Go.Operand.tmp 31, Go.Operand.const (Go.Value.int Go.IntKind.i64 0), Go.Operand.const (Go.Value.int Go.IntKind.i64 2)], argTypes := #[3, 3, 3] }, type := 4, pos := "opts.go:92", after := #[{ on := 25, ground := Go.Ground.data }, { on := 22, ground := Go.Ground.chain }], guard := none }) rfl (fun K hK => ?s26) ?n26
  case n26 => exact AllReadyH.nil
  rw [if_pos (by rfl)]
  go_simp
  (first
        | (go_at_call 40; (with_reducible refine (Cn _).mono ?_); rintro e w' ⟨rfl, rfl⟩)
        | (go_at_call 40; refine (in_any _ _ _ _).mono ?_; rintro e w' ⟨rfl, rfl⟩)
        | (go_at_call 22; refine (Cw _).mono ?_; rintro e w' ⟨rfl, rfl⟩)
        | (go_at_call 41; refine (way_right _ _ _ _).mono ?_; rintro e w' ⟨rfl, rfl⟩))
  first | (refine hK.out _ _ ?_ (fun hH7 => ?_)) | (go_wp2_with fail; refine hK.out _ _ ?_ (fun hH7 => ?_))
  · first | exact hH6 | (obtain ⟨q0, q1, q2, q3, q4, q5, q6, q7, q8, q9, q10, q11, q12, q13, q14, q15⟩ := hH6; exact ⟨cell_more q0 _, cell_more q1 _, cell_more q2 _, cell_more q3 _, cell_more q4 _, cell_more q5 _, cell_more q6 _, cell_more q7 _, cell_more q8 _, cell_more q9 _, cell_more q10 _, cell_more q11 _, cell_more q12 _, cell_more q13 _, cell_more q14 _, cell_more q15 _⟩)
  clear hK K hH6
  try simp only [Act.put, List.setIfInBounds_toArray, List.set_cons_zero, List.set_cons_succ]
  refine wpAnyH_take (i := 27) (oi := { dst := some 33, op := Go.Op.build 84 #[(0, Go.Operand.const (Go.Value.string { data := #[107, 105, 110, 100] })), (1, Go.Operand.tmp 32)], type := 84, pos := "opts.go:86", after := #[{ on := 26, ground := Go.Ground.data }], guard := none }) (v := ?v27) rfl (by kernel_rfl) (by kernel_rfl) (by kernel_rfl) (fun _ _ _ h => h) (Or.inl ⟨by rfl, ?y27⟩) hH7 ?_
  case y27 => (intro w hSw; (try dsimp only at hSw); go_simp; try (with_reducible rfl))
  try simp only [Act.put, List.setIfInBounds_toArray, List.set_cons_zero, List.set_cons_succ]
  refine wpAnyH_ready (rs := [30]) (by kernel_rfl) (by simp) ?_
  refine AllReadyH.cons (o := { dst := some 36, op := Go.Op.call { callee := Go.Callee.value (Go.Operand.func 40), args := #[Go.Operand.tmp 35, Go.Operand.const (Go.Value.int Go.IntKind.i64 0), Go.Operand.const (Go.Value.int Go.IntKind.i64 1000)], argTypes := #[3, 3, 3] }, type := 4, pos := "opts.go:92", after := #[{ on := 29, ground := Go.Ground.data }, { on := 26, ground := Go.Ground.chain }], guard := none }) rfl (fun K hK => ?s30) ?n30
  case n30 => exact AllReadyH.nil
  rw [if_pos (by rfl)]
  go_simp
  (first
        | (go_at_call 40; (with_reducible refine (Cn _).mono ?_); rintro e w' ⟨rfl, rfl⟩)
        | (go_at_call 40; refine (in_any _ _ _ _).mono ?_; rintro e w' ⟨rfl, rfl⟩)
        | (go_at_call 22; refine (Cw _).mono ?_; rintro e w' ⟨rfl, rfl⟩)
        | (go_at_call 41; refine (way_right _ _ _ _).mono ?_; rintro e w' ⟨rfl, rfl⟩))
  first | (refine hK.out _ _ ?_ (fun hH8 => ?_)) | (go_wp2_with fail; refine hK.out _ _ ?_ (fun hH8 => ?_))
  · first | exact hH7 | (obtain ⟨q0, q1, q2, q3, q4, q5, q6, q7, q8, q9, q10, q11, q12, q13, q14, q15⟩ := hH7; exact ⟨cell_more q0 _, cell_more q1 _, cell_more q2 _, cell_more q3 _, cell_more q4 _, cell_more q5 _, cell_more q6 _, cell_more q7 _, cell_more q8 _, cell_more q9 _, cell_more q10 _, cell_more q11 _, cell_more q12 _, cell_more q13 _, cell_more q14 _, cell_more q15 _⟩)
  clear hK K hH7
  try simp only [Act.put, List.setIfInBounds_toArray, List.set_cons_zero, List.set_cons_succ]
  refine wpAnyH_take (i := 31) (oi := { dst := some 37, op := Go.Op.move (Go.Operand.tmp 36), type := 4, pos := "opts.go:86", after := #[{ on := 30, ground := Go.Ground.data }, { on := 30, ground := Go.Ground.chain }], guard := none }) (v := ?v31) rfl (by kernel_rfl) (by kernel_rfl) (by kernel_rfl) (fun _ _ _ h => h) (Or.inl ⟨by rfl, ?y31⟩) hH8 ?_
  case y31 => (intro w hSw; (try dsimp only at hSw); go_simp; try (with_reducible rfl))
  try simp only [Act.put, List.setIfInBounds_toArray, List.set_cons_zero, List.set_cons_succ]
  refine wpAnyH_take (i := 32) (oi := { dst := some 38, op := Go.Op.fieldAddr 24 (Go.Operand.tmp 1) 6, type := 0, pos := "opts.go:86", after := #[{ on := 31, ground := Go.Ground.guard }], guard := some (31, true) }) (v := ?v32) rfl (by kernel_rfl) (by kernel_rfl) (by kernel_rfl) (fun _ _ _ h => h) (Or.inl ⟨by rfl, ?y32⟩) hH8 ?_
  case y32 => (intro w hSw; (try dsimp only at hSw); go_simp; try (with_reducible rfl))
  try simp only [Act.put, List.setIfInBounds_toArray, List.set_cons_zero, List.set_cons_succ]
  refine wpAnyH_take (i := 33) (oi := { dst := some 39, op := Go.Op.load 3 (Go.Operand.tmp 38), type := 3, pos := "opts.go:86", after := #[{ on := 32, ground := Go.Ground.data }, { on := 31, ground := Go.Ground.guard }], guard := some (31, true) }) (v := ?v33) rfl (by kernel_rfl) (by kernel_rfl) (by kernel_rfl) (fun _ _ _ h => h) (Or.inl ⟨by rfl, ?y33⟩) hH8 ?_
  case y33 => (intro w hSw; (try dsimp only at hSw); go_simp; try (with_reducible rfl))
  try simp only [Act.put, List.setIfInBounds_toArray, List.set_cons_zero, List.set_cons_succ]
  refine wpAnyH_take (i := 34) (oi := { dst := some 40, op := Go.Op.binOp Go.BinOp.eql 3 (Go.Operand.tmp 39) (Go.Operand.const (Go.Value.int Go.IntKind.i64 2)) 3, type := 4, pos := "opts.go:86", after := #[{ on := 33, ground := Go.Ground.data }, { on := 31, ground := Go.Ground.guard }], guard := some (31, true) }) (v := ?v34) rfl (by kernel_rfl) (by kernel_rfl) (by kernel_rfl) (fun _ _ _ h => h) (Or.inl ⟨by rfl, ?y34⟩) hH8 ?_
  case y34 => (intro w hSw; (try dsimp only at hSw); go_simp; try (with_reducible rfl))
  try simp only [Act.put, List.setIfInBounds_toArray, List.set_cons_zero, List.set_cons_succ]
  refine wpAnyH_take (i := 35) (oi := { dst := some 41, op := Go.Op.move (Go.Operand.tmp 40), type := 4, pos := "opts.go:86", after := #[{ on := 34, ground := Go.Ground.data }, { on := 31, ground := Go.Ground.chain }, { on := 31, ground := Go.Ground.guard }], guard := some (31, true) }) (v := ?v35) rfl (by kernel_rfl) (by kernel_rfl) (by kernel_rfl) (fun _ _ _ h => h) (Or.inl ⟨by rfl, ?y35⟩) hH8 ?_
  case y35 => (intro w hSw; (try dsimp only at hSw); go_simp; try (with_reducible rfl))
  try simp only [Act.put, List.setIfInBounds_toArray, List.set_cons_zero, List.set_cons_succ]
  refine wpAnyH_take (i := 36) (oi := { dst := some 42, op := Go.Op.fieldAddr 24 (Go.Operand.tmp 1) 8, type := 0, pos := "opts.go:86", after := #[{ on := 35, ground := Go.Ground.guard }], guard := some (35, false) }) (v := ?v36) rfl (by kernel_rfl) (by kernel_rfl) (by kernel_rfl) (fun _ _ _ h => h) (Or.inl ⟨by rfl, ?y36⟩) hH8 ?_
  case y36 => (intro w hSw; (try dsimp only at hSw); go_simp; try (with_reducible rfl))
  try simp only [Act.put, List.setIfInBounds_toArray, List.set_cons_zero, List.set_cons_succ]
  refine wpAnyH_take (i := 37) (oi := { dst := some 43, op := Go.Op.load 3 (Go.Operand.tmp 42), type := 3, pos := "opts.go:86", after := #[{ on := 36, ground := Go.Ground.data }, { on := 35, ground := Go.Ground.guard }], guard := some (35, false) }) (v := ?v37) rfl (by kernel_rfl) (by kernel_rfl) (by kernel_rfl) (fun _ _ _ h => h) (Or.inl ⟨by rfl, ?y37⟩) hH8 ?_
  case y37 => (intro w hSw; (try dsimp only at hSw); go_simp; try (with_reducible rfl))
  try simp only [Act.put, List.setIfInBounds_toArray, List.set_cons_zero, List.set_cons_succ]
  refine wpAnyH_take (i := 38) (oi := { dst := some 44, op := Go.Op.binOp Go.BinOp.eql 3 (Go.Operand.tmp 43) (Go.Operand.const (Go.Value.int Go.IntKind.i64 0)) 3, type := 4, pos := "opts.go:86", after := #[{ on := 37, ground := Go.Ground.data }, { on := 35, ground := Go.Ground.guard }], guard := some (35, false) }) (v := ?v38) rfl (by kernel_rfl) (by kernel_rfl) (by kernel_rfl) (fun _ _ _ h => h) (Or.inl ⟨by rfl, ?y38⟩) hH8 ?_
  case y38 => (intro w hSw; (try dsimp only at hSw); go_simp; try (with_reducible rfl))
  try simp only [Act.put, List.setIfInBounds_toArray, List.set_cons_zero, List.set_cons_succ]
  refine wpAnyH_take (i := 39) (oi := { dst := some 45, op := Go.Op.pick (Go.Operand.tmp 41) (Go.Operand.const (Go.Value.bool true)) (Go.Operand.tmp 44), type := 4, pos := "opts.go:86", after := #[{ on := 35, ground := Go.Ground.data }, { on := 38, ground := Go.Ground.data }, { on := 31, ground := Go.Ground.guard }], guard := some (31, true) }) (v := ?v39) rfl (by kernel_rfl) (by kernel_rfl) (by kernel_rfl) (fun _ _ _ h => h) (Or.inl ⟨by rfl, ?y39⟩) hH8 ?_
  case y39 => (intro w hSw; (try dsimp only at hSw); go_simp; try (with_reducible rfl))
  try simp only [Act.put, List.setIfInBounds_toArray, List.set_cons_zero, List.set_cons_succ]
  refine wpAnyH_take (i := 40) (oi := { dst := some 46, op := Go.Op.pick (Go.Operand.tmp 37) (Go.Operand.tmp 45) (Go.Operand.const (Go.Value.bool false)), type := 4, pos := "opts.go:86", after := #[{ on := 31, ground := Go.Ground.data }, { on := 39, ground := Go.Ground.data }], guard := none }) (v := ?v40) rfl (by kernel_rfl) (by kernel_rfl) (by kernel_rfl) (fun _ _ _ h => h) (Or.inl ⟨by rfl, ?y40⟩) hH8 ?_
  case y40 => (intro w hSw; (try dsimp only at hSw); go_simp; try (with_reducible rfl))
  try simp only [Act.put, List.setIfInBounds_toArray, List.set_cons_zero, List.set_cons_succ]
  refine wpAnyH_take (i := 41) (oi := { dst := some 47, op := Go.Op.build 84 #[(0, Go.Operand.const (Go.Value.string { data := #[110, 111, 105, 115, 101] })), (1, Go.Operand.tmp 46)], type := 84, pos := "opts.go:86", after := #[{ on := 40, ground := Go.Ground.data }], guard := none }) (v := ?v41) rfl (by kernel_rfl) (by kernel_rfl) (by kernel_rfl) (fun _ _ _ h => h) (Or.inl ⟨by rfl, ?y41⟩) hH8 ?_
  case y41 => (intro w hSw; (try dsimp only at hSw); go_simp; try (with_reducible rfl))
  try simp only [Act.put, List.setIfInBounds_toArray, List.set_cons_zero, List.set_cons_succ]
  refine wpAnyH_ready (rs := [43]) (by kernel_rfl) (by simp) ?_
  refine AllReadyH.cons (o := { dst := some 49, op := Go.Op.call { callee := Go.Callee.value (Go.Operand.func 22), args := #[Go.Operand.tmp 48], argTypes := #[24] }, type := 51, pos := "opts.go:93", after := #[{ on := 42, ground := Go.Ground.data }, { on := 35, ground := Go.Ground.chain }], guard := none }) rfl (fun K hK => ?s43) ?n43
  case n43 => exact AllReadyH.nil
  rw [if_pos (by rfl)]
  go_simp
  (first
        | (go_at_call 40; (with_reducible refine (Cn _).mono ?_); rintro e w' ⟨rfl, rfl⟩)
        | (go_at_call 40; refine (in_any _ _ _ _).mono ?_; rintro e w' ⟨rfl, rfl⟩)
        | (go_at_call 22; refine (Cw _).mono ?_; rintro e w' ⟨rfl, rfl⟩)
        | (go_at_call 41; refine (way_right _ _ _ _).mono ?_; rintro e w' ⟨rfl, rfl⟩))
  first | (refine hK.out _ _ ?_ (fun hH9 => ?_)) | (go_wp2_with fail; refine hK.out _ _ ?_ (fun hH9 => ?_))
  · first | exact hH8 | (obtain ⟨q0, q1, q2, q3, q4, q5, q6, q7, q8, q9, q10, q11, q12, q13, q14, q15⟩ := hH8; exact ⟨cell_more (cell_more q0 _) _, cell_more (cell_more q1 _) _, cell_more (cell_more q2 _) _, cell_more (cell_more q3 _) _, cell_more (cell_more q4 _) _, cell_more (cell_more q5 _) _, cell_more (cell_more q6 _) _, cell_more (cell_more q7 _) _, cell_more (cell_more q8 _) _, cell_more (cell_more q9 _) _, cell_more (cell_more q10 _) _, cell_more (cell_more q11 _) _, cell_more (cell_more q12 _) _, cell_more (cell_more q13 _) _, cell_more (cell_more q14 _) _, cell_more (cell_more q15 _) _⟩)
  clear hK K hH8
  try simp only [Act.put, List.setIfInBounds_toArray, List.set_cons_zero, List.set_cons_succ]
  refine wpAnyH_ready (rs := [44]) (by kernel_rfl) (by simp) ?_
  refine AllReadyH.cons (o := { dst := some 50, op := Go.Op.call { callee := Go.Callee.value (Go.Operand.func 41), args := #[Go.Operand.tmp 49], argTypes := #[51] }, type := 4, pos := "opts.go:93", after := #[{ on := 43, ground := Go.Ground.data }, { on := 43, ground := Go.Ground.chain }], guard := none }) rfl (fun K hK => ?s44) ?n44
  case n44 => exact AllReadyH.nil
  rw [if_pos (by rfl)]
  go_simp
  (first
        | (go_at_call 40; (with_reducible refine (Cn _).mono ?_); rintro e w' ⟨rfl, rfl⟩)
        | (go_at_call 40; refine (in_any _ _ _ _).mono ?_; rintro e w' ⟨rfl, rfl⟩)
        | (go_at_call 22; refine (Cw _).mono ?_; rintro e w' ⟨rfl, rfl⟩)
        | (go_at_call 41; refine (way_right _ _ _ _).mono ?_; rintro e w' ⟨rfl, rfl⟩))
  first | (refine hK.out _ _ ?_ (fun hH10 => ?_)) | (go_wp2_with fail; refine hK.out _ _ ?_ (fun hH10 => ?_))
  · first | exact hH9 | (obtain ⟨q0, q1, q2, q3, q4, q5, q6, q7, q8, q9, q10, q11, q12, q13, q14, q15⟩ := hH9; exact ⟨cell_more q0 _, cell_more q1 _, cell_more q2 _, cell_more q3 _, cell_more q4 _, cell_more q5 _, cell_more q6 _, cell_more q7 _, cell_more q8 _, cell_more q9 _, cell_more q10 _, cell_more q11 _, cell_more q12 _, cell_more q13 _, cell_more q14 _, cell_more q15 _⟩)
  clear hK K hH9
  try simp only [Act.put, List.setIfInBounds_toArray, List.set_cons_zero, List.set_cons_succ]
  refine wpAnyH_take (i := 45) (oi := { dst := some 51, op := Go.Op.build 84 #[(0, Go.Operand.const (Go.Value.string { data := #[98, 97, 115, 101] })), (1, Go.Operand.tmp 50)], type := 84, pos := "opts.go:86", after := #[{ on := 44, ground := Go.Ground.data }], guard := none }) (v := ?v45) rfl (by kernel_rfl) (by kernel_rfl) (by kernel_rfl) (fun _ _ _ h => h) (Or.inl ⟨by rfl, ?y45⟩) hH10 ?_
  case y45 => (intro w hSw; (try dsimp only at hSw); go_simp; try (with_reducible rfl))
  try simp only [Act.put, List.setIfInBounds_toArray, List.set_cons_zero, List.set_cons_succ]
  refine wpAnyH_ready (rs := [48]) (by kernel_rfl) (by simp) ?_
  refine AllReadyH.cons (o := { dst := some 54, op := Go.Op.call { callee := Go.Callee.value (Go.Operand.func 40), args := #[Go.Operand.tmp 53, Go.Operand.const (Go.Value.int Go.IntKind.i64 0), Go.Operand.const (Go.Value.int Go.IntKind.i64 2)], argTypes := #[3, 3, 3] }, type := 4, pos := "opts.go:93", after := #[{ on := 47, ground := Go.Ground.data }, { on := 44, ground := Go.Ground.chain }], guard := none }) rfl (fun K hK => ?s48) ?n48
  case n48 => exact AllReadyH.nil
  rw [if_pos (by rfl)]
  go_simp
  (first
        | (go_at_call 40; (with_reducible refine (Cn _).mono ?_); rintro e w' ⟨rfl, rfl⟩)
        | (go_at_call 40; refine (in_any _ _ _ _).mono ?_; rintro e w' ⟨rfl, rfl⟩)
        | (go_at_call 22; refine (Cw _).mono ?_; rintro e w' ⟨rfl, rfl⟩)
        | (go_at_call 41; refine (way_right _ _ _ _).mono ?_; rintro e w' ⟨rfl, rfl⟩))
  first | (refine hK.out _ _ ?_ (fun hH11 => ?_)) | (go_wp2_with fail; refine hK.out _ _ ?_ (fun hH11 => ?_))
  · first | exact hH10 | (obtain ⟨q0, q1, q2, q3, q4, q5, q6, q7, q8, q9, q10, q11, q12, q13, q14, q15⟩ := hH10; exact ⟨cell_more q0 _, cell_more q1 _, cell_more q2 _, cell_more q3 _, cell_more q4 _, cell_more q5 _, cell_more q6 _, cell_more q7 _, cell_more q8 _, cell_more q9 _, cell_more q10 _, cell_more q11 _, cell_more q12 _, cell_more q13 _, cell_more q14 _, cell_more q15 _⟩)
  clear hK K hH10
  try simp only [Act.put, List.setIfInBounds_toArray, List.set_cons_zero, List.set_cons_succ]
  refine wpAnyH_take (i := 49) (oi := { dst := some 55, op := Go.Op.build 84 #[(0, Go.Operand.const (Go.Value.string { data := #[109, 111, 100, 101] })), (1, Go.Operand.tmp 54)], type := 84, pos := "opts.go:86", after := #[{ on := 48, ground := Go.Ground.data }], guard := none }) (v := ?v49) rfl (by kernel_rfl) (by kernel_rfl) (by kernel_rfl) (fun _ _ _ h => h) (Or.inl ⟨by rfl, ?y49⟩) hH11 ?_
  case y49 => (intro w hSw; (try dsimp only at hSw); go_simp; try (with_reducible rfl))
  try simp only [Act.put, List.setIfInBounds_toArray, List.set_cons_zero, List.set_cons_succ]
  refine wpAnyH_ready (rs := [52]) (by kernel_rfl) (by simp) ?_
  refine AllReadyH.cons (o := { dst := some 58, op := Go.Op.call { callee := Go.Callee.value (Go.Operand.func 40), args := #[Go.Operand.tmp 57, Go.Operand.const (Go.Value.int Go.IntKind.i64 0), Go.Operand.const (Go.Value.int Go.IntKind.i64 2)], argTypes := #[3, 3, 3] }, type := 4, pos := "opts.go:93", after := #[{ on := 51, ground := Go.Ground.data }, { on := 48, ground := Go.Ground.chain }], guard := none }) rfl (fun K hK => ?s52) ?n52
  case n52 => exact AllReadyH.nil
  rw [if_pos (by rfl)]
  go_simp
  (first
        | (go_at_call 40; (with_reducible refine (Cn _).mono ?_); rintro e w' ⟨rfl, rfl⟩)
        | (go_at_call 40; refine (in_any _ _ _ _).mono ?_; rintro e w' ⟨rfl, rfl⟩)
        | (go_at_call 22; refine (Cw _).mono ?_; rintro e w' ⟨rfl, rfl⟩)
        | (go_at_call 41; refine (way_right _ _ _ _).mono ?_; rintro e w' ⟨rfl, rfl⟩))
  first | (refine hK.out _ _ ?_ (fun hH12 => ?_)) | (go_wp2_with fail; refine hK.out _ _ ?_ (fun hH12 => ?_))
  · first | exact hH11 | (obtain ⟨q0, q1, q2, q3, q4, q5, q6, q7, q8, q9, q10, q11, q12, q13, q14, q15⟩ := hH11; exact ⟨cell_more q0 _, cell_more q1 _, cell_more q2 _, cell_more q3 _, cell_more q4 _, cell_more q5 _, cell_more q6 _, cell_more q7 _, cell_more q8 _, cell_more q9 _, cell_more q10 _, cell_more q11 _, cell_more q12 _, cell_more q13 _, cell_more q14 _, cell_more q15 _⟩)
  clear hK K hH11
  try simp only [Act.put, List.setIfInBounds_toArray, List.set_cons_zero, List.set_cons_succ]
  refine wpAnyH_take (i := 53) (oi := { dst := some 59, op := Go.Op.build 84 #[(0, Go.Operand.const (Go.Value.string { data := #[112, 104, 97, 115, 101] })), (1, Go.Operand.tmp 58)], type := 84, pos := "opts.go:86", after := #[{ on := 52, ground := Go.Ground.data }], guard := none }) (v := ?v53) rfl (by kernel_rfl) (by kernel_rfl) (by kernel_rfl) (fun _ _ _ h => h) (Or.inl ⟨by rfl, ?y53⟩) hH12 ?_
  case y53 => (intro w hSw; (try dsimp only at hSw); go_simp; try (with_reducible rfl))
  try simp only [Act.put, List.setIfInBounds_toArray, List.set_cons_zero, List.set_cons_succ]
  refine wpAnyH_ready (rs := [56]) (by kernel_rfl) (by simp) ?_
  refine AllReadyH.cons (o := { dst := some 62, op := Go.Op.call { callee := Go.Callee.value (Go.Operand.func 40), args := #[Go.Operand.tmp 61, Go.Operand.const (Go.Value.int Go.IntKind.i64 0), Go.Operand.const (Go.Value.int Go.IntKind.i64 100)], argTypes := #[3, 3, 3] }, type := 4, pos := "opts.go:93", after := #[{ on := 55, ground := Go.Ground.data }, { on := 52, ground := Go.Ground.chain }], guard := none }) rfl (fun K hK => ?s56) ?n56
  case n56 => exact AllReadyH.nil
  rw [if_pos (by rfl)]
  go_simp
  (first
        | (go_at_call 40; (with_reducible refine (Cn _).mono ?_); rintro e w' ⟨rfl, rfl⟩)
        | (go_at_call 40; refine (in_any _ _ _ _).mono ?_; rintro e w' ⟨rfl, rfl⟩)
        | (go_at_call 22; refine (Cw _).mono ?_; rintro e w' ⟨rfl, rfl⟩)
        | (go_at_call 41; refine (way_right _ _ _ _).mono ?_; rintro e w' ⟨rfl, rfl⟩))
  first | (refine hK.out _ _ ?_ (fun hH13 => ?_)) | (go_wp2_with fail; refine hK.out _ _ ?_ (fun hH13 => ?_))
  · first | exact hH12 | (obtain ⟨q0, q1, q2, q3, q4, q5, q6, q7, q8, q9, q10, q11, q12, q13, q14, q15⟩ := hH12; exact ⟨cell_more q0 _, cell_more q1 _, cell_more q2 _, cell_more q3 _, cell_more q4 _, cell_more q5 _, cell_more q6 _, cell_more q7 _, cell_more q8 _, cell_more q9 _, cell_more q10 _, cell_more q11 _, cell_more q12 _, cell_more q13 _, cell_more q14 _, cell_more q15 _⟩)
  clear hK K hH12
  try simp only [Act.put, List.setIfInBounds_toArray, List.set_cons_zero, List.set_cons_succ]
  refine wpAnyH_take (i := 57) (oi := { dst := some 63, op := Go.Op.build 84 #[(0, Go.Operand.const (Go.Value.string { data := #[108, 111, 119] })), (1, Go.Operand.tmp 62)], type := 84, pos := "opts.go:86", after := #[{ on := 56, ground := Go.Ground.data }], guard := none }) (v := ?v57) rfl (by kernel_rfl) (by kernel_rfl) (by kernel_rfl) (fun _ _ _ h => h) (Or.inl ⟨by rfl, ?y57⟩) hH13 ?_
  case y57 => (intro w hSw; (try dsimp only at hSw); go_simp; try (with_reducible rfl))
  try simp only [Act.put, List.setIfInBounds_toArray, List.set_cons_zero, List.set_cons_succ]
  refine wpAnyH_ready (rs := [62]) (by kernel_rfl) (by simp) ?_
  refine AllReadyH.cons (o := { dst := some 68, op := Go.Op.call { callee := Go.Callee.value (Go.Operand.func 40), args := #[Go.Operand.tmp 65, Go.Operand.tmp 67, Go.Operand.const (Go.Value.int Go.IntKind.i64 1000)], argTypes := #[3, 3, 3] }, type := 4, pos := "opts.go:94", after := #[{ on := 59, ground := Go.Ground.data }, { on := 61, ground := Go.Ground.data }, { on := 56, ground := Go.Ground.chain }], guard := none }) rfl (fun K hK => ?s62) ?n62
  case n62 => exact AllReadyH.nil
  rw [if_pos (by rfl)]
  go_simp
  (first
        | (go_at_call 40; (with_reducible refine (Cn _).mono ?_); rintro e w' ⟨rfl, rfl⟩)
        | (go_at_call 40; refine (in_any _ _ _ _).mono ?_; rintro e w' ⟨rfl, rfl⟩)
        | (go_at_call 22; refine (Cw _).mono ?_; rintro e w' ⟨rfl, rfl⟩)
        | (go_at_call 41; refine (way_right _ _ _ _).mono ?_; rintro e w' ⟨rfl, rfl⟩))
  first | (refine hK.out _ _ ?_ (fun hH14 => ?_)) | (go_wp2_with fail; refine hK.out _ _ ?_ (fun hH14 => ?_))
  · first | exact hH13 | (obtain ⟨q0, q1, q2, q3, q4, q5, q6, q7, q8, q9, q10, q11, q12, q13, q14, q15⟩ := hH13; exact ⟨cell_more q0 _, cell_more q1 _, cell_more q2 _, cell_more q3 _, cell_more q4 _, cell_more q5 _, cell_more q6 _, cell_more q7 _, cell_more q8 _, cell_more q9 _, cell_more q10 _, cell_more q11 _, cell_more q12 _, cell_more q13 _, cell_more q14 _, cell_more q15 _⟩)
  clear hK K hH13
  try simp only [Act.put, List.setIfInBounds_toArray, List.set_cons_zero, List.set_cons_succ]
  refine wpAnyH_take (i := 63) (oi := { dst := some 69, op := Go.Op.build 84 #[(0, Go.Operand.const (Go.Value.string { data := #[109, 105, 100] })), (1, Go.Operand.tmp 68)], type := 84, pos := "opts.go:86", after := #[{ on := 62, ground := Go.Ground.data }], guard := none }) (v := ?v63) rfl (by kernel_rfl) (by kernel_rfl) (by kernel_rfl) (fun _ _ _ h => h) (Or.inl ⟨by rfl, ?y63⟩) hH14 ?_
  case y63 => (intro w hSw; (try dsimp only at hSw); go_simp; try (with_reducible rfl))
  try simp only [Act.put, List.setIfInBounds_toArray, List.set_cons_zero, List.set_cons_succ]
  refine wpAnyH_ready (rs := [66]) (by kernel_rfl) (by simp) ?_
  refine AllReadyH.cons (o := { dst := some 72, op := Go.Op.call { callee := Go.Callee.value (Go.Operand.func 40), args := #[Go.Operand.tmp 71, Go.Operand.const (Go.Value.int Go.IntKind.i64 0), Go.Operand.const (Go.Value.int Go.IntKind.i64 1)], argTypes := #[3, 3, 3] }, type := 4, pos := "opts.go:94", after := #[{ on := 65, ground := Go.Ground.data }, { on := 62, ground := Go.Ground.chain }], guard := none }) rfl (fun K hK => ?s66) ?n66
  case n66 => exact AllReadyH.nil
  rw [if_pos (by rfl)]
  go_simp
  (first
        | (go_at_call 40; (with_reducible refine (Cn _).mono ?_); rintro e w' ⟨rfl, rfl⟩)
        | (go_at_call 40; refine (in_any _ _ _ _).mono ?_; rintro e w' ⟨rfl, rfl⟩)
        | (go_at_call 22; refine (Cw _).mono ?_; rintro e w' ⟨rfl, rfl⟩)
        | (go_at_call 41; refine (way_right _ _ _ _).mono ?_; rintro e w' ⟨rfl, rfl⟩))
  first | (refine hK.out _ _ ?_ (fun hH15 => ?_)) | (go_wp2_with fail; refine hK.out _ _ ?_ (fun hH15 => ?_))
  · first | exact hH14 | (obtain ⟨q0, q1, q2, q3, q4, q5, q6, q7, q8, q9, q10, q11, q12, q13, q14, q15⟩ := hH14; exact ⟨cell_more q0 _, cell_more q1 _, cell_more q2 _, cell_more q3 _, cell_more q4 _, cell_more q5 _, cell_more q6 _, cell_more q7 _, cell_more q8 _, cell_more q9 _, cell_more q10 _, cell_more q11 _, cell_more q12 _, cell_more q13 _, cell_more q14 _, cell_more q15 _⟩)
  clear hK K hH14
  try simp only [Act.put, List.setIfInBounds_toArray, List.set_cons_zero, List.set_cons_succ]
  refine wpAnyH_take (i := 67) (oi := { dst := some 73, op := Go.Op.build 84 #[(0, Go.Operand.const (Go.Value.string { data := #[109, 105, 110, 105, 109, 105, 115, 101] })), (1, Go.Operand.tmp 72)], type := 84, pos := "opts.go:86", after := #[{ on := 66, ground := Go.Ground.data }], guard := none }) (v := ?v67) rfl (by kernel_rfl) (by kernel_rfl) (by kernel_rfl) (fun _ _ _ h => h) (Or.inl ⟨by rfl, ?y67⟩) hH15 ?_
  case y67 => (intro w hSw; (try dsimp only at hSw); go_simp; try (with_reducible rfl))
  try simp only [Act.put, List.setIfInBounds_toArray, List.set_cons_zero, List.set_cons_succ]
  refine wpAnyH_ready (rs := [70]) (by kernel_rfl) (by simp) ?_
  refine AllReadyH.cons (o := { dst := some 76, op := Go.Op.call { callee := Go.Callee.value (Go.Operand.func 40), args := #[Go.Operand.tmp 75, Go.Operand.const (Go.Value.int Go.IntKind.i64 0), Go.Operand.const (Go.Value.int Go.IntKind.i64 1)], argTypes := #[3, 3, 3] }, type := 4, pos := "opts.go:94", after := #[{ on := 69, ground := Go.Ground.data }, { on := 66, ground := Go.Ground.chain }], guard := none }) rfl (fun K hK => ?s70) ?n70
  case n70 => exact AllReadyH.nil
  rw [if_pos (by rfl)]
  go_simp
  (first
        | (go_at_call 40; (with_reducible refine (Cn _).mono ?_); rintro e w' ⟨rfl, rfl⟩)
        | (go_at_call 40; refine (in_any _ _ _ _).mono ?_; rintro e w' ⟨rfl, rfl⟩)
        | (go_at_call 22; refine (Cw _).mono ?_; rintro e w' ⟨rfl, rfl⟩)
        | (go_at_call 41; refine (way_right _ _ _ _).mono ?_; rintro e w' ⟨rfl, rfl⟩))
  first | (refine hK.out _ _ ?_ (fun hH16 => ?_)) | (go_wp2_with fail; refine hK.out _ _ ?_ (fun hH16 => ?_))
  · first | exact hH15 | (obtain ⟨q0, q1, q2, q3, q4, q5, q6, q7, q8, q9, q10, q11, q12, q13, q14, q15⟩ := hH15; exact ⟨cell_more q0 _, cell_more q1 _, cell_more q2 _, cell_more q3 _, cell_more q4 _, cell_more q5 _, cell_more q6 _, cell_more q7 _, cell_more q8 _, cell_more q9 _, cell_more q10 _, cell_more q11 _, cell_more q12 _, cell_more q13 _, cell_more q14 _, cell_more q15 _⟩)
  clear hK K hH15
  try simp only [Act.put, List.setIfInBounds_toArray, List.set_cons_zero, List.set_cons_succ]
  refine wpAnyH_take (i := 71) (oi := { dst := some 77, op := Go.Op.build 84 #[(0, Go.Operand.const (Go.Value.string { data := #[98, 105, 110, 97, 114, 121] })), (1, Go.Operand.tmp 76)], type := 84, pos := "opts.go:86", after := #[{ on := 70, ground := Go.Ground.data }], guard := none }) (v := ?v71) rfl (by kernel_rfl) (by kernel_rfl) (by kernel_rfl) (fun _ _ _ h => h) (Or.inl ⟨by rfl, ?y71⟩) hH16 ?_
  case y71 => (intro w hSw; (try dsimp only at hSw); go_simp; try (with_reducible rfl))
  try simp only [Act.put, List.setIfInBounds_toArray, List.set_cons_zero, List.set_cons_succ]
  refine wpAnyH_ready (rs := [72]) (by kernel_rfl) (by simp) ?_
  refine AllReadyH.cons (o := { dst := some 78, op := Go.Op.buildSlice 86 15 #[(0, Go.Operand.tmp 9), (1, Go.Operand.tmp 13), (2, Go.Operand.tmp 17), (3, Go.Operand.tmp 21), (4, Go.Operand.tmp 25), (5, Go.Operand.tmp 29), (6, Go.Operand.tmp 33), (7, Go.Operand.tmp 47), (8, Go.Operand.tmp 51), (9, Go.Operand.tmp 55), (10, Go.Operand.tmp 59), (11, Go.Operand.tmp 63), (12, Go.Operand.tmp 69), (13, Go.Operand.tmp 73), (14, Go.Operand.tmp 77)], type := 86, pos := "opts.go:86", after := #[{ on := 3, ground := Go.Ground.data }, { on := 7, ground := Go.Ground.data }, { on := 11, ground := Go.Ground.data }, { on := 15, ground := Go.Ground.data }, { on := 19, ground := Go.Ground.data }, { on := 23, ground := Go.Ground.data }, { on := 27, ground := Go.Ground.data }, { on := 41, ground := Go.Ground.data }, { on := 45, ground := Go.Ground.data }, { on := 49, ground := Go.Ground.data }, { on := 53, ground := Go.Ground.data }, { on := 57, ground := Go.Ground.data }, { on := 63, ground := Go.Ground.data }, { on := 67, ground := Go.Ground.data }, { on := 71, ground := Go.Ground.data }], guard := none }) rfl (fun K hK => ?s72) ?n72
  case n72 => exact AllReadyH.nil
  rw [if_pos (by rfl)]
  go_simp
  first | (refine hK.out _ _ ?_ (fun hH17 => ?_)) | (go_wp2_with fail; refine hK.out _ _ ?_ (fun hH17 => ?_))
  · first | exact hH16 | (obtain ⟨q0, q1, q2, q3, q4, q5, q6, q7, q8, q9, q10, q11, q12, q13, q14, q15⟩ := hH16; exact ⟨cell_more q0 _, cell_more q1 _, cell_more q2 _, cell_more q3 _, cell_more q4 _, cell_more q5 _, cell_more q6 _, cell_more q7 _, cell_more q8 _, cell_more q9 _, cell_more q10 _, cell_more q11 _, cell_more q12 _, cell_more q13 _, cell_more q14 _, cell_more q15 _⟩)
  clear hK K hH16
  try simp only [Act.put, List.setIfInBounds_toArray, List.set_cons_zero, List.set_cons_succ]
  refine wpAnyH_take (i := 73) (oi := { dst := some 3, op := Go.Op.assign (Go.Operand.tmp 78), type := 86, pos := "opts.go:86", after := ([{ on := 72, ground := Go.Ground.data }, { on := 70, ground := Go.Ground.chain }, { on := 0, ground := Go.Ground.phase }, { on := 1, ground := Go.Ground.phase }, { on := 2, ground := Go.Ground.phase }, { on := 3, ground := Go.Ground.phase }, { on := 4, ground := Go.Ground.phase }, { on := 5, ground := Go.Ground.phase }, { on := 6, ground := Go.Ground.phase }, { on := 7, ground := Go.Ground.phase }, { on := 8, ground := Go.Ground.phase }, { on := 9, ground := Go.Ground.phase }, { on := 10, ground := Go.Ground.phase }, { on := 11, ground := Go.Ground.phase }, { on := 12, ground := Go.Ground.phase }, { on := 13, ground := Go.Ground.phase }, { on := 14, ground := Go.Ground.phase }, { on := 15, ground := Go.Ground.phase }, { on := 16, ground := Go.Ground.phase }, { on := 17, ground := Go.Ground.phase }, { on := 18, ground := Go.Ground.phase }, { on := 19, ground := Go.Ground.phase }, { on := 20, ground := Go.Ground.phase }, { on := 21, ground := Go.Ground.phase }, { on := 22, ground := Go.Ground.phase }, { on := 23, ground := Go.Ground.phase }, { on := 24, ground := Go.Ground.phase }, { on := 25, ground := Go.Ground.phase }, { on := 26, ground := Go.Ground.phase }, { on := 27, ground := Go.Ground.phase }, { on := 28, ground := Go.Ground.phase }, { on := 29, ground := Go.Ground.phase }, { on := 30, ground := Go.Ground.phase }, { on := 31, ground := Go.Ground.phase }, { on := 32, ground := Go.Ground.phase }, { on := 33, ground := Go.Ground.phase }, { on := 34, ground := Go.Ground.phase }].append [{ on := 35, ground := Go.Ground.phase }, { on := 36, ground := Go.Ground.phase }, { on := 37, ground := Go.Ground.phase }, { on := 38, ground := Go.Ground.phase }, { on := 39, ground := Go.Ground.phase }, { on := 40, ground := Go.Ground.phase }, { on := 41, ground := Go.Ground.phase }, { on := 42, ground := Go.Ground.phase }, { on := 43, ground := Go.Ground.phase }, { on := 44, ground := Go.Ground.phase }, { on := 45, ground := Go.Ground.phase }, { on := 46, ground := Go.Ground.phase }, { on := 47, ground := Go.Ground.phase }, { on := 48, ground := Go.Ground.phase }, { on := 49, ground := Go.Ground.phase }, { on := 50, ground := Go.Ground.phase }, { on := 51, ground := Go.Ground.phase }, { on := 52, ground := Go.Ground.phase }, { on := 53, ground := Go.Ground.phase }, { on := 54, ground := Go.Ground.phase }, { on := 55, ground := Go.Ground.phase }, { on := 56, ground := Go.Ground.phase }, { on := 57, ground := Go.Ground.phase }, { on := 58, ground := Go.Ground.phase }, { on := 59, ground := Go.Ground.phase }, { on := 60, ground := Go.Ground.phase }, { on := 61, ground := Go.Ground.phase }, { on := 62, ground := Go.Ground.phase }, { on := 63, ground := Go.Ground.phase }, { on := 64, ground := Go.Ground.phase }, { on := 65, ground := Go.Ground.phase }, { on := 66, ground := Go.Ground.phase }, { on := 67, ground := Go.Ground.phase }, { on := 68, ground := Go.Ground.phase }, { on := 69, ground := Go.Ground.phase }, { on := 70, ground := Go.Ground.phase }, { on := 71, ground := Go.Ground.phase }, { on := 72, ground := Go.Ground.phase }]).toArray, guard := none }) (v := ?v73) rfl (by kernel_rfl) (by kernel_rfl) (by kernel_rfl) (fun _ _ _ h => h) (Or.inl ⟨by rfl, ?y73⟩) hH17 ?_
  case y73 => (intro w hSw; (try dsimp only at hSw); go_simp; try (with_reducible rfl))
  try simp only [Act.put, List.setIfInBounds_toArray, List.set_cons_zero, List.set_cons_succ]
  refine wpAnyH_done (by kernel_rfl) ?_ _
  clear Cw Cn
  go_wp2_with fail
  clear f0 f1 f2 f3 f4 f5 f6 f7 f8 f9 f10 f11 f12 f13 f14 f15
  go_loopw [81] (fun v wr => ∃ (i : Nat) (γk : Tags), i ≤ 15 ∧ v = .int .i64 i ∧ Row γk wr [0, 0] 84 2 (some ⟨w1.heap.size + 1 + 1 + 1, 0, none⟩) 15 15 (L.flatMap rowV) ∧ Turn (fun _ => [1]) γk w wr [[0]] ∧ RowKit.Hid (∀ j, j < i → ∀ x, L[j]? = some x → (!x.2) = false)) (fun v _ => 15 - (intOf v).toNat)
  case atStart =>
    refine ⟨0, _, by omega, rfl, (Row.litAt γ1 _ [0, 0] _ 2 15 _ _ _ ?hg (by decide) rfl ?_).drewC, ?_, Lib.hid (fun j hj => by omega)⟩
    case hg => first | (simp; done) | (simp [World.drew, World.drewN]; done)
    · rw [← hLh.out]; simp [rowsO, rowV, k7h.out, hk, hn]
    · refine Turn.tags ?_ (by have := T0h.out.size; omega) (by simp)
      repeat (first | exact T0h.out | refine Turn.alloc ?_ _ | refine Turn.drew ?_ | refine Turn.drewN ?_ _)
  case round =>
    obtain ⟨i, γk, hi, rfl, Rk, Tk, Hno⟩ := hrel
    by_cases hil : i < 15
    · have hlt : i < L.length := by rw [hlenh.out]; exact hil
      have hx := List.getElem?_eq_getElem hlt
      generalize L[i] = r at *
      clear hlt
      obtain ⟨nm, ok⟩ := r
      have hxl := (List.getElem?_eq_some_iff.1 hx)
      obtain ⟨hxl1, hxl2⟩ := hxl
      have c0 : wr.cell? ⟨w1.heap.size + 1 + 1 + 1, i * 2, none⟩ = some (.string nm) := Rk.cell (by have := flatMap_get rowV 2 rowV_length L i 0 hxl1 (by omega); rw [hxl2] at this; exact this)
      have c1 : wr.cell? ⟨w1.heap.size + 1 + 1 + 1, i * 2 + 1, none⟩ = some (.bool ok) := Rk.cell (by have := flatMap_get rowV 2 rowV_length L i 1 hxl1 (by omega); rw [hxl2] at this; exact this)
      have Hx := Lib.hid hx
      have Kh := Lib.hid (And.intro Rk Tk)
      clear hx hxl1 hxl2 Rk Tk
      cases ok with
      | true =>
        go_wp2_with fail
        refine ⟨⟨i + 1, γk, by omega, by go_num, Kh.out.1.alloc _, Kh.out.2.alloc _, Lib.hid fun j hj x hxj => ?_⟩, by simp [intOf]; omega⟩
        by_cases hji : j < i
        · exact Hno.out j hji x hxj
        · obtain rfl : j = i := by omega
          rw [Hx.out] at hxj
          cases hxj
          rfl
      | false =>
        have hbe : badS o = nm := by rw [hbsh.out, find_first Hx.out rfl Hno.out]
        have hbeh := Lib.hid hbe
        clear hbe
        go_wp2_with fail
        go_ret
        exact ⟨by rw [hbeh.out]; rfl, (Kh.out.2.alloc _).belowO⟩
    · obtain rfl : i = 15 := by omega
      have hbe : badS o = ⟨#[]⟩ := by rw [hbsh.out, find_no (by rw [hlenh.out]; exact Hno.out)]
      have hbeh := Lib.hid hbe
      have Tkh := Lib.hid Tk
      clear hbe Hno Tk Rk
      go_wp2_with fail
      go_ret
      exact ⟨by rw [hbeh.out]; rfl, Tkh.out.belowO⟩

end Go.Proofs.YtopoejfbcbnmdaaDoor
