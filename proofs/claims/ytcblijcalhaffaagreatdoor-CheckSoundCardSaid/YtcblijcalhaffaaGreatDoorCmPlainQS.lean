import Derived.Lib.Split
namespace Go.Proofs.YtcblijcalhaffaaGreatDoor
open Go

/-! A clause in one form: no program in sight. -/
/-- A literal's index (it tells all numbers apart). -/
def lidx (l : Int) : Int := if l < 0 then 2 * (-l - 1) + 1 else 2 * (l - 1)
theorem lidx_inj {a b : Int} (h : lidx a = lidx b) : a = b := by
  unfold lidx at h
  split at h <;> split at h <;> omega
/-- Ascending, none twice. -/
def Asc (l : List Int) : Prop := l.Pairwise fun a b => lidx a < lidx b
/-- Ascending. -/
def Asc0 (l : List Int) : Prop := l.Pairwise fun a b => lidx a ≤ lidx b
theorem asc_eq : ∀ {a b : List Int}, Asc a → Asc b → (∀ x, x ∈ a ↔ x ∈ b) → a = b
  | [], [], _, _, _ => rfl
  | [], y :: b, _, _, h => absurd ((h y).2 (by simp)) (by simp)
  | x :: a, [], _, _, h => absurd ((h x).1 (by simp)) (by simp)
  | x :: a, y :: b, ha, hb, h => by
    obtain ⟨ha1, ha2⟩ := List.pairwise_cons.1 ha
    obtain ⟨hb1, hb2⟩ := List.pairwise_cons.1 hb
    have hxy : x = y := by
      rcases List.mem_cons.1 ((h x).1 (by simp)) with hx | hx
      · exact hx
      · rcases List.mem_cons.1 ((h y).2 (by simp)) with hy | hy
        · exact hy.symm
        · have h1 := hb1 x hx
          have h2 := ha1 y hy
          omega
    subst hxy
    congr 1
    refine asc_eq ha2 hb2 fun z => ⟨fun hz => ?_, fun hz => ?_⟩
    · rcases List.mem_cons.1 ((h z).1 (by simp [hz])) with rfl | hz2
      · exact absurd (ha1 z hz) (by omega)
      · exact hz2
    · rcases List.mem_cons.1 ((h z).2 (by simp [hz])) with rfl | hz2
      · exact absurd (hb1 z hz) (by omega)
      · exact hz2
/-- slices.Compact. -/
def compactL : List Int → List Int
  | [] => []
  | [x] => [x]
  | x :: y :: l => if x = y then compactL (y :: l) else x :: compactL (y :: l)
/-- A literal more. -/
def insU (x : Int) : List Int → List Int
  | [] => [x]
  | y :: l => if lidx x < lidx y then x :: y :: l else if x = y then y :: l else y :: insU x l
theorem insU_mem (x : Int) : ∀ (l : List Int) (z : Int), z ∈ insU x l ↔ z = x ∨ z ∈ l
  | [], z => by simp [insU]
  | y :: l, z => by
    unfold insU
    split
    · simp
    · split
      · rename_i h; subst h; simp
      · rw [List.mem_cons, insU_mem x l z, List.mem_cons]
        constructor
        · rintro (h | h | h) <;> simp [h]
        · rintro (h | h | h) <;> simp [h]
theorem insU_asc (x : Int) : ∀ (l : List Int), Asc l → Asc (insU x l)
  | [], _ => by simp [insU, Asc]
  | y :: l, h => by
    obtain ⟨h1, h2⟩ := List.pairwise_cons.1 h
    unfold insU
    split
    · rename_i hl
      refine List.pairwise_cons.2 ⟨fun z hz => ?_, h⟩
      rcases List.mem_cons.1 hz with rfl | hz
      · exact hl
      · have := h1 z hz; omega
    · split
      · exact h
      · rename_i hl hne
        refine List.pairwise_cons.2 ⟨fun z hz => ?_, insU_asc x l h2⟩
        rcases (insU_mem x l z).1 hz with rfl | hz
        · rcases Int.lt_trichotomy (lidx z) (lidx y) with h3 | h3 | h3
          · exact absurd h3 hl
          · exact absurd (lidx_inj h3) hne
          · exact h3
        · exact h1 z hz
/-- A clause in one form: ascending, none twice. -/
def normC (c : List Int) : List Int := c.foldr insU []
theorem normC_mem : ∀ (c : List Int) (z : Int), z ∈ normC c ↔ z ∈ c
  | [], z => by simp [normC]
  | x :: c, z => by
    have ih := normC_mem c z
    unfold normC at ih ⊢
    rw [List.foldr_cons, insU_mem, ih, List.mem_cons]
theorem normC_asc : ∀ (c : List Int), Asc (normC c)
  | [] => by simp [normC, Asc]
  | x :: c => by
    have ih := normC_asc c
    unfold normC at ih ⊢
    exact insU_asc x _ ih
/-- In one form, two clauses are the same just if their literals are. -/
theorem norm_eq_iff (c d : List Int) : normC c = normC d ↔ ∀ x, x ∈ c ↔ x ∈ d := by
  constructor
  · intro h x
    rw [← normC_mem c, h, normC_mem]
  · intro h
    exact asc_eq (normC_asc c) (normC_asc d) fun x => by rw [normC_mem, normC_mem, h]
theorem normC_normC (c : List Int) : normC (normC c) = normC c := (norm_eq_iff _ _).2 fun x => normC_mem c x
end Go.Proofs.YtcblijcalhaffaaGreatDoor
namespace Go.Proofs.YtcblijcalhaffaaGreatDoor
open Go

/-! What follows from literals by clauses, and clashes: no program in sight. -/
/-- A literal follows. -/
inductive Der (cs : List (List Int)) (l : List Int) : Int → Prop
  | base {x : Int} : x ∈ l → Der cs l x
  | unit {c : List Int} {x : Int} : c ∈ cs → x ∈ c → (∀ y ∈ c, y ≠ x → Der cs l (-y)) → Der cs l x
/-- What follows clashes. -/
def Clash (cs : List (List Int)) (l : List Int) : Prop := (∃ x, Der cs l x ∧ Der cs l (-x)) ∨ ∃ c ∈ cs, ∀ y ∈ c, Der cs l (-y)
/-- Nothing more follows. -/
structure Closed (cs : List (List Int)) (l : List Int) (K : Int → Prop) : Prop where
  base : ∀ x ∈ l, K x
  unit : ∀ c ∈ cs, ∀ x ∈ c, (∀ y ∈ c, y ≠ x → K (-y)) → K x
theorem Der.closed {cs : List (List Int)} {l : List Int} {K : Int → Prop} (h : Closed cs l K) {x : Int} (d : Der cs l x) : K x := by
  induction d with
  | base hx => exact h.base _ hx
  | unit hc hx _ ih => exact h.unit _ hc _ hx ih
/-- All that follows is had, and nothing clashes: there is no clash. -/
theorem no_clash {cs : List (List Int)} {l : List Int} {K : Int → Prop} (h : Closed cs l K) (h1 : ∀ x, K x → ¬ K (-x)) (h2 : ∀ c ∈ cs, ∃ y ∈ c, ¬ K (-y)) : ¬ Clash cs l := by
  rintro (⟨x, d1, d2⟩ | ⟨c, hc, hy⟩)
  · exact h1 x (d1.closed h) (d2.closed h)
  · obtain ⟨y, hyc, hn⟩ := h2 c hc
    exact hn ((hy y hyc).closed h)
theorem Der.mono {cs ds : List (List Int)} {l m : List Int} (hc : ∀ c ∈ cs, ∃ d ∈ ds, ∀ x, x ∈ c ↔ x ∈ d) (hl : ∀ x ∈ l, x ∈ m) {x : Int} (d : Der cs l x) : Der ds m x := by
  induction d with
  | base hx => exact .base (hl _ hx)
  | unit hcs hx _ ih =>
    obtain ⟨e, he, hxe⟩ := hc _ hcs
    exact .unit he ((hxe _).1 hx) fun y hy hne => ih y ((hxe y).2 hy) hne
theorem Clash.mono {cs ds : List (List Int)} {l m : List Int} (hc : ∀ c ∈ cs, ∃ d ∈ ds, ∀ x, x ∈ c ↔ x ∈ d) (hl : ∀ x ∈ l, x ∈ m) (h : Clash cs l) : Clash ds m := by
  rcases h with ⟨x, d1, d2⟩ | ⟨c, hcs, hy⟩
  · exact .inl ⟨x, d1.mono hc hl, d2.mono hc hl⟩
  · obtain ⟨e, he, hxe⟩ := hc _ hcs
    exact .inr ⟨e, he, fun y hye => (hy y ((hxe y).2 hye)).mono hc hl⟩
/-- A step of a search for what follows: a literal, or a clash, is found rightly. -/
theorem Der.step {cs : List (List Int)} {l : List Int} {K : Int → Prop} (hK : ∀ x, K x → Der cs l x) {c : List Int} (hc : c ∈ cs) {x : Int} (hx : x ∈ c) (h : ∀ y ∈ c, y ≠ x → K (-y)) : Der cs l x := .unit hc hx fun y hy hne => hK _ (h y hy hne)
theorem Clash.step {cs : List (List Int)} {l : List Int} {K : Int → Prop} (hK : ∀ x, K x → Der cs l x) {c : List Int} (hc : c ∈ cs) (h : ∀ y ∈ c, K (-y)) : Clash cs l := .inr ⟨c, hc, fun y hy => hK _ (h y hy)⟩
/-! The truth: what is derived holds in each assignment that satisfies the clauses and the literals. -/
/-- An assignment: which literals hold; of each variable one. -/
structure Assigns (a : Int → Prop) : Prop where
  one : ∀ x, a x → ¬ a (-x)
  all : ∀ x, x ≠ 0 → ¬ a x → a (-x)
theorem Der.true {cs : List (List Int)} {l : List Int} {a : Int → Prop} (h1 : ∀ x, a x → ¬ a (-x)) (hs : ∀ c ∈ cs, ∃ x ∈ c, a x) (hl : ∀ x ∈ l, a x) {x : Int} (d : Der cs l x) : a x := by
  induction d with
  | base hx => exact hl _ hx
  | @unit c x hc hx _ ih =>
    obtain ⟨y, hy, hay⟩ := hs c hc
    by_cases hxy : y = x
    · subst hxy; exact hay
    · exact absurd (ih y hy hxy) (h1 y hay)
theorem Clash.unsat {cs : List (List Int)} {l : List Int} {a : Int → Prop} (h1 : ∀ x, a x → ¬ a (-x)) (hs : ∀ c ∈ cs, ∃ x ∈ c, a x) (hl : ∀ x ∈ l, a x) : ¬ Clash cs l := by
  rintro (⟨x, d1, d2⟩ | ⟨c, hc, hy⟩)
  · exact h1 x (d1.true h1 hs hl) (d2.true h1 hs hl)
  · obtain ⟨y, hyc, hay⟩ := hs c hc
    exact h1 y hay ((hy y hyc).true h1 hs hl)
/-- A clause that is implied holds wherever the clauses do. -/
theorem implied_true {cs : List (List Int)} {c : List Int} (h0 : (0 : Int) ∉ c) (h : Clash cs (c.map fun x => -x)) {a : Int → Prop} (ha : Assigns a) (hs : ∀ d ∈ cs, ∃ x ∈ d, a x) : ∃ x ∈ c, a x := by
  apply Classical.byContradiction
  intro hn
  refine Clash.unsat ha.one hs (l := c.map fun x => -x) (fun x hx => ?_) h
  obtain ⟨y, hy, rfl⟩ := List.mem_map.1 hx
  exact ha.all y (fun e => h0 (e ▸ hy)) fun hay => hn ⟨y, hy, hay⟩
/-- A literal made true. -/
def flip (a : Int → Prop) (p : Int) : Int → Prop := fun x => x = p ∨ (x ≠ -p ∧ a x)
theorem flip_assigns {a : Int → Prop} {p : Int} (hp : p ≠ 0) (ha : Assigns a) : Assigns (flip a p) where
  one := fun x h h2 => by
    rcases h with h | ⟨h, hx⟩
    · subst h
      rcases h2 with h2 | ⟨h2, _⟩
      · omega
      · exact h2 rfl
    · rcases h2 with h2 | ⟨_, h2⟩
      · exact h (by omega)
      · exact ha.one x hx h2
  all := fun x h0 h => by
    unfold flip at h ⊢
    by_cases hx : x = -p
    · exact .inl (by omega)
    · refine .inr ⟨fun e => h (.inl (by omega)), ha.all x h0 fun hax => h (.inr ⟨hx, hax⟩)⟩
/-- A clause that is blocked by its first literal may be added: where the clauses can be satisfied, with it they can too. -/
theorem blocked_keeps {cs : List (List Int)} {p : Int} {r : List Int} (h0 : (0 : Int) ∉ p :: r) (h0c : ∀ d ∈ cs, (0 : Int) ∉ d) (hb : ∀ d ∈ cs, -p ∈ d → Clash cs (((p :: r) ++ d.filter fun x => x ≠ -p).map fun x => -x))
    {a : Int → Prop} (ha : Assigns a) (hs : ∀ d ∈ cs, ∃ x ∈ d, a x) : ∃ a', Assigns a' ∧ (∀ d ∈ cs, ∃ x ∈ d, a' x) ∧ ∃ x ∈ p :: r, a' x := by
  by_cases hc : ∃ x ∈ p :: r, a x
  · exact ⟨a, ha, hs, hc⟩
  · have hp : p ≠ 0 := fun e => h0 (by simp [e])
    refine ⟨flip a p, flip_assigns hp ha, fun d hd => ?_, p, by simp, .inl rfl⟩
    by_cases hpd : -p ∈ d
    · have h00 : (0 : Int) ∉ (p :: r) ++ d.filter fun x => x ≠ -p := fun h => by
        rcases List.mem_append.1 h with h | h
        · exact h0 h
        · exact h0c d hd (List.mem_filter.1 h).1
      obtain ⟨x, hx, hax⟩ := implied_true h00 (hb d hd hpd) ha hs
      rcases List.mem_append.1 hx with hx | hx
      · exact absurd ⟨x, hx, hax⟩ hc
      · obtain ⟨hxd, hne⟩ := List.mem_filter.1 hx
        exact ⟨x, hxd, .inr ⟨by simpa using hne, hax⟩⟩
    · obtain ⟨x, hx, hax⟩ := hs d hd
      exact ⟨x, hx, .inr ⟨fun e => hpd (e ▸ hx), hax⟩⟩
end Go.Proofs.YtcblijcalhaffaaGreatDoor
namespace Go.Proofs.YtcblijcalhaffaaGreatDoor
open Go

/-! A proof's steps, gone through: no program in sight. -/
def negs (c : List Int) : List Int := c.map fun x => -x
theorem negs_same {c d : List Int} (h : ∀ x, x ∈ c ↔ x ∈ d) : ∀ x, x ∈ negs c ↔ x ∈ negs d := fun x => by
  unfold negs
  simp only [List.mem_map]
  constructor
  · rintro ⟨y, hy, rfl⟩; exact ⟨y, (h y).1 hy, rfl⟩
  · rintro ⟨y, hy, rfl⟩; exact ⟨y, (h y).2 hy, rfl⟩
/-- The same clauses, in one form. -/
def Like0 (cs ds : List (List Int)) : Prop := cs.map normC = ds.map normC
theorem Like0.symm {cs ds : List (List Int)} (h : Like0 cs ds) : Like0 ds cs := Eq.symm h
theorem Like0.mem {cs ds : List (List Int)} (h : Like0 cs ds) {c : List Int} (hc : c ∈ cs) : ∃ d ∈ ds, ∀ x, x ∈ c ↔ x ∈ d := by
  have h1 : normC c ∈ ds.map normC := by
    rw [← h]; exact List.mem_map.2 ⟨c, hc, rfl⟩
  obtain ⟨d, hd, he⟩ := List.mem_map.1 h1
  exact ⟨d, hd, (norm_eq_iff c d).1 he.symm⟩
theorem clash_like {cs ds : List (List Int)} {l m : List Int} (h : Like0 cs ds) (hl : ∀ x, x ∈ l ↔ x ∈ m) : Clash cs l ↔ Clash ds m :=
  ⟨Clash.mono (fun _ hc => h.mem hc) (fun x hx => (hl x).1 hx), Clash.mono (fun _ hc => h.symm.mem hc) (fun x hx => (hl x).2 hx)⟩
/-- All that a clause gives by its first literal is implied. -/
def Blocked (cs : List (List Int)) (c : List Int) : Prop := match c with
  | [] => False
  | p :: r => ∀ d ∈ cs, -p ∈ d → Clash cs (negs ((p :: r) ++ d.filter fun x => x ≠ -p))
theorem Blocked.like {cs ds : List (List Int)} (h : Like0 cs ds) {c : List Int} (hb : Blocked cs c) : Blocked ds c := by
  cases c with
  | nil => exact hb
  | cons p r =>
    intro d hd hp
    obtain ⟨e, he, hx⟩ := h.symm.mem hd
    have h1 := hb e he ((hx _).1 hp)
    refine (clash_like h (negs_same fun x => ?_)).1 h1
    simp only [List.mem_append, List.mem_filter]
    rw [hx x]
def May (cs : List (List Int)) (c : List Int) : Prop := Clash cs (negs c) ∨ Blocked cs c
theorem may_like {cs ds : List (List Int)} (h : Like0 cs ds) (c : List Int) : May cs c ↔ May ds c := by
  constructor
  · rintro (h1 | h1)
    · exact .inl ((clash_like h fun _ => Iff.rfl).1 h1)
    · exact .inr (h1.like h)
  · rintro (h1 | h1)
    · exact .inl ((clash_like h fun _ => Iff.rfl).2 h1)
    · exact .inr (h1.like h.symm)
/-- One clause that is the same goes. -/
def remP (cs : List (List Int)) (c : List Int) : List (List Int) := cs.eraseP fun d => decide (normC d = normC c)
theorem remP_norm (cs : List (List Int)) (c : List Int) : (remP cs c).map normC = (cs.map normC).eraseP fun d => decide (d = normC c) := by
  unfold remP
  induction cs with
  | nil => rfl
  | cons d cs ih =>
    rw [List.map_cons, List.eraseP_cons, List.eraseP_cons]
    by_cases h : normC d = normC c
    · simp [h]
    · simp [h, ih]
theorem remP_like {cs ds : List (List Int)} (h : Like0 cs ds) (c : List Int) : Like0 (remP cs c) (remP ds c) := by
  unfold Like0 at h ⊢
  rw [remP_norm, remP_norm, h]
open Classical in
/-- The place of the step that ends it, and of the first that may not be; below 0: there is none. -/
noncomputable def chk : List (List Int) → List (Bool × List Int) → Nat → Int × Int
  | _, [], _ => (-1, -1)
  | cs, (true, c) :: ss, i => chk (remP cs c) ss (i + 1)
  | cs, (false, c) :: ss, i => if May cs c then (if c = [] then ((i : Int), -1) else chk (cs ++ [c]) ss (i + 1)) else (-1, (i : Int))
theorem chk_like : ∀ (ss : List (Bool × List Int)) (cs ds : List (List Int)) (i : Nat), Like0 cs ds → chk cs ss i = chk ds ss i
  | [], _, _, _, _ => by simp [chk]
  | (true, c) :: ss, cs, ds, i, h => by
    simp only [chk]
    exact chk_like ss _ _ _ (remP_like h c)
  | (false, c) :: ss, cs, ds, i, h => by
    have h2 : Like0 (cs ++ [c]) (ds ++ [c]) := by unfold Like0 at h ⊢; simp [h]
    have hm := may_like h c
    simp only [chk]
    by_cases h1 : May cs c
    · rw [if_pos h1, if_pos (hm.1 h1)]
      split
      · rfl
      · exact chk_like ss _ _ _ h2
    · rw [if_neg h1, if_neg (fun h3 => h1 (hm.2 h3))]
/-- Where the clauses can be satisfied no step refutes them. -/
theorem chk_sound : ∀ (ss : List (Bool × List Int)) (cs : List (List Int)) (i : Nat), (∀ d ∈ cs, (0 : Int) ∉ d) → (∀ s ∈ ss, (0 : Int) ∉ s.2) → (∃ a, Assigns a ∧ ∀ d ∈ cs, ∃ x ∈ d, a x) → (chk cs ss i).1 = -1
  | [], _, _, _, _, _ => by simp [chk]
  | (true, c) :: ss, cs, i, h0, hs, ⟨a, ha, hsat⟩ => by
    simp only [chk]
    have hsub : ∀ d ∈ remP cs c, d ∈ cs := fun d hd => List.mem_of_mem_eraseP hd
    exact chk_sound ss _ _ (fun d hd => h0 d (hsub d hd)) (fun s hs' => hs s (by simp [hs'])) ⟨a, ha, fun d hd => hsat d (hsub d hd)⟩
  | (false, c) :: ss, cs, i, h0, hs, ⟨a, ha, hsat⟩ => by
    have hc0 : (0 : Int) ∉ c := hs (false, c) (by simp)
    simp only [chk]
    by_cases h1 : May cs c
    · rw [if_pos h1]
      have hkeep : ∃ a', Assigns a' ∧ (∀ d ∈ cs, ∃ x ∈ d, a' x) ∧ ∃ x ∈ c, a' x := by
        rcases h1 with h1 | h1
        · exact ⟨a, ha, hsat, implied_true hc0 h1 ha hsat⟩
        · cases c with
          | nil => exact absurd h1 id
          | cons p r => exact blocked_keeps hc0 h0 h1 ha hsat
      obtain ⟨a', ha', hsat', x, hx, hax⟩ := hkeep
      rw [if_neg (fun e => by rw [e] at hx; simp at hx)]
      refine chk_sound ss _ _ (fun d hd => ?_) (fun s hs' => hs s (by simp [hs'])) ⟨a', ha', fun d hd => ?_⟩
      · rcases List.mem_append.1 hd with hd | hd
        · exact h0 d hd
        · simp only [List.mem_singleton] at hd; subst hd; exact hc0
      · rcases List.mem_append.1 hd with hd | hd
        · exact hsat' d hd
        · simp only [List.mem_singleton] at hd; subst hd; exact ⟨x, hx, hax⟩
    · rw [if_neg h1]
/-! The clauses' order plays no part. -/
def LikeP (cs ds : List (List Int)) : Prop := (cs.map normC).Perm (ds.map normC)
theorem LikeP.symm {cs ds : List (List Int)} (h : LikeP cs ds) : LikeP ds cs := List.Perm.symm h
theorem LikeP.mem {cs ds : List (List Int)} (h : LikeP cs ds) {c : List Int} (hc : c ∈ cs) : ∃ d ∈ ds, ∀ x, x ∈ c ↔ x ∈ d := by
  have h1 : normC c ∈ ds.map normC := h.mem_iff.1 (List.mem_map.2 ⟨c, hc, rfl⟩)
  obtain ⟨d, hd, he⟩ := List.mem_map.1 h1
  exact ⟨d, hd, (norm_eq_iff c d).1 he.symm⟩
def upI (e : Int) : Int := if e = -1 then -1 else e + 1
end Go.Proofs.YtcblijcalhaffaaGreatDoor
namespace Go.Proofs.YtcblijcalhaffaaGreatDoor
open Go

/-! The store's search for what follows: no program in sight. -/
/-- What a clause says, a literal of it being free already (0: none). -/
def unitG (K : Int → Bool) : Int → List Int → Int × Bool
  | f, [] => (f, decide (f ≠ 0))
  | f, l :: c => if K l then (0, true) else if K (-l) then unitG K f c else if f ≠ 0 then (0, true) else unitG K l c
theorem unitG_free (K : Int → Bool) (f : Int) (hf : f ≠ 0) : ∀ c : List Int, (unitG K f c = (f, true) ∧ ∀ y ∈ c, K (-y) = true) ∨ (unitG K f c = (0, true) ∧ ∃ y ∈ c, K y = true ∨ K (-y) = false)
  | [] => .inl ⟨by simp [unitG, hf], by simp⟩
  | l :: c => by
    unfold unitG
    by_cases h1 : K l = true
    · rw [if_pos h1]; exact .inr ⟨rfl, l, by simp, .inl h1⟩
    · rw [if_neg h1]
      by_cases h2 : K (-l) = true
      · rw [if_pos h2]
        rcases unitG_free K f hf c with ⟨h3, h4⟩ | ⟨h3, y, hy, h4⟩
        · exact .inl ⟨h3, fun y hy => by rcases List.mem_cons.1 hy with rfl | hy; exact h2; exact h4 y hy⟩
        · exact .inr ⟨h3, y, by simp [hy], h4⟩
      · rw [if_neg h2, if_pos hf]
        exact .inr ⟨rfl, l, by simp, .inr (by simpa using h2)⟩
theorem unitG_in (K : Int → Bool) : ∀ (c : List Int) (f : Int), (unitG K f c).1 ≠ 0 → (f ≠ 0 → f ∈ c) → (unitG K f c).1 ∈ c := by
  have key : ∀ (c : List Int) (f : Int), (unitG K f c).1 ≠ 0 → (unitG K f c).1 = f ∨ (unitG K f c).1 ∈ c := by
    intro c
    induction c with
    | nil => intro f _; exact .inl rfl
    | cons l c ih =>
      intro f h
      unfold unitG at h ⊢
      by_cases h1 : K l = true
      · rw [if_pos h1] at h; exact absurd rfl h
      · rw [if_neg h1] at h ⊢
        by_cases h2 : K (-l) = true
        · rw [if_pos h2] at h ⊢
          exact (ih f h).imp id fun h => by simp [h]
        · rw [if_neg h2] at h ⊢
          by_cases h3 : f ≠ 0
          · rw [if_pos h3] at h; exact absurd rfl h
          · rw [if_neg h3] at h ⊢
            refine .inr ?_
            rcases ih l h with h4 | h4
            · rw [h4]; simp
            · simp [h4]
  intro c f h hf
  rcases key c f h with h1 | h1
  · rw [h1] at h ⊢; exact hf h
  · exact h1
theorem unitG_zero (K : Int → Bool) : ∀ c : List Int, (0 : Int) ∉ c → c.Nodup →
    (unitG K 0 c = (0, false) ∧ ∀ y ∈ c, K (-y) = true) ∨
    (∃ x, unitG K 0 c = (x, true) ∧ x ≠ 0 ∧ x ∈ c ∧ K x = false ∧ K (-x) = false ∧ ∀ y ∈ c, y ≠ x → K (-y) = true) ∨
    (unitG K 0 c = (0, true) ∧ ((∃ y ∈ c, K y = true) ∨ ∃ y ∈ c, ∃ z ∈ c, y ≠ z ∧ K (-y) = false ∧ K (-z) = false))
  | [], _, _ => .inl ⟨by simp [unitG], by simp⟩
  | l :: c, h0, hn => by
    obtain ⟨hl, hn⟩ := List.nodup_cons.1 hn
    have h0c : (0 : Int) ∉ c := fun h => h0 (by simp [h])
    have hl0 : l ≠ 0 := fun e => h0 (by simp [e])
    unfold unitG
    by_cases h1 : K l = true
    · rw [if_pos h1]; exact .inr (.inr ⟨rfl, .inl ⟨l, by simp, h1⟩⟩)
    · rw [if_neg h1]
      by_cases h2 : K (-l) = true
      · rw [if_pos h2]
        rcases unitG_zero K c h0c hn with ⟨h3, h4⟩ | ⟨x, h3, h4, h5, h6, h7, h8⟩ | ⟨h3, h4⟩
        · exact .inl ⟨h3, fun y hy => by rcases List.mem_cons.1 hy with rfl | hy; exact h2; exact h4 y hy⟩
        · exact .inr (.inl ⟨x, h3, h4, by simp [h5], h6, h7, fun y hy hne => by rcases List.mem_cons.1 hy with rfl | hy; exact h2; exact h8 y hy hne⟩)
        · refine .inr (.inr ⟨h3, ?_⟩)
          rcases h4 with ⟨y, hy, h5⟩ | ⟨y, hy, z, hz, h5⟩
          · exact .inl ⟨y, by simp [hy], h5⟩
          · exact .inr ⟨y, by simp [hy], z, by simp [hz], h5⟩
      · rw [if_neg h2, if_neg (by simp)]
        have h1' : K l = false := by simpa using h1
        have h2' : K (-l) = false := by simpa using h2
        rcases unitG_free K l hl0 c with ⟨h3, h4⟩ | ⟨h3, y, hy, h4⟩
        · exact .inr (.inl ⟨l, h3, hl0, by simp, h1', h2', fun y hy hne => by rcases List.mem_cons.1 hy with rfl | hy; exact absurd rfl hne; exact h4 y hy⟩)
        · refine .inr (.inr ⟨h3, ?_⟩)
          rcases h4 with h4 | h4
          · exact .inl ⟨y, by simp [hy], h4⟩
          · exact .inr ⟨l, by simp, y, by simp [hy], fun e => hl (e ▸ hy), h2', h4⟩

/-- What is known: which literals, and whether they clash. -/
structure Kn where
  K : Int → Bool
  cl : Bool
def Kn.add (s : Kn) (l : Int) : Kn := ⟨fun x => decide (x = l) || s.K x, s.cl || (decide (-l = l) || s.K (-l))⟩
def roundG : List (List Int) → Kn → Bool → Kn × Bool
  | [], s, m => (s, m)
  | c :: cs, s, m => if (unitG s.K 0 c).2 = false ∨ s.cl = true then ({ s with cl := true }, false) else
    if (unitG s.K 0 c).1 ≠ 0 then roundG cs (s.add (unitG s.K 0 c).1) true else roundG cs s m
/-- What is known is right. -/
structure Kn.Ok (cs : List (List Int)) (l : List Int) (s : Kn) : Prop where
  der : ∀ x, s.K x = true → Der cs l x
  cla : s.cl = true → Clash cs l
  one : s.cl = false → ∀ x, s.K x = true → s.K (-x) = false
theorem Kn.Ok.add {cs : List (List Int)} {l : List Int} {s : Kn} (h : s.Ok cs l) {x : Int} (hx : Der cs l x) (hx0 : x ≠ 0) : (s.add x).Ok cs l := by
  have hd : ∀ y, (s.add x).K y = true → Der cs l y := fun y hy => by
    simp only [Kn.add, Bool.or_eq_true, decide_eq_true_eq] at hy
    rcases hy with rfl | hy
    · exact hx
    · exact h.der y hy
  refine ⟨hd, fun hc => ?_, fun hc y hy => ?_⟩
  · simp only [Kn.add, Bool.or_eq_true, decide_eq_true_eq] at hc
    rcases hc with hc | hc | hc
    · exact h.cla hc
    · omega
    · exact .inl ⟨x, hx, h.der _ hc⟩
  · simp only [Kn.add, Bool.or_eq_false_iff, decide_eq_false_iff_not] at hc
    simp only [Kn.add, Bool.or_eq_true, decide_eq_true_eq] at hy
    simp only [Kn.add, Bool.or_eq_false_iff, decide_eq_false_iff_not]
    rcases hy with rfl | hy
    · exact hc.2
    · refine ⟨fun e => ?_, h.one hc.1 y hy⟩
      have : y = -x := by omega
      rw [this] at hy
      rw [hy] at hc
      simp at hc
/-- Rows that the store holds. -/
def Fine (cs : List (List Int)) : Prop := ∀ c ∈ cs, (0 : Int) ∉ c ∧ c.Nodup
theorem round_ok {cs : List (List Int)} {l : List Int} : ∀ (ds : List (List Int)) (s : Kn) (m : Bool), (∀ d ∈ ds, d ∈ cs) → Fine ds → s.Ok cs l → (roundG ds s m).1.Ok cs l
  | [], _, _, _, _, h => h
  | c :: ds, s, m, hsub, hf, h => by
    have hu := unitG_zero s.K c (hf c (by simp)).1 (hf c (by simp)).2
    have hsub' : ∀ d ∈ ds, d ∈ cs := fun d hd => hsub d (by simp [hd])
    have hf' : Fine ds := fun d hd => hf d (by simp [hd])
    unfold roundG
    by_cases h1 : (unitG s.K 0 c).2 = false ∨ s.cl = true
    · rw [if_pos h1]
      have hcl : Clash cs l := by
        rcases h1 with h1 | h1
        · rcases hu with ⟨h3, h4⟩ | ⟨x, h3, _⟩ | ⟨h3, _⟩
          · exact .inr ⟨c, hsub c (by simp), fun y hy => h.der _ (h4 y hy)⟩
          · rw [h3] at h1; simp at h1
          · rw [h3] at h1; simp at h1
        · exact h.cla h1
      exact ⟨h.der, fun _ => hcl, fun hc => by simp at hc⟩
    · rw [if_neg h1]
      by_cases h2 : (unitG s.K 0 c).1 ≠ 0
      · rw [if_pos h2]
        refine round_ok ds _ _ hsub' hf' (h.add ?_ h2)
        rcases hu with ⟨h3, _⟩ | ⟨x, h3, h4, h5, h6, h7, h8⟩ | ⟨h3, _⟩
        · rw [h3] at h2; simp at h2
        · rw [h3]
          exact .unit (hsub c (by simp)) h5 fun y hy hne => h.der _ (h8 y hy hne)
        · rw [h3] at h2; simp at h2
      · rw [if_neg h2]
        exact round_ok ds s m hsub' hf' h
/-- A round that finds nothing more, and no clash: nothing more follows. -/
theorem round_done : ∀ (ds : List (List Int)) (s : Kn), Fine ds → (s.cl = false → ∀ x, s.K x = true → s.K (-x) = false) → (roundG ds s false).2 = false → (roundG ds s false).1.cl = false →
    (roundG ds s false).1 = s ∧ (∀ c ∈ ds, (∀ x ∈ c, (∀ y ∈ c, y ≠ x → s.K (-y) = true) → s.K x = true) ∧ ∃ y ∈ c, s.K (-y) = false)
  | [], s, _, _, _, _ => ⟨rfl, by simp⟩
  | c :: ds, s, hf, h1, hm, hc => by
    have hu := unitG_zero s.K c (hf c (by simp)).1 (hf c (by simp)).2
    have hf' : Fine ds := fun d hd => hf d (by simp [hd])
    unfold roundG at hm hc ⊢
    by_cases h2 : (unitG s.K 0 c).2 = false ∨ s.cl = true
    · rw [if_pos h2] at hc; simp at hc
    · rw [if_neg h2] at hm hc ⊢
      by_cases h3 : (unitG s.K 0 c).1 ≠ 0
      · rw [if_pos h3] at hm hc
        have key : ∀ (ds : List (List Int)) (t : Kn), (roundG ds t true).1.cl = false → (roundG ds t true).2 = true := by
          intro ds
          induction ds with
          | nil => intro t _; rfl
          | cons d ds ih =>
            intro t ht
            unfold roundG at ht ⊢
            by_cases h4 : (unitG t.K 0 d).2 = false ∨ t.cl = true
            · rw [if_pos h4] at ht; simp at ht
            · rw [if_neg h4] at ht ⊢
              by_cases h5 : (unitG t.K 0 d).1 ≠ 0
              · rw [if_pos h5] at ht ⊢; exact ih _ ht
              · rw [if_neg h5] at ht ⊢; exact ih _ ht
        rw [key _ _ hc] at hm
        simp at hm
      · rw [if_neg h3] at hm hc ⊢
        obtain ⟨e1, e2⟩ := round_done ds s hf' h1 hm hc
        refine ⟨e1, fun d hd => ?_⟩
        rcases List.mem_cons.1 hd with rfl | hd
        · have hcl : s.cl = false := by
            cases hs : s.cl with
            | false => rfl
            | true => exact absurd (.inr hs) h2
          rcases hu with ⟨h4, _⟩ | ⟨x, h4, h5, _⟩ | ⟨h4, h5⟩
          · exact absurd (.inl (by rw [h4])) h2
          · rw [h4] at h3; exact absurd h5 h3
          · rcases h5 with ⟨y, hy, h6⟩ | ⟨y, hy, z, hz, hyz, h6, h7⟩
            · have h7 := h1 hcl y h6
              refine ⟨fun x hx hall => ?_, y, hy, h7⟩
              by_cases hxy : y = x
              · subst hxy; exact h6
              · have := hall y hy hxy; rw [h7] at this; simp at this
            · refine ⟨fun x hx hall => ?_, y, hy, h6⟩
              by_cases hxy : y = x
              · subst hxy
                have := hall z hz (fun e => hyz e.symm); rw [h7] at this; simp at this
              · have := hall y hy hxy; rw [h6] at this; simp at this
        · exact e2 d hd
/-- Where the search ends without a clash there is none. -/
theorem follow_done {cs : List (List Int)} {l : List Int} {s : Kn} (hf : Fine cs) (h : s.Ok cs l) (hl : ∀ x ∈ l, s.K x = true) (hm : (roundG cs s false).2 = false) (hc : (roundG cs s false).1.cl = false) : (roundG cs s false).1 = s ∧ ¬ Clash cs l := by
  obtain ⟨e1, e2⟩ := round_done cs s hf h.one hm hc
  refine ⟨e1, no_clash (K := fun x => s.K x = true) ⟨hl, fun c hc x hx hall => (e2 c hc).1 x hx hall⟩ (fun x hx hn => ?_) (fun c hcs => ?_)⟩
  · have hcl : s.cl = false := by rw [← e1]; exact hc
    have := h.one hcl x hx
    rw [this] at hn; simp at hn
  · obtain ⟨y, hy, h3⟩ := (e2 c hcs).2
    exact ⟨y, hy, by rw [h3]; simp⟩

/-! A round's growth; the store's rows. -/
theorem add_mono (s : Kn) (l : Int) {x : Int} (h : s.K x = true) : (s.add l).K x = true := by simp [Kn.add, h]
theorem add_has (s : Kn) (l : Int) : (s.add l).K l = true := by simp [Kn.add]
theorem round_mono : ∀ (ds : List (List Int)) (s : Kn) (m : Bool) {x : Int}, s.K x = true → (roundG ds s m).1.K x = true
  | [], _, _, _, h => h
  | c :: ds, s, m, x, h => by
    unfold roundG
    split
    · exact h
    · split
      · exact round_mono ds _ _ (add_mono s _ h)
      · exact round_mono ds s m h
theorem round_grows : ∀ (ds : List (List Int)) (s : Kn) (m : Bool), Fine ds → (roundG ds s m).2 = true → m = true ∨ ∃ c ∈ ds, ∃ x ∈ c, s.K x = false ∧ (roundG ds s m).1.K x = true
  | [], _, _, _, h => .inl h
  | c :: ds, s, m, hf, h => by
    have hu := unitG_zero s.K c (hf c (by simp)).1 (hf c (by simp)).2
    have hf' : Fine ds := fun d hd => hf d (by simp [hd])
    unfold roundG at h ⊢
    by_cases h1 : (unitG s.K 0 c).2 = false ∨ s.cl = true
    · rw [if_pos h1] at h; simp at h
    · rw [if_neg h1] at h ⊢
      by_cases h2 : (unitG s.K 0 c).1 ≠ 0
      · rw [if_pos h2] at h ⊢
        rcases hu with ⟨h3, _⟩ | ⟨x, h3, h4, h5, h6, _⟩ | ⟨h3, _⟩
        · rw [h3] at h2; simp at h2
        · rw [h3]
          exact .inr ⟨c, by simp, x, h5, h6, round_mono ds _ _ (add_has s x)⟩
        · rw [h3] at h2; simp at h2
      · rw [if_neg h2] at h ⊢
        rcases round_grows ds s m hf' h with h3 | ⟨d, hd, x, hx, h4⟩
        · exact .inl h3
        · exact .inr ⟨d, by simp [hd], x, hx, h4⟩
theorem asc_nodup {l : List Int} (h : Asc l) : l.Nodup := List.Pairwise.imp (fun hab e => by rw [e] at hab; omega) h
theorem fine_norm {cs : List (List Int)} (h : ∀ c ∈ cs, (0 : Int) ∉ c) : Fine (cs.map normC) := fun d hd => by
  obtain ⟨c, hc, rfl⟩ := List.mem_map.1 hd
  exact ⟨fun h0 => h c hc ((normC_mem c 0).1 h0), asc_nodup (normC_asc c)⟩
/-- The literals that are told at first. -/
def startG (l : List Int) : Kn := l.foldl Kn.add ⟨fun _ => false, false⟩
theorem start_ok (cs : List (List Int)) : ∀ (l m : List Int) (s : Kn), (∀ x ∈ m, x ∈ l ∧ x ≠ 0) → s.Ok cs l → (m.foldl Kn.add s).Ok cs l ∧ (∀ x, s.K x = true ∨ x ∈ m → (m.foldl Kn.add s).K x = true)
  | l, [], s, _, h => ⟨h, fun x hx => by simpa using hx⟩
  | l, y :: m, s, hm, h => by
    obtain ⟨h1, h2⟩ := hm y (by simp)
    obtain ⟨h3, h4⟩ := start_ok cs l m (s.add y) (fun x hx => hm x (by simp [hx])) (h.add (.base h1) h2)
    rw [List.foldl_cons]
    refine ⟨h3, fun x hx => ?_⟩
    rcases hx with hx | hx
    · exact h4 x (.inl (add_mono s y hx))
    · rcases List.mem_cons.1 hx with rfl | hx
      · exact h4 x (.inl (add_has s x))
      · exact h4 x (.inr hx)
theorem start_all (cs : List (List Int)) (l : List Int) (h : (0 : Int) ∉ l) : (startG l).Ok cs l ∧ ∀ x ∈ l, (startG l).K x = true := by
  obtain ⟨h1, h2⟩ := start_ok cs l l ⟨fun _ => false, false⟩ (fun x hx => ⟨hx, fun e => h (e ▸ hx)⟩) ⟨fun x hx => by simp at hx, fun hc => by simp at hc, fun _ x hx => by simp at hx⟩
  exact ⟨h1, fun x hx => h2 x (.inr hx)⟩
end Go.Proofs.YtcblijcalhaffaaGreatDoor
namespace Go.Proofs.YtcblijcalhaffaaGreatDoor
open Go

/-! The document's own search for what follows: no program in sight. -/
/-- How many unlike literals of a clause are left, one behind the other, and the last of them. -/
def leftG (K : List Int) : Nat → Int → List Int → Nat × Int
  | n, f, [] => (n, f)
  | n, f, x :: c => if -x ∉ K ∧ (n = 0 ∨ x ≠ f) then leftG K (n + 1) x c else leftG K n f c
/-- All clauses once; none: a clash. -/
def roundR : List (List Int) → List Int → Bool → Option (List Int × Bool)
  | [], K, g => some (K, g)
  | c :: cs, K, g => if (leftG K 0 0 c).1 = 0 then none else
    if (leftG K 0 0 c).1 = 1 ∧ (leftG K 0 0 c).2 ∉ K then roundR cs (K ++ [(leftG K 0 0 c).2]) true else roundR cs K g
end Go.Proofs.YtcblijcalhaffaaGreatDoor
