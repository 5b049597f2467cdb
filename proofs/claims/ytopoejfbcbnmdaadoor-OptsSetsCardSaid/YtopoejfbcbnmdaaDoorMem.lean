import Derived.Laws.AppendOwn
import Derived.Laws.OwnMore
import Derived.Below
import Derived.Deep.Draws
import Derived.OwnWalk
import Derived.Maps.AppendAt
namespace Go.Proofs.YtopoejfbcbnmdaaDoor
open Go Go.RowKit

/-- Each block has a place in a tree of objects: its path. -/
abbrev Tag := List Nat
abbrev Tags := Nat → Tag

/-- A path at or below one of these. -/
def Under (ps : List Tag) (t : Tag) : Prop := ∃ p ∈ ps, p <+: t

theorem Under.self {ps : List Tag} {p : Tag} (h : p ∈ ps) : Under ps p := ⟨p, h, List.prefix_refl p⟩
theorem Under.to {ps qs : List Tag} {t : Tag} (h : Under ps t) (hs : ∀ p ∈ ps, Under qs p) : Under qs t := by
  obtain ⟨p, hp, ht⟩ := h
  obtain ⟨q, hq, hqp⟩ := hs p hp
  exact ⟨q, hq, hqp.trans ht⟩
@[simp] theorem under_nil (t : Tag) : Under [] t ↔ False := by simp [Under]
@[simp] theorem under_cons (p : Tag) (ps : List Tag) (t : Tag) : Under (p :: ps) t ↔ p <+: t ∨ Under ps t := by simp [Under]

/-- From w to w' nothing has turned but blocks at or below the paths ps; old blocks keep their paths, new ones have paths there, or none of their own. -/
structure Turn (γ γ' : Tags) (w w' : World) (ps : List Tag) : Prop where
  os : w'.os = w.os
  tape : w'.tape = w.tape
  output : w'.output = w.output
  size : w.heap.size ≤ w'.heap.size
  tag : ∀ k, k < w.heap.size → γ' k = γ k
  new : ∀ k, γ' k = γ k ∨ Under ps (γ' k)
  block : ∀ k, k < w.heap.size → ¬ Under ps (γ k) → w'.heap[k]? = w.heap[k]?

theorem Turn.refl (γ : Tags) (w : World) (ps : List Tag) : Turn γ γ w w ps := ⟨rfl, rfl, rfl, Nat.le_refl _, fun _ _ => rfl, fun _ => .inl rfl, fun _ _ _ => rfl⟩

theorem Turn.trans {α β γ : Tags} {a b c : World} {ps : List Tag} (h : Turn α β a b ps) (k : Turn β γ b c ps) : Turn α γ a c ps :=
  ⟨k.os.trans h.os, k.tape.trans h.tape, k.output.trans h.output, Nat.le_trans h.size k.size,
    fun i hi => (k.tag i (Nat.lt_of_lt_of_le hi h.size)).trans (h.tag i hi),
    fun i => by
      rcases k.new i with h1 | h1
      · rcases h.new i with h2 | h2
        · exact .inl (h1.trans h2)
        · exact .inr (by rw [h1]; exact h2)
      · exact .inr h1,
    fun i hi hp => (k.block i (Nat.lt_of_lt_of_le hi h.size) (by rw [h.tag i hi]; exact hp)).trans (h.block i hi hp)⟩

theorem Turn.to {γ γ' : Tags} {w w' : World} {ps qs : List Tag} (h : Turn γ γ' w w' ps) (hs : ∀ p ∈ ps, Under qs p) : Turn γ γ' w w' qs :=
  ⟨h.os, h.tape, h.output, h.size, h.tag, fun k => (h.new k).imp id (fun x => x.to hs), fun k hk hn => h.block k hk fun hp => hn (hp.to hs)⟩

theorem Turn.at {γ γ' : Tags} {w w' : World} {p q : Tag} (h : Turn γ γ' w w' [p ++ q]) : Turn γ γ' w w' [p] := h.to (by simp)

theorem Turn.drewN {γ γ' : Tags} {a b : World} {ps : List Tag} (h : Turn γ γ' a b ps) (n : Nat) : Turn γ γ' a (b.drewN n) ps := ⟨h.os, h.tape, h.output, h.size, h.tag, h.new, h.block⟩
theorem Turn.drew {γ γ' : Tags} {a b : World} {ps : List Tag} (h : Turn γ γ' a b ps) : Turn γ γ' a b.drew ps := ⟨h.os, h.tape, h.output, h.size, h.tag, h.new, h.block⟩
theorem Turn.of_drewN {γ γ' : Tags} {a b : World} {ps : List Tag} {n : Nat} (h : Turn γ γ' (a.drewN n) b ps) : Turn γ γ' a b ps := ⟨h.os, h.tape, h.output, h.size, h.tag, h.new, h.block⟩

theorem Turn.setCell {γ γ' : Tags} {a b : World} {ps : List Tag} (h : Turn γ γ' a b ps) {q : Addr} (hq : Under ps (γ' q.block) ∨ a.heap.size ≤ q.block) (v : Value) : Turn γ γ' a (b.setCell q v) ps :=
  ⟨h.os, h.tape, h.output, by simpa [World.setCell] using h.size, h.tag, h.new, fun k hk hp => (Below.heap_setCell b q v k (by
    rintro rfl
    rcases hq with hq | hq
    · rw [h.tag _ hk] at hq; exact hp hq
    · omega)).trans (h.block k hk hp)⟩

theorem Turn.alloc {γ γ' : Tags} {a b : World} {ps : List Tag} (h : Turn γ γ' a b ps) (o : Obj) : Turn γ γ' a (b.alloc o) ps :=
  ⟨h.os, h.tape, h.output, by have := h.size; simp; omega, h.tag, h.new, fun k hk hp => (Below.heap_alloc b o k (Nat.lt_of_lt_of_le hk h.size)).trans (h.block k hk hp)⟩

/-- New blocks get paths. -/
def Tags.set (γ : Tags) (b : Nat) (p : Tag) : Tags := fun k => if k = b then p else γ k

@[simp] theorem Tags.set_same (γ : Tags) (b : Nat) (p : Tag) : γ.set b p b = p := by simp [Tags.set]
theorem Tags.set_ne (γ : Tags) {b k : Nat} (p : Tag) (h : k ≠ b) : γ.set b p k = γ k := by simp [Tags.set, h]

theorem Turn.tags {γ γ' : Tags} {a b : World} {ps : List Tag} (h : Turn γ γ' a b ps) {g : Nat} (hg : a.heap.size ≤ g) {q : Tag} (hq : Under ps q) : Turn γ (γ'.set g q) a b ps :=
  ⟨h.os, h.tape, h.output, h.size, fun k hk => by rw [Tags.set_ne _ _ (by omega)]; exact h.tag k hk,
    fun k => by
      by_cases hk : k = g
      · subst hk; right; simpa using hq
      · rw [Tags.set_ne _ _ hk]; exact h.new k, h.block⟩

section
variable {w w' : World} {base : Nat} {e : TypeId} {k : Nat} {a : Option Addr} {b m n cap : Nat} {xs : List Value}

theorem cell_of_block {cs : Array Value} {fz : Nat × Nat} {j : Nat} {v : Value} (h : w.heap[b]? = some (.cells cs e fz)) (hj : cs[j]? = some v) : w.cell? ⟨b, j, none⟩ = some v := by
  simp [World.cell?, h, hj]

theorem frozen_of_block {cs : Array Value} {j : Nat} (h : w.heap[b]? = some (.cells cs e (0, 0))) : w.frozen? ⟨b, j, none⟩ = false := by
  simp [World.frozen?, h]

theorem own_cell (h : w.ownsRow base e k (.slice (some ⟨b, 0, none⟩) m cap) n xs) {j : Nat} {v : Value} (hj : xs[j]? = some v) : w.cell? ⟨b, j, none⟩ = some v := by
  have := h.cells (g := b) rfl j v hj
  unfold Addr.add at this
  split at this
  · rename_i h0; subst h0; exact this
  · simpa using this

theorem own_block (h : w.ownsRow base e k (.slice (some ⟨b, 0, none⟩) m cap) n xs) : ∃ cur, w.heap[b]? = some (.cells cur e (0, 0)) ∧ m = n ∧ base ≤ b ∧ n ≤ cap ∧ cap ≤ maxLen ∧ cur.size = cap * k ∧ cur.toList.take (n * k) = xs := by
  rcases h.2 with ⟨h, _⟩ | ⟨g, c, cur, h, hr⟩
  · cases h
  · simp only [Value.slice.injEq, Option.some.injEq, Addr.mk.injEq] at h
    obtain ⟨⟨rfl, _⟩, rfl, rfl⟩ := h
    exact ⟨cur, hr.2.1, rfl, hr.1, hr.2.2⟩

theorem own_frozen (h : w.ownsRow base e k (.slice (some ⟨b, 0, none⟩) m cap) n xs) (j : Nat) : w.frozen? ⟨b, j, none⟩ = false := by
  obtain ⟨cur, hb, _⟩ := own_block h
  exact frozen_of_block hb

theorem own_some (h : w.ownsRow base e k (.slice a n cap) n xs) (hn : 0 < n) : ∃ g, a = some ⟨g, 0, none⟩ := by
  rcases h.2 with ⟨h, _⟩ | ⟨g, c, cur, h, _⟩
  · simp only [Value.slice.injEq] at h; omega
  · simp only [Value.slice.injEq] at h; exact ⟨g, h.1⟩

/-- A row stays where its block is as it was. -/
theorem own_kept {v : Value} (h : w.ownsRow base e k v n xs) (hb : ∀ g, v.ownBlock = some g → w'.heap[g]? = w.heap[g]?) : w'.ownsRow base e k v n xs := by
  refine ⟨h.1, ?_⟩
  rcases h.2 with h | ⟨g, c, cur, rfl, h1, h2, h3⟩
  · exact .inl h
  · exact .inr ⟨g, c, cur, rfl, h1, by rw [hb g rfl]; exact h2, h3⟩

/-- One cell of a row is written. -/
theorem own_set (h : w.ownsRow base e k (.slice (some ⟨b, 0, none⟩) m cap) n xs) {j : Nat} (_hj : j < xs.length) (v : Value) : (w.setCell ⟨b, j, none⟩ v).ownsRow base e k (.slice (some ⟨b, 0, none⟩) m cap) n (xs.set j v) := by
  obtain ⟨cur, hb, rfl, h0, h1, h2, h3, h4⟩ := own_block h
  refine ⟨by simpa using h.1, .inr ⟨b, cap, cur.setIfInBounds j v, rfl, h0, ?_, h1, h2, by simpa using h3, ?_⟩⟩
  · simp [World.setCell, Array.getElem?_modify, hb]
  · rw [Array.toList_setIfInBounds, List.take_set, h4]

/-- A row loses its end. -/
theorem own_take (h : w.ownsRow base e k (.slice a n cap) n xs) {m : Nat} (hm : m ≤ n) : w.ownsRow base e k (.slice a m cap) m (xs.take (m * k)) := by
  have hl : m * k ≤ n * k := Nat.mul_le_mul_right k hm
  refine ⟨by rw [List.length_take, h.1]; omega, ?_⟩
  rcases h.2 with ⟨h1, h2⟩ | ⟨g, c, cur, h1, h2, h3, h4, h5, h6, h7⟩
  · simp only [Value.slice.injEq] at h1
    obtain ⟨rfl, _, rfl⟩ := h1
    have : m = 0 := by omega
    subst this
    exact .inl ⟨rfl, rfl⟩
  · simp only [Value.slice.injEq] at h1
    obtain ⟨rfl, _, rfl⟩ := h1
    exact .inr ⟨g, cap, cur, rfl, h2, h3, by omega, h5, h6, by rw [← h7, List.take_take, Nat.min_eq_left hl]⟩

end

def ints (l : List Int) : List Value := l.map (Value.int .i64)

@[simp] theorem ints_length (l : List Int) : (ints l).length = l.length := by simp [ints]
theorem ints_get (l : List Int) (i : Nat) (h : i < l.length) : (ints l)[i]? = some (.int .i64 l[i]) := by simp [ints, h]
theorem ints_append (l m : List Int) : ints (l ++ m) = ints l ++ ints m := by simp [ints]
theorem ints_set (l : List Int) (i : Nat) (v : Int) : ints (l.set i v) = (ints l).set i (.int .i64 v) := by simp [ints, List.map_set]
theorem ints_take (l : List Int) (i : Nat) : ints (l.take i) = (ints l).take i := by simp [ints, List.map_take]

def bools (l : List Bool) : List Value := l.map Value.bool
@[simp] theorem bools_length (l : List Bool) : (bools l).length = l.length := by simp [bools]
theorem bools_get (l : List Bool) (i : Nat) (h : i < l.length) : (bools l)[i]? = some (.bool l[i]) := by simp [bools, h]
theorem bools_set (l : List Bool) (i : Nat) (v : Bool) : bools (l.set i v) = (bools l).set i (.bool v) := by simp [bools, List.map_set]

theorem own_ints {w : World} {base : Nat} {e : TypeId} {a : Option Addr} {n cap : Nat} {xs : List Int} (h : w.ownsRow base e 1 (.slice a n cap) n (ints xs)) (hn : 0 < n) :
    ∃ g, a = some ⟨g, 0, none⟩ ∧ ∀ i (hi : i < xs.length), w.cell? ⟨g, i, none⟩ = some (.int .i64 xs[i]) := by
  obtain ⟨g, rfl⟩ := own_some h hn
  exact ⟨g, rfl, fun i hi => own_cell h (ints_get xs i hi)⟩

theorem flatMap_get {α β : Type} (f : α → List β) (k : Nat) (hk : ∀ a, (f a).length = k) : ∀ (l : List α) (i j : Nat) (hi : i < l.length), j < k → (l.flatMap f)[i * k + j]? = (f l[i])[j]?
  | a :: l, 0, j, _, hj => by simp [List.flatMap_cons, List.getElem?_append, hk, hj]
  | a :: l, i + 1, j, hi, hj => by
    have e : (i + 1) * k + j = k + (i * k + j) := by rw [Nat.add_mul]; omega
    rw [List.flatMap_cons, e, List.getElem?_append_right (by rw [hk]; omega), hk]
    simpa using flatMap_get f k hk l i j (by simpa using hi) hj

theorem flatMap_length {α β : Type} (f : α → List β) (k : Nat) (hk : ∀ a, (f a).length = k) (l : List α) : (l.flatMap f).length = l.length * k := by
  induction l with
  | nil => simp
  | cons a l ih => simp [List.flatMap_cons, ih, hk, Nat.add_mul, Nat.add_comm]

/-- One cell of an element is written: the element with that cell. -/
theorem flatMap_set {α β : Type} (f : α → List β) (k : Nat) (hk : ∀ a, (f a).length = k) : ∀ (l : List α) (i j : Nat) (v : β) (c : α) (hi : i < l.length), j < k → f c = (f l[i]).set j v → (l.flatMap f).set (i * k + j) v = (l.set i c).flatMap f
  | a :: l, 0, j, v, c, _, hj, hc => by
    simp only [List.set_cons_zero, List.flatMap_cons, Nat.zero_mul, Nat.zero_add]
    rw [List.set_append_left _ _ (by rw [hk]; exact hj)]
    congr 1
    exact hc.symm
  | a :: l, i + 1, j, v, c, hi, hj, hc => by
    have e : (i + 1) * k + j = k + (i * k + j) := by rw [Nat.add_mul]; omega
    rw [List.flatMap_cons, e, List.set_append_right _ _ (by rw [hk]; omega), hk]
    simp only [List.set_cons_succ, List.flatMap_cons]
    congr 1
    rw [Nat.add_sub_cancel_left]
    exact flatMap_set f k hk l i j v c (by simpa using hi) hj (by simpa using hc)

section
variable {P : Program} (w : World)

/-- 'append' of at least one element: the result lies where the row lay, or in a new block. -/
theorem run_append_shape (base : Nat) (t ty e : TypeId) (i : TypeInfo) (z : Value) (size bytes : Nat) (ht : P.underlying t = some (.slice e)) (hi : P.info? e = some i) (hz : i.zero = some z)
    (hsize : i.size = size) (hby : i.bytes = bytes) (hzs : z.cells.size = size) (hsz : 0 < size)
    (va : Option Addr) (vc : Nat) (n : Nat) (xs : List Value) (hown : w.ownsRow base e size (.slice va n vc) n xs)
    (a : Addr) (m c : Nat) (hm : 0 < m) (news : List Value) (hl : news.length = m * size) (hnews : ∀ j u, news[j]? = some u → w.cell? (a.add j) = some u) (h1 : ∀ u ∈ news, u.oneCell' = true)
    (h63 : n + m ≤ maxLen) (hbytes : (n + m) * bytes ≤ 140737488355328) (hbase : base ≤ w.heap.size) :
    ∃ g cap w', (Builtin.append_ #[t, t] ty #[.slice va n vc, .slice (some a) m c]).run P w = .ok (.slice (some ⟨g, 0, none⟩) (n + m) cap) w' ∧
      w'.ownsRow base e size (.slice (some ⟨g, 0, none⟩) (n + m) cap) (n + m) (xs ++ news) ∧ w.grownBy w' (Value.slice va n vc).ownBlock ∧ (va = some ⟨g, 0, none⟩ ∨ g = w.heap.size) := by
  obtain ⟨v', w', hr, h2, h3, _⟩ := run_append_own (P := P) w base t ty e i z size bytes ht hi hz hsize hby hzs hsz (.slice va n vc) n xs hown a m c news hl hnews h1 h63 hbytes hbase
  have hsmall : n + m ≤ 9223372036854775807 := by simp only [maxLen] at h63; omega
  suffices hs : ∃ g cap, v' = .slice (some ⟨g, 0, none⟩) (n + m) cap ∧ (va = some ⟨g, 0, none⟩ ∨ g = w.heap.size) by
    obtain ⟨g, cap, rfl, hg⟩ := hs
    exact ⟨g, cap, w', hr, h2, h3, hg⟩
  subst hsize
  subst hby
  rcases hown.2 with ⟨hv, rfl⟩ | ⟨g, cap, cur, hv, hbg, hg, hnc, hcm, hcs, htake⟩
  · simp only [Value.slice.injEq] at hv
    obtain ⟨rfl, _, rfl⟩ := hv
    have hr2 := run_append_nil (P := P) w t ty e i z ht hi hz a m c news hl hnews hm (by omega) (by have hb := hbytes; simp only [Nat.zero_add] at hb; omega)
    rw [hr2] at hr
    simp only [Result.ok.injEq] at hr
    exact ⟨_, _, by rw [Nat.zero_add]; exact hr.1.symm, .inr rfl⟩
  · simp only [Value.slice.injEq] at hv
    obtain ⟨rfl, _, rfl⟩ := hv
    by_cases hroom : n + m ≤ vc
    · have hfit : n * i.size + news.length ≤ cur.size := by rw [hl, hcs, ← Nat.add_mul]; exact Nat.mul_le_mul_right _ hroom
      have hr2 := run_append_room (P := P) w t ty e i ht hi g n vc cur hg a m c news hl hnews h1 hroom hfit
      rw [hr2] at hr
      simp only [Result.ok.injEq] at hr
      exact ⟨_, _, hr.1.symm, .inl rfl⟩
    · have holds : ∀ j u, xs[j]? = some u → w.cell? ((⟨g, 0, none⟩ : Addr).add j) = some u := hown.cells (g := g) rfl
      have hr2 := run_append_grow (P := P) w t ty e i z ht hi hz ⟨g, 0, none⟩ n vc xs hown.1 holds a m c news hl hnews (by omega) (by omega) (growslice_fits (by omega) hbytes)
      rw [hr2] at hr
      simp only [Result.ok.injEq] at hr
      exact ⟨_, _, hr.1.symm, .inr rfl⟩

theorem wpList_append_sh {ops : Array Oper} {rest : List Oper} {o : Oper} {a : Act} {Q : Exit → Act → World → Prop} (hgd : o.guard = none) (s x : Operand) (t : TypeId)
    (ho : o.op = .call { callee := .builtin .append, args := #[s, x], argTypes := #[t, t] })
    (base : Nat) (e : TypeId) (i : TypeInfo) (z : Value) (size bytes : Nat) (ht : P.underlying t = some (.slice e)) (hi : P.info? e = some i) (hz : i.zero = some z)
    (hsize : i.size = size) (hby : i.bytes = bytes) (hzs : z.cells.size = size) (hsz : 0 < size)
    (va : Option Addr) (vc : Nat) (n : Nat) (xs : List Value) (hs : a.eval s = .slice va n vc) (hown : w.ownsRow base e size (.slice va n vc) n xs)
    (ad : Addr) (m c : Nat) (hm : 0 < m) (news : List Value) (hx : a.eval x = .slice (some ad) m c) (hl : news.length = m * size) (hnews : ∀ j u, news[j]? = some u → w.cell? (ad.add j) = some u) (h1 : ∀ u ∈ news, u.oneCell' = true)
    (h63 : n + m ≤ maxLen) (hbytes : (n + m) * bytes ≤ 140737488355328) (hbase : base ≤ w.heap.size)
    (h : ∀ g cap w', w'.ownsRow base e size (.slice (some ⟨g, 0, none⟩) (n + m) cap) (n + m) (xs ++ news) → w.grownBy w' (Value.slice va n vc).ownBlock → (va = some ⟨g, 0, none⟩ ∨ g = w.heap.size) →
      wpList P ops Q rest (a.put o.dst (.slice (some ⟨g, 0, none⟩) (n + m) cap)) w') : wpList P ops Q (o :: rest) a w := by
  refine wpList_plain hgd fun K hK => ?_
  obtain ⟨g, cap, w', hr, h2, h3, h4⟩ := run_append_shape (P := P) w base t o.type e i z size bytes ht hi hz hsize hby hzs hsz va vc n xs hown ad m c hm news hl hnews h1 h63 hbytes hbase
  unfold Oper.wp execOp
  simp only [ho, resolve, invoke, builtin, Sem.run_bind, Sem.run_pure, Result.andThen_ok, List.map_toArray, List.map_cons, List.map_nil, hs, hx, hr]
  exact hK _ _ (h g cap w' h2 h3 h4)

end

/-- A block of cells, at its path. -/
structure Blk (γ : Tags) (w : World) (p : Tag) (b : Nat) (e : TypeId) (cs : Array Value) : Prop where
  heap : w.heap[b]? = some (.cells cs e (0, 0))
  tag : γ b = p

/-- A row of n elements of so many cells, at its path: '.slice a n cap'. -/
structure Row (γ : Tags) (w : World) (p : Tag) (e : TypeId) (size : Nat) (a : Option Addr) (n cap : Nat) (xs : List Value) : Prop where
  own : w.ownsRow 0 e size (.slice a n cap) n xs
  tag : ∀ g, a = some g → γ g.block = p

section
variable {γ γ' : Tags} {w w' : World} {p q : Tag} {b : Nat} {e : TypeId} {cs : Array Value} {size n cap : Nat} {a : Option Addr} {xs : List Value}

theorem Blk.lt (h : Blk γ w p b e cs) : b < w.heap.size := (Array.getElem?_eq_some_iff.1 h.heap).1

theorem Blk.turn (h : Blk γ w q b e cs) {ps : List Tag} (ht : Turn γ γ' w w' ps) (hp : ¬ Under ps q) : Blk γ' w' q b e cs :=
  ⟨by rw [ht.block b h.lt (by rw [h.tag]; exact hp)]; exact h.heap, by rw [ht.tag b h.lt]; exact h.tag⟩

theorem Blk.cell (h : Blk γ w p b e cs) {j : Nat} {v : Value} (hj : cs[j]? = some v) : w.cell? ⟨b, j, none⟩ = some v := cell_of_block h.heap hj
theorem Blk.free (h : Blk γ w p b e cs) (j : Nat) : w.frozen? ⟨b, j, none⟩ = false := frozen_of_block h.heap

theorem Blk.cell_past (h : Blk γ w p b e cs) {j : Nat} {v : Value} (hj : cs[j]? = some v) (n : Nat) (o : Obj) : ((w.drewN n).alloc o).cell? ⟨b, j, none⟩ = some v := by
  rw [World.cell?_alloc_lt _ _ _ h.lt]; exact h.cell hj
theorem Blk.alloc (h : Blk γ w p b e cs) (o : Obj) : Blk γ (w.alloc o) p b e cs := ⟨(heap_alloc_old w o b h.lt).trans h.heap, h.tag⟩
theorem Blk.set (h : Blk γ w p b e cs) (j : Nat) (v : Value) : Blk γ (w.setCell ⟨b, j, none⟩ v) p b e (cs.setIfInBounds j v) :=
  ⟨by simp [World.setCell, Array.getElem?_modify, h.heap], h.tag⟩

theorem Blk.turned (h : Blk γ w p b e cs) (j : Nat) (v : Value) : Turn γ γ w (w.setCell ⟨b, j, none⟩ v) [p] :=
  (Turn.refl γ w [p]).setCell (.inl (by show Under [p] (γ b); rw [h.tag]; exact Under.self (by simp))) v

theorem Blk.new (γ : Tags) (w : World) (p : Tag) (e : TypeId) (cs : Array Value) : Blk (γ.set w.heap.size p) (w.alloc (.cells cs e)) p w.heap.size e cs :=
  ⟨heap_alloc_new w _, by simp⟩

theorem Turn.new_at (γ : Tags) (w : World) (o : Obj) (q : Tag) : Turn γ (γ.set w.heap.size q) w (w.alloc o) [q] := ((Turn.refl γ w [q]).alloc o).tags (Nat.le_refl _) (Under.self (by simp))

theorem Blk.tags (h : Blk γ w p b e cs) {g : Nat} (hg : b ≠ g) (q : Tag) : Blk (γ.set g q) w p b e cs := ⟨h.heap, by rw [Tags.set_ne _ _ hg]; exact h.tag⟩

theorem Row.lt (h : Row γ w p e size a n cap xs) {g : Addr} (hg : a = some g) : g.block < w.heap.size := (h.own.lt g.block (by simp [Value.ownBlock, hg])).2

theorem Row.turn (h : Row γ w q e size a n cap xs) {ps : List Tag} (ht : Turn γ γ' w w' ps) (hp : ¬ Under ps q) : Row γ' w' q e size a n cap xs := by
  refine ⟨own_kept h.own fun g hg => ?_, fun g hg => ?_⟩
  · cases ha : a with
    | none => rw [ha] at hg; simp [Value.ownBlock] at hg
    | some x =>
      rw [ha] at hg
      simp only [Value.ownBlock, Option.some.injEq] at hg
      subst hg
      exact ht.block _ (h.lt ha) (by rw [h.tag x ha]; exact hp)
  · rw [ht.tag _ (h.lt hg)]; exact h.tag g hg

theorem Row.cell {g : Nat} (h : Row γ w p e size (some ⟨g, 0, none⟩) n cap xs) {j : Nat} {v : Value} (hj : xs[j]? = some v) : w.cell? ⟨g, j, none⟩ = some v := own_cell h.own hj
theorem Row.free {g : Nat} (h : Row γ w p e size (some ⟨g, 0, none⟩) n cap xs) (j : Nat) : w.frozen? ⟨g, j, none⟩ = false := own_frozen h.own j

theorem Row.cell_past {g : Nat} (h : Row γ w p e size (some ⟨g, 0, none⟩) n cap xs) {j : Nat} {v : Value} (hj : xs[j]? = some v) (o : Obj) : (w.alloc o).cell? ⟨g, j, none⟩ = some v := by
  rw [World.cell?_alloc_lt _ _ _ (show g < w.heap.size from h.lt rfl)]; exact h.cell hj
theorem frozen_past {b : Nat} (hb : b < w.heap.size) (j : Nat) (o : Obj) : (w.alloc o).frozen? ⟨b, j, none⟩ = w.frozen? ⟨b, j, none⟩ :=
  World.frozen?_of_block (heap_alloc_old w o b hb)
theorem Row.free_past {g : Nat} (h : Row γ w p e size (some ⟨g, 0, none⟩) n cap xs) (j : Nat) (o : Obj) : (w.alloc o).frozen? ⟨g, j, none⟩ = false := by
  rw [frozen_past (show g < w.heap.size from h.lt rfl)]; exact h.free j
theorem Row.drewN (h : Row γ w p e size a n cap xs) (k : Nat) : Row γ (w.drewN k) p e size a n cap xs := ⟨h.own, h.tag⟩
theorem Row.alloc (h : Row γ w p e size a n cap xs) (o : Obj) : Row γ (w.alloc o) p e size a n cap xs := ⟨h.own.alloc o, h.tag⟩
theorem Row.set {g : Nat} (h : Row γ w p e size (some ⟨g, 0, none⟩) n cap xs) {j : Nat} (hj : j < xs.length) (v : Value) : Row γ (w.setCell ⟨g, j, none⟩ v) p e size (some ⟨g, 0, none⟩) n cap (xs.set j v) :=
  ⟨own_set h.own hj v, h.tag⟩

theorem Row.turned {g : Nat} (h : Row γ w p e size (some ⟨g, 0, none⟩) n cap xs) (j : Nat) (v : Value) : Turn γ γ w (w.setCell ⟨g, j, none⟩ v) [p] :=
  (Turn.refl γ w [p]).setCell (.inl (by show Under [p] (γ g); rw [h.tag _ rfl]; exact Under.self (by simp))) v

theorem Row.take (h : Row γ w p e size a n cap xs) {m : Nat} (hm : m ≤ n) : Row γ w p e size a m cap (xs.take (m * size)) := ⟨own_take h.own hm, h.tag⟩

theorem Row.nil (γ : Tags) (w : World) (p : Tag) (e : TypeId) (size : Nat) : Row γ w p e size none 0 0 [] := ⟨World.ownsRow_nil w 0 e size, fun _ h => by cases h⟩

theorem Row.pos (h : Row γ w p e size a n cap xs) (hn : 0 < n) : ∃ g, a = some ⟨g, 0, none⟩ := own_some h.own hn

theorem Row.le (h : Row γ w p e size a n cap xs) : n ≤ maxLen := by
  rcases h.own.2 with ⟨_, rfl⟩ | ⟨g, c, cur, _, _, _, h1, h2, _⟩
  · simp
  · omega

theorem Row.le_cap (h : Row γ w p e size a n cap xs) : n ≤ cap := by
  rcases h.own.2 with ⟨_, rfl⟩ | ⟨g, c, cur, h0, _, _, h1, h2, _⟩
  · simp
  · simp only [Value.slice.injEq] at h0; omega
theorem Row.cap_le (h : Row γ w p e size a n cap xs) : cap ≤ maxLen := by
  rcases h.own.2 with ⟨h0, _⟩ | ⟨g, c, cur, h0, _, _, h1, h2, _⟩
  · simp only [Value.slice.injEq] at h0; rw [h0.2.2]; simp
  · simp only [Value.slice.injEq] at h0; omega

theorem Row.tags (h : Row γ w p e size a n cap xs) {g : Nat} (hg : w.heap.size ≤ g) (q : Tag) : Row (γ.set g q) w p e size a n cap xs :=
  ⟨h.own, fun x hx => by rw [Tags.set_ne _ _ (by have := h.lt hx; omega)]; exact h.tag x hx⟩

/-- Behind an append. -/
theorem Row.appended {va : Option Addr} {vc m : Nat} {news : List Value} {g : Nat} {w0 : World} (h : Row γ w0 p e size va n vc xs) (hw : Turn γ γ w0 w [p]) (hr : w'.ownsRow 0 e size (.slice (some ⟨g, 0, none⟩) (n + m) cap) (n + m) (xs ++ news))
    (hg : w.grownBy w' (Value.slice va n vc).ownBlock) (hor : va = some ⟨g, 0, none⟩ ∨ g = w.heap.size) :
    ∃ γ', Row γ' w' p e size (some ⟨g, 0, none⟩) (n + m) cap (xs ++ news) ∧ Turn γ γ' w0 w' [p] := by
  have hown : ∀ k, (Value.slice va n vc).ownBlock = some k → γ k = p := by
    intro k hk
    cases ha : va with
    | none => rw [ha] at hk; simp [Value.ownBlock] at hk
    | some x =>
      rw [ha] at hk
      simp only [Value.ownBlock, Option.some.injEq] at hk
      subst hk
      exact h.tag x ha
  have T : Turn γ γ w w' [p] := ⟨hg.os, hg.tape, hg.output, hg.size, fun _ _ => rfl, fun _ => .inl rfl, fun k hk hp => hg.block k hk fun e => hp (by rw [hown k e.symm]; exact Under.self (by simp))⟩
  rcases hor with hor | hor
  · exact ⟨γ, ⟨hr, fun x hx => by cases hx; exact h.tag _ hor⟩, hw.trans T⟩
  · exact ⟨γ.set g p, ⟨hr, fun x hx => by cases hx; simp⟩, hw.trans (T.tags (by omega) (Under.self (by simp)))⟩

end

section
variable {P : Program} (w : World)

/-- 'append' to a row: 'ws' is the world in which the row was known, 'w' the one of the operation (its argument's block lies in it). -/
theorem wpList_append_row {ops : Array Oper} {rest : List Oper} {o : Oper} {a : Act} {Q : Exit → Act → World → Prop} {γ : Tags} {p : Tag} (hgd : o.guard = none) (s x : Operand) (t : TypeId)
    (ho : o.op = .call { callee := .builtin .append, args := #[s, x], argTypes := #[t, t] })
    (e : TypeId) (i : TypeInfo) (z : Value) (size bytes : Nat) (ht : P.underlying t = some (.slice e)) (hi : P.info? e = some i ∧ i.zero = some z ∧ i.size = size ∧ i.bytes = bytes)
    (hzs : z.cells.size = size) (hsz : 0 < size)
    (va : Option Addr) (vc : Nat) (n : Nat) (xs : List Value) (hs : a.eval s = .slice va n vc) (w0 : World) (hrow : Row γ w0 p e size va n vc xs) (hw1 : Turn γ γ w0 w [p])
    (hrow' : w.ownsRow 0 e size (.slice va n vc) n xs)
    (ad : Addr) (m c : Nat) (hm : 0 < m) (news : List Value) (hx : a.eval x = .slice (some ad) m c) (hl : news.length = m * size) (hnews : ∀ j u, news[j]? = some u → w.cell? (ad.add j) = some u) (h1 : ∀ u ∈ news, u.oneCell' = true)
    (h63 : n + m ≤ maxLen) (hbytes : (n + m) * bytes ≤ 140737488355328)
    (h : ∀ γ' g cap w', Row γ' w' p e size (some ⟨g, 0, none⟩) (n + m) cap (xs ++ news) → Turn γ γ' w0 w' [p] →
      wpList P ops Q rest (a.put o.dst (.slice (some ⟨g, 0, none⟩) (n + m) cap)) w') : wpList P ops Q (o :: rest) a w :=
  wpList_append_sh w hgd s x t ho 0 e i z size bytes ht hi.1 hi.2.1 hi.2.2.1 hi.2.2.2 hzs hsz va vc n xs hs hrow' ad m c hm news hx hl hnews h1 h63 hbytes (Nat.zero_le _)
    fun g cap w' h2 h3 h4 => let ⟨γ', hr, ht⟩ := hrow.appended hw1 h2 h3 h4; h γ' g cap w' hr ht

/-- 'append(row, x)', x of one cell, laid in a block of its own first. -/
theorem wpList_append_one {ops : Array Oper} {rest : List Oper} {o : Oper} {a : Act} {Q : Exit → Act → World → Prop} {γ : Tags} {p : Tag} (hgd : o.guard = none) (s x : Operand) (t : TypeId)
    (ho : o.op = .call { callee := .builtin .append, args := #[s, x], argTypes := #[t, t] })
    (e : TypeId) (i : TypeInfo) (z : Value) (bytes : Nat) (ht : P.underlying t = some (.slice e)) (hi : P.info? e = some i ∧ i.zero = some z ∧ i.size = 1 ∧ i.bytes = bytes) (hzs : z.cells.size = 1)
    (va : Option Addr) (vc : Nat) (n : Nat) (xs : List Value) (hs : a.eval s = .slice va n vc) (hrow : Row γ w p e 1 va n vc xs)
    (u : Value) (hu : u.oneCell' = true) (hx : a.eval x = .slice (some ⟨w.heap.size, 0, none⟩) 1 1) (h63 : n + 1 ≤ maxLen) (hbytes : (n + 1) * bytes ≤ 140737488355328)
    (h : ∀ γ' g cap w', Row γ' w' p e 1 (some ⟨g, 0, none⟩) (n + 1) cap (xs ++ [u]) → Turn γ γ' w w' [p] →
      wpList P ops Q rest (a.put o.dst (.slice (some ⟨g, 0, none⟩) (n + 1) cap)) w') : wpList P ops Q (o :: rest) a (w.alloc (.cells #[u] e)) :=
  wpList_append_row (w.alloc (.cells #[u] e)) hgd s x t ho e i z 1 bytes ht hi hzs (by decide) va vc n xs hs w hrow ((Turn.refl γ w [p]).alloc _) (hrow.own.alloc _)
    ⟨w.heap.size, 0, none⟩ 1 1 (by decide) [u] hx rfl (cell_one_new _ _ _) (by simpa using hu) h63 hbytes h

end

/-- 'append(row, x)' in a region that draws its order. -/
theorem step_append_one {P : Program} (w : World) {ops : Array Oper} {o : Oper} {a : Act} {K : Act → World → Prop} {Q : Exit → Act → World → Prop} {E : Prop} {γ : Tags} {p : Tag} (hgd : o.guard = none) (s x : Operand) (t : TypeId)
    (ho : o.op = .call { callee := .builtin .append, args := #[s, x], argTypes := #[t, t] })
    (e : TypeId) (i : TypeInfo) (z : Value) (size bytes : Nat) (ht : P.underlying t = some (.slice e)) (hi : P.info? e = some i ∧ i.zero = some z ∧ i.size = size ∧ i.bytes = bytes)
    (hzs : z.cells.size = size) (hsz : 0 < size) (w0 : World)
    (va : Option Addr) (vc : Nat) (n : Nat) (xs : List Value) (hs : a.eval s = .slice va n vc) (hrow : Row γ w0 p e size va n vc xs) (hw1 : Turn γ γ w0 w [p]) (hrow' : w.ownsRow 0 e size (.slice va n vc) n xs)
    (ad : Addr) (m c : Nat) (hm : 0 < m) (news : List Value) (hx : a.eval x = .slice (some ad) m c) (hl : news.length = m * size) (hnews : ∀ j u, news[j]? = some u → w.cell? (ad.add j) = some u) (h1 : ∀ u ∈ news, u.oneCell' = true)
    (h63 : n + m ≤ maxLen) (hbytes : (n + m) * bytes ≤ 140737488355328)
    (h : ∀ γ' g cap w', Row γ' w' p e size (some ⟨g, 0, none⟩) (n + m) cap (xs ++ news) → Turn γ γ' w0 w' [p] → K (a.put o.dst (.slice (some ⟨g, 0, none⟩) (n + m) cap)) w') :
    if Region.wanted o (yielded ops a.tmps) = true then Oper.wp P o a w K Q else E := by
  have hwd : Region.wanted o (yielded ops a.tmps) = true := by simp [Region.wanted, hgd]
  rw [if_pos hwd]
  obtain ⟨g, cap, w', hr, h2, h3, h4⟩ := run_append_shape (P := P) w 0 t o.type e i z size bytes ht hi.1 hi.2.1 hi.2.2.1 hi.2.2.2 hzs hsz va vc n xs hrow' ad m c hm news hl hnews h1 h63 hbytes (Nat.zero_le _)
  unfold Oper.wp execOp
  simp only [ho, resolve, invoke, builtin, Sem.run_bind, Sem.run_pure, Result.andThen_ok, List.map_toArray, List.map_cons, List.map_nil, hs, hx, hr]
  obtain ⟨γ', hr', ht'⟩ := hrow.appended hw1 h2 h3 h4
  exact h γ' g cap w' hr' ht'

theorem made_flat (z : Array Value) (k : Nat) (hk : z.size = k) (hk0 : 0 < k) : ∀ n, (madeCells z (n * k)).toList = (List.replicate n z.toList).flatMap id := by
  intro n
  apply List.ext_getElem?
  intro j
  have hlen : ((List.replicate n z.toList).flatMap id).length = n * k := by
    have := flatMap_length (fun _ : Unit => z.toList) k (by simp [hk]) (List.replicate n ())
    simpa using this
  by_cases hj : j < n * k
  · have hi : j / k < n := Nat.div_lt_of_lt_mul (by rw [Nat.mul_comm]; exact hj)
    have hm : j % k < k := Nat.mod_lt _ hk0
    have hj' : j / k * k + j % k = j := by rw [Nat.mul_comm]; exact Nat.div_add_mod j k
    have h1 := flatMap_get (fun _ : Unit => z.toList) k (by simp [hk]) (List.replicate n ()) (j / k) (j % k) (by simpa using hi) hm
    rw [hj'] at h1
    have e2 : (List.replicate n z.toList).flatMap id = (List.replicate n ()).flatMap (fun _ => z.toList) := by
      induction n with
      | zero => rfl
      | succ n _ => simp [List.flatMap_replicate]
    rw [e2, h1]
    simp only [madeCells, Array.toList_map, Array.toList_range, List.getElem?_map]
    rw [List.getElem?_range hj]
    simp [hk, getElem!_pos, hm]
  · rw [List.getElem?_eq_none (by simp [madeCells]; omega), List.getElem?_eq_none (by omega)]

/-- 'make([]T, n)': a row of n zero elements at whatever path. -/
theorem wpList_make_row {P : Program} (w : World) {ops : Array Oper} {rest : List Oper} {o : Oper} {a : Act} {Q : Exit → Act → World → Prop}
    (hg : o.guard = none) (l c : Operand) (t : TypeId) (hop : o.op = Op.makeSlice t l c)
    (e : TypeId) (i : TypeInfo) (z : Value) (size bytes : Nat) (h1 : P.underlying t = some (.slice e)) (hi : P.info? e = some i ∧ i.zero = some z ∧ i.size = size ∧ i.bytes = bytes)
    (hz : z.cells.size = size) (h0 : 0 < size)
    (kl kc : IntKind) (n : Nat) (hl : a.eval l = .int kl n) (hc : a.eval c = .int kc n) (b2 : bytes * n ≤ 281474976710656) (b3 : n ≤ maxLen) (γ : Tags) (p : Tag)
    (hK : ∀ γ' g w', Row γ' w' p e size (some ⟨g, 0, none⟩) n n ((List.replicate n z.cells.toList).flatMap id) → Turn γ γ' w w' [p] → w.heap.size ≤ g → g < w'.heap.size → wpList P ops Q rest (a.put o.dst (.slice (some ⟨g, 0, none⟩) n n)) w') :
    wpList P ops Q (o :: rest) a w := by
  refine wpList_make_full (P := P) w hg l c t hop 0 e i z size h1 hi.1 hi.2.1 hi.2.2.1 kl kc n n n hl hc rfl rfl (by rw [hi.2.2.2]; exact b2) b3 (Nat.zero_le _) fun w' hown hgr => ?_
  rw [made_flat z.cells size hz h0] at hown
  have hlt := (hown.lt w.heap.size rfl).2
  exact hK (γ.set w.heap.size p) w.heap.size w' ⟨hown, fun x hx => by cases hx; simp⟩
    (Turn.tags ⟨hgr.os, hgr.tape, hgr.output, hgr.size, fun _ _ => rfl, fun _ => .inl rfl, fun k hk _ => hgr.block k hk (by simp)⟩ (Nat.le_refl _) (Under.self (by simp))) (Nat.le_refl _) hlt

/-- The element type's row of the program's table. -/
theorem info_all {P : Program} {e : TypeId} {z : Value} {size bytes : Nat} (h : (P.info? e).map (fun i => (i.zero, i.size, i.bytes)) = some (some z, size, bytes)) :
    ∃ i, P.info? e = some i ∧ i.zero = some z ∧ i.size = size ∧ i.bytes = bytes := info_parts h

/-- What a call that changes an object leaves: 'R' is what is known of it behind it. -/
def Turned (γ : Tags) (w : World) (ps : List Tag) (v : Value) (R : Tags → World → Prop) (e : Ending) (w' : World) : Prop :=
  e = .returned v ∧ ∃ γ', R γ' w' ∧ Turn γ γ' w w' ps

/-- What a call leaves that hands back a value of which R tells. -/
def Gives (γ : Tags) (w : World) (ps : List Tag) (R : Value → Tags → World → Prop) (e : Ending) (w' : World) : Prop :=
  ∃ v γ', e = .returned v ∧ R v γ' w' ∧ Turn γ γ' w w' ps

def Quiet (w : World) (v : Value) (e : Ending) (w' : World) : Prop := e = .returned v ∧ ∃ n, w' = w.drewN n
theorem Quiet.mk {w w' : World} {v v' : Value} {n : Nat} (h : v = v') (hw : w' = w.drewN n) : Quiet w v (.returned v') w' := ⟨by rw [h], n, hw⟩

end Go.Proofs.YtopoejfbcbnmdaaDoor
