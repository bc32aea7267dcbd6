/- Small general words: append of one element that the walk has just boxed; what stays where another row is written. No program in sight. How lists of values of several cells lie in memory: encodings, slices that are read, rows of the call's own. No program in sight. slices.Clone and slices.SortFunc at elements of several cells, in this share's words. No program in sight. -/
import Derived.WalkKit
import Derived.WalkSpells
import Derived.WalkLawsBesides
import Derived.Lib.Hide
import Derived.Maps.AppendAt
import Derived.Deep.AppendLies
import Derived.Deep.Draws
import Derived.Laws.OwnMore
import Derived.Laws.Rows
import Derived.Laws.Cells
import Derived.Laws.CopyRow
import Derived.StillTailTactics
import Derived.Deep.WholeRow
import Derived.Shelf.SlicesE.Clone
import Derived.Shelf.SlSortCmp.NoneTotal
namespace Go.Proofs.YtcohdfkdhdhegaaGreatDoor
open Go.RowKit

theorem own_lt {w : World} {base : Nat} {e : TypeId} {size n : Nat} {v : Value} {xs : List Value} (h : w.ownsRow base e size v n xs) (k : Nat) (hk : v.ownBlock = some k) : base ≤ k ∧ k < w.heap.size := by
  rcases h.2 with ⟨rfl, _⟩ | ⟨g, cap, cur, rfl, hb, hg, _⟩
  · simp [Value.ownBlock] at hk
  · have : g = k := by simpa [Value.ownBlock] using hk
    subst this
    exact ⟨hb, (Array.getElem?_eq_some_iff.1 hg).1⟩

theorem below_grown_own {B : Nat} {w0 w w1 : World} {base : Nat} {e : TypeId} {size n : Nat} {v : Value} {xs : List Value} (h : Below B w0 w) (hown : w.ownsRow base e size v n xs) (hB : B ≤ base) (hs : B ≤ w.heap.size) (hg : w.grownBy w1 v.ownBlock) : Below B w0 w1 :=
  h.grown hg hs fun k hk => Nat.le_trans hB (own_lt hown k hk).1

theorem own_below {w w1 : World} {base : Nat} {e : TypeId} {size n : Nat} {v : Value} {xs : List Value} (h : w.ownsRow base e size v n xs) (hb : Below w.heap.size w w1) : w1.ownsRow base e size v n xs := by
  refine h.kept (row := none) ⟨hb.os, hb.tape, hb.output, hb.size, fun i hi _ => hb.block i hi⟩ ?_
  rcases v.ownBlock with _ | k
  · exact .inl rfl
  · exact .inr (by simp)
theorem own_lower {w : World} {base base' : Nat} {e : TypeId} {size n : Nat} {v : Value} {xs : List Value} (h : w.ownsRow base e size v n xs) (hb : base' ≤ base) : w.ownsRow base' e size v n xs := by
  refine ⟨h.1, ?_⟩
  rcases h.2 with h2 | ⟨g, cap, cur, h1, h2, h3⟩
  · exact .inl h2
  · exact .inr ⟨g, cap, cur, h1, Nat.le_trans hb h2, h3⟩
theorem own_slice {w : World} {base : Nat} {e : TypeId} {size n : Nat} {v : Value} {xs : List Value} (h : w.ownsRow base e size v n xs) : ∃ A c, v = .slice A n c ∧ n ≤ c := by
  rcases h.2 with ⟨rfl, rfl⟩ | ⟨g, cap, cur, rfl, _, _, hn, _⟩
  · exact ⟨_, _, rfl, Nat.le_refl _⟩
  · exact ⟨_, _, rfl, hn⟩
theorem block_of_add (a : Addr) (n : Nat) : (a.add n).block = a.block := by unfold Addr.add; split <;> rfl
theorem add_plain (g j : Nat) : (⟨g, 0, none⟩ : Addr).add j = ⟨g, j, none⟩ := by unfold Addr.add; split <;> simp_all
theorem add_off (g o j : Nat) : (⟨g, o, none⟩ : Addr).add j = ⟨g, o + j, none⟩ := by unfold Addr.add; split <;> simp_all

theorem heap_alloc_if (w : World) (o : Obj) (k : Nat) : (w.alloc o).heap[k]? = if k = w.heap.size then some o else w.heap[k]? := by
  show (w.heap.push o)[k]? = _
  rw [Array.getElem?_push]
theorem cell_block {W : World} {g i : Nat} {cs : Array Value} {T : TypeId} {fr : Nat × Nat} {u : Value} (h : W.heap[g]? = some (.cells cs T fr)) (hu : cs[i]? = some u) : W.cell? ⟨g, i, none⟩ = some u := by
  simp [World.cell?, h, hu]

/-- Two rows, one of which is nil or lies in another block. -/
def Apart (v u : Value) : Prop := v.ownBlock = none ∨ v.ownBlock ≠ u.ownBlock

section
variable {P : Program} {ops : Array Oper} {rest : List Oper} {o : Oper} {a : Act} {Q : Exit → Act → World → Prop}

/-- 'append(v, x)': x has just been boxed ('W.alloc ..'); x has 'size' cells. -/
theorem wpl_app1 {W : World} (cs : Array Value) (base : Nat) (hgd : o.guard = none) (s x : Operand) (t e : TypeId) (z : Value) (size bytes : Nat)
    (ho : o.op = .call { callee := .builtin .append, args := #[s, x], argTypes := #[t, t] })
    (ht : P.underlying t = some (.slice e)) (hinfo : (P.info? e).map (fun i => (i.zero, i.size, i.bytes)) = some (some z, size, bytes)) (hz : z.cells.size = size) (hs0 : 0 < size) (hb0 : 0 < bytes)
    (v : Value) (n : Nat) (xs : List Value) (hs : a.eval s = v) (hx : a.eval x = .slice (some ⟨W.heap.size, 0, none⟩) 1 1) (hys : cs.size = size) (h1 : ∀ u ∈ cs.toList, u.oneCell' = true)
    (HO : W.ownsRow base e size v n xs) (hbase : base ≤ W.heap.size) (hl : (n + 1) * bytes ≤ 140737488355328)
    (h : ∀ v1 w1, w1.ownsRow base e size v1 (n + 1) (xs ++ cs.toList) → W.grownBy w1 v.ownBlock → (v1.ownBlock = v.ownBlock ∨ ∃ b, v1.ownBlock = some b ∧ W.heap.size ≤ b) → wpList P ops Q rest (a.put o.dst v1) w1) :
    wpList P ops Q (o :: rest) a (W.alloc (.cells cs e)) := by
  obtain ⟨i0, hi, hzz⟩ := Option.map_eq_some_iff.1 hinfo
  simp only [Prod.mk.injEq] at hzz
  obtain ⟨hz0, hz1, hz2⟩ := hzz
  have hlen : n + 1 ≤ 140737488355328 := Nat.le_trans (Nat.le_mul_of_pos_right _ hb0) hl
  refine wpList_append_own_at (W.alloc (.cells cs e)) hgd s x t ho base e i0 z size bytes ht hi hz0 hz1 hz2 hz hs0 v n xs hs (HO.alloc _) ⟨W.heap.size, 0, none⟩ 1 1 cs.toList hx (by rw [Array.length_toList, hys]; simp)
    (by simpa using World.news_of_block (cs := cs) (t := e) (fr := (0, 0)) (heap_alloc_new W (.cells cs e))) h1 (by simp only [maxLen]; omega) hl (by simp; omega) ?_
  intro v1 w1 hown hg _ hat
  refine h v1 w1 hown (World.grownBy.trans (World.grownBy_alloc W _ _) hg) ?_
  rcases hat with hat | hat
  · exact .inl hat
  · exact .inr ⟨_, hat, by simp⟩
end

/-- What has become of two rows, apart, behind an append onto the first. -/
theorem apart_app {W w1 : World} {base : Nat} {e e' : TypeId} {size size' n n' m : Nat} {v u v1 : Value} {xs ys zs : List Value} (ha : Apart v u) (_hv : W.ownsRow base e size v n xs) (hu : W.ownsRow base e' size' u n' ys)
    (hg : W.grownBy w1 v.ownBlock) (hat : v1.ownBlock = v.ownBlock ∨ ∃ b, v1.ownBlock = some b ∧ W.heap.size ≤ b) (_h1 : w1.ownsRow base e size v1 m zs) : w1.ownsRow base e' size' u n' ys ∧ Apart v1 u := by
  refine ⟨hu.kept hg ?_, ?_⟩
  · rcases ha with h | h
    · rw [h]
      rcases hub : u.ownBlock with _ | k
      · exact .inl rfl
      · exact .inr (by simp)
    · exact .inr fun he => h he.symm
  · rcases hat with h | ⟨b, h, hb⟩
    · unfold Apart; rw [h]; exact ha
    · refine .inr fun he => ?_
      have := (own_lt hu b (by rw [← he, h])).2
      omega

end Go.Proofs.YtcohdfkdhdhegaaGreatDoor
namespace Go.Proofs.YtcohdfkdhdhegaaGreatDoor
open Go.RowKit

/-- How a thing lies in cells: k of them, each of one cell. -/
structure Enc (β : Type) where
  enc : β → List Value
  k : Nat
  hk : ∀ y, (enc y).length = k
  one : ∀ y u, u ∈ enc y → u.oneCell' = true
  k0 : 0 < k

section
variable {β : Type} (E : Enc β)
def Enc.flat (ys : List β) : List Value := ys.flatMap E.enc
theorem Enc.flat_append (xs ys : List β) : E.flat (xs ++ ys) = E.flat xs ++ E.flat ys := by simp [Enc.flat]
theorem Enc.flat_one (y : β) : E.flat [y] = E.enc y := by simp [Enc.flat]
theorem Enc.flat_length (ys : List β) : (E.flat ys).length = ys.length * E.k := by
  induction ys with
  | nil => simp [Enc.flat]
  | cons y ys ih => simp only [Enc.flat, List.flatMap_cons, List.length_append, E.hk, List.length_cons] at *; rw [ih, Nat.add_mul]; omega
theorem Enc.flat_get (ys : List β) (i : Nat) (y : β) (h : ys[i]? = some y) (j : Nat) (u : Value) (hu : (E.enc y)[j]? = some u) : (E.flat ys)[i * E.k + j]? = some u := by
  induction ys generalizing i with
  | nil => simp at h
  | cons z ys ih =>
    have hj : j < E.k := by have := (List.getElem?_eq_some_iff.1 hu).1; rwa [E.hk] at this
    cases i with
    | zero =>
      have : z = y := by simpa using h
      subst this
      simp only [Enc.flat, List.flatMap_cons, Nat.zero_mul, Nat.zero_add]
      rw [List.getElem?_append_left (by rw [E.hk]; exact hj), hu]
    | succ i =>
      have h' : ys[i]? = some y := by simpa using h
      have := ih i h'
      simp only [Enc.flat, List.flatMap_cons]
      rw [List.getElem?_append_right (by rw [E.hk, Nat.add_mul]; omega), E.hk]
      rw [show (i + 1) * E.k + j - E.k = i * E.k + j by rw [Nat.add_mul]; omega]
      exact this
theorem Enc.flat_one_cell (ys : List β) : ∀ u ∈ E.flat ys, u.oneCell' = true := by
  intro u hu
  simp only [Enc.flat, List.mem_flatMap] at hu
  obtain ⟨y, _, hy⟩ := hu
  exact E.one y u hy
theorem Enc.flat_take (ys : List β) (m : Nat) : E.flat (ys.take m) = (E.flat ys).take (m * E.k) := by
  induction ys generalizing m with
  | nil => simp [Enc.flat]
  | cons y ys ih =>
    cases m with
    | zero => simp [Enc.flat]
    | succ m =>
      have := ih m
      simp only [Enc.flat, List.take_succ_cons, List.flatMap_cons] at *
      rw [this, List.take_append, E.hk, List.take_of_length_le (l := E.enc y) (by rw [E.hk, Nat.add_mul]; omega)]
      rw [show (m + 1) * E.k - E.k = m * E.k by rw [Nat.add_mul]; omega]
theorem Enc.flat_drop (ys : List β) (m : Nat) : E.flat (ys.drop m) = (E.flat ys).drop (m * E.k) := by
  induction ys generalizing m with
  | nil => simp [Enc.flat]
  | cons y ys ih =>
    cases m with
    | zero => simp [Enc.flat]
    | succ m =>
      have := ih m
      simp only [Enc.flat, List.drop_succ_cons, List.flatMap_cons] at *
      rw [this, List.drop_append, E.hk, @List.drop_eq_nil_of_le _ (E.enc y) _ (by rw [E.hk, Nat.add_mul]; omega), List.nil_append]
      rw [show (m + 1) * E.k - E.k = m * E.k by rw [Nat.add_mul]; omega]
theorem Enc.flat_set (ys : List β) (i : Nat) (y : β) (h : i < ys.length) : E.flat (ys.set i y) = (E.flat ys).take (i * E.k) ++ E.enc y ++ (E.flat ys).drop ((i + 1) * E.k) := by
  rw [List.set_eq_take_append_cons_drop, if_pos h, E.flat_append, E.flat_take]
  simp only [Enc.flat, List.flatMap_cons, List.append_assoc]
  congr 2
  exact E.flat_drop ys (i + 1)
end

/-- What stays of a world's blocks: those of which 'ok' holds. -/
def Fr (ok : Nat → Prop) (w w' : World) : Prop := w.heap.size ≤ w'.heap.size ∧ ∀ k, ok k → k < w.heap.size → w'.heap[k]? = w.heap[k]?
section
variable {ok ok' : Nat → Prop} {w w1 w2 : World}
theorem Fr.refl (ok : Nat → Prop) (w : World) : Fr ok w w := ⟨Nat.le_refl _, fun _ _ _ => rfl⟩
theorem Fr.trans (h : Fr ok w w1) (h' : Fr ok w1 w2) : Fr ok w w2 := ⟨Nat.le_trans h.1 h'.1, fun k hk hl => (h'.2 k hk (Nat.lt_of_lt_of_le hl h.1)).trans (h.2 k hk hl)⟩
theorem Fr.mono (h : Fr ok w w1) (hk : ∀ k, ok' k → ok k) : Fr ok' w w1 := ⟨h.1, fun k hk' hl => h.2 k (hk k hk') hl⟩
theorem Fr.below {B : Nat} (h : Below B w w1) (hk : ∀ k, ok k → k < w.heap.size → k < B) : Fr ok w w1 := ⟨h.size, fun k ho hl => h.block k (hk k ho hl)⟩
theorem Fr.of_below (h : Below w.heap.size w w1) : Fr ok w w1 := ⟨h.size, fun k _ hl => h.block k hl⟩
theorem Fr.grown {row : Option Nat} (h : w.grownBy w1 row) (hk : ∀ k, ok k → some k ≠ row) : Fr ok w w1 := ⟨h.size, fun k ho hl => h.block k hl (hk k ho)⟩
theorem Fr.alloc (h : Fr ok w w1) (o : Obj) : Fr ok w (w1.alloc o) := h.trans ⟨by simp, fun k _ hl => Below.heap_alloc w1 o k hl⟩
theorem Fr.setCell (h : Fr ok w w1) {p : Addr} (hp : ¬ ok p.block) (u : Value) : Fr ok w (w1.setCell p u) :=
  h.trans ⟨by simp [World.setCell], fun k ho _ => Below.heap_setCell _ _ _ _ (fun e => hp (e ▸ ho))⟩
theorem Fr.drewN (h : Fr ok w w1) (n : Nat) : Fr ok w (w1.drewN n) := h
theorem Fr.drew (h : Fr ok w w1) : Fr ok w w1.drew := h
end

/-- An address within no array of its own. -/
def Plain (A : Option Addr) : Prop := ∀ a, A = some a → ∃ b off, a = ⟨b, off, none⟩
theorem plain_none : Plain none := fun _ h => by cases h
theorem plain_some (b off : Nat) : Plain (some ⟨b, off, none⟩) := fun _ h => by cases h; exact ⟨_, _, rfl⟩

/-- A slice whose elements are read: they lie in a block of which 'ok' holds. -/
def Sl {β : Type} (E : Enc β) (ok : Nat → Prop) (w : World) (v : Value) (ys : List β) : Prop :=
  ∃ A n c, v = .slice A n c ∧ ys.length = n ∧ n ≤ c ∧ c ≤ 9223372036854775807 ∧ Plain A ∧
    (0 < n → ∃ b off, A = some ⟨b, off, none⟩ ∧ b < w.heap.size ∧ ok b ∧ ∀ m u, (E.flat ys)[m]? = some u → w.cell? ⟨b, off + m, none⟩ = some u)

section
variable {β : Type} {E : Enc β} {ok ok' : Nat → Prop} {w w' : World} {v : Value} {ys : List β} {A : Option Addr} {n c : Nat}
theorem Sl.nil (E : Enc β) (ok : Nat → Prop) (w : World) : Sl E ok w (.slice none 0 0) [] := ⟨none, 0, 0, rfl, rfl, by omega, by omega, plain_none, fun h => absurd h (by omega)⟩
theorem Sl.mono (h : Sl E ok w v ys) (hk : ∀ k, ok k → ok' k) : Sl E ok' w v ys := by
  obtain ⟨A, n, c, hv, hl, hc, hm, hp, hx⟩ := h
  refine ⟨A, n, c, hv, hl, hc, hm, hp, fun h0 => ?_⟩
  obtain ⟨b, off, hA, hlt, ho, hcell⟩ := hx h0
  exact ⟨b, off, hA, hlt, hk b ho, hcell⟩
theorem Sl.fr (h : Sl E ok w v ys) (hf : Fr ok w w') : Sl E ok w' v ys := by
  obtain ⟨A, n, c, hv, hl, hc, hm, hp, hx⟩ := h
  refine ⟨A, n, c, hv, hl, hc, hm, hp, fun h0 => ?_⟩
  obtain ⟨b, off, hA, hlt, ho, hcell⟩ := hx h0
  refine ⟨b, off, hA, Nat.lt_of_lt_of_le hlt hf.1, ho, fun m u hu => ?_⟩
  rw [← hcell m u hu]
  exact World.cell?_of_block (w := w) (hf.2 b ho hlt)
theorem Sl.below (h : Sl E ok w v ys) (hb : Below w.heap.size w w') : Sl E ok w' v ys := h.fr (Fr.of_below hb)
/-- Its block lay there already: whatever is new is another one. -/
theorem Sl.old (h : Sl E ok w v ys) : Sl E (fun k => ok k ∧ k < w.heap.size) w v ys := by
  obtain ⟨A, n, c, hv, hl, hc, hm, hp, hx⟩ := h
  refine ⟨A, n, c, hv, hl, hc, hm, hp, fun h0 => ?_⟩
  obtain ⟨b, off, hA, hlt, ho, hcell⟩ := hx h0
  exact ⟨b, off, hA, hlt, ⟨ho, hlt⟩, hcell⟩
theorem Sl.form (h : Sl E ok w v ys) : ∃ A c, v = .slice A ys.length c ∧ ys.length ≤ c ∧ c ≤ 9223372036854775807 := by
  obtain ⟨A, n, c, hv, hl, hc, hm, -, -⟩ := h
  subst hl
  exact ⟨A, c, hv, hc, hm⟩
theorem Sl.len (h : Sl E ok w (.slice A n c) ys) : ys.length = n ∧ n ≤ c ∧ c ≤ 9223372036854775807 := by
  obtain ⟨A', n', c', he, hl, hc, hm, -, -⟩ := h
  injection he with h1 h2 h3
  subst h2; subst h3
  exact ⟨hl, hc, hm⟩
/-- Element i: its cells. -/
theorem Sl.at_ (h : Sl E ok w (.slice A n c) ys) (i : Nat) (y : β) (hy : ys[i]? = some y) : ∃ b off, A = some ⟨b, off, none⟩ ∧ b < w.heap.size ∧ ok b ∧ ∀ j u, (E.enc y)[j]? = some u → w.cell? ⟨b, off + i * E.k + j, none⟩ = some u := by
  obtain ⟨A', n', c', he, hl, hc, hm, hp, hx⟩ := h
  injection he with h1 h2 h3
  subst h1; subst h2; subst h3
  have hi : i < ys.length := (List.getElem?_eq_some_iff.1 hy).1
  obtain ⟨b, off, hA, hlt, ho, hcell⟩ := hx (by omega)
  refine ⟨b, off, hA, hlt, ho, fun j u hu => ?_⟩
  rw [Nat.add_assoc]
  exact hcell _ u (E.flat_get ys i y hy j u hu)
theorem Sl.take (h : Sl E ok w (.slice A n c) ys) {m : Nat} (hm : m ≤ n) : Sl E ok w (.slice A m c) (ys.take m) := by
  obtain ⟨A', n', c', he, hl, hc, hmx, hp, hx⟩ := h
  injection he with h1 h2 h3
  subst h1; subst h2; subst h3
  refine ⟨A, m, c, rfl, by rw [List.length_take]; omega, by omega, hmx, hp, fun h0 => ?_⟩
  obtain ⟨b, off, hA, hlt, ho, hcell⟩ := hx (by omega)
  refine ⟨b, off, hA, hlt, ho, fun j u hu => hcell j u ?_⟩
  rw [E.flat_take, List.getElem?_take] at hu
  split at hu
  · exact hu
  · cases hu
theorem Sl.drop (h : Sl E ok w (.slice A n c) ys) {m : Nat} (hm : m ≤ n) : Sl E ok w (.slice (if c = m then A else A.map (·.add (m * E.k))) (n - m) (c - m)) (ys.drop m) := by
  obtain ⟨A', n', c', he, hl, hc, hmx, hp, hx⟩ := h
  injection he with h1 h2 h3
  subst h1; subst h2; subst h3
  refine ⟨_, n - m, c - m, rfl, by rw [List.length_drop]; omega, by omega, by omega, ?_, fun h0 => ?_⟩
  · intro a ha
    split at ha
    · exact hp a ha
    · obtain ⟨a0, h1, h2⟩ := Option.map_eq_some_iff.1 ha
      obtain ⟨b, off, rfl⟩ := hp a0 h1
      exact ⟨b, _, by rw [← h2, add_off]⟩
  obtain ⟨b, off, rfl, hlt, ho, hcell⟩ := hx (by omega)
  rw [if_neg (by omega)]
  refine ⟨b, off + m * E.k, by simp [add_off], hlt, ho, fun j u hu => ?_⟩
  rw [E.flat_drop, List.getElem?_drop] at hu
  rw [Nat.add_assoc]
  exact hcell _ u hu
/-- A row of the call's own, as a slice that is read. -/
theorem Sl.of_own {base : Nat} {T : TypeId} (h : w.ownsRow base T E.k v ys.length (E.flat ys)) : Sl E (fun k => v.ownBlock = some k) w v ys := by
  have h0 := h
  rcases h.2 with ⟨rfl, hz⟩ | ⟨g, cap, cur, rfl, hb, hg, hc, hm, hs, ht⟩
  · have : ys = [] := List.eq_nil_of_length_eq_zero hz
    subst this
    exact Sl.nil _ _ _
  · refine ⟨_, _, _, rfl, rfl, hc, by simpa [maxLen] using hm, plain_some _ _, fun _ => ⟨g, 0, rfl, (Array.getElem?_eq_some_iff.1 hg).1, rfl, fun m u hu => ?_⟩⟩
    have := h0.cells (g := g) rfl m u hu
    rw [add_plain] at this
    simpa using this
/-- A block known whole, as a slice that is read. -/
theorem Sl.of_block {g : Nat} {cs : Array Value} {T : TypeId} {fr : Nat × Nat} (h : w.heap[g]? = some (.cells cs T fr)) (hcs : cs.toList = E.flat ys) (hn : ys.length = n) (hc : n ≤ c) (hm : c ≤ 9223372036854775807) : Sl E (fun k => k = g) w (.slice (some ⟨g, 0, none⟩) n c) ys := by
  refine ⟨_, _, _, rfl, hn, hc, hm, plain_some _ _, fun _ => ⟨g, 0, rfl, (Array.getElem?_eq_some_iff.1 h).1, rfl, fun m u hu => ?_⟩⟩
  rw [← hcs, Array.getElem?_toList] at hu
  simp [World.cell?, h, hu]
theorem Sl.any (h : Sl E ok w v ys) : Sl E (fun _ => True) w v ys := h.mono fun _ _ => trivial
/-- The same, wherever an empty one points to. -/
def SlW {β : Type} (E : Enc β) (ok : Nat → Prop) (w : World) (v : Value) (ys : List β) : Prop :=
  ∃ A n c, v = .slice A n c ∧ ys.length = n ∧ n ≤ c ∧ c ≤ 9223372036854775807 ∧
    (0 < n → ∃ b off, A = some ⟨b, off, none⟩ ∧ b < w.heap.size ∧ ok b ∧ ∀ m u, (E.flat ys)[m]? = some u → w.cell? ⟨b, off + m, none⟩ = some u)
theorem Sl.weak (h : Sl E ok w v ys) : SlW E ok w v ys := by
  obtain ⟨A, n, c, hv, hl, hc, hm, -, hx⟩ := h
  exact ⟨A, n, c, hv, hl, hc, hm, hx⟩
theorem SlW.mono (h : SlW E ok w v ys) (hk : ∀ k, ok k → ok' k) : SlW E ok' w v ys := by
  obtain ⟨A, n, c, hv, hl, hc, hm, hx⟩ := h
  refine ⟨A, n, c, hv, hl, hc, hm, fun h0 => ?_⟩
  obtain ⟨b, off, hA, hlt, ho, hcell⟩ := hx h0
  exact ⟨b, off, hA, hlt, hk b ho, hcell⟩
theorem SlW.fr (h : SlW E ok w v ys) (hf : Fr ok w w') : SlW E ok w' v ys := by
  obtain ⟨A, n, c, hv, hl, hc, hm, hx⟩ := h
  refine ⟨A, n, c, hv, hl, hc, hm, fun h0 => ?_⟩
  obtain ⟨b, off, hA, hlt, ho, hcell⟩ := hx h0
  refine ⟨b, off, hA, Nat.lt_of_lt_of_le hlt hf.1, ho, fun m u hu => ?_⟩
  rw [← hcell m u hu]
  exact World.cell?_of_block (w := w) (hf.2 b ho hlt)
theorem SlW.below (h : SlW E ok w v ys) (hb : Below w.heap.size w w') : SlW E ok w' v ys := h.fr (Fr.of_below hb)
theorem SlW.form (h : SlW E ok w v ys) : ∃ A c, v = .slice A ys.length c ∧ ys.length ≤ c ∧ c ≤ 9223372036854775807 := by
  obtain ⟨A, n, c, hv, hl, hc, hm, -⟩ := h
  subst hl
  exact ⟨A, c, hv, hc, hm⟩
theorem SlW.len (h : SlW E ok w (.slice A n c) ys) : ys.length = n ∧ n ≤ c ∧ c ≤ 9223372036854775807 := by
  obtain ⟨A', n', c', he, hl, hc, hm, -⟩ := h
  injection he with h1 h2 h3
  subst h2; subst h3
  exact ⟨hl, hc, hm⟩
theorem SlW.at_ (h : SlW E ok w (.slice A n c) ys) (i : Nat) (y : β) (hy : ys[i]? = some y) : ∃ b off, A = some ⟨b, off, none⟩ ∧ b < w.heap.size ∧ ok b ∧ ∀ j u, (E.enc y)[j]? = some u → w.cell? ⟨b, off + i * E.k + j, none⟩ = some u := by
  obtain ⟨A', n', c', he, hl, hc, hm, hx⟩ := h
  injection he with h1 h2 h3
  subst h1; subst h2; subst h3
  have hi : i < ys.length := (List.getElem?_eq_some_iff.1 hy).1
  obtain ⟨b, off, hA, hlt, ho, hcell⟩ := hx (by omega)
  refine ⟨b, off, hA, hlt, ho, fun j u hu => ?_⟩
  rw [Nat.add_assoc]
  exact hcell _ u (E.flat_get ys i y hy j u hu)
end

section
variable {P : Program}
/-- A struct or an array read whole at an address. -/
theorem run_loadVar_at (w : World) (b off : Nat) (ty : TypeId) (cs : List Value) (d : TypeDesc) (hc : ∀ j u, cs[j]? = some u → w.cell? ⟨b, off + j, none⟩ = some u)
    (hu : P.underlying ty = some d) (hd : (match d with | .struct _ | .array _ _ => true | _ => false) = true) (hi : (P.info? ty).map (·.size) = some cs.length) :
    (loadVar ty ⟨b, off, none⟩).run P w = .ok (.agg cs.toArray) w := by
  have hl : (loadCells ⟨b, off, none⟩ cs.length).run P w = .ok cs.toArray w := run_loadCells_list (P := P) w ⟨b, off, none⟩ cs (fun j v hv => by rw [add_off]; exact hc j v hv)
  cases hq : P.info? ty with
  | none => simp [hq] at hi
  | some i =>
    have hs : i.size = cs.length := by simpa [hq] using hi
    have hagg : (isAgg ty).run P w = .ok true w := by
      unfold isAgg
      rw [Sem.run_bind, run_underlying hu w]
      cases d <;> simp_all
    simp [loadVar, Sem.run_bind, hagg, sizeOf, typeInfo, hq, hs, hl]

theorem wpl_load {ops : Array Oper} {rest : List Oper} {o : Oper} {a : Act} {w : World} {Q : Exit → Act → World → Prop} (hgd : o.guard = none) (ty : TypeId) (x : Operand) (ho : o.op = .load ty x)
    (b off : Nat) (hx : a.eval x = .pointer (some ⟨b, off, none⟩)) (cs : List Value) (d : TypeDesc) (hc : ∀ j u, cs[j]? = some u → w.cell? ⟨b, off + j, none⟩ = some u)
    (hu : P.underlying ty = some d) (hd : (match d with | .struct _ | .array _ _ => true | _ => false) = true) (hi : (P.info? ty).map (·.size) = some cs.length)
    (h : wpList P ops Q rest (a.put o.dst (.agg cs.toArray)) w) : wpList P ops Q (o :: rest) a w :=
  wpList_plain hgd fun K hK => by
    unfold Oper.wp execOp
    simp only [ho, hx, Instr.loadAt, Instr.sureAddr, Sem.run_bind, Sem.run_pure, Result.andThen_ok, run_loadVar_at w b off ty cs d hc hu hd hi]
    exact hK _ _ h

/-- The same inside a region that draws its order. -/
theorem still_load {ops : Array Oper} {rest : List Oper} {o : Oper} {a : Act} {w : World} {Q : Act → Prop} (hgd : o.guard = none) (ty : TypeId) (x : Operand) (ho : o.op = .load ty x)
    (b off : Nat) (hx : a.eval x = .pointer (some ⟨b, off, none⟩)) (cs : List Value) (d : TypeDesc) (hc : ∀ j u, cs[j]? = some u → w.cell? ⟨b, off + j, none⟩ = some u)
    (hu : P.underlying ty = some d) (hd : (match d with | .struct _ | .array _ _ => true | _ => false) = true) (hi : (P.info? ty).map (·.size) = some cs.length)
    (h : wpStill P ops w Q rest (a.put o.dst (.agg cs.toArray))) : wpStill P ops w Q (o :: rest) a :=
  wpStill_step fun K hK => by
    have hw : Region.wanted o (yielded ops a.tmps) = true := by simp [Region.wanted, hgd]
    rw [if_pos hw]
    unfold Oper.still execOp
    simp only [ho, hx, Instr.loadAt, Instr.sureAddr, Sem.run_bind, Sem.run_pure, Result.andThen_ok, run_loadVar_at w b off ty cs d hc hu hd hi]
    exact ⟨rfl, hK _ h⟩

/-- A struct or an array stored whole into a block that it fills. -/
theorem run_storeVar_block (w : World) (g : Nat) (ty T : TypeId) (cs : List Value) (cur : Array Value) (hg : w.heap[g]? = some (.cells cur T (0, 0))) (hl : cs.length = cur.size) (h1 : ∀ u ∈ cs, u.oneCell' = true) (hi : (P.info? ty).map (·.size) = some cs.length) :
    (storeVar ty ⟨g, 0, none⟩ (.agg cs.toArray)).run P w = .ok () (w.setRow g cs.toArray) := by
  cases hq : P.info? ty with
  | none => simp [hq] at hi
  | some i =>
    have hs : i.size = cs.length := by simpa [hq] using hi
    have := run_storeCells_from (P := P) g T cs 0 cur w hg (by omega) h1
    simpa [storeVar, sizeOf, typeInfo, hq, hs, Value.cells] using this

/-- A struct or an array stored whole into a variable that has just been made. -/
theorem wpl_store_new {ops : Array Oper} {rest : List Oper} {o : Oper} {a : Act} {W : World} {Q : Exit → Act → World → Prop} (hgd : o.guard = none) (ty : TypeId) (x y : Operand) (ho : o.op = .store ty x y)
    (hx : a.eval x = .pointer (some ⟨W.heap.size, 0, none⟩)) (cs : List Value) (hy : a.eval y = .agg cs.toArray) (old : Array Value) (T : TypeId) (hl : cs.length = old.size) (h1 : ∀ u ∈ cs, u.oneCell' = true) (hi : (P.info? ty).map (·.size) = some cs.length)
    (h : wpList P ops Q rest (a.put o.dst undef) (W.alloc (.cells cs.toArray T))) : wpList P ops Q (o :: rest) a (W.alloc (.cells old T)) :=
  wpList_plain hgd fun K hK => by
    unfold Oper.wp execOp
    simp only [ho, hx, hy, Instr.storeAt, Instr.sureAddr, Sem.run_bind, Sem.run_pure, Result.andThen_ok, run_storeVar_block (W.alloc (.cells old T)) W.heap.size ty T cs old (heap_alloc_new W _) hl h1 hi, World.setRow_alloc_new]
    exact hK _ _ h
/-- .. into a variable that lies there already. -/
theorem wpl_store_row {ops : Array Oper} {rest : List Oper} {o : Oper} {a : Act} {w : World} {Q : Exit → Act → World → Prop} (hgd : o.guard = none) (ty : TypeId) (x y : Operand) (ho : o.op = .store ty x y) (g : Nat)
    (hx : a.eval x = .pointer (some ⟨g, 0, none⟩)) (cs : List Value) (hy : a.eval y = .agg cs.toArray) (cur : Array Value) (T : TypeId) (hg : w.heap[g]? = some (.cells cur T (0, 0))) (hl : cs.length = cur.size) (h1 : ∀ u ∈ cs, u.oneCell' = true) (hi : (P.info? ty).map (·.size) = some cs.length)
    (h : wpList P ops Q rest (a.put o.dst undef) (w.setRow g cs.toArray)) : wpList P ops Q (o :: rest) a w :=
  wpList_plain hgd fun K hK => by
    unfold Oper.wp execOp
    simp only [ho, hx, hy, Instr.storeAt, Instr.sureAddr, Sem.run_bind, Sem.run_pure, Result.andThen_ok, run_storeVar_block w g ty T cs cur hg hl h1 hi]
    exact hK _ _ h
end
end Go.Proofs.YtcohdfkdhdhegaaGreatDoor
namespace Go.Proofs.YtcohdfkdhdhegaaGreatDoor
open Go.RowKit Go.Shelf Go.Sort

/-- Draws and new blocks, no more. -/
def More (w w' : World) : Prop := ∃ q os, w' = Sort.grow (w.drewN q) os

section
variable {P : Program} {ρ : Ren} {β : Type} {E : Enc β} {ok : Nat → Prop} {w : World} {v : Value} {ys : List β}

/-- What slices.Clone answers: a row of its own. -/
theorem clone_gen (L : SlLaysE0.n41 P ρ) (z : Value) (bytes : Nat) (hinfo : (P.info? (ρ.t 23)).map (fun i => (i.zero, i.size, i.bytes)) = some (some z, E.k, bytes)) (hzs : z.cells.size = E.k)
    (z23 : ∀ w, (Go.sizeOf (ρ.t 23)).run P w = .ok E.k w) (h : Sl E ok w v ys) (hb : 0 < bytes) (hbig : ys.length * bytes ≤ 140737488355328) :
    Calls P (ρ.f 41) #[v] w fun e w' => ∃ v', e = .returned v' ∧ w'.ownsRow w.heap.size (ρ.t 23) E.k v' ys.length (E.flat ys) ∧ Below w.heap.size w w' := by
  obtain ⟨i0, hi, hzz⟩ := Option.map_eq_some_iff.1 hinfo
  simp only [Prod.mk.injEq] at hzz
  obtain ⟨hz0, hz1, hz2⟩ := hzz
  obtain ⟨A, n, c, rfl, hl, hc, hm, hp, hx⟩ := h
  subst hl
  have hlen : ys.length ≤ 140737488355328 := Nat.le_trans (Nat.le_mul_of_pos_right _ hb) hbig
  have hnil : ∀ (v : Value), ys.length = 0 → v = .slice none 0 0 → (w.ownsRow w.heap.size (ρ.t 23) E.k v ys.length (E.flat ys)) := fun v h0 hv => by
    rw [hv, List.eq_nil_of_length_eq_zero h0]; exact World.ownsRow_nil _ _ _ _
  rcases A with _ | a
  · have h0 : ys.length = 0 := by
      rcases Nat.eq_zero_or_pos ys.length with h | h
      · exact h
      · obtain ⟨b, off, hA, -⟩ := hx h; cases hA
    refine (AnyE.slices_Clone_nil L ys.length c w).mono ?_
    rintro e w' ⟨rfl, rfl⟩
    exact ⟨_, rfl, hnil _ h0 rfl, Below.refl _ _⟩
  · obtain ⟨b, off, rfl⟩ := hp a rfl
    refine (AnyE.slices_Clone L i0 z E.k bytes hi hz0 hz1 hz2 hzs E.k0 z23 b off ys.length c (E.flat ys) w (E.flat_length ys) (by unfold maxLen; omega) hbig (fun j u hu => ?_) (E.flat_one_cell ys)).mono ?_
    · have h0 : 0 < ys.length := by
        rcases Nat.eq_zero_or_pos ys.length with h | h
        · rw [List.eq_nil_of_length_eq_zero h] at hu; simp [Enc.flat] at hu
        · exact h
      obtain ⟨b', off', hA, -, -, hcell⟩ := hx h0
      injection hA with hA
      injection hA with h1 h2
      subst h1; subst h2
      exact hcell j u hu
    · rintro e w' ⟨v', rfl, hown, _, hbel⟩
      exact ⟨v', rfl, hown, hbel⟩

theorem toList_flatK [Inhabited β] (d : Array β) : (flatK E.enc E.k d).toList = E.flat d.toList := by
  refine List.ext_getElem? fun t => ?_
  rcases Nat.lt_or_ge t (d.size * E.k) with h | h
  · have hq : t / E.k < d.size := Nat.div_lt_of_lt_mul (by rwa [Nat.mul_comm])
    have hr : t % E.k < E.k := Nat.mod_lt _ E.k0
    have h1 := get_flatK E.enc E.k d t h
    have h2 : (flatK E.enc E.k d)[t]? = some ((flatK E.enc E.k d)[t]!) := by rw [getElem!_pos (flatK E.enc E.k d) t (by simpa using h)]; exact Array.getElem?_eq_getElem _
    rw [Array.getElem?_toList, h2, h1]
    have hd : d.toList[t / E.k]? = some (d[t / E.k]!) := by rw [Array.getElem?_toList, getElem!_pos d _ hq]; exact Array.getElem?_eq_getElem hq
    have hu : (E.enc d[t / E.k]!)[t % E.k]? = some ((E.enc d[t / E.k]!)[t % E.k]!) := by
      have hl : t % E.k < (E.enc d[t / E.k]!).length := by rw [E.hk]; exact hr
      rw [getElem!_pos (E.enc (d[t / E.k]!)) (t % E.k) hl]; exact List.getElem?_eq_getElem hl
    have := E.flat_get d.toList (t / E.k) _ hd (t % E.k) _ hu
    rw [Nat.div_add_mod'] at this
    exact this.symm
  · rw [List.getElem?_eq_none (by simpa using h), List.getElem?_eq_none (by rw [E.flat_length]; simpa using h)]

theorem heap_mapBlock (w : World) (g : Nat) (f : Array Value → Array Value) (k : Nat) : (mapBlock w g f).heap[k]? = if g = k then w.heap[k]?.map (onCells f) else w.heap[k]? := by
  unfold mapBlock
  exact Array.getElem?_modify

theorem own_holds [Inhabited β] {base g n c : Nat} {T : TypeId} (h : w.ownsRow base T E.k (.slice (some ⟨g, 0, none⟩) n c) n (E.flat ys)) (_hn : ys.length = n) : HoldsK E.enc E.k w g 0 ys.toArray := by
  intro j hj
  have hj' : j < ys.length * E.k := by simpa using hj
  rcases h.2 with ⟨hv, -⟩ | ⟨g', cap, cur, hv, -, hg, -⟩
  · cases hv
  · injection hv with h1 h2 h3
    injection h1 with h1
    injection h1 with h1
    subst h1
    refine ⟨?_, by rw [Nat.zero_add]; exact Lib.frozen_of_heap hg j⟩
    have hu : (E.flat ys)[j]? = some ((flatK E.enc E.k ys.toArray)[j]!) := by
      have h2 : (flatK E.enc E.k ys.toArray)[j]? = some ((flatK E.enc E.k ys.toArray)[j]!) := by rw [getElem!_pos (flatK E.enc E.k ys.toArray) j (by simpa using hj')]; exact Array.getElem?_eq_getElem _
      rw [← h2, ← Array.getElem?_toList, toList_flatK]
    have := h.cells (g := g) rfl j _ hu
    rw [add_plain] at this
    rw [Nat.zero_add]
    exact this

theorem own_sorted [Inhabited β] {base : Nat} {T : TypeId} {g n c m : Nat} {d : Array β} {os : Array Obj} (h : w.ownsRow base T E.k (.slice (some ⟨g, 0, none⟩) n c) n (E.flat ys)) (_hn : ys.length = n) (hd : d.size = n) :
    (sortWorldK E.enc E.k w g 0 m d os).ownsRow base T E.k (.slice (some ⟨g, 0, none⟩) n c) n (E.flat d.toList) ∧ w.grownBy (sortWorldK E.enc E.k w g 0 m d os) (some g) := by
  rcases h.2 with ⟨hv, -⟩ | ⟨g', cap, cur, hv, hb, hg, hnc, hcm, hcs, ht⟩
  · cases hv
  · injection hv with h1 h2 h3
    injection h1 with h1
    injection h1 with h1
    subst h1
    subst h3
    have hgl : g < w.heap.size := (Array.getElem?_eq_some_iff.1 hg).1
    have hheap : ∀ k, k < w.heap.size → (sortWorldK E.enc E.k w g 0 m d os).heap[k]? = (mapBlock w g (putCells id 0 (flatK E.enc E.k d))).heap[k]? := fun k hk => by
      have : (sortWorldK E.enc E.k w g 0 m d os).heap = (mapBlock w g (putCells id 0 (flatK E.enc E.k d))).heap ++ os := rfl
      rw [this, Array.getElem?_append_left (by unfold mapBlock; simpa using hk)]
    refine ⟨⟨by rw [E.flat_length]; simp [hd], .inr ⟨g, c, putCells id 0 (flatK E.enc E.k d) cur, rfl, hb, ?_, hnc, hcm, by simp [putCells, hcs], ?_⟩⟩, ⟨rfl, rfl, rfl, ?_, fun k hk hne => ?_⟩⟩
    · rw [hheap g hgl, heap_mapBlock, if_pos rfl, hg]
      rfl
    · rw [← toList_flatK]
      refine List.ext_getElem? fun t => ?_
      rw [List.getElem?_take, Array.getElem?_toList, Array.getElem?_toList]
      have hle : n * E.k ≤ c * E.k := Nat.mul_le_mul_right _ hnc
      by_cases htn : t < n * E.k
      · have hF : t < (flatK E.enc E.k d).size := by simpa [hd] using htn
        have hcu : cur[t]? = some (cur[t]!) := by rw [getElem!_pos cur t (by omega)]; exact Array.getElem?_eq_getElem (by omega)
        rw [if_pos htn, putCells, Array.getElem?_mapIdx, hcu]
        simp only [Option.map_some, Nat.zero_le, true_and, Nat.zero_add, if_pos hF, Nat.sub_zero, id]
        rw [getElem!_pos (flatK E.enc E.k d) t hF]
        exact (Array.getElem?_eq_getElem hF).symm
      · rw [if_neg htn, Array.getElem?_eq_none (by simpa [hd] using htn)]
    · have : (sortWorldK E.enc E.k w g 0 m d os).heap = (mapBlock w g (putCells id 0 (flatK E.enc E.k d))).heap ++ os := rfl
      rw [this]; unfold mapBlock; simp
    · rw [hheap k hk, heap_mapBlock, if_neg (fun e => hne (by rw [e]))]

/-- No later one is less than one ahead of it. -/
def Risen (cf : β → β → Int) (l : List β) : Prop := ∀ (i j : Nat) (x y : β), i < j → l[i]? = some x → l[j]? = some y → ¬ cf y x < 0

theorem sort_gen [Inhabited β] (L : SlLaysF0.n6 P ρ) (aE : ∀ w, (isAgg (ρ.t 24)).run P w = .ok true w) (zE : ∀ w, (Go.sizeOf (ρ.t 24)).run P w = .ok E.k w) (cf : β → β → Int) (hO : SWO (ltOf cf)) (g : Nat) (cb : Array Value) {base : Nat} {T : TypeId}
    (eg : ∀ args w, (callFunc g args).run P w = .ok (.enter g args) w) (hcmp : ∀ W x y, Calls P g (#[.agg (E.enc x).toArray, .agg (E.enc y).toArray] ++ cb) W fun e w' => e = .returned (.int .i64 (cf x y)) ∧ More W w')
    (h : w.ownsRow base T E.k v ys.length (E.flat ys)) (hsz : ys.length < 4611686018427387904) :
    Calls P (ρ.f 6) #[v, .func (.func g) #[] cb] w fun e w' => e = .returned (.tuple #[]) ∧ ∃ zs, zs.Perm ys ∧ Risen cf zs ∧ w'.ownsRow base T E.k v ys.length (E.flat zs) ∧ w.grownBy w' v.ownBlock := by
  rcases h.2 with ⟨rfl, h0⟩ | ⟨b, cap, cur, rfl, hb, hg, -⟩
  · refine (AnyF.slices_SortFunc_none L none 0 _ w).mono ?_
    rintro e w' ⟨rfl, rfl⟩
    exact ⟨rfl, ys, List.Perm.refl _, (by rw [List.eq_nil_of_length_eq_zero h0]; intro i j x y _ hx; simp at hx), h, ⟨rfl, rfl, rfl, Nat.le_refl _, fun _ _ _ => rfl⟩⟩
  · have hgl : b < w.heap.size := (Array.getElem?_eq_some_iff.1 hg).1
    have hC : CmpLays P g cb E.enc E.k cf b 0 ys.toArray.size w := fun m os dk _ x y => hcmp _ x y
    have hS := AnyQ.slices_SortFunc L E.k aE zE E.enc E.hk E.one cf hO g cb b 0 cap ys.toArray w eg hC (own_holds h rfl) hgl (by simpa using hsz)
    simp only [List.size_toArray] at hS
    refine hS.mono ?_
    rintro e w' ⟨rfl, d', n, os, hperm, hsort, rfl⟩
    have hd : d'.size = ys.length := by simpa using hperm.1
    have hx : d'.extract 0 ys.length = d' := by rw [← hd]; simp
    obtain ⟨ho, hgr⟩ := own_sorted (m := n) (os := os) h rfl hd
    refine ⟨rfl, d'.toList, ?_, ?_, ho, hgr⟩
    · have := hperm.2.2
      rw [hx] at this
      simpa using this
    · intro i j x y hij hx hy
      have hj : j < d'.size := by have := (List.getElem?_eq_some_iff.1 hy).1; simpa using this
      have := hsort i j (Nat.zero_le _) hij (by omega)
      rw [getElem!_pos d' j hj, getElem!_pos d' i (by omega)] at this
      have e1 : d'[i]'(by omega) = x := by have := (List.getElem?_eq_some_iff.1 hx).2; simpa using this
      have e2 : d'[j] = y := by have := (List.getElem?_eq_some_iff.1 hy).2; simpa using this
      rw [e1, e2] at this
      simpa [ltOf] using this
end
end Go.Proofs.YtcohdfkdhdhegaaGreatDoor
