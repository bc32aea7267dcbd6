/- How lists of values of several cells lie in memory: encodings, slices that are read, rows of the call's own. No program in sight. -/
import Derived.Test.YthpcedficlhanaaGreatDoorVoc
import Derived.Laws.Rows
import Derived.Laws.Cells
import Derived.Laws.CopyRow
import Derived.StillTailTactics
import Derived.Deep.WholeRow
namespace Go.Proofs.YthpcedficlhanaaGreatDoor
open Go.RowKit

/-- How a thing lies in cells: k of them, each of one cell. -/
structure Enc (β : Type) where
  enc : β → List Value
  k : Nat
  hk : ∀ y, (enc y).length = k
  one : ∀ y u, u ∈ enc y → u.oneCell' = true
  k0 : 0 < k

section
variable {β : Type} (E : Enc β)
def Enc.flat (ys : List β) : List Value := ys.flatMap E.enc
theorem Enc.flat_nil : E.flat [] = [] := rfl
theorem Enc.flat_append (xs ys : List β) : E.flat (xs ++ ys) = E.flat xs ++ E.flat ys := by simp [Enc.flat]
theorem Enc.flat_one (y : β) : E.flat [y] = E.enc y := by simp [Enc.flat]
theorem Enc.flat_length (ys : List β) : (E.flat ys).length = ys.length * E.k := by
  induction ys with
  | nil => simp [Enc.flat]
  | cons y ys ih => simp only [Enc.flat, List.flatMap_cons, List.length_append, E.hk, List.length_cons] at *; rw [ih, Nat.add_mul]; omega
theorem Enc.flat_get (ys : List β) (i : Nat) (y : β) (h : ys[i]? = some y) (j : Nat) (u : Value) (hu : (E.enc y)[j]? = some u) : (E.flat ys)[i * E.k + j]? = some u := by
  induction ys generalizing i with
  | nil => simp at h
  | cons z ys ih =>
    have hj : j < E.k := by have := (List.getElem?_eq_some_iff.1 hu).1; rwa [E.hk] at this
    cases i with
    | zero =>
      have : z = y := by simpa using h
      subst this
      simp only [Enc.flat, List.flatMap_cons, Nat.zero_mul, Nat.zero_add]
      rw [List.getElem?_append_left (by rw [E.hk]; exact hj), hu]
    | succ i =>
      have h' : ys[i]? = some y := by simpa using h
      have := ih i h'
      simp only [Enc.flat, List.flatMap_cons]
      rw [List.getElem?_append_right (by rw [E.hk, Nat.add_mul]; omega), E.hk]
      rw [show (i + 1) * E.k + j - E.k = i * E.k + j by rw [Nat.add_mul]; omega]
      exact this
theorem Enc.flat_one_cell (ys : List β) : ∀ u ∈ E.flat ys, u.oneCell' = true := by
  intro u hu
  simp only [Enc.flat, List.mem_flatMap] at hu
  obtain ⟨y, _, hy⟩ := hu
  exact E.one y u hy
theorem Enc.flat_take (ys : List β) (m : Nat) : E.flat (ys.take m) = (E.flat ys).take (m * E.k) := by
  induction ys generalizing m with
  | nil => simp [Enc.flat]
  | cons y ys ih =>
    cases m with
    | zero => simp [Enc.flat]
    | succ m =>
      have := ih m
      simp only [Enc.flat, List.take_succ_cons, List.flatMap_cons] at *
      rw [this, List.take_append, E.hk, List.take_of_length_le (l := E.enc y) (by rw [E.hk, Nat.add_mul]; omega)]
      rw [show (m + 1) * E.k - E.k = m * E.k by rw [Nat.add_mul]; omega]
theorem Enc.flat_drop (ys : List β) (m : Nat) : E.flat (ys.drop m) = (E.flat ys).drop (m * E.k) := by
  induction ys generalizing m with
  | nil => simp [Enc.flat]
  | cons y ys ih =>
    cases m with
    | zero => simp [Enc.flat]
    | succ m =>
      have := ih m
      simp only [Enc.flat, List.drop_succ_cons, List.flatMap_cons] at *
      rw [this, List.drop_append, E.hk, List.drop_eq_nil_of_le (as := E.enc y) (by rw [E.hk, Nat.add_mul]; omega), List.nil_append]
      rw [show (m + 1) * E.k - E.k = m * E.k by rw [Nat.add_mul]; omega]
theorem Enc.flat_set (ys : List β) (i : Nat) (y : β) (h : i < ys.length) : E.flat (ys.set i y) = (E.flat ys).take (i * E.k) ++ E.enc y ++ (E.flat ys).drop ((i + 1) * E.k) := by
  rw [List.set_eq_take_append_cons_drop, if_pos h, E.flat_append, E.flat_take]
  simp only [Enc.flat, List.flatMap_cons, List.append_assoc]
  congr 2
  exact E.flat_drop ys (i + 1)
end

/-- What stays of a world's blocks: those of which 'ok' holds. -/
def Fr (ok : Nat → Prop) (w w' : World) : Prop := w.heap.size ≤ w'.heap.size ∧ ∀ k, ok k → k < w.heap.size → w'.heap[k]? = w.heap[k]?
section
variable {ok ok' : Nat → Prop} {w w1 w2 : World}
theorem Fr.refl (ok : Nat → Prop) (w : World) : Fr ok w w := ⟨Nat.le_refl _, fun _ _ _ => rfl⟩
theorem Fr.trans (h : Fr ok w w1) (h' : Fr ok w1 w2) : Fr ok w w2 := ⟨Nat.le_trans h.1 h'.1, fun k hk hl => (h'.2 k hk (Nat.lt_of_lt_of_le hl h.1)).trans (h.2 k hk hl)⟩
theorem Fr.mono (h : Fr ok w w1) (hk : ∀ k, ok' k → ok k) : Fr ok' w w1 := ⟨h.1, fun k hk' hl => h.2 k (hk k hk') hl⟩
theorem Fr.below {B : Nat} (h : Below B w w1) (hk : ∀ k, ok k → k < w.heap.size → k < B) : Fr ok w w1 := ⟨h.size, fun k ho hl => h.block k (hk k ho hl)⟩
theorem Fr.of_below (h : Below w.heap.size w w1) : Fr ok w w1 := ⟨h.size, fun k _ hl => h.block k hl⟩
theorem Fr.grown {row : Option Nat} (h : w.grownBy w1 row) (hk : ∀ k, ok k → some k ≠ row) : Fr ok w w1 := ⟨h.size, fun k ho hl => h.block k hl (hk k ho)⟩
theorem Fr.alloc (h : Fr ok w w1) (o : Obj) : Fr ok w (w1.alloc o) := h.trans ⟨by simp, fun k _ hl => Below.heap_alloc w1 o k hl⟩
theorem Fr.setCell (h : Fr ok w w1) {p : Addr} (hp : ¬ ok p.block) (u : Value) : Fr ok w (w1.setCell p u) :=
  h.trans ⟨by simp [World.setCell], fun k ho _ => Below.heap_setCell _ _ _ _ (fun e => hp (e ▸ ho))⟩
theorem Fr.drewN (h : Fr ok w w1) (n : Nat) : Fr ok w (w1.drewN n) := h
theorem Fr.drew (h : Fr ok w w1) : Fr ok w w1.drew := h
end

/-- An address within no array of its own. -/
def Plain (A : Option Addr) : Prop := ∀ a, A = some a → ∃ b off, a = ⟨b, off, none⟩
theorem plain_none : Plain none := fun _ h => by cases h
theorem plain_some (b off : Nat) : Plain (some ⟨b, off, none⟩) := fun _ h => by cases h; exact ⟨_, _, rfl⟩

/-- A slice whose elements are read: they lie in a block of which 'ok' holds. -/
def Sl {β : Type} (E : Enc β) (ok : Nat → Prop) (w : World) (v : Value) (ys : List β) : Prop :=
  ∃ A n c, v = .slice A n c ∧ ys.length = n ∧ n ≤ c ∧ c ≤ 9223372036854775807 ∧ Plain A ∧
    (0 < n → ∃ b off, A = some ⟨b, off, none⟩ ∧ b < w.heap.size ∧ ok b ∧ ∀ m u, (E.flat ys)[m]? = some u → w.cell? ⟨b, off + m, none⟩ = some u)

section
variable {β : Type} {E : Enc β} {ok ok' : Nat → Prop} {w w' : World} {v : Value} {ys : List β} {A : Option Addr} {n c : Nat}
theorem Sl.nil (E : Enc β) (ok : Nat → Prop) (w : World) : Sl E ok w (.slice none 0 0) [] := ⟨none, 0, 0, rfl, rfl, by omega, by omega, plain_none, fun h => absurd h (by omega)⟩
theorem Sl.mono (h : Sl E ok w v ys) (hk : ∀ k, ok k → ok' k) : Sl E ok' w v ys := by
  obtain ⟨A, n, c, hv, hl, hc, hm, hp, hx⟩ := h
  refine ⟨A, n, c, hv, hl, hc, hm, hp, fun h0 => ?_⟩
  obtain ⟨b, off, hA, hlt, ho, hcell⟩ := hx h0
  exact ⟨b, off, hA, hlt, hk b ho, hcell⟩
theorem Sl.fr (h : Sl E ok w v ys) (hf : Fr ok w w') : Sl E ok w' v ys := by
  obtain ⟨A, n, c, hv, hl, hc, hm, hp, hx⟩ := h
  refine ⟨A, n, c, hv, hl, hc, hm, hp, fun h0 => ?_⟩
  obtain ⟨b, off, hA, hlt, ho, hcell⟩ := hx h0
  refine ⟨b, off, hA, Nat.lt_of_lt_of_le hlt hf.1, ho, fun m u hu => ?_⟩
  rw [← hcell m u hu]
  exact World.cell?_of_block (w := w) (hf.2 b ho hlt)
theorem Sl.below (h : Sl E ok w v ys) (hb : Below w.heap.size w w') : Sl E ok w' v ys := h.fr (Fr.of_below hb)
/-- Its block lay there already: whatever is new is another one. -/
theorem Sl.old (h : Sl E ok w v ys) : Sl E (fun k => ok k ∧ k < w.heap.size) w v ys := by
  obtain ⟨A, n, c, hv, hl, hc, hm, hp, hx⟩ := h
  refine ⟨A, n, c, hv, hl, hc, hm, hp, fun h0 => ?_⟩
  obtain ⟨b, off, hA, hlt, ho, hcell⟩ := hx h0
  exact ⟨b, off, hA, hlt, ⟨ho, hlt⟩, hcell⟩
theorem Sl.form (h : Sl E ok w v ys) : ∃ A c, v = .slice A ys.length c ∧ ys.length ≤ c ∧ c ≤ 9223372036854775807 := by
  obtain ⟨A, n, c, hv, hl, hc, hm, -, -⟩ := h
  subst hl
  exact ⟨A, c, hv, hc, hm⟩
theorem Sl.len (h : Sl E ok w (.slice A n c) ys) : ys.length = n ∧ n ≤ c ∧ c ≤ 9223372036854775807 := by
  obtain ⟨A', n', c', he, hl, hc, hm, -, -⟩ := h
  injection he with h1 h2 h3
  subst h2; subst h3
  exact ⟨hl, hc, hm⟩
/-- Element i: its cells. -/
theorem Sl.at_ (h : Sl E ok w (.slice A n c) ys) (i : Nat) (y : β) (hy : ys[i]? = some y) : ∃ b off, A = some ⟨b, off, none⟩ ∧ b < w.heap.size ∧ ok b ∧ ∀ j u, (E.enc y)[j]? = some u → w.cell? ⟨b, off + i * E.k + j, none⟩ = some u := by
  obtain ⟨A', n', c', he, hl, hc, hm, hp, hx⟩ := h
  injection he with h1 h2 h3
  subst h1; subst h2; subst h3
  have hi : i < ys.length := (List.getElem?_eq_some_iff.1 hy).1
  obtain ⟨b, off, hA, hlt, ho, hcell⟩ := hx (by omega)
  refine ⟨b, off, hA, hlt, ho, fun j u hu => ?_⟩
  rw [Nat.add_assoc]
  exact hcell _ u (E.flat_get ys i y hy j u hu)
theorem Sl.take (h : Sl E ok w (.slice A n c) ys) {m : Nat} (hm : m ≤ n) : Sl E ok w (.slice A m c) (ys.take m) := by
  obtain ⟨A', n', c', he, hl, hc, hmx, hp, hx⟩ := h
  injection he with h1 h2 h3
  subst h1; subst h2; subst h3
  refine ⟨A, m, c, rfl, by rw [List.length_take]; omega, by omega, hmx, hp, fun h0 => ?_⟩
  obtain ⟨b, off, hA, hlt, ho, hcell⟩ := hx (by omega)
  refine ⟨b, off, hA, hlt, ho, fun j u hu => hcell j u ?_⟩
  rw [E.flat_take, List.getElem?_take] at hu
  split at hu
  · exact hu
  · cases hu
theorem Sl.drop (h : Sl E ok w (.slice A n c) ys) {m : Nat} (hm : m ≤ n) : Sl E ok w (.slice (if c = m then A else A.map (·.add (m * E.k))) (n - m) (c - m)) (ys.drop m) := by
  obtain ⟨A', n', c', he, hl, hc, hmx, hp, hx⟩ := h
  injection he with h1 h2 h3
  subst h1; subst h2; subst h3
  refine ⟨_, n - m, c - m, rfl, by rw [List.length_drop]; omega, by omega, by omega, ?_, fun h0 => ?_⟩
  · intro a ha
    split at ha
    · exact hp a ha
    · obtain ⟨a0, h1, h2⟩ := Option.map_eq_some_iff.1 ha
      obtain ⟨b, off, rfl⟩ := hp a0 h1
      exact ⟨b, _, by rw [← h2, add_off]⟩
  obtain ⟨b, off, rfl, hlt, ho, hcell⟩ := hx (by omega)
  rw [if_neg (by omega)]
  refine ⟨b, off + m * E.k, by simp [add_off], hlt, ho, fun j u hu => ?_⟩
  rw [E.flat_drop, List.getElem?_drop] at hu
  rw [Nat.add_assoc]
  exact hcell _ u hu
/-- A row of the call's own, as a slice that is read. -/
theorem Sl.of_own {base : Nat} {T : TypeId} (h : w.ownsRow base T E.k v ys.length (E.flat ys)) : Sl E (fun k => v.ownBlock = some k) w v ys := by
  have h0 := h
  rcases h.2 with ⟨rfl, hz⟩ | ⟨g, cap, cur, rfl, hb, hg, hc, hm, hs, ht⟩
  · have : ys = [] := List.eq_nil_of_length_eq_zero hz
    subst this
    exact Sl.nil _ _ _
  · refine ⟨_, _, _, rfl, rfl, hc, by simpa [maxLen] using hm, plain_some _ _, fun _ => ⟨g, 0, rfl, (Array.getElem?_eq_some_iff.1 hg).1, rfl, fun m u hu => ?_⟩⟩
    have := h0.cells (g := g) rfl m u hu
    rw [add_plain] at this
    simpa using this
/-- A block known whole, as a slice that is read. -/
theorem Sl.of_block {g : Nat} {cs : Array Value} {T : TypeId} {fr : Nat × Nat} (h : w.heap[g]? = some (.cells cs T fr)) (hcs : cs.toList = E.flat ys) (hn : ys.length = n) (hc : n ≤ c) (hm : c ≤ 9223372036854775807) : Sl E (fun k => k = g) w (.slice (some ⟨g, 0, none⟩) n c) ys := by
  refine ⟨_, _, _, rfl, hn, hc, hm, plain_some _ _, fun _ => ⟨g, 0, rfl, (Array.getElem?_eq_some_iff.1 h).1, rfl, fun m u hu => ?_⟩⟩
  rw [← hcs, Array.getElem?_toList] at hu
  simp [World.cell?, h, hu]
theorem Sl.any (h : Sl E ok w v ys) : Sl E (fun _ => True) w v ys := h.mono fun _ _ => trivial
/-- The same, wherever an empty one points to. -/
def SlW {β : Type} (E : Enc β) (ok : Nat → Prop) (w : World) (v : Value) (ys : List β) : Prop :=
  ∃ A n c, v = .slice A n c ∧ ys.length = n ∧ n ≤ c ∧ c ≤ 9223372036854775807 ∧
    (0 < n → ∃ b off, A = some ⟨b, off, none⟩ ∧ b < w.heap.size ∧ ok b ∧ ∀ m u, (E.flat ys)[m]? = some u → w.cell? ⟨b, off + m, none⟩ = some u)
theorem Sl.weak (h : Sl E ok w v ys) : SlW E ok w v ys := by
  obtain ⟨A, n, c, hv, hl, hc, hm, -, hx⟩ := h
  exact ⟨A, n, c, hv, hl, hc, hm, hx⟩
theorem SlW.mono (h : SlW E ok w v ys) (hk : ∀ k, ok k → ok' k) : SlW E ok' w v ys := by
  obtain ⟨A, n, c, hv, hl, hc, hm, hx⟩ := h
  refine ⟨A, n, c, hv, hl, hc, hm, fun h0 => ?_⟩
  obtain ⟨b, off, hA, hlt, ho, hcell⟩ := hx h0
  exact ⟨b, off, hA, hlt, hk b ho, hcell⟩
theorem SlW.fr (h : SlW E ok w v ys) (hf : Fr ok w w') : SlW E ok w' v ys := by
  obtain ⟨A, n, c, hv, hl, hc, hm, hx⟩ := h
  refine ⟨A, n, c, hv, hl, hc, hm, fun h0 => ?_⟩
  obtain ⟨b, off, hA, hlt, ho, hcell⟩ := hx h0
  refine ⟨b, off, hA, Nat.lt_of_lt_of_le hlt hf.1, ho, fun m u hu => ?_⟩
  rw [← hcell m u hu]
  exact World.cell?_of_block (w := w) (hf.2 b ho hlt)
theorem SlW.below (h : SlW E ok w v ys) (hb : Below w.heap.size w w') : SlW E ok w' v ys := h.fr (Fr.of_below hb)
theorem SlW.form (h : SlW E ok w v ys) : ∃ A c, v = .slice A ys.length c ∧ ys.length ≤ c ∧ c ≤ 9223372036854775807 := by
  obtain ⟨A, n, c, hv, hl, hc, hm, -⟩ := h
  subst hl
  exact ⟨A, c, hv, hc, hm⟩
theorem SlW.len (h : SlW E ok w (.slice A n c) ys) : ys.length = n ∧ n ≤ c ∧ c ≤ 9223372036854775807 := by
  obtain ⟨A', n', c', he, hl, hc, hm, -⟩ := h
  injection he with h1 h2 h3
  subst h2; subst h3
  exact ⟨hl, hc, hm⟩
theorem SlW.at_ (h : SlW E ok w (.slice A n c) ys) (i : Nat) (y : β) (hy : ys[i]? = some y) : ∃ b off, A = some ⟨b, off, none⟩ ∧ b < w.heap.size ∧ ok b ∧ ∀ j u, (E.enc y)[j]? = some u → w.cell? ⟨b, off + i * E.k + j, none⟩ = some u := by
  obtain ⟨A', n', c', he, hl, hc, hm, hx⟩ := h
  injection he with h1 h2 h3
  subst h1; subst h2; subst h3
  have hi : i < ys.length := (List.getElem?_eq_some_iff.1 hy).1
  obtain ⟨b, off, hA, hlt, ho, hcell⟩ := hx (by omega)
  refine ⟨b, off, hA, hlt, ho, fun j u hu => ?_⟩
  rw [Nat.add_assoc]
  exact hcell _ u (E.flat_get ys i y hy j u hu)
end

section
variable {P : Program}
/-- A struct or an array read whole at an address. -/
theorem run_loadVar_at (w : World) (b off : Nat) (ty : TypeId) (cs : List Value) (d : TypeDesc) (hc : ∀ j u, cs[j]? = some u → w.cell? ⟨b, off + j, none⟩ = some u)
    (hu : P.underlying ty = some d) (hd : (match d with | .struct _ | .array _ _ => true | _ => false) = true) (hi : (P.info? ty).map (·.size) = some cs.length) :
    (loadVar ty ⟨b, off, none⟩).run P w = .ok (.agg cs.toArray) w := by
  have hl : (loadCells ⟨b, off, none⟩ cs.length).run P w = .ok cs.toArray w := run_loadCells_list (P := P) w ⟨b, off, none⟩ cs (fun j v hv => by rw [add_off]; exact hc j v hv)
  cases hq : P.info? ty with
  | none => simp [hq] at hi
  | some i =>
    have hs : i.size = cs.length := by simpa [hq] using hi
    have hagg : (isAgg ty).run P w = .ok true w := by
      unfold isAgg
      rw [Sem.run_bind, run_underlying hu w]
      cases d <;> simp_all
    simp [loadVar, Sem.run_bind, hagg, sizeOf, typeInfo, hq, hs, hl]

theorem wpl_load {ops : Array Oper} {rest : List Oper} {o : Oper} {a : Act} {w : World} {Q : Exit → Act → World → Prop} (hgd : o.guard = none) (ty : TypeId) (x : Operand) (ho : o.op = .load ty x)
    (b off : Nat) (hx : a.eval x = .pointer (some ⟨b, off, none⟩)) (cs : List Value) (d : TypeDesc) (hc : ∀ j u, cs[j]? = some u → w.cell? ⟨b, off + j, none⟩ = some u)
    (hu : P.underlying ty = some d) (hd : (match d with | .struct _ | .array _ _ => true | _ => false) = true) (hi : (P.info? ty).map (·.size) = some cs.length)
    (h : wpList P ops Q rest (a.put o.dst (.agg cs.toArray)) w) : wpList P ops Q (o :: rest) a w :=
  wpList_plain hgd fun K hK => by
    unfold Oper.wp execOp
    simp only [ho, hx, Instr.loadAt, Instr.sureAddr, Sem.run_bind, Sem.run_pure, Result.andThen_ok, run_loadVar_at w b off ty cs d hc hu hd hi]
    exact hK _ _ h

/-- The same inside a region that draws its order. -/
theorem still_load {ops : Array Oper} {rest : List Oper} {o : Oper} {a : Act} {w : World} {Q : Act → Prop} (hgd : o.guard = none) (ty : TypeId) (x : Operand) (ho : o.op = .load ty x)
    (b off : Nat) (hx : a.eval x = .pointer (some ⟨b, off, none⟩)) (cs : List Value) (d : TypeDesc) (hc : ∀ j u, cs[j]? = some u → w.cell? ⟨b, off + j, none⟩ = some u)
    (hu : P.underlying ty = some d) (hd : (match d with | .struct _ | .array _ _ => true | _ => false) = true) (hi : (P.info? ty).map (·.size) = some cs.length)
    (h : wpStill P ops w Q rest (a.put o.dst (.agg cs.toArray))) : wpStill P ops w Q (o :: rest) a :=
  wpStill_step fun K hK => by
    have hw : Region.wanted o (yielded ops a.tmps) = true := by simp [Region.wanted, hgd]
    rw [if_pos hw]
    unfold Oper.still execOp
    simp only [ho, hx, Instr.loadAt, Instr.sureAddr, Sem.run_bind, Sem.run_pure, Result.andThen_ok, run_loadVar_at w b off ty cs d hc hu hd hi]
    exact ⟨rfl, hK _ h⟩

/-- A struct or an array stored whole into a block that it fills. -/
theorem run_storeVar_block (w : World) (g : Nat) (ty T : TypeId) (cs : List Value) (cur : Array Value) (hg : w.heap[g]? = some (.cells cur T (0, 0))) (hl : cs.length = cur.size) (h1 : ∀ u ∈ cs, u.oneCell' = true) (hi : (P.info? ty).map (·.size) = some cs.length) :
    (storeVar ty ⟨g, 0, none⟩ (.agg cs.toArray)).run P w = .ok () (w.setRow g cs.toArray) := by
  cases hq : P.info? ty with
  | none => simp [hq] at hi
  | some i =>
    have hs : i.size = cs.length := by simpa [hq] using hi
    have := run_storeCells_from (P := P) g T cs 0 cur w hg (by omega) h1
    simpa [storeVar, sizeOf, typeInfo, hq, hs, Value.cells] using this

/-- A struct or an array stored whole into a variable that has just been made. -/
theorem wpl_store_new {ops : Array Oper} {rest : List Oper} {o : Oper} {a : Act} {W : World} {Q : Exit → Act → World → Prop} (hgd : o.guard = none) (ty : TypeId) (x y : Operand) (ho : o.op = .store ty x y)
    (hx : a.eval x = .pointer (some ⟨W.heap.size, 0, none⟩)) (cs : List Value) (hy : a.eval y = .agg cs.toArray) (old : Array Value) (T : TypeId) (hl : cs.length = old.size) (h1 : ∀ u ∈ cs, u.oneCell' = true) (hi : (P.info? ty).map (·.size) = some cs.length)
    (h : wpList P ops Q rest (a.put o.dst undef) (W.alloc (.cells cs.toArray T))) : wpList P ops Q (o :: rest) a (W.alloc (.cells old T)) :=
  wpList_plain hgd fun K hK => by
    unfold Oper.wp execOp
    simp only [ho, hx, hy, Instr.storeAt, Instr.sureAddr, Sem.run_bind, Sem.run_pure, Result.andThen_ok, run_storeVar_block (W.alloc (.cells old T)) W.heap.size ty T cs old (heap_alloc_new W _) hl h1 hi, World.setRow_alloc_new]
    exact hK _ _ h
/-- .. into a variable that lies there already. -/
theorem wpl_store_row {ops : Array Oper} {rest : List Oper} {o : Oper} {a : Act} {w : World} {Q : Exit → Act → World → Prop} (hgd : o.guard = none) (ty : TypeId) (x y : Operand) (ho : o.op = .store ty x y) (g : Nat)
    (hx : a.eval x = .pointer (some ⟨g, 0, none⟩)) (cs : List Value) (hy : a.eval y = .agg cs.toArray) (cur : Array Value) (T : TypeId) (hg : w.heap[g]? = some (.cells cur T (0, 0))) (hl : cs.length = cur.size) (h1 : ∀ u ∈ cs, u.oneCell' = true) (hi : (P.info? ty).map (·.size) = some cs.length)
    (h : wpList P ops Q rest (a.put o.dst undef) (w.setRow g cs.toArray)) : wpList P ops Q (o :: rest) a w :=
  wpList_plain hgd fun K hK => by
    unfold Oper.wp execOp
    simp only [ho, hx, hy, Instr.storeAt, Instr.sureAddr, Sem.run_bind, Sem.run_pure, Result.andThen_ok, run_storeVar_block w g ty T cs cur hg hl h1 hi]
    exact hK _ _ h
end
end Go.Proofs.YthpcedficlhanaaGreatDoor
