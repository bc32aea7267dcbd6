/- Regions that draw their order, where variables are made at any time: one step for each operation, whatever came up ahead of it. No program in sight. Regions where variables are made at any time: how a walk uses the law. No program in sight. 'd, l, all := Made(..)', whichever of them are variables that are made at any time. -/
import Derived.Test.YtcohdfkdhdhegaaGreatDoorPbAX
import Derived.Test.YtcohdfkdhdhegaaGreatDoorPbBI
namespace Go.Proofs.YtcohdfkdhdhegaaGreatDoor
open Go.RowKit

/-- What is said of some blocks. -/
structure FP where
  K : (Nat → Prop) → World → Prop
  fr : ∀ {ok : Nat → Prop} {w w' : World}, Fr ok w w' → K ok w → K ok w'
  old : ∀ {ok : Nat → Prop} {w : World}, K ok w → K (fun k => ok k ∧ k < w.heap.size) w
  mono : ∀ {ok ok' : Nat → Prop} {w : World}, (∀ k, ok k → ok' k) → K ok w → K ok' w
def FP.pure (p : Prop) : FP := ⟨fun _ _ => p, fun _ h => h, fun h => h, fun _ h => h⟩
def FP.and (x y : FP) : FP := ⟨fun ok w => x.K ok w ∧ y.K ok w, fun hf h => ⟨x.fr hf h.1, y.fr hf h.2⟩, fun h => ⟨x.old h.1, y.old h.2⟩, fun hk h => ⟨x.mono hk h.1, y.mono hk h.2⟩⟩
def FP.ex {α : Type} (x : α → FP) : FP := ⟨fun ok w => ∃ a, (x a).K ok w, fun hf ⟨a, h⟩ => ⟨a, (x a).fr hf h⟩, fun ⟨a, h⟩ => ⟨a, (x a).old h⟩, fun hk ⟨a, h⟩ => ⟨a, (x a).mono hk h⟩⟩
def FP.blk (g : Nat) (o : Obj) : FP := ⟨fun ok w => ok g ∧ w.heap[g]? = some o, fun hf h => ⟨h.1, (hf.2 g h.1 (Array.getElem?_eq_some_iff.1 h.2).1).trans h.2⟩, fun h => ⟨⟨h.1, (Array.getElem?_eq_some_iff.1 h.2).1⟩, h.2⟩, fun hk h => ⟨hk _ h.1, h.2⟩⟩
def FP.sl {β : Type} (E : Enc β) (v : Value) (ys : List β) : FP := ⟨fun ok w => Sl E ok w v ys, fun hf h => h.fr hf, fun h => h.old, fun hk h => h.mono hk⟩

def FP.tip (G : List Hdr) (t : Value) (T : List ID) : FP := ⟨fun ok w => TipIs ok w G t T, fun hf h => h.fr hf, fun h => h.old, fun hk h => h.mono hk⟩

section
variable {P : Program} {ops : Array Oper} {Q : Exit → Act → World → Prop} {md : Region.Mode} {S : World → Prop}
theorem getD_eq {l : Array Bool} {i : Nat} (hi : i < l.size) (d d' : Bool) : l.getD i d = l.getD i d' := by simp [hi]
theorem count_up {l : Array Bool} {i : Nat} (hi : i < l.size) (h0 : l.getD i true = false) : (l.setIfInBounds i true).toList.count false + 1 = l.toList.count false := by
  have h1 : l.toList[i]'(by simpa using hi) = false := by simpa [hi] using h0
  have h2 : (l.setIfInBounds i true).toList = l.toList.set i true := by simp
  rw [h2, List.count_set (by simpa using hi), h1]
  have h3 : 0 < l.toList.count false := List.count_pos_iff.2 (h1 ▸ List.getElem_mem _)
  rw [show ((false : Bool) == false) = true from rfl, show ((true : Bool) == false) = false from rfl, if_pos rfl, if_neg (by decide)]
  omega
theorem all_up {l : Array Bool} (h : l.toList.count false = 0) : ∀ i, i < l.size → l.getD i false = true := by
  intro i hi
  have h1 : false ∉ l.toList := fun hm => by have := List.count_pos_iff.2 hm; omega
  cases h2 : l.getD i false with
  | true => rfl
  | false =>
    exfalso
    apply h1
    have h3 : l.toList[i]'(by simpa using hi) = false := by simpa [hi] using h2
    exact h3 ▸ List.getElem_mem _
def lowB (md : Region.Mode) (ops : Array Oper) : Bool := (List.range ops.size).all fun i => match ops[i]? with | some o => o.after.all (fun e => !(Region.binds md e) || decide (e.on < i)) | none => true
theorem lowB_spec (h : lowB md ops = true) {i : Nat} {o : Oper} (ho : ops[i]? = some o) {e : Edge} (he : e ∈ o.after) (hb : Region.binds md e = true) : e.on < i := by
  have h1 := List.all_eq_true.1 h i (List.mem_range.2 (Array.getElem?_eq_some_iff.1 ho).1)
  rw [ho] at h1
  have h2 := Array.all_eq_true'.1 h1 e he
  simpa [hb] using h2
theorem all_of_ready (hlow : lowB md ops = true) {l : Array Bool} (hl : l.size = ops.size) (h0 : Region.ready md ops l = []) : ∀ i, i < ops.size → l.getD i false = true := by
  intro i
  induction i using Nat.strongRecOn with
  | _ i ih =>
    intro hi
    cases h2 : l.getD i false with
    | true => rfl
    | false =>
      exfalso
      have ho : ops[i]? = some ops[i] := Array.getElem?_eq_getElem hi
      have : i ∈ Region.ready md ops l := mem_ready.2 ⟨(getD_eq (by omega) true false).trans h2, _, ho, fun e he hb => ih e.on (lowB_spec hlow ho he hb) (Nat.lt_trans (lowB_spec hlow ho he hb) hi)⟩
      rw [h0] at this
      cases this
theorem wpAnyH_inv (hlow : lowB md ops = true) (Inv : Array Bool → Act → World → Prop) (hS : ∀ l a w, Inv l a w → S w)
    (step : ∀ l i o a w, l.size = ops.size → ops[i]? = some o → l.getD i true = false → (∀ e ∈ o.after, Region.binds md e = true → l.getD e.on false = true) → Inv l a w → wpOp P ops Q i (fun a' w' => Inv (l.setIfInBounds i true) a' w') a w)
    (fin : ∀ l a w, l.size = ops.size → (∀ i, i < ops.size → l.getD i false = true) → Inv l a w → Q .normal a w) :
    ∀ (fuel : Nat) (l : Array Bool) (a : Act) (w : World), l.size = ops.size → l.toList.count false ≤ fuel → Inv l a w → wpAnyH P md ops Q S fuel l a w
  | 0, l, a, w, hl, hc, h => by
    have hall := all_up (Nat.le_zero.1 hc)
    refine ⟨?_, fin l a w hl (fun i hi => hall i (by omega)) h⟩
    cases hr : Region.ready md ops l with
    | nil => rfl
    | cons i js =>
      exfalso
      have hi : i ∈ Region.ready md ops l := by rw [hr]; simp
      obtain ⟨h1, o, ho, -⟩ := mem_ready.1 hi
      have h2 := hall i (by have := (Array.getElem?_eq_some_iff.1 ho).1; omega)
      rw [getD_eq (by have := (Array.getElem?_eq_some_iff.1 ho).1; omega) true false, h2] at h1
      cases h1
  | fuel + 1, l, a, w, hl, hc, h => ⟨fun h0 => fin l a w hl (all_of_ready hlow hl h0) h, fun i hi => by
      obtain ⟨h1, o, ho, hall⟩ := mem_ready.1 hi
      have hil : i < l.size := by have := (Array.getElem?_eq_some_iff.1 ho).1; omega
      exact wpOp_mono (fun a' w' h' => ⟨hS _ _ _ h', wpAnyH_inv hlow Inv hS step fin fuel _ a' w' (by simpa using hl) (by have := count_up hil h1; omega) h'⟩) (step l i o a w hl ho h1 hall h)⟩
end

def upd (vs : Nat → Value) (i : Nat) (v : Value) : Nat → Value := fun j => if j = i then v else vs j
theorem upd_same (vs : Nat → Value) (i : Nat) (v : Value) : upd vs i v i = v := if_pos rfl
theorem upd_ne {vs : Nat → Value} {i j : Nat} {v : Value} (h : j ≠ i) : upd vs i v j = vs j := if_neg h
/-- A variable that is made (at b) and stored in (at s): its type, what lies in it first, what then. -/
structure BoxE where
  b : Nat
  s : Nat
  T : TypeId
  Z : Array Value
  rv : List Nat
  V : (Nat → Value) → Array Value
/-- What is told of an operation's value (where it has come up): its number, the others of which that speaks, what. -/
abbrev RowE := Nat × List Nat × ((Nat → Value) → FP)
def rowR (RL : List RowE) (j : Nat) (vs : Nat → Value) : FP := match RL.find? (fun r => r.1 == j) with | some r => r.2.2 vs | none => FP.pure True
/-- A region's operations: what each yields; the variables that are made. -/
structure BoxP where
  A : (Nat → Value) → Act
  RL : List RowE
  B : List BoxE
def BoxP.R (X : BoxP) (j : Nat) (vs : Nat → Value) : FP := rowR X.RL j vs
def okB (B : List BoxE) (l : Array Bool) (vs : Nat → Value) (k : Nat) : Prop := ∀ p ∈ B, l.getD p.b false = true → vs p.b ≠ .pointer (some ⟨k, 0, none⟩)
/-- Does an operation wait for another one? -/
def waitsB (md : Region.Mode) (ops : Array Oper) (j k : Nat) : Bool := match ops[j]? with | some o => o.after.any (fun e => Region.binds md e && e.on == k) | none => false
structure BoxI (X : BoxP) (md : Region.Mode) (ops : Array Oper) (base : World) (l0 l : Array Bool) (vs : Nat → Value) (w : World) : Prop where
  r : ∀ i, l.getD i false = true → (X.R i vs).K (okB X.B l vs) w
  box : ∀ p ∈ X.B, l.getD p.b false = true → ∃ g, vs p.b = .pointer (some ⟨g, 0, none⟩) ∧ base.heap.size ≤ g ∧ w.heap[g]? = some (.cells (if l.getD p.s false = true then p.V vs else p.Z) p.T (0, 0))
  apart : ∀ p ∈ X.B, ∀ q ∈ X.B, p.b ≠ q.b → l.getD p.b false = true → l.getD q.b false = true → vs p.b ≠ vs q.b
  dep : ∀ j k, waitsB md ops j k = true → l.getD j false = true → l.getD k false = true
  start : ∀ i, l0.getD i false = true → l.getD i false = true
  below : Below base.heap.size base w
/-- What is asked of the tables, to be looked up. -/
def tabB (md : Region.Mode) (ops : Array Oper) (B : List BoxE) (RL : List RowE) : Bool :=
  RL.all (fun r => r.2.1.all (fun k => waitsB md ops r.1 k) && B.all fun q => decide (r.1 ≠ q.b) && decide (r.1 ≠ q.s)) &&
  B.all (fun p => waitsB md ops p.s p.b && decide (p.b < ops.size) && decide (p.s < ops.size) && p.rv.all (fun k => waitsB md ops p.s k && decide (k < ops.size)) && B.all fun q => decide (p.b ≠ q.s)) &&
  decide (B.map BoxE.b).Nodup && decide (B.map BoxE.s).Nodup
structure BoxOk (RL : List RowE) (B : List BoxE) (md : Region.Mode) (ops : Array Oper) : Prop where
  tab : tabB md ops B RL = true
  hR : ∀ r ∈ RL, ∀ i v vs, i ≠ r.1 → i ∉ r.2.1 → r.2.2 (upd vs i v) = r.2.2 vs
  hV : ∀ p ∈ B, ∀ i v vs, i ∉ p.rv → p.V (upd vs i v) = p.V vs
theorem find_mem {RL : List RowE} {j : Nat} {r : RowE} (h : RL.find? (fun r => r.1 == j) = some r) : r ∈ RL ∧ r.1 = j := ⟨List.mem_of_find?_eq_some h, by simpa using List.find?_some h⟩
theorem inj_nodup {α : Type} (f : α → Nat) : ∀ {l : List α}, (l.map f).Nodup → ∀ {p q}, p ∈ l → q ∈ l → f p = f q → p = q
  | [], _, _, _, hp, _, _ => by cases hp
  | x :: l, h, p, q, hp, hq, he => by
    rw [List.map_cons, List.nodup_cons] at h
    rcases List.mem_cons.1 hp with e1 | hp' <;> rcases List.mem_cons.1 hq with e2 | hq'
    · rw [e1, e2]
    · exact absurd (List.mem_map.2 ⟨q, hq', (he.symm.trans (by rw [e1]))⟩) h.1
    · exact absurd (List.mem_map.2 ⟨p, hp', (he.trans (by rw [e2]))⟩) h.1
    · exact inj_nodup f h.2 hp' hq' he

section
variable {P : Program} {ops : Array Oper} {Q : Exit → Act → World → Prop} {md : Region.Mode} {S : World → Prop} {X : BoxP} {base : World} {l0 l : Array Bool} {vs : Nat → Value} {w w' : World}
theorem getD_up {l : Array Bool} {i j : Nat} (h : l.getD j false = true) : (l.setIfInBounds i true).getD j false = true := by
  rcases Nat.decEq i j with hij | rfl
  · rw [getD_set_ne false hij]; exact h
  · by_cases hi : i < l.size
    · simp [hi]
    · rw [Array.setIfInBounds_eq_of_size_le (by omega)]; exact h
theorem getD_down {l : Array Bool} {i j : Nat} (hij : j ≠ i) (h : (l.setIfInBounds i true).getD j false = true) : l.getD j false = true := by
  rwa [getD_set_ne false (Ne.symm hij)] at h
theorem BoxOk.pair (hX : BoxOk X.RL X.B md ops) {p q : BoxE} (hp : p ∈ X.B) (hq : q ∈ X.B) : p.b ≠ q.s ∧ (p.b = q.b → p = q) ∧ (p.s = q.s → p = q) := by
  have h := hX.tab
  simp only [tabB, Bool.and_eq_true, List.all_eq_true, decide_eq_true_eq] at h
  obtain ⟨⟨⟨-, h2⟩, h3⟩, h4⟩ := h
  exact ⟨(h2 p hp).2 q hq, inj_nodup BoxE.b h3 hp hq, inj_nodup BoxE.s h4 hp hq⟩
theorem BoxOk.waits (hX : BoxOk X.RL X.B md ops) {p : BoxE} (hp : p ∈ X.B) : waitsB md ops p.s p.b = true ∧ p.b < ops.size ∧ p.s < ops.size ∧ ∀ k ∈ p.rv, waitsB md ops p.s k = true ∧ k < ops.size := by
  have h := hX.tab
  simp only [tabB, Bool.and_eq_true, List.all_eq_true, decide_eq_true_eq] at h
  obtain ⟨⟨⟨-, h2⟩, -⟩, -⟩ := h
  obtain ⟨⟨⟨⟨h1, h2⟩, h3⟩, h4⟩, -⟩ := h2 p hp
  exact ⟨h1, h2, h3, h4⟩
theorem BoxOk.reads (hX : BoxOk X.RL X.B md ops) {r : RowE} (hr : r ∈ X.RL) {k : Nat} (hk : k ∈ r.2.1) : waitsB md ops r.1 k = true := by
  have h := hX.tab
  simp only [tabB, Bool.and_eq_true, List.all_eq_true, decide_eq_true_eq] at h
  obtain ⟨⟨⟨h1, -⟩, -⟩, -⟩ := h
  exact (h1 r hr).1 k hk
theorem BoxOk.triv (hX : BoxOk X.RL X.B md ops) {p : BoxE} (hp : p ∈ X.B) {j : Nat} (hj : j = p.b ∨ j = p.s) (vs : Nat → Value) (ok : Nat → Prop) (w : World) : (X.R j vs).K ok w := by
  unfold BoxP.R rowR
  cases hf : X.RL.find? (fun r => r.1 == j) with
  | none => exact trivial
  | some r =>
    exfalso
    obtain ⟨hr, he⟩ := find_mem hf
    have h := hX.tab
    simp only [tabB, Bool.and_eq_true, List.all_eq_true, decide_eq_true_eq] at h
    obtain ⟨⟨⟨h1, -⟩, -⟩, -⟩ := h
    have h2 := (h1 r hr).2 p hp
    rcases hj with rfl | rfl
    · exact h2.1 he
    · exact h2.2 he
theorem waits_of {i : Nat} {o : Oper} (ho : ops[i]? = some o) (hall : ∀ e ∈ o.after, Region.binds md e = true → l.getD e.on false = true) {k : Nat} (h : waitsB md ops i k = true) : l.getD k false = true := by
  unfold waitsB at h
  rw [ho] at h
  obtain ⟨e, he, hx⟩ := Array.any_eq_true'.1 h
  rw [Bool.and_eq_true, beq_iff_eq] at hx
  exact hx.2 ▸ hall e he hx.1

/-- What has come up is told as before, whatever comes up now. -/
theorem BoxI.rest (hX : BoxOk X.RL X.B md ops) (_hl : l.size = ops.size) (h : BoxI X md ops base l0 l vs w) {i : Nat} (h1 : l.getD i true = false) (v : Value) {j : Nat} (hj : l.getD j false = true) : X.R j (upd vs i v) = X.R j vs := by
  have hil : l.getD i false ≠ true := fun e => by
    rcases Nat.lt_or_ge i l.size with hh | hh
    · rw [getD_eq hh false true, h1] at e; cases e
    · rw [Array.getD_eq_getD_getElem?, Array.getElem?_eq_none hh] at e; cases e
  unfold BoxP.R rowR
  cases hf : X.RL.find? (fun r => r.1 == j) with
  | none => rfl
  | some r =>
    obtain ⟨hr, he⟩ := find_mem hf
    exact hX.hR r hr i v vs (fun e => hil (by rw [e, he]; exact hj)) fun hk => hil (h.dep r.1 i (hX.reads hr hk) (he ▸ hj))
theorem BoxI.restV (hX : BoxOk X.RL X.B md ops) (hl : l.size = ops.size) (h : BoxI X md ops base l0 l vs w) {i : Nat} (h1 : l.getD i true = false) (v : Value) {p : BoxE} (hp : p ∈ X.B) (hj : l.getD p.s false = true) : p.V (upd vs i v) = p.V vs := by
  refine hX.hV p hp i v vs fun hk => ?_
  have h2 := h.dep _ _ ((hX.waits hp).2.2.2 i hk).1 hj
  rw [getD_eq (by have := ((hX.waits hp).2.2.2 i hk).2; omega) false true, h1] at h2
  cases h2
/-- An operation that makes no variable and stores in none. -/
theorem BoxI.plain (hX : BoxOk X.RL X.B md ops) (hl : l.size = ops.size) (h : BoxI X md ops base l0 l vs w) {i : Nat} {o : Oper} (ho : ops[i]? = some o) (h1 : l.getD i true = false) (hall : ∀ e ∈ o.after, Region.binds md e = true → l.getD e.on false = true)
    (hi : X.B.all (fun p => decide (p.b ≠ i) && decide (p.s ≠ i)) = true) (hb : Below w.heap.size w w') (v : Value) (hr : (X.R i (upd vs i v)).K (fun k => okB X.B l vs k ∨ w.heap.size ≤ k) w') : BoxI X md ops base l0 (l.setIfInBounds i true) (upd vs i v) w' := by
  have hil : i < l.size := by have := (Array.getElem?_eq_some_iff.1 ho).1; omega
  have hne : ∀ p ∈ X.B, p.b ≠ i ∧ p.s ≠ i := fun p hp => by simpa using List.all_eq_true.1 hi p hp
  have hok : ∀ k, okB X.B l vs k → okB X.B (l.setIfInBounds i true) (upd vs i v) k := fun k hk p hp hu => by
    rw [upd_ne (hne p hp).1]; exact hk p hp (getD_down (hne p hp).1 hu)
  have hnew : ∀ k, w.heap.size ≤ k → okB X.B l vs k := fun k hk p hp hu e => by
    obtain ⟨g, hg, -, hh⟩ := h.box p hp hu
    rw [hg] at e
    cases e
    have := (Array.getElem?_eq_some_iff.1 hh).1
    omega
  refine ⟨fun j hj => ?_, fun p hp hu => ?_, fun p hp q hq hpq hu hv => ?_, fun j k hw hj => ?_, fun j hj => getD_up (h.start j hj), h.below.trans (hb.mono h.below.size)⟩
  · rcases Nat.decEq j i with hji | rfl
    · have hj' := getD_down hji hj
      rw [h.rest hX hl h1 v hj']
      exact (X.R j vs).mono hok ((X.R j vs).fr (Fr.of_below hb) (h.r j hj'))
    · exact FP.mono _ (fun k hk => hk.elim (hok k) fun hk => hok k (hnew k hk)) hr
  · obtain ⟨g, hg, hgb, hh⟩ := h.box p hp (getD_down (hne p hp).1 hu)
    refine ⟨g, (upd_ne (hne p hp).1).trans hg, hgb, ((hb.block g (Array.getElem?_eq_some_iff.1 hh).1).trans hh).trans ?_⟩
    rw [getD_set_ne false (Ne.symm (hne p hp).2)]
    by_cases hs : l.getD p.s false = true
    · rw [if_pos hs, if_pos hs, h.restV hX hl h1 v hp hs]
    · rw [if_neg hs, if_neg hs]
  · rw [upd_ne (hne p hp).1, upd_ne (hne q hq).1]
    exact h.apart p hp q hq hpq (getD_down (hne p hp).1 hu) (getD_down (hne q hq).1 hv)
  · rcases Nat.decEq j i with hji | rfl
    · exact getD_up (h.dep j k hw (getD_down hji hj))
    · exact getD_up (waits_of ho hall hw)
/-- A variable is made. -/
theorem BoxI.made (hX : BoxOk X.RL X.B md ops) (hl : l.size = ops.size) (h : BoxI X md ops base l0 l vs w) {b : BoxE} (hb : b ∈ X.B) {o : Oper} (ho : ops[b.b]? = some o) (h1 : l.getD b.b true = false) (hall : ∀ e ∈ o.after, Region.binds md e = true → l.getD e.on false = true) :
    BoxI X md ops base l0 (l.setIfInBounds b.b true) (upd vs b.b (.pointer (some ⟨w.heap.size, 0, none⟩))) (w.alloc (.cells (b.Z) b.T)) := by
  have hil : b.b < l.size := by have := (Array.getElem?_eq_some_iff.1 ho).1; omega
  have hbw : Below w.heap.size w (w.alloc (.cells (b.Z) b.T)) := (Below.refl _ _).alloc (Nat.le_refl _) _
  have hok : ∀ k, okB X.B l vs k ∧ k < w.heap.size → okB X.B (l.setIfInBounds b.b true) (upd vs b.b (.pointer (some ⟨w.heap.size, 0, none⟩))) k := fun k hk p hp hu => by
    rcases Nat.decEq p.b b.b with hpb | hpb
    · rw [upd_ne hpb]; exact hk.1 p hp (getD_down hpb hu)
    · rw [hpb, upd_same]; intro e; cases e; have := hk.2; omega
  have hst : l.getD b.s false ≠ true := fun e => by
    have := h.dep _ _ (hX.waits hb).1 e
    rw [getD_eq hil false true, h1] at this
    cases this
  refine ⟨fun j hj => ?_, fun p hp hu => ?_, fun p hp q hq hpq hu hv => ?_, fun j k hw hj => ?_, fun j hj => getD_up (h.start j hj), h.below.trans (hbw.mono h.below.size)⟩
  · rcases Nat.decEq j b.b with hji | rfl
    · have hj' := getD_down hji hj
      rw [h.rest hX hl h1 _ hj']
      exact (X.R j vs).mono hok ((X.R j vs).fr (Fr.of_below hbw) ((X.R j vs).old (h.r j hj')))
    · exact hX.triv hb (.inl rfl) _ _ _
  · rcases Nat.decEq p.b b.b with hpb | hpb
    · obtain ⟨g, hg, hgb, hh⟩ := h.box p hp (getD_down hpb hu)
      refine ⟨g, (upd_ne hpb).trans hg, hgb, ((hbw.block g (Array.getElem?_eq_some_iff.1 hh).1).trans hh).trans ?_⟩
      rw [getD_set_ne false (hX.pair hb hp).1]
      by_cases hs : l.getD p.s false = true
      · rw [if_pos hs, if_pos hs, h.restV hX hl h1 _ hp hs]
      · rw [if_neg hs, if_neg hs]
    · obtain rfl : p = b := (hX.pair hp hb).2.1 hpb
      refine ⟨w.heap.size, by rw [upd_same], h.below.size, ?_⟩
      rw [getD_set_ne false (hX.pair hb hb).1, if_neg hst]
      exact heap_alloc_new w _
  · rcases Nat.decEq p.b b.b with hpb | hpb <;> rcases Nat.decEq q.b b.b with hqb | hqb
    · rw [upd_ne hpb, upd_ne hqb]
      exact h.apart p hp q hq hpq (getD_down hpb hu) (getD_down hqb hv)
    · rw [upd_ne hpb, hqb, upd_same]
      intro e
      obtain ⟨g, hg, -, hh⟩ := h.box p hp (getD_down hpb hu)
      rw [hg] at e
      cases e
      have := (Array.getElem?_eq_some_iff.1 hh).1
      omega
    · rw [upd_ne hqb, hpb, upd_same]
      intro e
      obtain ⟨g, hg, -, hh⟩ := h.box q hq (getD_down hqb hv)
      rw [hg] at e
      cases e
      have := (Array.getElem?_eq_some_iff.1 hh).1
      omega
    · exact absurd (hpb.trans hqb.symm) hpq
  · rcases Nat.decEq j b.b with hji | rfl
    · exact getD_up (h.dep j k hw (getD_down hji hj))
    · exact getD_up (waits_of ho hall hw)
/-- A variable is stored in. -/
theorem BoxI.stored (hX : BoxOk X.RL X.B md ops) (hl : l.size = ops.size) (h : BoxI X md ops base l0 l vs w) {b : BoxE} (hb : b ∈ X.B) {o : Oper} (ho : ops[b.s]? = some o) (h1 : l.getD b.s true = false) (hall : ∀ e ∈ o.after, Region.binds md e = true → l.getD e.on false = true) {g : Nat} (hg : vs b.b = .pointer (some ⟨g, 0, none⟩)) (v : Value) :
    BoxI X md ops base l0 (l.setIfInBounds b.s true) (upd vs b.s v) (w.setRow g (b.V vs)) := by
  have hil : b.s < l.size := by have := (Array.getElem?_eq_some_iff.1 ho).1; omega
  have hup : l.getD b.b false = true := waits_of ho hall (hX.waits hb).1
  obtain ⟨g', hg', hgb, hh⟩ := h.box b hb hup
  rw [hg] at hg'
  cases hg'
  have hgl := (Array.getElem?_eq_some_iff.1 hh).1
  have hne1 : ∀ p ∈ X.B, p.b ≠ b.s := fun p hp => (hX.pair hp hb).1
  have hok : ∀ k, okB X.B l vs k → okB X.B (l.setIfInBounds b.s true) (upd vs b.s v) k := fun k hk p hp hu => by
    rw [upd_ne (hne1 p hp)]; exact hk p hp (getD_down (hne1 p hp) hu)
  have hfr : Fr (okB X.B l vs) w (w.setRow g (b.V vs)) := ⟨by simp, fun k hk _ => heap_setRow_ne _ _ _ _ fun e => hk b hb hup (by rw [hg, e])⟩
  refine ⟨fun j hj => ?_, fun p hp hu => ?_, fun p hp q hq hpq hu hv => ?_, fun j k hw hj => ?_, fun j hj => getD_up (h.start j hj), below_setRow h.below hgb _⟩
  · rcases Nat.decEq j b.s with hji | rfl
    · have hj' := getD_down hji hj
      rw [h.rest hX hl h1 v hj']
      exact (X.R j vs).mono hok ((X.R j vs).fr hfr (h.r j hj'))
    · exact hX.triv hb (.inr rfl) _ _ _
  · have hu' := getD_down (hne1 p hp) hu
    obtain ⟨g2, hg2, hgb2, hh2⟩ := h.box p hp hu'
    refine ⟨g2, (upd_ne (hne1 p hp)).trans hg2, hgb2, ?_⟩
    rcases Nat.decEq p.b b.b with hpb | hpb
    · have hgg : g2 ≠ g := fun e => h.apart p hp b hb hpb hu' hup (by rw [hg2, hg, e])
      rw [heap_setRow_ne _ _ _ _ hgg, hh2, getD_set_ne false (Ne.symm fun e => hpb (congrArg BoxE.b ((hX.pair hp hb).2.2 e)))]
      by_cases hs : l.getD p.s false = true
      · rw [if_pos hs, if_pos hs, h.restV hX hl h1 v hp hs]
      · rw [if_neg hs, if_neg hs]
    · obtain rfl : p = b := (hX.pair hp hb).2.1 hpb
      have hgg : g2 = g := by
        rw [hg] at hg2
        cases hg2
        rfl
      have h5 : p.V (upd vs p.s v) = p.V vs := by
        refine hX.hV p hb p.s v vs fun hk => ?_
        have := waits_of ho hall ((hX.waits hb).2.2.2 _ hk).1
        rw [getD_eq hil false true, h1] at this
        cases this
      subst hgg
      rw [if_pos (by simp [hil]), h5]
      exact setRow_heap _ _ _ _ _ _ hh
  · rw [upd_ne (hne1 p hp), upd_ne (hne1 q hq)]
    exact h.apart p hp q hq hpq (getD_down (hne1 p hp) hu) (getD_down (hne1 q hq) hv)
  · rcases Nat.decEq j b.s with hji | rfl
    · exact getD_up (h.dep j k hw (getD_down hji hj))
    · exact getD_up (waits_of ho hall hw)

/-- One operation, whatever came up ahead of it. -/
def StepB (P : Program) (Q : Exit → Act → World → Prop) (X : BoxP) (md : Region.Mode) (ops : Array Oper) (base : World) (l0 : Array Bool) (i : Nat) : Prop :=
  ∀ (l : Array Bool) (o : Oper) (vs : Nat → Value) (w : World), l.size = ops.size → ops[i]? = some o → l.getD i true = false → (∀ e ∈ o.after, Region.binds md e = true → l.getD e.on false = true) → (∀ k, waitsB md ops i k = true → l.getD k false = true) → BoxI X md ops base l0 l vs w →
    wpOp P ops Q i (fun a' w' => ∃ vs', a' = X.A vs' ∧ BoxI X md ops base l0 (l.setIfInBounds i true) vs' w') (X.A vs) w
theorem boxes_ (_hX : BoxOk X.RL X.B md ops) (hlow : lowB md ops = true) (fuel : Nat) {a : Act} (vs0 : Nat → Value) (ha : a = X.A vs0) (hl : l0.size = ops.size) (hc : decide (l0.toList.count false ≤ fuel) = true) (h0 : BoxI X md ops base l0 l0 vs0 w) (hS : ∀ w, Below base.heap.size base w → S w)
    (steps : ∀ i ∈ (List.range ops.size).filter (fun i => !(l0.getD i true)), StepB P Q X md ops base l0 i) (fin : ∀ vs w, BoxI X md ops base l0 (Array.replicate ops.size true) vs w → Q .normal (X.A vs) w) : wpAnyH P md ops Q S fuel l0 a w := by
  refine wpAnyH_inv hlow (fun l a w => ∃ vs, a = X.A vs ∧ BoxI X md ops base l0 l vs w) (fun l a w ⟨vs, _, h⟩ => hS w h.below) ?_ ?_ fuel l0 a w hl (by simpa using hc) ⟨vs0, ha, h0⟩
  · rintro l i o a w hl' ho h1 hall ⟨vs, rfl, h⟩
    have hi : i < ops.size := (Array.getElem?_eq_some_iff.1 ho).1
    refine steps i (List.mem_filter.2 ⟨List.mem_range.2 hi, ?_⟩) l o vs w hl' ho h1 hall (fun k hk => waits_of ho hall hk) h
    cases h2 : l0.getD i true with
    | false => rfl
    | true =>
      exfalso
      have := h.start i (by rw [getD_eq (by omega) false true]; exact h2)
      rw [getD_eq (by omega) false true, h1] at this
      cases this
  · rintro l a w hl' hall ⟨vs, rfl, h⟩
    have he : l = Array.replicate ops.size true := by
      refine Array.ext (by simpa using hl') fun i hi _ => ?_
      have := hall i (by omega)
      simpa [hi] using this
    subst he
    exact fin vs w h
theorem stepB_made (hX : BoxOk X.RL X.B md ops) (b : BoxE) (hb : b ∈ X.B) (hx : ∀ o, ops[b.b]? = some o → ∀ vs w, Region.wanted o (yielded ops (X.A vs).tmps) = true ∧ (execOp (X.A vs).eval o).run P w = .ok (.value (.pointer (some ⟨w.heap.size, 0, none⟩))) (w.alloc (.cells (b.Z) b.T)) ∧ ∀ v, (X.A vs).put o.dst v = X.A (upd vs b.b v)) : StepB P Q X md ops base l0 b.b := by
  intro l o vs w hl ho h1 hall _ h
  obtain ⟨hw, hx, hp⟩ := hx o ho vs w
  exact wpOp_value ho hw _ _ hx ⟨_, hp _, h.made hX hl hb ho h1 hall⟩
end
end Go.Proofs.YtcohdfkdhdhegaaGreatDoor
namespace Go.Proofs.YtcohdfkdhdhegaaGreatDoor
open Go.RowKit

/-- A frame into which operations' values are put. -/
def putL (a : Act) (vs : Nat → Value) : List (Tmp × Nat) → Act
  | [] => a
  | (t, i) :: r => (putL a vs r).put (some t) (vs i)
def putB (L : List (Tmp × Nat)) : Bool := decide (L.map Prod.fst).Nodup && decide (L.map Prod.snd).Nodup
def putOk (L : List (Tmp × Nat)) (o : Oper) (i : Nat) : Bool := match o.dst with | some t => L.contains (t, i) | none => !((L.map Prod.snd).contains i)
theorem putL_other (a : Act) (vs : Nat → Value) (i : Nat) (v : Value) : ∀ L : List (Tmp × Nat), i ∉ L.map Prod.snd → putL a (upd vs i v) L = putL a vs L
  | [], _ => rfl
  | (t, j) :: r, h => by
    rw [List.map_cons, List.mem_cons, not_or] at h
    show (putL a (upd vs i v) r).put (some t) (upd vs i v j) = _
    rw [putL_other a vs i v r h.2, upd_ne (Ne.symm h.1)]
    rfl
theorem put_put (a : Act) (t : Tmp) (v u : Value) : (a.put (some t) v).put (some t) u = a.put (some t) u := by
  simp only [Act.put, Array.setIfInBounds_setIfInBounds]
theorem putL_put (a : Act) (vs : Nat → Value) (t : Tmp) (i : Nat) (v : Value) : ∀ L : List (Tmp × Nat), (L.map Prod.fst).Nodup → (L.map Prod.snd).Nodup → (t, i) ∈ L → (putL a vs L).put (some t) v = putL a (upd vs i v) L
  | [], _, _, h => by cases h
  | (t', j) :: r, h1, h2, hm => by
    rw [List.map_cons, List.nodup_cons] at h1 h2
    show ((putL a vs r).put (some t') (vs j)).put (some t) v = (putL a (upd vs i v) r).put (some t') (upd vs i v j)
    rcases List.mem_cons.1 hm with he | hm
    · cases he
      rw [put_put, upd_same, putL_other a vs i v r h2.1]
    · have hne : t' ≠ t := fun e => h1.1 (List.mem_map.2 ⟨_, hm, e.symm⟩)
      have hni : j ≠ i := fun e => h2.1 (List.mem_map.2 ⟨_, hm, e.symm⟩)
      rw [Act.put_comm _ _ _ (fun d hd he => hne (by cases hd; cases he; rfl)), putL_put a vs t i v r h1.2 h2.2 hm, upd_ne hni]
def mkX (a : Act) (L : List (Tmp × Nat)) (RL : List RowE) (B : List BoxE) : BoxP := ⟨fun vs => putL a vs L, RL, B⟩
theorem put_A {a : Act} {L : List (Tmp × Nat)} (hL : putB L = true) {o : Oper} {i : Nat} (hi : putOk L o i = true) (vs : Nat → Value) (v : Value) : (putL a vs L).put o.dst v = putL a (upd vs i v) L := by
  simp only [putB, Bool.and_eq_true, decide_eq_true_eq] at hL
  unfold putOk at hi
  cases hd : o.dst with
  | none =>
    rw [hd] at hi
    have : i ∉ L.map Prod.snd := by simpa using hi
    rw [putL_other a vs i v L this]
    rfl
  | some t =>
    rw [hd] at hi
    exact putL_put a vs t i v L hL.1 hL.2 (by simpa using hi)
def vsOf (a : Act) (L : List (Tmp × Nat)) (i : Nat) : Value := match L.find? (fun p => p.2 == i) with | some p => a.tmps.getD p.1 undef | none => undef
theorem put_back (a : Act) (t : Tmp) : a.put (some t) (a.tmps.getD t undef) = a := by
  have h : a.tmps.setIfInBounds t (a.tmps.getD t undef) = a.tmps := by
    refine Array.ext (by simp) fun i h1 h2 => ?_
    rw [Array.getElem_setIfInBounds]
    split
    · rename_i e; subst e; simp [h2]
    · rfl
  show ({ a with tmps := _ } : Act) = a
  rw [h]
theorem putL_back (a : Act) (vs : Nat → Value) : ∀ L : List (Tmp × Nat), (∀ p ∈ L, vs p.2 = a.tmps.getD p.1 undef) → putL a vs L = a
  | [], _ => rfl
  | (t, i) :: r, h => by
    show (putL a vs r).put (some t) (vs i) = a
    rw [putL_back a vs r fun p hp => h p (List.mem_cons_of_mem _ hp), h (t, i) List.mem_cons_self]
    exact put_back a t
theorem putL_vsOf (a : Act) {L : List (Tmp × Nat)} (hL : putB L = true) : a = putL a (vsOf a L) L := by
  simp only [putB, Bool.and_eq_true, decide_eq_true_eq] at hL
  refine (putL_back a _ L fun p hp => ?_).symm
  unfold vsOf
  cases hf : L.find? (fun q => q.2 == p.2) with
  | none =>
    have := List.find?_eq_none.1 hf p hp
    simp at this
  | some q =>
    have h1 := List.mem_of_find?_eq_some hf
    have h2 : q.2 = p.2 := by simpa using List.find?_some hf
    rw [inj_nodup Prod.snd hL.2 h1 hp h2]
def startB (md : Region.Mode) (ops : Array Oper) (l0 : Array Bool) (RL : List RowE) (B : List BoxE) : Bool :=
  (List.range ops.size).all (fun j => !(l0.getD j false) || (List.range ops.size).all fun k => !(waitsB md ops j k) || l0.getD k false) && RL.all (fun r => !(l0.getD r.1 false)) && B.all (fun b => !(l0.getD b.b false)) && lowB md ops

section
variable {P : Program} {ops : Array Oper} {Q : Exit → Act → World → Prop} {md : Region.Mode} {S : World → Prop} {l0 : Array Bool} {w : World} {L : List (Tmp × Nat)} {RL : List RowE} {B : List BoxE} {a : Act} {base : World}
theorem waitsB_lt {j k : Nat} (h : waitsB md ops j k = true) : j < ops.size := by
  unfold waitsB at h
  split at h
  · rename_i o ho; exact (Array.getElem?_eq_some_iff.1 ho).1
  · cases h
theorem waitsB_lt2 (hlow : lowB md ops = true) {j k : Nat} (h : waitsB md ops j k = true) : k < ops.size := by
  have hj := waitsB_lt h
  unfold waitsB at h
  split at h
  · rename_i o ho
    obtain ⟨e, he, hx⟩ := Array.any_eq_true'.1 h
    rw [Bool.and_eq_true, beq_iff_eq] at hx
    have := lowB_spec hlow ho he hx.1
    omega
  · cases h
theorem boxes2_ (L : List (Tmp × Nat)) (RL : List RowE) (B : List BoxE) (base : World) (fuel : Nat) (hX : BoxOk RL B md ops) (hL : putB L = true) (hl : l0.size = ops.size) (hc : decide (l0.toList.count false ≤ fuel) = true) (hst : startB md ops l0 RL B = true) (hb : Below base.heap.size base w) (hS : ∀ w, Below base.heap.size base w → S w)
    (steps : BoxOk RL B md ops → ∀ i ∈ (List.range ops.size).filter (fun i => !(l0.getD i true)), StepB P Q (mkX a L RL B) md ops base l0 i) (fin : ∀ vs w, BoxI (mkX a L RL B) md ops base l0 (Array.replicate ops.size true) vs w → Q .normal (putL a vs L) w) : wpAnyH P md ops Q S fuel l0 a w := by
  simp only [startB, Bool.and_eq_true, List.all_eq_true, List.mem_range, Bool.or_eq_true, Bool.not_eq_true'] at hst
  obtain ⟨⟨⟨h1, h2⟩, h3⟩, h4⟩ := hst
  refine boxes_ (X := mkX a L RL B) hX h4 fuel (vsOf a L) (putL_vsOf a hL) hl hc ⟨fun i hi => ?_, fun p hp hu => ?_, fun p hp q hq _ hu _ => ?_, fun j k hw hj => ?_, fun i hi => hi, hb⟩ hS (steps hX) fin
  · unfold BoxP.R rowR
    cases hf : (mkX a L RL B).RL.find? (fun r => r.1 == i) with
    | none => exact trivial
    | some r =>
      obtain ⟨hr, he⟩ := find_mem hf
      have := h2 r hr
      rw [he, hi] at this
      cases this
  · have := h3 p hp
    rw [hu] at this
    cases this
  · have := h3 p hp
    rw [hu] at this
    cases this
  · rcases h1 j (waitsB_lt hw) with h5 | h5
    · rw [hj] at h5; cases h5
    · rcases h5 k (waitsB_lt2 h4 hw) with h6 | h6
      · rw [hw] at h6; cases h6
      · exact h6
theorem okB_low {X : BoxP} {l : Array Bool} {vs : Nat → Value} (h : BoxI X md ops base l0 l vs w) {k : Nat} (hk : k < base.heap.size) : okB X.B l vs k := fun p hp hu e => by
  obtain ⟨g, hg, hb, -⟩ := h.box p hp hu
  rw [hg] at e
  cases e
  omega
theorem wanted_plain {o : Oper} (hg : o.guard = none) (y : Nat → Option Bool) : Region.wanted o y = true := by unfold Region.wanted; rw [hg]
/-- A variable is made. -/
theorem stepB_alloc (i : Nat) (b : BoxE) {o : Oper} (ho : ops[i]? = some o) (hX : BoxOk RL B md ops) (hL : putB L = true) (hp : putOk L o i = true) (hb : b ∈ B) (hbi : b.b = i) (hg : o.guard = none)
    (hx : ∀ (a : Act) (w : World), (execOp a.eval o).run P w = .ok (.value (.pointer (some ⟨w.heap.size, 0, none⟩))) (w.alloc (.cells b.Z b.T))) : StepB P Q (mkX a L RL B) md ops base l0 i := by
  subst hbi
  refine stepB_made (X := mkX a L RL B) hX b hb fun o' ho' vs w => ?_
  obtain rfl : o = o' := Option.some.inj (ho.symm.trans ho')
  exact ⟨wanted_plain hg _, hx _ w, fun v => put_A hL hp vs v⟩
/-- A variable is stored in. -/
theorem stepB_store (i : Nat) (b : BoxE) {o : Oper} (ho : ops[i]? = some o) (hX : BoxOk RL B md ops) (hL : putB L = true) (hp : putOk L o i = true) (hb : b ∈ B) (hbi : b.s = i) (hg : o.guard = none) (_hd : o.dst = none)
    (hx : ∀ (l : Array Bool) (vs : Nat → Value) (w : World) (g : Nat), (∀ k, waitsB md ops i k = true → l.getD k false = true) → BoxI (mkX a L RL B) md ops base l0 l vs w → vs b.b = .pointer (some ⟨g, 0, none⟩) → w.heap[g]? = some (.cells b.Z b.T (0, 0)) → (execOp (putL a vs L).eval o).run P w = .ok .skip (w.setRow g (b.V vs))) : StepB P Q (mkX a L RL B) md ops base l0 i := by
  subst hbi
  intro l o' vs w hl ho' h1 hall hup h
  obtain rfl : o = o' := Option.some.inj (ho.symm.trans ho')
  have hil : b.s < l.size := by have := (Array.getElem?_eq_some_iff.1 ho).1; omega
  obtain ⟨g, hg1, hg2, hg3⟩ := h.box b hb (hup _ (BoxOk.waits (X := mkX a L RL B) hX hb).1)
  have hns : l.getD b.s false ≠ true := fun e => by rw [getD_eq hil false true, h1] at e; cases e
  rw [if_neg hns] at hg3
  refine wpOp_skip ho (wanted_plain hg _) _ (hx l vs w g hup h hg1 hg3) ⟨upd vs b.s undef, put_A hL hp vs undef, ?_⟩
  exact h.stored (X := mkX a L RL B) hX hl hb ho h1 hall hg1 undef
/-- A call. -/
theorem stepB_call (i : Nat) {o : Oper} (ho : ops[i]? = some o) (hX : BoxOk RL B md ops) (hL : putB L = true) (hp : putOk L o i = true) (hi : B.all (fun p => decide (p.b ≠ i) && decide (p.s ≠ i)) = true) (hg : o.guard = none) (f : FuncId) (args : (Nat → Value) → Array Value)
    (hx : ∀ (vs : Nat → Value) (w : World), (execOp (putL a vs L).eval o).run P w = .ok (.enter f (args vs)) w)
    (hc : ∀ (l : Array Bool) (vs : Nat → Value) (w : World), (∀ k, waitsB md ops i k = true → l.getD k false = true) → BoxI (mkX a L RL B) md ops base l0 l vs w → Calls P f (args vs) w fun e w' => ∃ v, e = .returned v ∧ Below w.heap.size w w' ∧ (rowR RL i (upd vs i v)).K (fun k => okB B l vs k ∨ w.heap.size ≤ k) w') : StepB P Q (mkX a L RL B) md ops base l0 i := by
  intro l o' vs w hl ho' h1 hall hup h
  obtain rfl : o = o' := Option.some.inj (ho.symm.trans ho')
  refine wpOp_call ho (wanted_plain hg _) f (args vs) (hx vs w) (hc l vs w hup h) ?_
  rintro e w' ⟨v, rfl, hb, hr⟩
  exact ⟨v, rfl, upd vs i v, put_A hL hp vs v, h.plain (X := mkX a L RL B) hX hl ho h1 hall hi hb v hr⟩
end
/-- A tipset that a call answers. -/
def tipK (G : List Hdr) (x : Value) : FP := FP.ex fun z : Value × List ID => (FP.pure (x = tipV z.1 ∧ TipOf G z.2)).and (FP.tip G z.1 z.2)
theorem tipK_iff {G : List Hdr} {x : Value} {ok : Nat → Prop} {w : World} : (tipK G x).K ok w ↔ ∃ z : Value × List ID, (x = tipV z.1 ∧ TipOf G z.2) ∧ TipIs ok w G z.1 z.2 := Iff.rfl
/-- The cells of a struct. -/
def aggC (x : Value) : Array Value := match x with | .agg a => a | _ => #[]
end Go.Proofs.YtcohdfkdhdhegaaGreatDoor
namespace Go.Proofs.YtcohdfkdhdhegaaGreatDoor
open Go.RowKit Go.Maps

def FP.all (p b1 b2 : Nat) (D : List LB) (L : List LRH) (va : Value) (all : List LNS) : FP := ⟨fun ok w => AllAt ok w p b1 b2 D L va all, fun hf h => h.fr hf, fun h => h.old, fun hk h => h.mono hk⟩
/-- The document's list, as it lies. -/
def FP.lst (vl : Value) (L : List LRH) : FP := ⟨fun ok w => Sl rbE ok w vl L ∧ ∀ y ∈ L, y.At ok w, fun hf h => ⟨h.1.fr hf, fun y hy => Sl.fr (h.2 y hy) hf⟩, fun h => ⟨h.1.old, fun y hy => Sl.old (h.2 y hy)⟩, fun hk h => ⟨h.1.mono hk, fun y hy => Sl.mono (h.2 y hy) hk⟩⟩
structure MadeZ where
  p : Nat
  b1 : Nat
  b2 : Nat
  D : List LB
  L : List LRH
  vl : Value
  va : Value
  all : List LNS
/-- What Made answers. -/
def madeK (x : Value) : FP := FP.ex fun z : MadeZ => (FP.pure (x = .tuple #[.pointer (some ⟨z.p, 0, none⟩), z.vl, z.va])).and ((FP.all z.p z.b1 z.b2 z.D z.L z.va z.all).and (FP.lst z.vl z.L))
theorem madeK_iff {x : Value} {ok : Nat → Prop} {w : World} : (madeK x).K ok w ↔ ∃ z : MadeZ, x = .tuple #[.pointer (some ⟨z.p, 0, none⟩), z.vl, z.va] ∧ AllAt ok w z.p z.b1 z.b2 z.D z.L z.va z.all ∧ Sl rbE ok w z.vl z.L ∧ ∀ y ∈ z.L, y.At ok w := Iff.rfl
theorem made_is (w : World) (t : Value) (l : List LSD) (ok ok' : Nat → Prop) (hl : Sl sdE ok w t l) (hf : ∀ y ∈ l, y.At ok' w ∧ SeedOk y.s) (n : Nat) (hn : n ≤ 100) (ht : Tab w) :
    Calls Tryz.prog 43 #[t, .int .i64 n] w fun e w' => ∃ v, e = .returned v ∧ Below w.heap.size w w' ∧ (madeK v).K (fun k => w.heap.size ≤ k) w' := by
  refine (made_any2 w t l ok ok' hl hf n hn ht).mono ?_
  rintro e w' ⟨p, b1, b2, D, vh, hs, vl, L, va, all, rfl, hm, hL, hva, hall, hp, hal⟩
  exact ⟨_, rfl, hm.below, madeK_iff.2 ⟨⟨p, b1, b2, D, L, vl, va, all⟩, rfl, ⟨hm.dag, hm.fine, hm.both, hva, hall, hp, by show all.length ≤ 1000; omega⟩, hm.list, hm.lat⟩⟩
end Go.Proofs.YtcohdfkdhdhegaaGreatDoor
