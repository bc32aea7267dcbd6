/- A row of one's own: several elements appended, one element set. A row and the same row in another order. -/
import Derived.Test.YthpcedficlhanaaGreatDoorBeside
import Derived.Test.YthpcedficlhanaaGreatDoorMade
namespace Go.Proofs.YthpcedficlhanaaGreatDoor
open Go.RowKit

section
variable {P : Program} {ops : Array Oper} {Q : Exit → Act → World → Prop} {md : Region.Mode} {S : World → Prop} {ds : List Nat}
/-- An operation that leaves a world that is told by what it is good for (a store of a struct into a row). -/
theorem sstepD_ (i : Nat) (l' : Array Bool) {oi : Oper} {fuel : Nat} {l : Array Bool} {a : Act} {w : World} (hi : ops[i]? = some oi) (hN : oi.dst = none) (hc : oneB md ops l l' i = true)
    (hw : Region.wanted oi (yielded ops a.tmps) = true) {R : World → Prop} (hx : ∃ w1, (execOp a.eval oi).run P w = .ok .skip w1 ∧ R w1)
    (h : ∀ w1, R w1 → (i ∉ ds → S w1) ∧ wpD P md ops Q S ds fuel l' a w1) : wpD P md ops Q S ds (fuel + 1) l a w := by
  obtain ⟨w1, hx, hR⟩ := hx
  obtain ⟨hS, hk⟩ := h w1 hR
  exact skD_ i l' hi hN hc hw w1 hx hS hk
end
section
variable {P : Program} {ops : Array Oper} {Q : Exit → Act → World → Prop} {md : Region.Mode} {S : World → Prop} {ds : List Nat}
/-- As wpD_first; of ds those alone count that haven't come up. -/
theorem wpD_first2 {i : Nat} {oi : Oper} {v : Value} (hi : ops[i]? = some oi) (hsel : ∀ (j : Nat) (o : Oper) cs b, ops[j]? = some o → o.op ≠ .select cs b)
    (hQ : ∀ c a w, Q (.panic c) (a.put oi.dst v) w → Q (.panic c) a w) :
    ∀ (n : Nat) (l : Array Bool) (a : Act) (w : World), (∀ d ∈ ds, l.getD d true = true ∨ (d ≠ i ∧ ∀ od, ops[d]? = some od → ∃ e ∈ od.after, Region.binds md e = true ∧ e.on = i)) →
      (∀ j oj, ops[j]? = some oj → j ≠ i → l.getD j true = false → (∀ e ∈ oj.after, Region.binds md e = true → e.on ≠ i) → oi.apart ops oj = true) →
      i ∈ Region.ready md ops l → YieldsIf P ops S oi v a → S w → wpD P md ops Q S ds n (l.setIfInBounds i true) (a.put oi.dst v) w → wpD P md ops Q S ds (n + 1) l a w := by
  intro n
  induction n with
  | zero =>
    intro l a w _ _ hr hy hS H
    refine ⟨fun h => (by rw [h] at hr; cases hr), fun j hj => ?_⟩
    rcases Nat.decEq j i with hji | hji
    · have := ready_mono hj hji
      rw [H.1] at this
      cases this
    · subst hji; exact hy.wpOp hi hS ⟨fun _ => hS, H⟩
  | succ n ih =>
    intro l a w hds hfree hr hy hS H
    refine ⟨fun h => (by rw [h] at hr; cases hr), fun j hj => ?_⟩
    rcases Nat.decEq j i with hji | hji
    · obtain ⟨hjun, oj, hoj, hall⟩ := mem_ready.1 hj
      have hnd : j ∉ ds := fun hd => by
        rcases hds j hd with h0 | h0
        · rw [hjun] at h0; cases h0
        · obtain ⟨e, he, hb, hon⟩ := h0.2 oj hoj
          exact waits_not hr hall he hb hon
      have h2 := wpOp_putIf hoj (hfree j oj hoj hji hjun fun e he hb heq => waits_not hr hall he hb heq) (fun cs b => hsel i oi cs b hi) (fun cs b => hsel j oj cs b hoj) hQ hy (H.2 j (ready_mono hj hji))
      refine wpOp_mono (fun a' w' h3 => ⟨h3.2.1, ih _ a' w' (fun d hd => ?_) (fun k ok hk hki hun hno => ?_) (ready_mono hr (Ne.symm hji)) h3.1 (h3.2.1 hnd) ?_⟩) h2
      · rcases hds d hd with h0 | h0
        · refine .inl ?_
          rcases Nat.decEq j d with hjk | hjk
          · rw [getD_set_ne true hjk]; exact h0
          · subst hjk; rw [hjun] at h0; cases h0
        · exact .inr h0
      · refine hfree k ok hk hki ?_ hno
        rcases Nat.decEq j k with hjk | hjk
        · rw [getD_set_ne true hjk] at hun; exact hun
        · subst hjk; exact hjun
      · rw [Array.setIfInBounds_comm _ _ hji]
        exact h3.2.2
    · subst hji; exact hy.wpOp hi hS ⟨fun _ => hS, H⟩
/-- What yields in whatever world, and behind which nothing need hold. -/
theorem wpD_pure {i : Nat} {oi : Oper} {v : Value} (hi : ops[i]? = some oi) (hsel : ∀ (j : Nat) (o : Oper) cs b, ops[j]? = some o → o.op ≠ .select cs b)
    (hQ : ∀ c a w, Q (.panic c) (a.put oi.dst v) w → Q (.panic c) a w) (hid : i ∈ ds) :
    ∀ (n : Nat) (l : Array Bool) (a : Act) (w : World),
      (∀ j oj, ops[j]? = some oj → j ≠ i → l.getD j true = false → (∀ e ∈ oj.after, Region.binds md e = true → e.on ≠ i) → oi.apart ops oj = true) →
      i ∈ Region.ready md ops l → YieldsIf P ops (fun _ => True) oi v a → wpD P md ops Q S ds n (l.setIfInBounds i true) (a.put oi.dst v) w → wpD P md ops Q S ds (n + 1) l a w := by
  intro n
  induction n with
  | zero =>
    intro l a w _ hr hy H
    refine ⟨fun h => (by rw [h] at hr; cases hr), fun j hj => ?_⟩
    rcases Nat.decEq j i with hji | hji
    · have := ready_mono hj hji
      rw [H.1] at this
      cases this
    · subst hji; exact hy.wpOp hi trivial ⟨fun h => absurd hid h, H⟩
  | succ n ih =>
    intro l a w hfree hr hy H
    refine ⟨fun h => (by rw [h] at hr; cases hr), fun j hj => ?_⟩
    rcases Nat.decEq j i with hji | hji
    · obtain ⟨hjun, oj, hoj, hall⟩ := mem_ready.1 hj
      have h2 := wpOp_putIf hoj (hfree j oj hoj hji hjun fun e he hb heq => waits_not hr hall he hb heq) (fun cs b => hsel i oi cs b hi) (fun cs b => hsel j oj cs b hoj) hQ hy (H.2 j (ready_mono hj hji))
      refine wpOp_mono (fun a' w' h3 => ⟨h3.2.1, ih _ a' w' (fun k ok hk hki hun hno => ?_) (ready_mono hr (Ne.symm hji)) h3.1 ?_⟩) h2
      · refine hfree k ok hk hki ?_ hno
        rcases Nat.decEq j k with hjk | hjk
        · rw [getD_set_ne true hjk] at hun; exact hun
        · subst hjk; exact hjun
      · rw [Array.setIfInBounds_comm _ _ hji]
        exact h3.2.2
    · subst hji; exact hy.wpOp hi trivial ⟨fun h => absurd hid h, H⟩
def lastL (md : Region.Mode) (ops : Array Oper) (l : Array Bool) (ds : List Nat) (i : Nat) : Bool := ds.all fun d => l.getD d true || (decide (d ≠ i) && match ops[d]? with | some od => od.after.any (fun e => Region.binds md e && e.on == i) | none => true)
theorem tk2_ (i : Nat) (N : Option Tmp) (l' : Array Bool) {oi : Oper} {v : Value} {fuel : Nat} {l : Array Bool} {a : Act} {w : World} (hi : ops[i]? = some oi) (hN : oi.dst = N) (hc : (tkB md ops l l' i && lastL md ops l ds i) = true)
    (hQ : ∀ c a w, Q (.panic c) (a.put oi.dst v) w → Q (.panic c) a w) (hy : YieldsIf P ops S oi v a) (hS : S w) {a' : Act} (ha : a.put N v = a')
    (h : wpD P md ops Q S ds fuel l' a' w) : wpD P md ops Q S ds (fuel + 1) l a w := by
  subst ha
  subst hN
  simp only [tkB, Bool.and_eq_true, beq_iff_eq] at hc
  obtain ⟨⟨⟨⟨h1, h2⟩, h3⟩, h4⟩, h5⟩ := hc
  subst h4
  refine wpD_first2 hi (Region.noSelect_spec h1) hQ fuel l a w (fun d hd => ?_) (Region.free_spec hi h2) (by simpa using h3) hy hS h
  have h6 := List.all_eq_true.1 h5 d hd
  rw [Bool.or_eq_true] at h6
  rcases h6 with h6 | h6
  · exact .inl h6
  rw [Bool.and_eq_true, decide_eq_true_eq] at h6
  refine .inr ⟨h6.1, fun od ho => ?_⟩
  have h7 := h6.2
  rw [ho] at h7
  obtain ⟨e, he, hx⟩ := Array.any_eq_true'.1 h7
  rw [Bool.and_eq_true, beq_iff_eq] at hx
  exact ⟨e, he, hx.1, hx.2⟩
theorem pu2_ (i : Nat) (N : Option Tmp) (l' : Array Bool) {oi : Oper} {v : Value} {fuel : Nat} {l : Array Bool} {a : Act} {w : World} (hi : ops[i]? = some oi) (hN : oi.dst = N) (hc : (tkB md ops l l' i && ds.contains i) = true)
    (hQ : ∀ c a w, Q (.panic c) (a.put oi.dst v) w → Q (.panic c) a w) (hy : YieldsIf P ops (fun _ => True) oi v a) {a' : Act} (ha : a.put N v = a')
    (h : wpD P md ops Q S ds fuel l' a' w) : wpD P md ops Q S ds (fuel + 1) l a w := by
  subst ha
  subst hN
  simp only [tkB, Bool.and_eq_true, beq_iff_eq] at hc
  obtain ⟨⟨⟨⟨h1, h2⟩, h3⟩, h4⟩, h5⟩ := hc
  subst h4
  exact wpD_pure hi (Region.noSelect_spec h1) hQ (by simpa using h5) fuel l a w (Region.free_spec hi h2) (by simpa using h3) hy h
end
section
variable {P : Program} {β : Type} {E : Enc β}
/-- 'append(v, xs...)' onto a row of the call's own, xs being cells that are read. -/
theorem exec_appS {o : Oper} {a : Act} {W : World} (base : Nat) (s x : Operand) (t e : TypeId) (z : Value) (size bytes : Nat)
    (ho : o.op = .call { callee := .builtin .append, args := #[s, x], argTypes := #[t, t] })
    (ht : P.underlying t = some (.slice e)) (hinfo : (P.info? e).map (fun i => (i.zero, i.size, i.bytes)) = some (some z, size, bytes)) (hz : z.cells.size = size) (hs0 : 0 < size) (hb0 : 0 < bytes)
    (v : Value) (n : Nat) (xs : List Value) (hs : a.eval s = v) (b off m c : Nat) (hx : a.eval x = .slice (some ⟨b, off, none⟩) m c) (news : List Value) (hlen : news.length = m * size) (hcell : ∀ j u, news[j]? = some u → W.cell? ⟨b, off + j, none⟩ = some u) (h1 : ∀ u ∈ news, u.oneCell' = true)
    (HO : W.ownsRow base e size v n xs) (hbase : base ≤ W.heap.size) (hl : (n + m) * bytes ≤ 140737488355328) :
    ∃ v1 w1, (execOp a.eval o).run P W = .ok (.value v1) w1 ∧ w1.ownsRow base e size v1 (n + m) (xs ++ news) ∧ W.grownBy w1 v.ownBlock ∧ (v1.ownBlock = v.ownBlock ∨ ∃ b, v1.ownBlock = some b ∧ W.heap.size ≤ b) := by
  obtain ⟨i0, hi, hzz⟩ := Option.map_eq_some_iff.1 hinfo
  simp only [Prod.mk.injEq] at hzz
  obtain ⟨hz0, hz1, hz2⟩ := hzz
  have hlen' : n + m ≤ 140737488355328 := Nat.le_trans (Nat.le_mul_of_pos_right _ hb0) hl
  obtain ⟨v1, w1, hr, hown, hg, -, hat⟩ := run_append_own_at (P := P) W base t o.type e i0 z size bytes ht hi hz0 hz1 hz2 hz hs0 v n xs HO ⟨b, off, none⟩ m c news hlen
    (fun j u hu => by rw [add_off]; exact hcell j u hu) h1 (by simp only [maxLen]; omega) hl hbase
  refine ⟨v1, w1, ?_, hown, hg, ?_⟩
  · unfold execOp
    simp only [ho, resolve, invoke, builtin, Sem.run_bind, Sem.run_pure, Result.andThen_ok, List.map_toArray, List.map_cons, List.map_nil, hs, hx, hr]
  · rcases hat with hat | hat
    · exact .inl hat
    · exact .inr ⟨_, hat, Nat.le_refl _⟩
/-- One element of a row of the call's own is set. -/
theorem run_setE (W : World) (base : Nat) (ty T : TypeId) (g n cap m : Nat) (ys : List β) (y : β) (h : W.ownsRow base T E.k (.slice (some ⟨g, 0, none⟩) n cap) n (E.flat ys)) (hm : m < ys.length) (hi : (P.info? ty).map (·.size) = some E.k) :
    ∃ w1, (storeVar ty ⟨g, m * E.k, none⟩ (.agg (E.enc y).toArray)).run P W = .ok () w1 ∧ w1.ownsRow base T E.k (.slice (some ⟨g, 0, none⟩) n cap) n (E.flat (ys.set m y)) ∧ W.grownBy w1 (some g) := by
  have hn : ys.length = n := by
    have h1 := h.1
    rw [E.flat_length] at h1
    exact Nat.eq_of_mul_eq_mul_right E.k0 h1
  obtain ⟨hl, ⟨h0, -⟩ | ⟨g', cap', cur, he, hb, hg, hcap, hmx, hcs, htk⟩⟩ := h
  · cases h0
  injection he with e1 e2 e3
  injection e1 with e1
  injection e1 with e1 _
  subst e1; subst e3
  have hle : m * E.k + E.k ≤ n * E.k := by
    have := Nat.mul_le_mul_right E.k (show m + 1 ≤ n by omega)
    rwa [Nat.add_mul, Nat.one_mul] at this
  have hnc : n * E.k ≤ cap * E.k := Nat.mul_le_mul_right _ hcap
  have hfit : m * E.k + 0 + (E.enc y).length ≤ cur.size := by rw [E.hk, hcs]; omega
  have hr := run_storeCells_at (P := P) g (m * E.k) T (E.enc y) 0 cur W hg hfit (E.one y)
  refine ⟨W.setRow g (cur.toList.take (m * E.k + 0) ++ E.enc y ++ cur.toList.drop (m * E.k + 0 + (E.enc y).length)).toArray, ?_, ⟨by rw [E.flat_length, List.length_set, hn], .inr ⟨g, cap, _, rfl, hb, setRow_heap W g cur _ T _ hg, hcap, hmx, ?_, ?_⟩⟩, ⟨rfl, rfl, rfl, by simp, fun k _ hk => setRow_other W g k _ (fun e => hk (by rw [e]))⟩⟩
  · cases hq : P.info? ty with
    | none => simp [hq] at hi
    | some i =>
      have hs : i.size = E.k := by simpa [hq] using hi
      simpa [storeVar, sizeOf, typeInfo, hq, hs, Value.cells, E.hk] using hr
  · simp only [List.size_toArray, List.length_append, List.length_take, List.length_drop, Array.length_toList, E.hk, Nat.add_zero]
    rw [hcs]
    omega
  · rw [E.flat_set ys m y hm, ← htk]
    simp only [Nat.add_zero, E.hk]
    have hlt : cur.toList.length = cap * E.k := by rw [Array.length_toList, hcs]
    rw [List.take_append, List.take_append, List.take_take, List.take_take, List.drop_take]
    simp only [List.length_append, List.length_take, E.hk, hlt]
    rw [Nat.min_eq_left (show m * E.k ≤ cap * E.k by omega), Nat.min_eq_right (show m * E.k ≤ n * E.k by omega), Nat.min_eq_left (show m * E.k ≤ n * E.k by omega), List.take_of_length_le (show (E.enc y).length ≤ n * E.k - m * E.k by rw [E.hk]; omega), Nat.add_mul, Nat.one_mul]
theorem exec_setE {o : Oper} {a : Act} (W : World) (base : Nat) (ty T : TypeId) (x z : Operand) (ho : o.op = .store ty x z) (g off n cap m : Nat) (hx : a.eval x = .pointer (some ⟨g, off, none⟩)) (hoff : off = m * E.k) (ys : List β) (y : β) (hz : a.eval z = .agg (E.enc y).toArray) (h : W.ownsRow base T E.k (.slice (some ⟨g, 0, none⟩) n cap) n (E.flat ys)) (hm : m < ys.length) (hi : (P.info? ty).map (·.size) = some E.k) :
    ∃ w1, (execOp a.eval o).run P W = .ok .skip w1 ∧ (w1.ownsRow base T E.k (.slice (some ⟨g, 0, none⟩) n cap) n (E.flat (ys.set m y)) ∧ W.grownBy w1 (some g)) := by
  obtain ⟨w1, h1, h2⟩ := run_setE W base ty T g n cap m ys y h hm hi
  subst hoff
  refine ⟨w1, ?_, h2⟩
  unfold execOp
  simp only [ho, hx, hz, Instr.storeAt, Instr.sureAddr, Sem.run_bind, Sem.run_pure, Result.andThen_ok, h1]
end
/-- Two elements trade places. -/
theorem swap_perm {β : Type} (l : List β) (i j : Nat) (x y : β) (hx : l[i]? = some x) (hy : l[j]? = some y) : ((l.set i y).set j x).Perm l := by
  obtain ⟨hi, rfl⟩ := List.getElem?_eq_some_iff.1 hx
  obtain ⟨hj, rfl⟩ := List.getElem?_eq_some_iff.1 hy
  exact List.set_set_perm hi hj
end Go.Proofs.YthpcedficlhanaaGreatDoor
