/- Regions that draw their order: what is read is kept but for the last operations, which may write it. No program in sight. coxswainlaw05.Own. coxswainlaw08.Blocks. coxswainref05.Sort: texts, rising, each once. -/
import Derived.Test.YthpcedficlhanaaGreatDoorGrAL
import Derived.Lib.BufferWrite
namespace Go.Proofs.YthpcedficlhanaaGreatDoor
open Go.RowKit

section
variable {P : Program} {ops : Array Oper} {Q : Exit → Act → World → Prop} {md : Region.Mode} {S : World → Prop} {ds : List Nat}
/-- Whatever comes up: behind it S holds, but behind those of ds. -/
def wpD (P : Program) (md : Region.Mode) (ops : Array Oper) (Q : Exit → Act → World → Prop) (S : World → Prop) (ds : List Nat) : Nat → Array Bool → Act → World → Prop
  | 0, l, a, w => Region.ready md ops l = [] ∧ Q .normal a w
  | n + 1, l, a, w => (Region.ready md ops l = [] → Q .normal a w) ∧ ∀ i ∈ Region.ready md ops l, wpOp P ops Q i (fun a' w' => (i ∉ ds → S w') ∧ wpD P md ops Q S ds n (l.setIfInBounds i true) a' w') a w
theorem wpAny_of_D : ∀ (n : Nat) (l : Array Bool) (a : Act) (w : World), wpD P md ops Q S ds n l a w → wpAny P md ops Q n l a w
  | 0, _, _, _, h => h
  | n + 1, _, _, _, h => ⟨h.1, fun i hi => wpOp_mono (fun a' w' h' => wpAny_of_D n _ a' w' h'.2) (h.2 i hi)⟩
/-- Who waits for an operation that hasn't come up can't come up. -/
theorem waits_not {i : Nat} {l : Array Bool} {oj : Oper} (hi : i ∈ Region.ready md ops l) (hj : ∀ e ∈ oj.after, Region.binds md e = true → l.getD e.on false = true) {e : Edge} (he : e ∈ oj.after) (hb : Region.binds md e = true) (hon : e.on = i) : False := by
  have h1 := hj e he hb
  have h0 := (mem_ready.1 hi).1
  rw [hon] at h1
  rcases Nat.lt_or_ge i l.size with h' | h'
  · simp [h'] at h0 h1; rw [h0] at h1; cases h1
  · simp [Array.getElem?_eq_none h'] at h1
theorem wpD_first {i : Nat} {oi : Oper} {v : Value} (hi : ops[i]? = some oi) (hsel : ∀ (j : Nat) (o : Oper) cs b, ops[j]? = some o → o.op ≠ .select cs b)
    (hQ : ∀ c a w, Q (.panic c) (a.put oi.dst v) w → Q (.panic c) a w)
    (hds : ∀ d ∈ ds, d ≠ i ∧ ∀ od, ops[d]? = some od → ∃ e ∈ od.after, Region.binds md e = true ∧ e.on = i) :
    ∀ (n : Nat) (l : Array Bool) (a : Act) (w : World),
      (∀ j oj, ops[j]? = some oj → j ≠ i → l.getD j true = false → (∀ e ∈ oj.after, Region.binds md e = true → e.on ≠ i) → oi.apart ops oj = true) →
      i ∈ Region.ready md ops l → YieldsIf P ops S oi v a → S w → wpD P md ops Q S ds n (l.setIfInBounds i true) (a.put oi.dst v) w → wpD P md ops Q S ds (n + 1) l a w := by
  intro n
  induction n with
  | zero =>
    intro l a w _ hr hy hS H
    refine ⟨fun h => (by rw [h] at hr; cases hr), fun j hj => ?_⟩
    rcases Nat.decEq j i with hji | hji
    · have := ready_mono hj hji
      rw [H.1] at this
      cases this
    · subst hji; exact hy.wpOp hi hS ⟨fun _ => hS, H⟩
  | succ n ih =>
    intro l a w hfree hr hy hS H
    refine ⟨fun h => (by rw [h] at hr; cases hr), fun j hj => ?_⟩
    rcases Nat.decEq j i with hji | hji
    · obtain ⟨hjun, oj, hoj, hall⟩ := mem_ready.1 hj
      have hnd : j ∉ ds := fun hd => by
        obtain ⟨e, he, hb, hon⟩ := (hds j hd).2 oj hoj
        exact waits_not hr hall he hb hon
      have h2 := wpOp_putIf hoj (hfree j oj hoj hji hjun fun e he hb heq => waits_not hr hall he hb heq) (fun cs b => hsel i oi cs b hi) (fun cs b => hsel j oj cs b hoj) hQ hy (H.2 j (ready_mono hj hji))
      refine wpOp_mono (fun a' w' h3 => ⟨h3.2.1, ih _ a' w' (fun k ok hk hki hun hno => ?_) (ready_mono hr (Ne.symm hji)) h3.1 (h3.2.1 hnd) ?_⟩) h2
      · refine hfree k ok hk hki ?_ hno
        rcases Nat.decEq j k with hjk | hjk
        · rw [getD_set_ne true hjk] at hun; exact hun
        · subst hjk; exact hjun
      · rw [Array.setIfInBounds_comm _ _ hji]
        exact h3.2.2
    · subst hji; exact hy.wpOp hi hS ⟨fun _ => hS, H⟩

theorem stD_ (ds : List Nat) (n : Nat) (l : Array Bool) {id : Nat} {a : Act} {w : World} (hm : P.follows .mixedOrders = true) (hn : ops.size = n) (hl : Array.replicate n false = l) (hS : S w.drew)
    (h : S w.drew → wpD P .any ops Q S ds n l a w.drew) : (Code.region id ops true).wp P Q a w := by
  subst hn
  subst hl
  exact wp_region_any hm (wpAny_of_D _ _ _ _ (h hS))
def lastB (md : Region.Mode) (ops : Array Oper) (ds : List Nat) (i : Nat) : Bool := ds.all fun d => decide (d ≠ i) && match ops[d]? with | some od => od.after.any (fun e => Region.binds md e && e.on == i) | none => true
theorem tkD_ (i : Nat) (N : Option Tmp) (l' : Array Bool) {oi : Oper} {v : Value} {fuel : Nat} {l : Array Bool} {a : Act} {w : World} (hi : ops[i]? = some oi) (hN : oi.dst = N) (hc : (tkB md ops l l' i && lastB md ops ds i) = true)
    (hQ : ∀ c a w, Q (.panic c) (a.put oi.dst v) w → Q (.panic c) a w) (hy : YieldsIf P ops S oi v a) (hS : S w) {a' : Act} (ha : a.put N v = a')
    (h : wpD P md ops Q S ds fuel l' a' w) : wpD P md ops Q S ds (fuel + 1) l a w := by
  subst ha
  subst hN
  simp only [tkB, Bool.and_eq_true, beq_iff_eq] at hc
  obtain ⟨⟨⟨⟨h1, h2⟩, h3⟩, h4⟩, h5⟩ := hc
  subst h4
  refine wpD_first hi (Region.noSelect_spec h1) hQ (fun d hd => ?_) fuel l a w (Region.free_spec hi h2) (by simpa using h3) hy hS h
  have h6 := List.all_eq_true.1 h5 d hd
  rw [Bool.and_eq_true, decide_eq_true_eq] at h6
  refine ⟨h6.1, fun od ho => ?_⟩
  have h7 := h6.2
  rw [ho] at h7
  obtain ⟨e, he, hx⟩ := Array.any_eq_true'.1 h7
  rw [Bool.and_eq_true, beq_iff_eq] at hx
  exact ⟨e, he, hx.1, hx.2⟩
theorem callD_ (i : Nat) (N : Option Tmp) (l' : Array Bool) {oi : Oper} {fuel : Nat} {l : Array Bool} {a : Act} {w : World} (hi : ops[i]? = some oi) (hN : oi.dst = N) (hc : oneB md ops l l' i = true)
    (hw : Region.wanted oi (yielded ops a.tmps) = true) (f : FuncId) (args : Array Value) (hx : (execOp a.eval oi).run P w = .ok (.enter f args) w) {R : Ending → World → Prop} (hcall : Calls P f args w R)
    (hK : ∀ e w', R e w' → ∃ v, e = .returned v ∧ S w' ∧ (S w' → ∃ a', a.put N v = a' ∧ wpD P md ops Q S ds fuel l' a' w')) : wpD P md ops Q S ds (fuel + 1) l a w := by
  subst hN
  simp only [oneB, Bool.and_eq_true, beq_iff_eq, decide_eq_true_eq] at hc
  obtain ⟨h1, h2⟩ := hc
  subst h2
  refine ⟨fun h0 => (by rw [h1] at h0; cases h0), fun j hj => ?_⟩
  rw [h1] at hj
  have : j = i := by simpa using hj
  subst this
  refine wpOp_call hi hw f args hx hcall fun e w' hr => ?_
  obtain ⟨v, he, hS, hk⟩ := hK e w' hr
  obtain ⟨a', ha, hk⟩ := hk hS
  subst ha
  exact ⟨v, he, fun _ => hS, hk⟩
theorem valD_ (i : Nat) (N : Option Tmp) (l' : Array Bool) {oi : Oper} {fuel : Nat} {l : Array Bool} {a : Act} {w : World} (hi : ops[i]? = some oi) (hN : oi.dst = N) (hc : oneB md ops l l' i = true)
    (hw : Region.wanted oi (yielded ops a.tmps) = true) (v : Value) (w1 : World) (hx : (execOp a.eval oi).run P w = .ok (.value v) w1) (hS : i ∉ ds → S w1) {a' : Act} (ha : a.put N v = a')
    (h : wpD P md ops Q S ds fuel l' a' w1) : wpD P md ops Q S ds (fuel + 1) l a w := by
  subst hN
  subst ha
  simp only [oneB, Bool.and_eq_true, beq_iff_eq, decide_eq_true_eq] at hc
  obtain ⟨h1, h2⟩ := hc
  subst h2
  refine ⟨fun h0 => (by rw [h1] at h0; cases h0), fun j hj => ?_⟩
  rw [h1] at hj
  have : j = i := by simpa using hj
  subst this
  exact wpOp_value hi hw v w1 hx ⟨hS, h⟩
/-- An operation that leaves a value and a world that are told by what they are good for (an append). -/
theorem stepD_ (i : Nat) (N : Option Tmp) (l' : Array Bool) {oi : Oper} {fuel : Nat} {l : Array Bool} {a : Act} {w : World} (hi : ops[i]? = some oi) (hN : oi.dst = N) (hc : oneB md ops l l' i = true)
    (hw : Region.wanted oi (yielded ops a.tmps) = true) {R : Value → World → Prop} (hx : ∃ v w1, (execOp a.eval oi).run P w = .ok (.value v) w1 ∧ R v w1)
    (h : ∀ v w1, R v w1 → (i ∉ ds → S w1) ∧ ∃ a', a.put N v = a' ∧ wpD P md ops Q S ds fuel l' a' w1) : wpD P md ops Q S ds (fuel + 1) l a w := by
  obtain ⟨v, w1, hx, hR⟩ := hx
  obtain ⟨hS, a', ha, hk⟩ := h v w1 hR
  exact valD_ i N l' hi hN hc hw v w1 hx hS ha hk
theorem skD_ (i : Nat) (l' : Array Bool) {oi : Oper} {fuel : Nat} {l : Array Bool} {a : Act} {w : World} (hi : ops[i]? = some oi) (hN : oi.dst = none) (hc : oneB md ops l l' i = true)
    (hw : Region.wanted oi (yielded ops a.tmps) = true) (w1 : World) (hx : (execOp a.eval oi).run P w = .ok .skip w1) (hS : i ∉ ds → S w1)
    (h : wpD P md ops Q S ds fuel l' a w1) : wpD P md ops Q S ds (fuel + 1) l a w := by
  simp only [oneB, Bool.and_eq_true, beq_iff_eq, decide_eq_true_eq] at hc
  obtain ⟨h1, h2⟩ := hc
  subst h2
  refine ⟨fun h0 => (by rw [h1] at h0; cases h0), fun j hj => ?_⟩
  rw [h1] at hj
  have : j = i := by simpa using hj
  subst this
  exact wpOp_skip hi hw w1 hx (by rw [hN]; exact ⟨hS, h⟩)
theorem doneD_ {l : Array Bool} {a : Act} {w : World} (hr : Region.ready md ops l = []) (h : Q .normal a w) : ∀ n, wpD P md ops Q S ds n l a w
  | 0 => ⟨hr, h⟩
  | _ + 1 => ⟨fun _ => h, fun i hi => by rw [hr] at hi; cases hi⟩
end

section
variable {P : Program}
/-- 'append(v, x)', x having just been boxed, where orders are drawn. -/
theorem exec_app1 {o : Oper} {a : Act} {W : World} (cs : Array Value) (base : Nat) (s x : Operand) (t e : TypeId) (z : Value) (size bytes : Nat)
    (ho : o.op = .call { callee := .builtin .append, args := #[s, x], argTypes := #[t, t] })
    (ht : P.underlying t = some (.slice e)) (hinfo : (P.info? e).map (fun i => (i.zero, i.size, i.bytes)) = some (some z, size, bytes)) (hz : z.cells.size = size) (hs0 : 0 < size) (hb0 : 0 < bytes)
    (v : Value) (n : Nat) (xs : List Value) (hs : a.eval s = v) (hx : a.eval x = .slice (some ⟨W.heap.size, 0, none⟩) 1 1) (hys : cs.size = size) (h1 : ∀ u ∈ cs.toList, u.oneCell' = true)
    (HO : W.ownsRow base e size v n xs) (hbase : base ≤ W.heap.size) (hl : (n + 1) * bytes ≤ 140737488355328) :
    ∃ v1 w1, (execOp a.eval o).run P (W.alloc (.cells cs e)) = .ok (.value v1) w1 ∧ w1.ownsRow base e size v1 (n + 1) (xs ++ cs.toList) ∧ W.grownBy w1 v.ownBlock ∧ (v1.ownBlock = v.ownBlock ∨ ∃ b, v1.ownBlock = some b ∧ W.heap.size ≤ b) := by
  obtain ⟨i0, hi, hzz⟩ := Option.map_eq_some_iff.1 hinfo
  simp only [Prod.mk.injEq] at hzz
  obtain ⟨hz0, hz1, hz2⟩ := hzz
  have hlen : n + 1 ≤ 140737488355328 := Nat.le_trans (Nat.le_mul_of_pos_right _ hb0) hl
  obtain ⟨v1, w1, hr, hown, hg, -, hat⟩ := run_append_own_at (P := P) (W.alloc (.cells cs e)) base t o.type e i0 z size bytes ht hi hz0 hz1 hz2 hz hs0 v n xs (HO.alloc _) ⟨W.heap.size, 0, none⟩ 1 1 cs.toList (by rw [Array.length_toList, hys]; simp)
    (by simpa using World.news_of_block (cs := cs) (t := e) (fr := (0, 0)) (heap_alloc_new W (.cells cs e))) h1 (by simp only [maxLen]; omega) hl (by simp; omega)
  refine ⟨v1, w1, ?_, hown, World.grownBy.trans (World.grownBy_alloc W _ _) hg, ?_⟩
  · unfold execOp
    simp only [ho, resolve, invoke, builtin, Sem.run_bind, Sem.run_pure, Result.andThen_ok, List.map_toArray, List.map_cons, List.map_nil, hs, hx, hr]
  · rcases hat with hat | hat
    · exact .inl hat
    · exact .inr ⟨_, hat, by simp⟩
theorem run_storeVar_cell (w : World) (ty : TypeId) (b off : Nat) (v u : Value) (h1 : v.oneCell' = true) (hi : (P.info? ty).map (·.size) = some 1) (hc : w.cell? ⟨b, off, none⟩ = some u) (hf : w.frozen? ⟨b, off, none⟩ = false) :
    (storeVar ty ⟨b, off, none⟩ v).run P w = .ok () (w.setCell ⟨b, off, none⟩ v) := by
  have hv : v.cells = #[v] := by cases v <;> first | rfl | cases h1
  cases hq : P.info? ty with
  | none => simp [hq] at hi
  | some i =>
    have hs : i.size = 1 := by simpa [hq] using hi
    have ha : (⟨b, off, none⟩ : Addr).add 0 = ⟨b, off, none⟩ := by rw [add_off]; rfl
    have hst : (store ⟨b, off, none⟩ v : Sem Unit).run P w = .ok () (w.setCell ⟨b, off, none⟩ v) := by
      rw [run_store P w _ v .plain h1]
      simp [stored, hc, hf]
    simp [storeVar, sizeOf, typeInfo, hq, hs, hv, storeCells, ha, hst]
end
end Go.Proofs.YthpcedficlhanaaGreatDoor
namespace Go.Proofs.YthpcedficlhanaaGreatDoor
open Go.RowKit

/-- The program's header of the document's. -/
def hdrOf (h : RH) : Hdr := ⟨h.height, h.miner, h.ticket, h.wins, h.power, h.parents.map idOf, h.salt⟩
theorem sl36 : Tryz.prog.underlying 36 = some (.slice 34) := Tryz.underlying36
theorem ids_size : (Tryz.prog.info? 36).map (·.size) = some 1 := by kernel_rfl
def zHdr : Array Value := #[.int .i64 0, .int .i64 0, .string ⟨#[]⟩, .int .i64 0, .int .u64 0, .slice none 0 0, .int .i64 0]
def oHdr (h : RH) (v : Value) : Array Value := #[.int .i64 h.height, .int .i64 h.miner, .string h.ticket, .int .i64 h.wins, .int .u64 h.power, v, .int .i64 h.salt]
/-- What holds at the loop's head. -/
structure OwnR (w wr : World) (x : LRH) (i : Nat) (A : Option Addr) (c : Nat) : Prop where
  own : wr.ownsRow (w.heap.size + 3) 34 32 (.slice A i c) i (idE.flat ((x.h.parents.map idOf).take i))
  cell : wr.heap[w.heap.size + 2]? = some (.cells (oHdr x.h (.slice A i c)) 38 (0, 0))
  res : wr.heap[w.heap.size + 1]? = some (.cells zHdr 38 (0, 0))
  below : Below w.heap.size w wr
theorem OwnR.size {w wr : World} {x : LRH} {i : Nat} {A : Option Addr} {c : Nat} (h : OwnR w wr x i A c) : w.heap.size + 2 < wr.heap.size := (Array.getElem?_eq_some_iff.1 h.cell).1
theorem OwnR.under {w wr w' : World} {x : LRH} {i : Nat} {A : Option Addr} {c : Nat} (h : OwnR w wr x i A c) (hb : Below wr.heap.size wr w') : OwnR w w' x i A c :=
  ⟨own_below h.own hb, (hb.block _ h.size).trans h.cell, (hb.block _ (Nat.lt_of_succ_lt h.size)).trans h.res, h.below.trans (hb.mono h.below.size)⟩
theorem OwnR.next {w wr W w6 : World} {x : LRH} {i : Nat} {A A6 : Option Addr} {c c6 : Nat} (h : OwnR w wr x i A c) (hb : Below wr.heap.size wr W) (s : ByteArray) (hs : x.h.parents[i]? = some s)
    (ho : w6.ownsRow (w.heap.size + 3) 34 32 (.slice A6 (i + 1) c6) (i + 1) (idE.flat ((x.h.parents.map idOf).take i) ++ (idc (idOf s)).toArray.toList)) (hg : W.grownBy w6 (Value.slice A i c).ownBlock) : OwnR w (w6.setCell ⟨w.heap.size + 2, 5, none⟩ (.slice A6 (i + 1) c6)) x (i + 1) A6 c6 := by
  have h1 := h.under hb
  have hne : ∀ k, k < w.heap.size + 3 → some k ≠ (Value.slice A i c).ownBlock := fun k hk e => by have := (own_lt h1.own k e.symm).1; omega
  have hc6 : w6.heap[w.heap.size + 2]? = some (.cells (oHdr x.h (.slice A i c)) 38 (0, 0)) := (hg.block _ h1.size (hne _ (by omega))).trans h1.cell
  refine ⟨?_, heap_setCell_at w6 _ 5 _ _ _ _ hc6, (Below.heap_setCell _ _ _ _ (by simp)).trans ((hg.block _ (Nat.lt_of_succ_lt h1.size) (hne _ (by omega))).trans h1.res), ?_⟩
  · have ho' : w6.ownsRow (w.heap.size + 3) 34 32 (.slice A6 (i + 1) c6) (i + 1) (idE.flat ((x.h.parents.map idOf).take (i + 1))) := by
      rw [List.take_add_one, List.getElem?_map, hs, idE.flat_append]
      simp only [Option.map_some, Option.toList_some, idE.flat_one]
      exact ho
    refine ho'.kept (Lib.grownBy_setCell w6 (w.heap.size + 2) 5 _) ?_
    rcases hb : (Value.slice A6 (i + 1) c6).ownBlock with _ | k
    · exact .inl rfl
    · exact .inr fun e => by injection e with e; have := (own_lt ho k hb).1; omega
  · exact (h1.below.grown hg h1.below.size fun k hk => by have := (own_lt h1.own k hk).1; omega).setCell (p := ⟨w.heap.size + 2, 5, none⟩) (Nat.le_add_right _ 2) _

set_option maxRecDepth 100000 in
set_option maxHeartbeats 4000000 in
theorem own_any (w : World) (x : LRH) (ok : Nat → Prop) (hx : x.At ok w) (hlen : x.h.parents.length ≤ 1000) :
    Calls Tryz.prog 38 #[.agg x.cells.toArray] w fun e w' => ∃ y : LH, y.h = hdrOf x.h ∧ e = .returned (.agg y.cells.toArray) ∧ y.At (fun k => w.heap.size ≤ k) w' ∧ Below w.heap.size w w' := by
  obtain ⟨⟨height, miner, ticket, wins, power, parents, salt⟩, A, c⟩ := x
  have hlen' : parents.length ≤ 1000 := hlen
  have HX : Hid (Sl strE ok w (.slice A parents.length c) parents) := Lib.hid hx
  obtain ⟨-, hc, hm⟩ := HX.out.len
  obtain ⟨X, hX⟩ : ∃ X : LRH, X = ⟨⟨height, miner, ticket, wins, power, parents, salt⟩, A, c⟩ := ⟨_, rfl⟩
  have HDX := Lib.hid hX
  clear hx hlen
  change Calls _ _ #[.agg #[.int .i64 height, .int .i64 miner, .string ticket, .int .i64 wins, .int .u64 power, .slice A parents.length c, .int .i64 salt]] w _
  go_enter Tryz.func38, Tryz.ntmps38
  go_wp2
  have hR0 : OwnR w (((w.alloc (.cells #[.int .i64 height, .int .i64 miner, .string ticket, .int .i64 wins, .int .u64 power, .slice A parents.length c, .int .i64 salt] 53)).alloc (.cells zHdr 38)).alloc (.cells #[.int .i64 height, .int .i64 miner, .string ticket, .int .i64 wins, .int .u64 power, .slice none 0 0, .int .i64 salt] 38)) ⟨⟨height, miner, ticket, wins, power, parents, salt⟩, A, c⟩ 0 none 0 :=
    ⟨World.ownsRow_nil _ _ _ _, by rw [heap_alloc_if, if_pos (by simp)]; rfl, by rw [heap_alloc_if, if_neg (by simp), heap_alloc_if, if_pos (by simp)], (((Below.refl _ w).alloc (Nat.le_refl _) _).alloc (by simp) _).alloc (by simp only [World.size_alloc]; omega) _⟩
  have HR0 := Lib.hid hR0
  clear hR0
  go_loopw [22] (fun ci wr => ∃ (i : Nat) (A2 : Option Addr) (c2 : Nat), i ≤ parents.length ∧ ci = .int .i64 i ∧ OwnR w wr ⟨⟨height, miner, ticket, wins, power, parents, salt⟩, A, c⟩ i A2 c2) (fun ci _ => parents.length - (intOf ci).toNat)
  case atStart => exact ⟨0, none, 0, Nat.zero_le _, rfl, HR0.out⟩
  case round =>
    obtain ⟨i, A2, c2, hi, rfl, hR⟩ := hrel
    have HR := Lib.hid hR
    clear hR
    by_cases hlt : i < parents.length
    · obtain ⟨s, hs⟩ : ∃ s, parents[i]? = some s := ⟨_, List.getElem?_eq_getElem hlt⟩
      obtain ⟨b, off, rfl, hbl, -, hcx⟩ := (HX.out.below HR.out.below).at_ i s hs
      have hcs : wr.cell? ⟨b, off + i, none⟩ = some (.string s) := by have := hcx 0 _ rfl; simpa [strE] using this
      have HS := Lib.hid hs
      clear hcx hs
      go_wp2
      have hB0 : Below wr.heap.size wr wr.drew := (Below.refl _ wr).drew
      have hS0 : wr.drew.cell? ⟨w.heap.size + 2, 5, none⟩ = some (.slice A2 i c2) := cell_block HR.out.cell rfl
      refine stD_ (S := (fun w' => w'.cell? ⟨w.heap.size + 2, 5, none⟩ = some (.slice A2 i c2))) [7] 8 #[false, false, false, false, false, false, false, false] (by kernel_rfl) rfl (by rfl) hS0 (fun hHeld => ?_)
      refine tkD_ 0 (some 26) #[true, false, false, false, false, false, false, false] (v := ?_) (a' := ?_) rfl rfl (by kernel_rfl) (fun _ _ _ h => h) (yieldsIf_run rfl ?_) hHeld ?_ ?_
      rotate_left
      · intro w'
        go_simp
        with_reducible rfl
      rotate_left
      · simp only [Act.put, List.setIfInBounds_toArray, List.set_cons_zero, List.set_cons_succ]
        rfl
      refine tkD_ 1 (some 27) #[true, true, false, false, false, false, false, false] rfl rfl (by kernel_rfl) (fun _ _ _ h => h) (yieldsIf_cell rfl 36 (.tmp 26) rfl ⟨w.heap.size + 2, 5, none⟩ rfl (.slice A2 i c2) _ (fun w' h => h) Tryz.underlying36 rfl) hHeld (a' := ?_) ?_ ?_
      rotate_left
      · simp only [Act.put, List.setIfInBounds_toArray, List.set_cons_zero, List.set_cons_succ]
        rfl
      refine tkD_ 2 (some 28) #[true, true, true, false, false, false, false, false] (v := ?_) (a' := ?_) rfl rfl (by kernel_rfl) (fun _ _ _ h => h) (yieldsIf_run rfl ?_) hHeld ?_ ?_
      rotate_left
      · intro w'
        go_simp
        with_reducible rfl
      rotate_left
      · simp only [Act.put, List.setIfInBounds_toArray, List.set_cons_zero, List.set_cons_succ]
        rfl
      refine callD_ 3 (some 29) #[true, true, true, true, false, false, false, false] rfl rfl (by kernel_rfl) rfl 109 _ (by kernel_rfl) (idOf_any _ s) ?_
      rintro e w4 ⟨rfl, hb4⟩
      have HB4 : Hid (Below wr.heap.size wr w4) := Lib.hid (hB0.trans hb4)
      refine ⟨_, rfl, (cell_block (HR.out.under HB4.out).cell rfl), fun hHeld => ⟨?_, ?_, ?_⟩⟩
      rotate_left
      · simp only [Act.put, List.setIfInBounds_toArray, List.set_cons_zero, List.set_cons_succ]
        rfl
      have hHeld : (w4.alloc (.cells (idc (idOf s)).toArray 34)).cell? ⟨w.heap.size + 2, 5, none⟩ = some (.slice A2 i c2) := cell_block ((heap_alloc_old w4 _ (HR.out.under HB4.out).size).trans (HR.out.under HB4.out).cell) rfl
      refine valD_ 4 (some 30) #[true, true, true, true, true, false, false, false] rfl rfl (by kernel_rfl) rfl (.slice (some ⟨w4.heap.size, 0, none⟩) 1 1) (w4.alloc (.cells (idc (idOf s)).toArray 34)) (exec_slice1 36 34 (.tmp 29) rfl (idc (idOf s)).toArray rfl _ 32 32 Tryz.underlying36 id_info idZ_cells (by rw [List.size_toArray, idc_length]) (by decide) (by decide)) (fun _ => hHeld) (a' := ?_) ?_ ?_
      rotate_left
      · simp only [Act.put, List.setIfInBounds_toArray, List.set_cons_zero, List.set_cons_succ]
        rfl
      refine stepD_ 5 (some 31) #[true, true, true, true, true, true, false, false] rfl rfl (by kernel_rfl) rfl (exec_app1 (idc (idOf s)).toArray (w.heap.size + 3) (.tmp 27) (.tmp 30) 36 34 _ 32 32 rfl Tryz.underlying36 id_info idZ_cells (by decide) (by decide) (.slice A2 i c2) i _ rfl rfl (by rw [List.size_toArray, idc_length]) (fun u hu => idE.one (idOf s) u hu) (HR.out.under HB4.out).own (by have := HR.out.size; have := HB4.out.size; omega) (by omega)) ?_
      rintro v6 w6 ⟨ho6, hg6, -⟩
      obtain ⟨A6, c6, rfl, -⟩ := own_slice ho6
      have HR7 := Lib.hid (HR.out.next HB4.out s HS.out ho6 hg6)
      have hne6 : ∀ k, k < wr.heap.size → k < w.heap.size + 3 → some k ≠ (Value.slice A2 i c2).ownBlock := fun k _ hk e => by have := (own_lt HR.out.own k e.symm).1; omega
      have hc6 : w6.heap[w.heap.size + 2]? = some (.cells (oHdr ⟨height, miner, ticket, wins, power, parents, salt⟩ (.slice A2 i c2)) 38 (0, 0)) := (hg6.block _ (HR.out.under HB4.out).size (hne6 _ HR.out.size (by omega))).trans (HR.out.under HB4.out).cell
      have hHeld : w6.cell? ⟨w.heap.size + 2, 5, none⟩ = some (.slice A2 i c2) := cell_block hc6 rfl
      refine ⟨(fun _ => hHeld), ?_, ?_, ?_⟩
      rotate_left
      · simp only [Act.put, List.setIfInBounds_toArray, List.set_cons_zero, List.set_cons_succ]
        rfl
      refine tkD_ 6 (some 32) #[true, true, true, true, true, true, true, false] (v := ?_) (a' := ?_) rfl rfl (by kernel_rfl) (fun _ _ _ h => h) (yieldsIf_run rfl ?_) hHeld ?_ ?_
      rotate_left
      · intro w'
        go_simp
        with_reducible rfl
      rotate_left
      · simp only [Act.put, List.setIfInBounds_toArray, List.set_cons_zero, List.set_cons_succ]
        rfl
      refine skD_ 7 #[true, true, true, true, true, true, true, true] rfl rfl (by kernel_rfl) rfl (w6.setCell ⟨w.heap.size + 2, 5, none⟩ (.slice A6 (i + 1) c6)) (exec_store 36 (.tmp 32) (.tmp 31) rfl (w.heap.size + 2) 5 rfl _ rfl (run_storeVar_cell w6 36 (w.heap.size + 2) 5 _ _ rfl ids_size (cell_block hc6 rfl) (Lib.frozen_of_heap hc6 5))) (fun h => absurd (by decide) h) ?_
      refine doneD_ (by kernel_rfl) ?_ _
      change Exit.inBlock _ _ _ _ _
      generalize w6.setCell ⟨w.heap.size + 2, 5, none⟩ (.slice A6 (i + 1) c6) = w7 at HR7 ⊢
      go_wp2
      go_roundw
      case rel => exact ⟨i + 1, A6, c6, by omega, by go_num, HR7.out⟩
      case measure => simp [intOf]; omega
    · have hin : i = parents.length := by omega
      subst hin
      have HKC : Hid (∀ j u, (LH.cells ⟨hdrOf ⟨height, miner, ticket, wins, power, parents, salt⟩, A2, c2⟩)[j]? = some u → wr.cell? ⟨w.heap.size + 2, 0 + j, none⟩ = some u) := Lib.hid fun j u hu => by
        rw [Nat.zero_add]
        refine cell_block HR.out.cell ?_
        have he : (LH.cells ⟨hdrOf ⟨height, miner, ticket, wins, power, parents, salt⟩, A2, c2⟩).toArray = oHdr ⟨height, miner, ticket, wins, power, parents, salt⟩ (.slice A2 parents.length c2) := by
          simp [LH.cells, LH.v, hdrOf, oHdr]
        rw [← he]
        simpa using hu
      go_wp2_with (first
        | (refine wpl_load rfl 38 (.tmp 3) rfl (w.heap.size + 2) 0 rfl (LH.cells ⟨hdrOf ⟨height, miner, ticket, wins, power, parents, salt⟩, A2, c2⟩) _ HKC.out Tryz.underlying38 rfl hdr_size ?_)
        | (refine wpl_store_row rfl 38 (.tmp 2) (.tmp 34) rfl (w.heap.size + 1) rfl (LH.cells ⟨hdrOf ⟨height, miner, ticket, wins, power, parents, salt⟩, A2, c2⟩) rfl _ 38 HR.out.res rfl (LH.cells_one _) hdr_size ?_))
      (try simp only [Exit.inBlock, Exit.then])
      refine bodyPost_ret (results_cell_row rfl _ _ (w.heap.size + 1) 38 (LH.cells ⟨hdrOf ⟨height, miner, ticket, wins, power, parents, salt⟩, A2, c2⟩).toArray (0, 0) _ rfl (setRow_heap wr (w.heap.size + 1) _ _ _ _ HR.out.res) Tryz.underlying38 rfl hdr_size) rfl ?_
      refine ⟨⟨hdrOf ⟨height, miner, ticket, wins, power, parents, salt⟩, A2, c2⟩, rfl, rfl, ?_, below_setRow HR.out.below (Nat.le_succ _) _⟩
      have ho := HR.out.own
      have hpl : (parents.map idOf).length = parents.length := by simp
      have h1 : Sl idE (fun k => w.heap.size + 3 ≤ k) wr (.slice A2 parents.length c2) (parents.map idOf) := by
        have h2 : wr.ownsRow (w.heap.size + 3) 34 32 (.slice A2 parents.length c2) (parents.map idOf).length (idE.flat (parents.map idOf)) := by
          rw [hpl]
          have h3 : (parents.map idOf).take parents.length = parents.map idOf := by rw [← hpl]; exact List.take_length
          have h4 : wr.ownsRow (w.heap.size + 3) 34 32 (.slice A2 parents.length c2) parents.length (idE.flat ((parents.map idOf).take parents.length)) := ho
          rw [h3] at h4
          exact h4
        exact (Sl.of_own (E := idE) h2).mono fun k hk => (own_lt h2 k hk).1
      have h5 : Sl idE (fun k => w.heap.size ≤ k) (wr.setRow (w.heap.size + 1) (LH.cells ⟨hdrOf ⟨height, miner, ticket, wins, power, parents, salt⟩, A2, c2⟩).toArray) (.slice A2 parents.length c2) (parents.map idOf) :=
        (h1.fr (ok := fun k => w.heap.size + 3 ≤ k) ⟨by simp, fun k hk _ => heap_setRow_ne _ _ _ _ (by omega)⟩).mono fun k hk => by omega
      show Sl idE _ _ (.slice A2 (parents.map idOf).length c2) _
      rw [hpl]
      exact h5
end Go.Proofs.YthpcedficlhanaaGreatDoor
namespace Go.Proofs.YthpcedficlhanaaGreatDoor
open Go.RowKit

/-- A header's block, as values. -/
def blkV (h : Hdr) : ID × Hdr := (hdrID h, h)
/-- Blocks that were made, so far. -/
structure MadeB (w wr : World) (v : Value) (hs : List Hdr) (ys : List LB) : Prop where
  vals : vals ys = hs.map blkV
  own : wr.ownsRow w.heap.size 40 39 v hs.length (lbE.flat ys)
  at_ : ∀ y ∈ ys, y.x.At (fun k => w.heap.size ≤ k ∧ some k ≠ v.ownBlock) wr
  below : Below w.heap.size w wr
theorem MadeB.under {w wr w' : World} {v : Value} {hs : List Hdr} {ys : List LB} (h : MadeB w wr v hs ys) (hb : Below wr.heap.size wr w') : MadeB w w' v hs ys :=
  ⟨h.vals, own_below h.own hb, fun y hy => Sl.below (h.at_ y hy) hb, h.below.trans (hb.mono h.below.size)⟩
theorem MadeB.more {w W w1 : World} {v v1 : Value} {hs : List Hdr} {ys : List LB} (h : MadeB w W v hs ys) (g : Hdr) (y : LH) (hy : y.h = g) (hat : y.At (fun k => w.heap.size ≤ k ∧ some k ≠ v.ownBlock) W)
    (ho : w1.ownsRow w.heap.size 40 39 v1 (hs.length + 1) (lbE.flat ys ++ (LB.cells ⟨hdrID g, y⟩).toArray.toList)) (hg : W.grownBy w1 v.ownBlock) (hat1 : v1.ownBlock = v.ownBlock ∨ ∃ b, v1.ownBlock = some b ∧ W.heap.size ≤ b) : MadeB w w1 v1 (hs ++ [g]) (ys ++ [⟨hdrID g, y⟩]) where
  vals := by
    have := h.vals
    simp only [Go.Proofs.YthpcedficlhanaaGreatDoor.vals, List.map_append] at this ⊢
    rw [this]
    simp [LB.val, blkV, hy]
  own := by rw [lbE.flat_append, lbE.flat_one, List.length_append]; exact ho
  at_ := by
    intro z hz
    have h1 : z.x.At (fun k => w.heap.size ≤ k ∧ some k ≠ v.ownBlock) W := by
      rcases List.mem_append.1 hz with hz | hz
      · exact h.at_ z hz
      · rw [List.mem_singleton] at hz; subst hz; exact hat
    refine Sl.mono (Sl.fr (Sl.old h1) (Fr.grown hg fun k hk => hk.1.2)) fun k hk => ⟨hk.1.1, ?_⟩
    rcases hat1 with he | ⟨b, he, hb⟩
    · rw [he]; exact hk.1.2
    · rw [he]; intro e; injection e with e; omega
  below := below_grown_own h.below h.own (Nat.le_refl _) h.below.size hg
/-- Headers of the document's that lie somewhere and may be made into blocks. -/
def Fine (ok : Nat → Prop) (w : World) (l : List LRH) : Prop := ∀ x ∈ l, x.At ok w ∧ (hdrOf x.h).Ok ∧ x.h.parents.length ≤ 1000
theorem Fine.below {ok : Nat → Prop} {w w' : World} {l : List LRH} (h : Fine ok w l) (hb : Below w.heap.size w w') : Fine ok w' l := fun x hx => ⟨Sl.below (h x hx).1 hb, (h x hx).2⟩

theorem make_some (w : World) (x : LH) (ok : Nat → Prop) (hx : x.At ok w) (hok : x.h.Ok) (ht : Tab w) :
    Calls Tryz.prog 91 #[.agg x.cells.toArray] w fun e w' => ∃ (i : ID) (y : LH), i = hdrID x.h ∧ y.h = x.h ∧ e = .returned (.agg (LB.cells ⟨i, y⟩).toArray) ∧ y.At (fun k => w.heap.size ≤ k) w' ∧ Below w.heap.size w w' :=
  (make_any w x ok hx hok ht).mono fun _ _ ⟨y, h1, h2, h3, h4⟩ => ⟨_, y, rfl, h1, h2, h3, h4⟩
section
variable {ops : Array Oper} {rest : List Oper} {o : Oper} {a : Act} {Q : Exit → Act → World → Prop}
/-- One block more is appended. -/
theorem wpl_app_made {w W : World} {u : Value} {hs : List Hdr} {ys : List LB} (h : MadeB w W u hs ys) (g : Hdr) (iD : ID) (z : LH) (hi : iD = hdrID g) (hz : z.h = g) (hat : z.At (fun k => w.heap.size ≤ k ∧ some k ≠ u.ownBlock) W) (hlen : hs.length ≤ 1000)
    (hgd : o.guard = none) (s x : Operand) (ho : o.op = .call { callee := .builtin .append, args := #[s, x], argTypes := #[25, 25] }) (hs' : a.eval s = u) (hx : a.eval x = .slice (some ⟨W.heap.size, 0, none⟩) 1 1)
    (hK : ∀ v1 w1, MadeB w w1 v1 (hs ++ [g]) (ys ++ [⟨hdrID g, z⟩]) → wpList Tryz.prog ops Q rest (a.put o.dst v1) w1) : wpList Tryz.prog ops Q (o :: rest) a (W.alloc (.cells (LB.cells ⟨iD, z⟩).toArray 40)) := by
  subst hi
  refine wpl_app1 (LB.cells ⟨hdrID g, z⟩).toArray w.heap.size hgd s x 25 40 _ 39 112 ho Tryz.underlying25 blk_info lbZ_cells (by decide) (by decide) u hs.length _ hs' hx (by rw [List.size_toArray, LB.cells_length]) (LB.cells_one _) h.own h.below.size (by omega) ?_
  intro v1 w1 ho1 hg1 hat1
  exact hK v1 w1 (h.more g z hz hat ho1 hg1 hat1)
end
theorem at_new {w wr w3 : World} {u : Value} {hs : List Hdr} {ys : List LB} {z : LH} (hC : MadeB w wr u hs ys) (hz : z.At (fun k => wr.heap.size ≤ k) w3) : z.At (fun k => w.heap.size ≤ k ∧ some k ≠ u.ownBlock) w3 :=
  Sl.mono hz fun k hk => ⟨Nat.le_trans hC.below.size hk, fun e => by have := (own_lt hC.own k e.symm).2; omega⟩

set_option maxRecDepth 100000 in
set_option maxHeartbeats 1000000 in
theorem blocks_any (w : World) (t : Value) (l : List LRH) (ok ok' : Nat → Prop) (hl : Sl lrhE ok w t l) (hf : Fine ok' w l) (hlen : l.length ≤ 1000) (ht : Tab w) :
    Calls Tryz.prog 20 #[t] w fun e w' => ∃ v ys, e = .returned v ∧ MadeB w w' v (l.map fun x => hdrOf x.h) ys := by
  obtain ⟨A, c, rfl, hc, hm⟩ := hl.form
  have HL := Lib.hid hl
  have HF := Lib.hid hf
  have HT := Lib.hid ht
  clear hl hf ht
  go_enter Tryz.func20, Tryz.ntmps20
  go_wp2
  go_loopw [3, 8] (fun v ci wr => ∃ (i : Nat) (ys : List LB), i ≤ l.length ∧ ci = .int .i64 i ∧ MadeB w wr v ((l.take i).map fun x => hdrOf x.h) ys) (fun _ ci _ => l.length - (intOf ci).toNat)
  case atStart => exact ⟨0, [], Nat.zero_le _, rfl, rfl, World.ownsRow_nil _ _ _ _, by simp, Below.refl _ _⟩
  case round =>
    obtain ⟨i, ys, hi, rfl, hC⟩ := hrel
    have hsz := hC.below.size
    have HC := Lib.hid hC
    clear hC
    by_cases hlt : i < l.length
    · obtain ⟨x, hx⟩ : ∃ x, l[i]? = some x := ⟨_, List.getElem?_eq_getElem hlt⟩
      obtain ⟨b, off, rfl, hbl, -, hcx⟩ := (HL.out.below HC.out.below).at_ i x hx
      obtain ⟨hax, hox, hpl⟩ := (HF.out.below HC.out.below) x (List.mem_of_getElem? hx)
      have hil : ((l.take i).map fun x => hdrOf x.h).length = i := by rw [List.length_map, List.length_take]; omega
      have HIL := Lib.hid hil
      have HAX := Lib.hid hax
      have HOX := Lib.hid hox
      have HX := Lib.hid hcx
      have HXI := Lib.hid hx
      have HW1 : Hid (∃ W1, W1 = wr.alloc (.cells x.cells.toArray 53)) := Lib.hid ⟨_, rfl⟩
      have HB1 : Hid (Below wr.heap.size wr (wr.alloc (.cells x.cells.toArray 53))) := Lib.hid ((Below.refl _ wr).alloc (Nat.le_refl _) _)
      have HH1 : Hid (∀ j u, x.cells[j]? = some u → (wr.alloc (.cells x.cells.toArray 53)).cell? ⟨wr.heap.size, 0 + j, none⟩ = some u) := Lib.hid fun j u hu => by rw [Nat.zero_add]; exact cell_block (heap_alloc_new wr _) (by simpa using hu)
      have hs1 : wr.heap.size ≤ (wr.alloc (.cells x.cells.toArray 53)).heap.size := by simp
      clear hcx hx hax hox hil
      go_wp2_with (first
        | (refine wpl_load rfl 53 (.tmp 10) rfl b _ rfl x.cells _ HX.out Tryz.underlying53 rfl rh_size ?_)
        | (refine wpl_store_new rfl 53 _ _ rfl rfl x.cells rfl _ _ rfl (lrhE.one x) rh_size ?_; generalize (wr.alloc (.cells x.cells.toArray 53)) = W1 at HB1 HH1 hs1 ⊢)
        | (refine wpl_load rfl 53 (.tmp 5) rfl wr.heap.size 0 rfl x.cells _ HH1.out Tryz.underlying53 rfl rh_size ?_)
        | (go_at_call 38; refine (own_any _ x ok' (Sl.below (w := wr) HAX.out HB1.out) hpl).mono ?_; rintro e w2 ⟨y, hyh, rfl, hy, hb2⟩; have HYH := Lib.hid hyh; have HY := Lib.hid hy; have HB2 : Hid (Below wr.heap.size wr w2) := Lib.hid (HB1.out.trans (hb2.mono hs1)); clear hyh hy hb2)
        | (go_at_call 91; refine (make_some _ y _ HY.out (by rw [HYH.out]; exact HOX.out) (HT.out.below (HC.out.under HB2.out).below)).mono ?_; rintro e w3 ⟨iD, z, hiD, hzh, rfl, hz, hb3⟩; have HID : Hid (iD = hdrID (hdrOf x.h)) := Lib.hid (by rw [hiD, HYH.out]); clear hiD; have HZH : Hid (z.h = hdrOf x.h) := Lib.hid (hzh.trans HYH.out); have HZ : Hid (z.At (fun k => wr.heap.size ≤ k) w3) := Lib.hid (Sl.mono hz fun k hk => Nat.le_trans HB2.out.size hk); have HB3 : Hid (Below wr.heap.size wr w3) := Lib.hid (HB2.out.trans (hb3.mono HB2.out.size)); clear hzh hz hb3)
        | (refine wpl_slice1 rfl 25 40 (.tmp 15) rfl (LB.cells ⟨iD, z⟩).toArray rfl _ 39 112 Tryz.underlying25 blk_info lbZ_cells (by rw [List.size_toArray, LB.cells_length]) (by decide) (by decide) ?_)
        | (at_builtin; refine wpl_app_made (HC.out.under HB3.out) (hdrOf x.h) iD z HID.out HZH.out (at_new HC.out HZ.out) (by have := HIL.out; omega) rfl (.tmp 12) (.tmp 16) rfl rfl rfl ?_; intro v' w4 hC4; have HC4 := Lib.hid hC4; clear hC4))
      go_roundw
      case rel =>
        refine ⟨i + 1, ys ++ [⟨hdrID (hdrOf x.h), z⟩], by omega, by go_num, ?_⟩
        rw [List.take_add_one, HXI.out, List.map_append]
        exact HC4.out
      case measure => simp [intOf]; omega
    · have hin : i = l.length := by omega
      subst hin
      go_wp2
      go_ret
      exact ⟨_, ys, rfl, by have := HC.out; rwa [List.take_length] at this⟩
end Go.Proofs.YthpcedficlhanaaGreatDoor
namespace Go.Proofs.YthpcedficlhanaaGreatDoor
open Go.RowKit

theorem bl_cmp (a b : List UInt8) : Op.bytesLess a b = decide (Lib.compareBytes a b < 0) := by
  induction a generalizing b with
  | nil => cases b <;> simp [Op.bytesLess, Lib.compareBytes]
  | cons x a ih =>
    cases b with
    | nil => simp [Op.bytesLess, Lib.compareBytes]
    | cons y b =>
      simp only [Op.bytesLess, Lib.compareBytes, ih]
      by_cases h1 : x < y
      · simp [h1]
      · by_cases h2 : y < x
        · have hne : ¬ x = y := fun e => by subst e; exact h1 h2
          simp [h1, h2, hne]
        · have he : x = y := UInt8.le_antisymm (UInt8.not_lt.1 h2) (UInt8.not_lt.1 h1)
          subst he
          simp [h1]
def ltS (s t : ByteArray) : Bool := Op.bytesLess s.toList t.toList
def leS (s t : ByteArray) : Bool := Op.bytesLess s.toList t.toList || s.toList == t.toList
theorem ltS_irrefl (s : ByteArray) : ltS s s = false := by rw [ltS, bl_cmp, cb_self]; rfl
theorem ltS_le {s t : ByteArray} (h : leS s t = false) : ltS s t = false := by
  rw [leS, Bool.or_eq_false_iff] at h
  exact h.1
theorem ltS_total {s t : ByteArray} (h : leS s t = false) : ltS t s = true := by
  rw [leS, Bool.or_eq_false_iff, bl_cmp] at h
  rw [ltS, bl_cmp]
  obtain ⟨h1, h2⟩ := h
  have h3 := cb_swap s.toList t.toList
  have h4 : ¬ Lib.compareBytes s.toList t.toList < 0 := by simpa using h1
  have h5 : Lib.compareBytes s.toList t.toList ≠ 0 := fun e => by have := cb_zero _ _ e; simp [this] at h2
  simp only [decide_eq_true_eq]
  omega
theorem ltS_trans {s t u : ByteArray} (h : ltS s t = true) (h' : ltS t u = true) : ltS s u = true := by
  rw [ltS, bl_cmp, decide_eq_true_eq] at *
  have h1 := cb_trans _ _ _ (Int.le_of_lt h) (Int.le_of_lt h')
  rcases Int.lt_or_eq_of_le h1 with h2 | h2
  · exact h2
  · have h3 := cb_zero _ _ h2
    rw [h3] at h
    have := cb_swap t.toList u.toList
    omega

/-- A text is put in its place, if it isn't there. -/
def insT (s : ByteArray) : List ByteArray → List ByteArray
  | [] => [s]
  | t :: r => if leS s t then (if ltS s t then s :: t :: r else t :: r) else t :: insT s r
/-- One round of the inner loop. -/
def stepT (s : ByteArray) (x : Bool × List ByteArray) (t : ByteArray) : Bool × List ByteArray := (x.1 || leS s t, (if !x.1 && ltS s t then x.2 ++ [s] else x.2) ++ [t])
theorem fold_done (s : ByteArray) (l n : List ByteArray) : l.foldl (stepT s) (true, n) = (true, n ++ l) := by
  induction l generalizing n with
  | nil => simp
  | cons t l ih => rw [List.foldl_cons]; simp only [stepT, Bool.true_or, Bool.not_true, Bool.false_and, Bool.false_eq_true, if_false]; rw [ih]; simp
def lastT (s : ByteArray) (x : Bool × List ByteArray) : List ByteArray := if x.1 then x.2 else x.2 ++ [s]
theorem fold_ins (s : ByteArray) (l n : List ByteArray) : lastT s (l.foldl (stepT s) (false, n)) = n ++ insT s l := by
  induction l generalizing n with
  | nil => simp [lastT, insT]
  | cons t l ih =>
    rw [List.foldl_cons]
    rcases hle : leS s t with _ | _
    · have hlt := ltS_le hle
      simp only [stepT, hle, hlt, Bool.or_false, Bool.not_false, Bool.and_false, Bool.false_eq_true, if_false]
      rw [ih, insT, hle]
      simp
    · rcases hlt : ltS s t with _ | _
      · simp only [stepT, hle, hlt, Bool.or_true, Bool.not_false, Bool.and_false, Bool.false_eq_true, if_false]
        rw [fold_done, insT, hle, hlt]
        simp [lastT]
      · simp only [stepT, hle, hlt, Bool.or_true, Bool.not_false, Bool.and_true, if_true]
        rw [fold_done, insT, hle, hlt]
        simp [lastT]
def sortT (l : List ByteArray) : List ByteArray := l.foldl (fun o s => insT s o) []
theorem insT_mem (s : ByteArray) (l : List ByteArray) : ∀ x ∈ insT s l, x = s ∨ x ∈ l := by
  induction l with
  | nil => simp [insT]
  | cons t l ih =>
    intro x hx
    rw [insT] at hx
    split at hx
    · split at hx
      · simp only [List.mem_cons] at hx ⊢; exact hx
      · exact .inr hx
    · rcases List.mem_cons.1 hx with rfl | hx
      · exact .inr List.mem_cons_self
      · rcases ih x hx with h | h
        · exact .inl h
        · exact .inr (List.mem_cons_of_mem _ h)
theorem insT_length (s : ByteArray) (l : List ByteArray) : (insT s l).length ≤ l.length + 1 := by
  induction l with
  | nil => simp [insT]
  | cons t l ih =>
    rw [insT]
    split
    · split <;> simp
    · simp; omega
theorem insT_rises (s : ByteArray) (l : List ByteArray) (h : l.Pairwise fun a b => ltS a b = true) : (insT s l).Pairwise fun a b => ltS a b = true := by
  induction l with
  | nil => simp [insT]
  | cons t l ih =>
    have h1 := List.pairwise_cons.1 h
    rw [insT]
    split
    · split
      · rename_i hle hlt
        refine List.pairwise_cons.2 ⟨fun x hx => ?_, h⟩
        rcases List.mem_cons.1 hx with rfl | hx
        · exact hlt
        · exact ltS_trans hlt (h1.1 x hx)
      · exact h
    · rename_i hle
      have hle : leS s t = false := by simpa using hle
      refine List.pairwise_cons.2 ⟨fun x hx => ?_, ih h1.2⟩
      rcases insT_mem s l x hx with rfl | hx
      · exact ltS_total hle
      · exact h1.1 x hx
theorem sort_all (l : List ByteArray) : ∀ o : List ByteArray, (o.Pairwise fun a b => ltS a b = true) → ((l.foldl (fun o s => insT s o) o).Pairwise fun a b => ltS a b = true) ∧ (∀ x ∈ l.foldl (fun o s => insT s o) o, x ∈ o ∨ x ∈ l) ∧ (l.foldl (fun o s => insT s o) o).length ≤ o.length + l.length := by
  induction l with
  | nil => intro o h; exact ⟨h, fun x hx => .inl hx, by simp⟩
  | cons s l ih =>
    intro o h
    obtain ⟨h1, h2, h3⟩ := ih (insT s o) (insT_rises s o h)
    refine ⟨h1, fun x hx => ?_, ?_⟩
    · rcases h2 x hx with hx | hx
      · rcases insT_mem s o x hx with rfl | hx
        · exact .inr List.mem_cons_self
        · exact .inl hx
      · exact .inr (List.mem_cons_of_mem _ hx)
    · have := insT_length s o
      simp only [List.foldl_cons, List.length_cons]
      omega
theorem sortT_rises (l : List ByteArray) : (sortT l).Pairwise fun a b => ltS a b = true := (sort_all l [] List.Pairwise.nil).1
theorem sortT_mem (l : List ByteArray) : ∀ x ∈ sortT l, x ∈ l := fun x hx => ((sort_all l [] List.Pairwise.nil).2.1 x hx).elim (fun h => by cases h) id
theorem sortT_length (l : List ByteArray) : (sortT l).length ≤ l.length := by have := (sort_all l [] List.Pairwise.nil).2.2; simpa [sortT] using this
theorem sortT_nodup (l : List ByteArray) : (sortT l).Nodup := (sortT_rises l).imp fun {a b} h e => by subst e; rw [ltS_irrefl] at h; cases h
theorem sortT_snoc (l : List ByteArray) (s : ByteArray) : sortT (l ++ [s]) = insT s (sortT l) := by simp [sortT]
end Go.Proofs.YthpcedficlhanaaGreatDoor
