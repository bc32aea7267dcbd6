/- path.Paths.chain: what its iterator does. A drawn region inside a fence: one operation at a time. A region that draws its order, inside a round, goes as it goes anywhere (no defer statement in it). No program in sight. path.Paths.chain, At. A tipset in a variable: loads and stores, told by its block alone. -/
import Derived.Test.YthpcedficlhanaaGreatDoorOvAV
import Derived.Shelf.Abstract
import Derived.Shelf.RegionOpen
import Derived.WalkKit
import Derived.OwnWalkIn
import Derived.TacticsInMore
import Derived.LoopNIn
import Derived.LoopIn
import Derived.OrdersIn
namespace Go.Proofs.YthpcedficlhanaaGreatDoor
open Go Go.RowKit Go.Maps Go.Shelf
attribute [local go_sem] Oper.semAt_some

section
theorem least_ex {P : Nat → Prop} : ∀ m, P m → ∃ k, P k ∧ ∀ j, P j → k ≤ j := by
  intro m
  induction m using Nat.strongRecOn with
  | _ m ih =>
    intro h
    by_cases hl : ∃ j, j < m ∧ P j
    · obtain ⟨j, hj, hp⟩ := hl
      exact ih j hj hp
    · exact ⟨m, h, fun j hj => Nat.le_of_not_lt fun hlt => hl ⟨j, hlt, hj⟩⟩
open Classical in
/-- The least number of which something holds. -/
noncomputable def leastN (P : Nat → Prop) : Nat := if h : ∃ m, P m then Classical.choose (least_ex h.choose h.choose_spec) else 0
theorem leastN_spec {P : Nat → Prop} (h : ∃ m, P m) : P (leastN P) ∧ ∀ j, P j → leastN P ≤ j := by
  unfold leastN
  rw [dif_pos h]
  exact Classical.choose_spec (least_ex h.choose h.choose_spec)
end
section
variable {F : Fence} {n : Nat} {P : Program} {ops : Array Oper} {Q : Exit → Act → World → Prop} {a : Act} {w : World} {rest : List Oper} {o : Oper}
theorem wplIn_load (hw : Region.wanted o (yielded ops a.tmps) = true) (ty : TypeId) (x : Operand) (ho : o.op = .load ty x)
    (b off : Nat) (hx : a.eval x = .pointer (some ⟨b, off, none⟩)) (cs : List Value) (d : TypeDesc) (hc : ∀ j u, cs[j]? = some u → w.cell? ⟨b, off + j, none⟩ = some u)
    (hu : P.underlying ty = some d) (hd : (match d with | .struct _ | .array _ _ => true | _ => false) = true) (hi : (P.info? ty).map (·.size) = some cs.length)
    (h : wpListIn F n P ops Q rest (a.put o.dst (.agg cs.toArray)) w) : wpListIn F n P ops Q (o :: rest) a w :=
  wpListIn_step fun K hK => by
    rw [if_pos hw]
    unfold Oper.wpIn
    refine ⟨by simp [Oper.about, ho], ?_⟩
    rw [Oper.semAt_plain F _ _ (by rw [ho]; intro c hc'; cases hc')]
    unfold execOp
    simp only [ho, hx, Instr.loadAt, Instr.sureAddr, Sem.run_bind, Sem.run_pure, Result.andThen_ok, run_loadVar_at w b off ty cs d hc hu hd hi]
    exact hK _ _ h
theorem wplIn_store_row (hgd : o.guard = none) (ty : TypeId) (x y : Operand) (ho : o.op = .store ty x y) (g : Nat)
    (hx : a.eval x = .pointer (some ⟨g, 0, none⟩)) (cs : List Value) (hy : a.eval y = .agg cs.toArray) (cur : Array Value) (T : TypeId) (hg : w.heap[g]? = some (.cells cur T (0, 0))) (hl : cs.length = cur.size) (h1 : ∀ u ∈ cs, u.oneCell' = true) (hi : (P.info? ty).map (·.size) = some cs.length)
    (h : wpListIn F n P ops Q rest (a.put o.dst undef) (w.setRow g cs.toArray)) : wpListIn F n P ops Q (o :: rest) a w :=
  wpListIn_plain hgd fun K hK => by
    unfold Oper.wpIn
    refine ⟨by simp [Oper.about, ho], ?_⟩
    rw [Oper.semAt_plain F _ _ (by rw [ho]; intro c hc'; cases hc')]
    unfold execOp
    simp only [ho, hx, hy, Instr.storeAt, Instr.sureAddr, Sem.run_bind, Sem.run_pure, Result.andThen_ok, run_storeVar_block w g ty T cs cur hg hl h1 hi]
    exact hK _ _ h
end

/-- What a caller's rounds spare. -/
structure Spare (ok : World → Nat → Prop) (Kp : World → World → Prop) (n₀ tB : Nat) : Prop where
  kp : ∀ {A C}, Kp A C → A.heap.size ≤ C.heap.size ∧ ∀ k, ok A k → k < A.heap.size → C.heap[k]? = A.heap[k]? ∧ ok C k
  grow : ∀ {A C}, n₀ ≤ A.heap.size → (∃ k, ok A k) → Below A.heap.size A C → ∀ k, (k < A.heap.size → ok A k) → k < C.heap.size → ok C k
  set : ∀ {A} cs k, ok A k → ok (A.setRow tB cs) k
/-- What lies while a chain is walked. -/
structure ChS (ok : World → Nat → Prop) (n₀ : Nat) (W : World) (tB pB pp p b1 b2 : Nat) (D : List LB) (okx : Nat → Prop) (tv : Value) (cur : List ID) : Prop where
  tbox : W.heap[tB]? = some (.cells #[tv] 28 (0, 0))
  pbox : W.cell? ⟨pB, 0, none⟩ = some (.pointer (some ⟨pp, 0, none⟩))
  toD : W.cell? ⟨pp, 0, none⟩ = some (.pointer (some ⟨p, 0, none⟩))
  dag : DagAt okx W p b1 b2 D
  tip : TipIs (fun k => ok W k ∧ k ≠ tB ∧ k < W.heap.size) W (hdrs D) tv cur
  fix : ∀ k, (okx k ∨ k = tB ∨ k = pB ∨ k = pp) → k < W.heap.size ∧ ok W k
  apart : ¬ okx tB ∧ pB ≠ tB ∧ pp ≠ tB
  size : n₀ ≤ W.heap.size
section
variable {ok : World → Nat → Prop} {Kp : World → World → Prop} {n₀ tB pB pp p b1 b2 : Nat} {W W' : World} {D : List LB} {okx : Nat → Prop} {tv : Value} {cur : List ID}
theorem cell_eq {A C : World} {k : Nat} (h : C.heap[k]? = A.heap[k]?) (off : Nat) : C.cell? ⟨k, off, none⟩ = A.cell? ⟨k, off, none⟩ := World.cell?_of_block (w := A) h
theorem ChS.kp (h : ChS ok n₀ W tB pB pp p b1 b2 D okx tv cur) (hS : Spare ok Kp n₀ tB) (hK : Kp W W') : ChS ok n₀ W' tB pB pp p b1 b2 D okx tv cur := by
  obtain ⟨hz, hk⟩ := hS.kp hK
  have hs : ∀ k, (okx k ∨ k = tB ∨ k = pB ∨ k = pp) → W'.heap[k]? = W.heap[k]? ∧ ok W' k := fun k hk' => hk k (h.fix k hk').2 (h.fix k hk').1
  refine ⟨(hs tB (by simp)).1.trans h.tbox, (cell_eq (hs pB (by simp)).1 0).trans h.pbox, (cell_eq (hs pp (by simp)).1 0).trans h.toD, h.dag.fr ⟨hz, fun k hk' _ => (hs k (.inl hk')).1⟩, ?_, fun k hk' => ⟨Nat.lt_of_lt_of_le (h.fix k hk').1 hz, (hs k hk').2⟩, h.apart, Nat.le_trans h.size hz⟩
  exact (h.tip.fr ⟨hz, fun k hk' _ => (hk k hk'.1 hk'.2.2).1⟩).mono fun k hk' => ⟨(hk k hk'.1 hk'.2.2).2, hk'.2.1, Nat.lt_of_lt_of_le hk'.2.2 hz⟩
theorem ChS.grow (h : ChS ok n₀ W tB pB pp p b1 b2 D okx tv cur) (hS : Spare ok Kp n₀ tB) (hb : Below W.heap.size W W') : ChS ok n₀ W' tB pB pp p b1 b2 D okx tv cur := by
  have hz := hb.size
  have ho : ∀ k, ok W k → k < W.heap.size → ok W' k := fun k hk hl => hS.grow h.size ⟨_, (h.fix tB (by simp)).2⟩ hb k (fun _ => hk) (Nat.lt_of_lt_of_le hl hz)
  refine ⟨(hb.block _ (h.fix tB (by simp)).1).trans h.tbox, (cell_eq (hb.block _ (h.fix pB (by simp)).1) 0).trans h.pbox, (cell_eq (hb.block _ (h.fix pp (by simp)).1) 0).trans h.toD, h.dag.below hb, ?_, fun k hk' => ⟨Nat.lt_of_lt_of_le (h.fix k hk').1 hz, ho k (h.fix k hk').2 (h.fix k hk').1⟩, h.apart, Nat.le_trans h.size hz⟩
  exact (h.tip.below hb).mono fun k hk' => ⟨ho k hk'.1 hk'.2.2, hk'.2.1, Nat.lt_of_lt_of_le hk'.2.2 hz⟩
theorem ChS.step (h : ChS ok n₀ W tB pB pp p b1 b2 D okx tv cur) (hS : Spare ok Kp n₀ tB) (hb : Below W.heap.size W W') {t2 : Value} {c2 : List ID} (ht : TipIs (fun k => W.heap.size ≤ k ∨ okx k) W' (hdrs D) t2 c2) : ChS ok n₀ (W'.setRow tB #[t2]) tB pB pp p b1 b2 D okx t2 c2 := by
  have h1 := h.grow hS hb
  have hlt := (h.fix tB (by simp)).1
  have hsz : (W'.setRow tB #[t2]).heap.size = W'.heap.size := by simp
  refine ⟨setRow_heap _ _ _ _ _ _ h1.tbox, (cell_eq (heap_setRow_ne _ _ _ _ h.apart.2.1) 0).trans h1.pbox, (cell_eq (heap_setRow_ne _ _ _ _ h.apart.2.2) 0).trans h1.toD, h1.dag.fr ⟨by simp, fun k hk _ => heap_setRow_ne _ _ _ _ (fun e => h.apart.1 (e ▸ hk))⟩, ?_, fun k hk => ⟨by rw [hsz]; exact (h1.fix k hk).1, hS.set _ _ (h1.fix k hk).2⟩, h.apart, by rw [hsz]; exact h1.size⟩
  have hne : ∀ k, (W.heap.size ≤ k ∨ okx k) ∧ k < W'.heap.size → k ≠ tB := fun k hk => by
    rcases hk.1 with h2 | h2
    · omega
    · exact fun e => h.apart.1 (e ▸ h2)
  refine ((ht.old).set hne _).mono fun k hk => ⟨hS.set _ _ (hS.grow h.size ⟨_, (h.fix tB (by simp)).2⟩ hb k (fun hl => ?_) hk.2), hne k hk, by rw [hsz]; exact hk.2⟩
  rcases hk.1 with h2 | h2
  · exact absurd hl (Nat.not_lt.2 h2)
  · exact (h.fix k (.inl h2)).2
end

/-- What is left of a chain. -/
def leftG (G : List Hdr) (cur : List ID) : List (List ID) := if cur = [] then [] else chainG G cur
theorem leftG_step {G : List Hdr} (g : GoodG G) {T : List ID} (h : TipOf G T) : leftG G T = T :: leftG G (parG G T) := by
  have hne : T ≠ [] := fun e => by have := h.one; rw [e] at this; simp at this
  unfold leftG
  rw [if_neg hne]
  exact g.chain_step h
/-- At the head of the iterator's loop. -/
structure ChI (J : List (Value × List ID) → World → Prop) (ok : World → Nat → Prop) (n₀ : Nat) (tB pB pp p b1 b2 : Nat) (D : List LB) (okx : Nat → Prop) (T : List ID) (m : Nat) (is : Value) (W : World) (pre : List (Value × List ID)) (tv : Value) (cur : List ID) : Prop where
  st : ChS ok n₀ W tB pB pp p b1 b2 D okx tv cur
  j : J pre W
  is : is = .bool (!cur.isEmpty)
  tip : cur = [] ∨ TipOf (hdrs D) cur
  way : pre.map Prod.snd ++ leftG (hdrs D) cur = chainG (hdrs D) T
  m : m = (leftG (hdrs D) cur).length

set_option maxRecDepth 100000 in
set_option maxHeartbeats 2000000 in
theorem chain1_stops (n : Nat) (ok : World → Nat → Prop) (Kp : World → World → Prop) (n₀ tB pB pp p b1 b2 : Nat) (hS : Spare ok Kp n₀ tB) (D : List LB) (okx : Nat → Prop) (hf : FineD D) (g : GoodG (hdrs D)) (T : List ID) (hT : TipOf (hdrs D) T) (tv : Value) (w : World)
    (h : ∀ W, Below w.heap.size w W → w.heap.size + 2 ≤ W.heap.size → ChS ok n₀ W tB pB pp p b1 b2 D okx tv T) :
    SeqVar Fence.wide n Tryz.prog 203 #[.pointer (some ⟨tB, 0, none⟩), .pointer (some ⟨pB, 0, none⟩)] (fun x : Value × List ID => #[tipV x.1])
      (fun pre x W => ChS ok n₀ W tB pB pp p b1 b2 D okx x.1 x.2 ∧ TipOf (hdrs D) x.2 ∧ ∃ rest, pre.map Prod.snd ++ x.2 :: rest = chainG (hdrs D) T) Kp (fun xs => xs.map Prod.snd = chainG (hdrs D) T) (fun _ => True) tB w := by
  intro l J Jx W hb hsz hJ1 hJ2 hY h0
  have HS0 := Lib.hid (h W hb hsz)
  have HZ := Lib.hid (zero_is HS0.out.tip)
  have hTe : T.isEmpty = false := by cases T with | nil => exact absurd rfl hT.ne | cons a l => rfl
  rw [hTe] at HZ
  clear hTe
  have HY := Lib.hid hY
  clear h hb hsz hY
  refine callsIn_of_wp Tryz.func203 rfl trivial ?_ rfl
  simp only [Tryz.ntmps203, List.size_toArray, List.length_cons, List.length_nil, Nat.reduceAdd, Nat.reduceSub, Array.replicate_succ, Array.replicate_zero, List.push_toArray, List.append_toArray, List.nil_append, List.cons_append]
  gi_wp2_with (first
    | (refine wplIn_load rfl 28 (.tmp 1) rfl tB 0 rfl [tv] _ (fun j u hu => by rw [Nat.zero_add]; exact cell_block HS0.out.tbox (by simpa using hu)) Tryz.underlying28 rfl tip_size ?_)
    | (refine ⟨trivial, fun h => (by cases h), ?_⟩; refine (callsIn_wide.2 HZ.out).mono ?_; rintro e w1 ⟨rfl, hb1⟩; have HS1 := Lib.hid (HS0.out.grow hS hb1); have HJ1 := Lib.hid (hJ1 _ _ _ h0 hb1); clear hb1))
  gi_loopw [4] (fun is wr => ∃ m pre tv cur, ChI J ok n₀ tB pB pp p b1 b2 D okx T m is wr pre tv cur) (fun is wr => leastN fun m => ∃ pre tv cur, ChI J ok n₀ tB pB pp p b1 b2 D okx T m is wr pre tv cur)
  case atStart =>
    have hne : T ≠ [] := fun e => by have := hT.one; rw [e] at this; simp at this
    refine ⟨_, [], tv, T, HS1.out, HJ1.out, ?_, .inr hT, ?_, rfl⟩
    · cases T with
      | nil => exact absurd rfl hne
      | cons a l => rfl
    · unfold leftG; rw [if_neg hne]; rfl
  case round =>
    obtain ⟨hI0, hmin⟩ := leastN_spec hrel
    obtain ⟨pre, tv1, cur, hI⟩ := hI0
    generalize hme : leastN _ = m at hI hmin
    obtain ⟨hst, hj, rfl, htip, hway, hm⟩ := hI
    clear hrel
    by_cases hc : cur = []
    · subst hc
      have hpre : pre.map Prod.snd = chainG (hdrs D) T := by have h := hway; unfold leftG at h; rw [if_pos rfl, List.append_nil] at h; exact h
      gi_wp2
      refine ⟨fun _ h => (by cases h), ?_⟩
      gi_wp2
      go_end0
      exact ⟨⟨_, rfl⟩, .inl ⟨pre, hpre, hj⟩⟩
    · have ht : TipOf (hdrs D) cur := htip.resolve_left hc
      have hl := leftG_step g ht
      have HST := Lib.hid hst
      obtain ⟨fn, tmps, assign, body, hy, hR⟩ := HY.out pre (tv1, cur) wr hj ⟨hst, ht, _, by rw [← hl]; exact hway⟩
      have hbo : (!cur.isEmpty) = true := by cases cur with | nil => exact absurd rfl hc | cons a l => rfl
      rw [hbo]
      rw [hbo] at hme
      gi_wp2_with (first
        | (refine wplIn_load (by kernel_rfl) 28 (.tmp 1) rfl tB 0 rfl [tv1] _ (fun j u hu => by rw [Nat.zero_add]; exact cell_block HST.out.tbox (by simpa using hu)) Tryz.underlying28 rfl tip_size ?_))
      refine ⟨fun h => (by cases h), ?_⟩
      refine hR.mono ?_
      rintro e W2 (⟨rfl, hj2, hk2⟩ | ⟨rfl, hjx⟩)
      · have HS2 := Lib.hid (hst.kp hS hk2)
        have hpb := HS2.out.pbox
        have HPA := Lib.hid (parent_any W2 pp p b1 b2 D okx _ HS2.out.toD HS2.out.dag hf g tv1 cur ht HS2.out.tip)
        have HX : Hid (parG (hdrs D) cur = [] ∨ TipOf (hdrs D) (parG (hdrs D) cur)) := Lib.hid (by rcases g.par ht with ⟨h0, -⟩ | ⟨h1, -, -⟩; exact .inl h0; exact .inr h1)
        gi_wp2_with (first
          | (refine wplIn_load (by kernel_rfl) 28 (.tmp 1) rfl tB 0 rfl [tv1] _ (fun j u hu => by rw [Nat.zero_add]; exact cell_block HS2.out.tbox (by simpa using hu)) Tryz.underlying28 rfl tip_size ?_)
          | (refine ⟨trivial, fun h => (by cases h), ?_⟩; refine (callsIn_wide.2 HPA.out).mono ?_; rintro e w3 ⟨t3, rfl, ht3, hb3⟩; have HT3 := Lib.hid ht3; have HB3 := Lib.hid hb3; have HBX := Lib.hid (HS2.out.grow hS hb3); clear ht3 hb3)
          | (refine wplIn_store_row rfl 28 (.tmp 1) (.tmp 18) rfl tB rfl [t3] rfl _ 28 HBX.out.tbox rfl HT3.out.one tip_size ?_))
        go_roundw
        all_goals have hnew : ChI J ok n₀ tB pB pp p b1 b2 D okx T (leftG (hdrs D) (parG (hdrs D) cur)).length (.bool (!(parG (hdrs D) cur).isEmpty)) (w3.setRow tB #[t3]) (pre ++ [(tv1, cur)]) t3 (parG (hdrs D) cur) :=
          ⟨HS2.out.step hS HB3.out HT3.out, hJ2 _ _ _ (hJ1 _ _ _ hj2 HB3.out), rfl, HX.out, by rw [List.map_append, List.append_assoc]; show _ ++ (cur :: leftG (hdrs D) (parG (hdrs D) cur)) = _; rw [← hl]; exact hway, rfl⟩
        case rel => exact ⟨_, _, _, _, hnew⟩
        case measure =>
          refine Nat.lt_of_le_of_lt ((leastN_spec ⟨_, _, _, _, hnew⟩).2 _ ⟨_, _, _, hnew⟩) ?_
          rw [hme, hm, hl]
          simp
      · gi_wp2
        go_end0
        exact ⟨⟨_, rfl⟩, .inr ⟨_, trivial, hjx⟩⟩
end Go.Proofs.YthpcedficlhanaaGreatDoor
namespace Go.Proofs.YthpcedficlhanaaGreatDoor
open Go Go.RowKit

section
variable {F : Fence} {n : Nat} {P : Program} {ops : Array Oper} {Q : Exit → Act → World → Prop} {a : Act} {w : World} {i : Nat} {o : Oper} {K : Act → World → Prop}
end
end Go.Proofs.YthpcedficlhanaaGreatDoor
namespace Go.Proofs.YthpcedficlhanaaGreatDoor
open Go Go.RowKit

def noDefer (ops : Array Oper) : Bool := ops.all fun o => match o.op with | .defer _ => false | _ => true
theorem noDefer_spec {ops : Array Oper} (h : noDefer ops = true) {i : Nat} {o : Oper} (hi : ops[i]? = some o) : ∀ c, o.op ≠ .defer c := by
  intro c hc
  have h1 := Array.all_eq_true'.1 h o (Array.mem_of_getElem? hi)
  rw [hc] at h1
  cases h1
theorem rowsIn_wide {n : Nat} {P : Program} {row : String} {args : Array Value} {w : World} {R : Value → World → Prop} (h : Rows P row args w R) : RowsIn Fence.wide n P row args w R :=
  fun c cs _ => let ⟨v, w', r, s⟩ := h c cs; ⟨v, w', r, stepsIn_wide.2 s⟩

section
variable {n l : Nat} {P : Program} {ops : Array Oper} {Q : Exit → Act → World → Prop} {md : Region.Mode}
theorem operIn_of {o : Oper} {a : Act} {w : World} {K : Act → World → Prop} (hd : ∀ c, o.op ≠ .defer c) (h : o.wp P a w K Q) : o.wpIn (Fence.wide.inRound l) n P a w K Q := by
  unfold Oper.wpIn
  refine ⟨fun _ _ => trivial, ?_⟩
  rw [Oper.semAt_plain (Fence.wide.inRound l) _ _ hd]
  unfold Oper.wp at h
  generalize (execOp a.eval o).run P w = r at h ⊢
  cases r with
  | ok x w' =>
    cases x with
    | value v => exact h
    | skip => exact h
    | defer d => exact h
    | enter f args => exact ⟨fun h => (by cases h), callsIn_wide.2 h⟩
    | row r args => exact ⟨fun h => (by cases h), rowsIn_wide h⟩
    | _ => exact h.elim
  | halt x w' => cases x <;> exact h
theorem wpOpIn_of {i : Nat} {a : Act} {w : World} {K : Act → World → Prop} (hnd : noDefer ops = true) (hq : ¬ LetsOut Q) (h : wpOp P ops Q i K a w) : wpOpIn (Fence.wide.inRound l) n P ops Q i K a w := by
  unfold wpOp at h
  unfold wpOpIn
  cases hi : ops[i]? with
  | none => rw [hi] at h; exact h
  | some o =>
    rw [hi] at h
    simp only at h ⊢
    by_cases hw : Region.wanted o (yielded ops a.tmps) = true
    · rw [if_pos hw] at h ⊢
      exact operIn_of (noDefer_spec hnd hi) (h.resolve_right fun h => hq h.2)
    · rw [if_neg hw] at h ⊢
      exact ⟨fun _ _ => trivial, h⟩
theorem wpAnyIn_of (hnd : noDefer ops = true) (hq : ¬ LetsOut Q) : ∀ (f : Nat) (s : Array Bool) (a : Act) (w : World), wpAny P md ops Q f s a w → wpAnyIn (Fence.wide.inRound l) n P md ops Q f s a w
  | 0, _, _, _, h => h
  | f + 1, _, _, _, h => ⟨h.1, fun i hi => wpOpIn_mono (fun a' w' h' => wpAnyIn_of hnd hq f _ a' w' h') (wpOpIn_of hnd hq (h.2 i hi))⟩
def noDeferL (l : List Oper) : Bool := l.all fun o => match o.op with | .defer _ => false | _ => true
theorem listIn_of (hq : ¬ LetsOut Q) : ∀ (r : List Oper) (a : Act) (w : World), noDeferL r = true → wpList P ops Q r a w → wpListIn (Fence.wide.inRound l) n P ops Q r a w
  | [], _, _, _, h => h
  | o :: r, a, w, hnd, h => by
    unfold wpList at h
    unfold wpListIn
    have h1 : (match o.op with | .defer _ => false | _ => true) = true ∧ noDeferL r = true := by
      have := hnd
      unfold noDeferL at this
      rw [List.all_cons, Bool.and_eq_true] at this
      exact this
    by_cases hw : Region.wanted o (yielded ops a.tmps) = true
    · rw [if_pos hw] at h ⊢
      refine operIn_of (fun c hc => ?_) (Oper.wp_mono (fun a' w' h' => listIn_of hq r a' w' h1.2 h') (h.resolve_right fun h => hq h.2))
      have := h1.1
      rw [hc] at this
      cases this
    · rw [if_neg hw] at h ⊢
      exact ⟨fun _ _ => trivial, listIn_of hq r _ _ h1.2 h⟩
variable {S : World → Prop}
theorem stI_ (m : Nat) (s : Array Bool) {id : Nat} {a : Act} {w : World} (hm : P.follows .mixedOrders = true) (hn : ops.size = m) (hl : Array.replicate m false = s) (hnd : noDefer ops = true) (hq : ¬ LetsOut Q) (hS : S w.drew)
    (h : S w.drew → wpAnyH P .any ops Q S m s a w.drew) : (Code.region id ops true).wpIn (Fence.wide.inRound l) n P Q a w := by
  subst hn
  subst hl
  exact wpIn_region_any hm (wpAnyIn_of hnd hq _ _ _ _ (wpAny_of_held _ _ _ _ (h hS)))
end
end Go.Proofs.YthpcedficlhanaaGreatDoor
namespace Go.Proofs.YthpcedficlhanaaGreatDoor
open Go Go.RowKit Go.Maps Go.Shelf
attribute [local go_sem] Oper.semAt_some

set_option maxRecDepth 100000 in
set_option maxHeartbeats 1000000 in
theorem chain_any (w : World) (pp : Nat) (tv : Value) (hv : tv.oneCell' = true) :
    Calls Tryz.prog 172 #[.pointer (some ⟨pp, 0, none⟩), tipV tv] w fun e w' => e = .returned (.func (.func 203) #[] #[.pointer (some ⟨w.heap.size + 1, 0, none⟩), .pointer (some ⟨w.heap.size, 0, none⟩)]) ∧
      w' = (w.alloc (.cells #[.pointer (some ⟨pp, 0, none⟩)] 92)).alloc (.cells #[tv] 28) := by
  go_enter Tryz.func172, Tryz.ntmps172
  go_wp2
  go_ret
  exact ⟨rfl, rfl⟩

theorem TipIs.put {ok : Nat → Prop} {w : World} {G : List Hdr} {t : Value} {T : List ID} (h : TipIs ok w G t T) {b : Nat} (hb : ∀ k, ok k → k ≠ b) (o : Obj) : TipIs ok (w.putObj b o) G t T := h.fr ⟨by simp, fun k hk _ => World.putObj_heap_other (hb k hk)⟩
theorem keeps_below {B : Nat} {W W' : World} (hb : Below W.heap.size W W') : KeepsFrom B W W' := ⟨hb.size, fun k o _ hk _ => (hb.block k (Array.getElem?_eq_some_iff.1 hk).1).trans hk⟩
theorem keeps_set {B : Nat} (W : World) {g : Nat} (hg : g < B) (cs : Array Value) : KeepsFrom B W (W.setRow g cs) := ⟨by simp, fun k o hB hk _ => (heap_setRow_ne _ _ _ _ (by omega)).trans hk⟩
/-- What lies ahead of At's loop stays, but for the iterator's variable and the result. -/
structure AtLow (w W1 W : World) (tB rB : Nat) : Prop where
  below : Below w.heap.size w W
  far : w.heap.size ≤ tB ∧ w.heap.size ≤ rB ∧ w.heap.size ≤ W1.heap.size
  size : W1.heap.size ≤ W.heap.size
  same : ∀ j, j < W1.heap.size → j ≠ tB → j ≠ rB → W.heap[j]? = W1.heap[j]?

section
variable {w W1 W C : World} {tB rB : Nat}
theorem AtLow.grow (h : AtLow w W1 W tB rB) (hb : Below W.heap.size W C) : AtLow w W1 C tB rB := ⟨h.below.trans (hb.mono (Nat.le_trans h.far.2.2 h.size)), h.far, Nat.le_trans h.size hb.size, fun j hj h1 h2 => (hb.block j (Nat.lt_of_lt_of_le hj h.size)).trans (h.same j hj h1 h2)⟩
theorem AtLow.set (h : AtLow w W1 W tB rB) (cs : Array Value) : AtLow w W1 (W.setRow tB cs) tB rB := ⟨below_setRow h.below h.far.1 _, h.far, by simpa using h.size, fun j hj h1 h2 => (heap_setRow_ne _ _ _ _ h1).trans (h.same j hj h1 h2)⟩
theorem AtLow.res (h : AtLow w W1 W tB rB) (cs : Array Value) : AtLow w W1 (W.setRow rB cs) tB rB := ⟨below_setRow h.below h.far.2.1 _, h.far, by simpa using h.size, fun j hj h1 h2 => (heap_setRow_ne _ _ _ _ h2).trans (h.same j hj h1 h2)⟩
theorem AtLow.put (h : AtLow w W1 W tB rB) (o : Obj) : AtLow w W1 (W.putObj (W1.heap.size + 1) o) tB rB := ⟨h.below.grown (grownBy_putObj' W _ o) h.below.size (fun k e => by cases e; have := h.far.2.2; omega), h.far, by simpa using h.size, fun j hj h1 h2 => (World.putObj_heap_other (by omega)).trans (h.same j hj h1 h2)⟩
end
set_option maxRecDepth 100000 in
set_option maxHeartbeats 2000000 in
theorem at_any (w : World) (pp p b1 b2 : Nat) (D : List LB) (okx ok : Nat → Prop) (hp : w.cell? ⟨pp, 0, none⟩ = some (.pointer (some ⟨p, 0, none⟩))) (h : DagAt okx w p b1 b2 D) (hf : FineD D) (g : GoodG (hdrs D)) (tv : Value) (T : List ID) (ht : TipOf (hdrs D) T) (hw : TipIs ok w (hdrs D) tv T) (k : Int) :
    Calls Tryz.prog 133 #[.pointer (some ⟨pp, 0, none⟩), tipV tv, .int .i64 k] w fun e w' => ∃ t2, e = .returned (tipV t2) ∧ TipIs (fun j => ok j ∨ okx j ∨ j = pp ∨ w.heap.size ≤ j) w' (hdrs D) t2 (atG (hdrs D) T k) ∧ Below w.heap.size w w' := by
  have hv : tv.oneCell' = true := hw.one tv (by simp)
  refine (callsIn_wide (n := 5)).1 ?_
  refine callsIn_of_wp_marks Tryz.func133 rfl trivial ?_ rfl
  simp only [Tryz.ntmps133, List.size_toArray, List.length_cons, List.length_nil, Nat.reduceAdd, Nat.reduceSub, Array.replicate_succ, Array.replicate_zero, List.push_toArray, List.append_toArray, List.nil_append, List.cons_append]
  obtain ⟨W0, hW0⟩ : ∃ W0, (((w.alloc (.cells #[tv] 28)).alloc (.cells #[.int .i64 k] 3)).alloc (.cells #[.slice none 0 0] 28)) = W0 := ⟨_, rfl⟩
  have HC := Lib.hid (chain_any W0 pp tv hv)
  have HB0 : Hid (W0.heap[w.heap.size]? = some (.cells #[tv] 28 (0, 0))) := Lib.hid (by rw [← hW0]; exact (heap_alloc_old _ _ (by simp; omega)).trans ((heap_alloc_old _ _ (by simp)).trans (heap_alloc_new w _)))
  have HP : Hid (Below w.heap.size w W0 ∧ W0.heap.size = w.heap.size + 3 ∧ W0.heap[w.heap.size + 1]? = some (.cells #[.int .i64 k] 3 (0, 0)) ∧ W0.heap[w.heap.size + 2]? = some (.cells #[.slice none 0 0] 28 (0, 0))) := Lib.hid (by
    rw [← hW0]
    refine ⟨(((Below.refl _ w).alloc (Nat.le_refl _) _).alloc (by simp) _).alloc (by simp; omega) _, by simp, ?_, ?_⟩
    · have h1 := heap_alloc_new (w.alloc (.cells #[tv] 28)) (.cells #[.int .i64 k] 3)
      rw [World.size_alloc] at h1
      exact (heap_alloc_old _ _ (by simp)).trans h1
    · have h1 := heap_alloc_new ((w.alloc (.cells #[tv] 28)).alloc (.cells #[.int .i64 k] 3)) (.cells #[.slice none 0 0] 28)
      rw [World.size_alloc, World.size_alloc] at h1
      exact h1)
  gi_wp2_with (first
    | (refine wplIn_load (by kernel_rfl) 28 (.tmp 4) rfl w.heap.size 0 rfl [tv] _ (fun j u hu => by rw [Nat.zero_add]; exact cell_block HB0.out (by simpa using hu)) Tryz.underlying28 rfl tip_size ?_)
    | (refine ⟨trivial, ?_⟩; refine (callsIn_wide.2 HC.out).mono ?_; rintro e w1 ⟨rfl, hw1⟩; have HW1 := Lib.hid hw1; clear hw1))
  have hw1 := HW1.out
  have hz1 : w1.heap.size = W0.heap.size + 2 := by rw [hw1]; simp
  have hb1 : Below W0.heap.size W0 w1 := by rw [hw1]; exact ((Below.refl _ W0).alloc (Nat.le_refl _) _).alloc (by simp) _
  have hbw : Below w.heap.size w w1 := HP.out.1.trans (hb1.mono HP.out.1.size)
  have hz0 := HP.out.2.1
  obtain ⟨okr, hokr⟩ : ∃ okr : Nat → Prop, okr = fun j => (ok j ∨ okx j ∨ j = pp ∨ w.heap.size ≤ j) ∧ j ≠ w.heap.size + 2 := ⟨_, rfl⟩
  have hokn : ∀ j, w.heap.size ≤ j → j ≠ w.heap.size + 2 → okr j := fun j hj hn => by rw [hokr]; exact ⟨.inr (.inr (.inr hj)), hn⟩
  have HS : Spare (fun _ j => (j ≠ w1.heap.size + 1 ∧ j ≠ w1.heap.size) ∧ okr j) (fun A C => A.heap.size ≤ C.heap.size ∧ ∀ j, j ≠ w1.heap.size + 1 → j < A.heap.size → C.heap[j]? = A.heap[j]?) (w1.heap.size + 2) (W0.heap.size + 1) :=
    ⟨fun hK => ⟨hK.1, fun j hj hl => ⟨hK.2 j hj.1.1 hl, hj⟩⟩, fun {A C} hn _ hb j hj hl => by
      by_cases hlt : j < A.heap.size
      · exact hj hlt
      · exact ⟨⟨by omega, by omega⟩, hokn j (by omega) (by omega)⟩, fun _ _ hk => hk⟩
  have htb : w1.heap[W0.heap.size + 1]? = some (.cells #[tv] 28 (0, 0)) := by
    rw [hw1]
    have h1 := heap_alloc_new (W0.alloc (.cells #[.pointer (some ⟨pp, 0, none⟩)] 92)) (.cells #[tv] 28)
    rw [World.size_alloc] at h1
    exact h1
  have hpb : w1.cell? ⟨W0.heap.size, 0, none⟩ = some (.pointer (some ⟨pp, 0, none⟩)) := by
    rw [hw1]
    exact cell_block ((heap_alloc_old _ _ (by simp)).trans (heap_alloc_new W0 _)) rfl
  have hlt := cell_lt hp
  have hch : ∀ W, Below w1.heap.size w1 W → w1.heap.size + 2 ≤ W.heap.size → ChS (fun _ j => (j ≠ w1.heap.size + 1 ∧ j ≠ w1.heap.size) ∧ okr j) (w1.heap.size + 2) W (W0.heap.size + 1) W0.heap.size pp p b1 b2 D (fun k => okx k ∧ k < w.heap.size) tv T := fun W hb hs => by
    have hbW : Below w.heap.size w W := hbw.trans (hb.mono hbw.size)
    refine ⟨(hb.block _ (by omega)).trans htb, (cell_eq (hb.block _ (by omega)) 0).trans hpb, (hbW.cell hlt).trans hp, h.old.below hbW, (hw.old.below hbW).mono fun j hj => ⟨⟨⟨by have := hj.2; omega, by have := hj.2; omega⟩, by rw [hokr]; exact ⟨.inl hj.1, by have := hj.2; omega⟩⟩, by have := hj.2; omega, by have := hj.2; omega⟩, ?_, ⟨fun hk => by have := hk.2; omega, by omega, by omega⟩, hs⟩
    rintro j (⟨hx, hj⟩ | rfl | rfl | rfl)
    · exact ⟨by omega, ⟨by omega, by omega⟩, by rw [hokr]; exact ⟨.inr (.inl hx), by omega⟩⟩
    · exact ⟨by omega, ⟨by omega, by omega⟩, hokn _ (by omega) (by omega)⟩
    · exact ⟨by omega, ⟨by omega, by omega⟩, hokn _ (by omega) (by omega)⟩
    · exact ⟨by omega, ⟨by omega, by omega⟩, by rw [hokr]; exact ⟨.inr (.inr (.inl rfl)), by omega⟩⟩
  clear hw1
  refine wpIn_range_var rfl (by decide) (gf := 203) (lb := #[.pointer (some ⟨W0.heap.size + 1, 0, none⟩), .pointer (some ⟨W0.heap.size, 0, none⟩)]) rfl trivial (enters_of Tryz.func203 (by kernel_rfl) rfl)
    (chain1_stops _ _ _ _ _ _ pp p b1 b2 HS D _ hf g T ht tv w1 hch) (by omega) ?kt ?kb ?kg (Below.refl _ _) (fun _ => rfl)
    (fun pre W => (∀ x ∈ pre, k < hgtG (hdrs D) x.2) ∧ AtLow w w1 W (W0.heap.size + 1) (w.heap.size + 2) ∧ W.heap[w.heap.size + 2]? = some (.cells #[.slice none 0 0] 28 (0, 0)))
    (fun c pre W => c = .ret ∧ ∃ (x : Value × List ID), atG (hdrs D) T k = x.2 ∧ AtLow w w1 W (W0.heap.size + 1) (w.heap.size + 2) ∧ W.heap[w.heap.size + 2]? = some (.cells #[x.1] 28 (0, 0)) ∧ TipIs (fun j => (j ≠ w1.heap.size + 1 ∧ j ≠ w1.heap.size) ∧ okr j) W (hdrs D) x.1 x.2)
    ?bears ?ixp ?h0
    (fun pre x a' W => ∃ bx, w1.heap.size + 2 ≤ bx ∧ W.heap[bx]? = some (.cells #[x.1] 28 (0, 0)) ∧ TipIs (fun j => (j ≠ w1.heap.size + 1 ∧ j ≠ w1.heap.size) ∧ okr j) W (hdrs D) x.1 x.2 ∧ TipOf (hdrs D) x.2 ∧ (∃ rest, pre.map Prod.snd ++ x.2 :: rest = chainG (hdrs D) T) ∧ a' = { tmps := #[.pointer (some ⟨pp, 0, none⟩), tipV tv, .int .i64 k, undef, .pointer (some ⟨w.heap.size, 0, none⟩), .pointer (some ⟨w.heap.size + 1, 0, none⟩), .pointer (some ⟨w.heap.size + 1 + 1, 0, none⟩), .pointer (some ⟨bx, 0, none⟩), .pointer (some ⟨pp, 0, none⟩), .agg #[tv], .func (.func 203) #[] #[.pointer (some ⟨W0.heap.size + 1, 0, none⟩), .pointer (some ⟨W0.heap.size, 0, none⟩)], tipV x.1, undef, undef, undef, undef, undef, undef], defers := [] })
    ?axp ?assign ?body ?done ?stop
  case kt => exact fun h1 h2 => ⟨Nat.le_trans h1.1 h2.1, fun j hj hl => (h2.2 j hj (Nat.lt_of_lt_of_le hl h1.1)).trans (h1.2 j hj hl)⟩
  case kb => exact fun W o' => ⟨by simp, fun j hj _ => World.putObj_heap_other hj⟩
  case kg => exact fun hs hb => ⟨hb.size, fun j _ hl => hb.block j hl⟩
  case bears =>
    exact ⟨fun s A C hs hb => ⟨hs.1, hs.2.1.grow hb, (hb.block _ (Array.getElem?_eq_some_iff.1 hs.2.2).1).trans hs.2.2⟩, fun s A cs hs => ⟨hs.1, hs.2.1.set cs, (heap_setRow_ne _ _ _ _ (by omega)).trans hs.2.2⟩,
      fun s A o' hs => ⟨hs.1, hs.2.1.put o', (World.putObj_heap_other (by omega)).trans hs.2.2⟩⟩
  case ixp =>
    rintro c s A o' ⟨hc, x, ha, hl, hr, ht⟩
    exact ⟨hc, x, ha, hl.put o', (World.putObj_heap_other (by omega)).trans hr, ht.put (fun k hk => hk.1.1) o'⟩
  case h0 => exact ⟨by simp, ⟨hbw, ⟨by omega, by omega, by omega⟩, Nat.le_refl _, fun _ _ _ _ => rfl⟩, (hb1.block _ (by omega)).trans HP.out.2.2.2⟩
  case axp =>
    rintro pre x a' A o' ⟨bx, h1, h2, h3, h4⟩
    exact ⟨bx, h1, (World.putObj_heap_other (by omega)).trans h2, h3.put (fun k hk => hk.1.1) o', h4⟩
  case assign =>
    intro l pre x W K hi hx hsz hK
    obtain ⟨hc, htx, hrest⟩ := hx
    have HCX := Lib.hid hc
    have hb : Below W.heap.size W ((W.alloc (.cells #[.slice none 0 0] 28)).setRow W.heap.size #[x.1]) := below_setRow ((Below.refl _ W).alloc (Nat.le_refl _) _) (Nat.le_refl _) _
    have HK := Lib.hid (hK _ _ hb ⟨W.heap.size, hc.size, setRow_heap _ _ _ _ _ _ (heap_alloc_new W _), (((hc.tip.mono (ok' := fun j => (j ≠ w1.heap.size + 1 ∧ j ≠ w1.heap.size) ∧ okr j) fun j hj => hj.1).old.below ((Below.refl _ W).alloc (Nat.le_refl _) _)).set (fun j hj => by have := hj.2; omega) _).mono fun j hj => hj.1, htx, hrest, rfl⟩)
    clear hK hb hz0 hz1 hc
    gi_wp2_with (refine wplIn_store_row rfl 28 (.tmp 7) (.tmp 11) rfl W.heap.size rfl [x.1] rfl _ 28 (heap_alloc_new W _) rfl HCX.out.tip.one tip_size ?_)
    exact HK.out
  case body =>
    rintro l pre x a' W hl hsz ⟨hall, hlow, hr⟩ ⟨bx, hbx, hgx, htx, hto, ⟨rest, hrest⟩, rfl⟩
    obtain ⟨hx, hhx⟩ : ∃ hx, hgtG (hdrs D) x.2 = hx := ⟨_, rfl⟩
    have HH := Lib.hid (height_is (htx.below (Below.refl _ W).drew) hto)
    rw [hhx] at HH
    have hk1 : W.cell? ⟨w.heap.size + 1, 0, none⟩ = some (.int .i64 k) := by
      have h1 : W.heap[w.heap.size + 1]? = some (.cells #[.int .i64 k] 3 (0, 0)) := (hlow.same _ (by omega) (by omega) (by omega)).trans ((hb1.block _ (by omega)).trans HP.out.2.2.1)
      exact cell_block h1 rfl
    have HG := Lib.hid hgx
    have HZ := Lib.hid (And.intro hz0 hz1)
    have HR := Lib.hid hr
    have HL := Lib.hid hlow
    have HTX := Lib.hid htx
    clear hz0 hz1 hr hlow htx hgx
    gi_wp2
    refine stI_ (S := (fun W' => Below W.drew.heap.size W.drew W')) 4 #[false, false, false, false] (by kernel_rfl) rfl (by rfl) (by kernel_rfl) (by rintro ⟨_, _, h⟩; exact h) (Below.refl _ _) (fun hHeld => ?_)
    refine tk_ 0 (some 12) #[true, false, false, false] rfl rfl (by kernel_rfl) (fun _ _ _ h => h) (yieldsIf_load rfl 28 (.tmp 7) rfl bx 0 rfl [x.1] _ (fun W' h j u hu => by rw [Nat.zero_add]; exact (h.cell (cell_lt (cell_block (W := W) HG.out (by simpa using hu)))).trans (cell_block (W := W) HG.out (by simpa using hu))) Tryz.underlying28 rfl tip_size) hHeld (a' := ?_) ?_ ?_
    rotate_left
    · simp only [Act.put, List.setIfInBounds_toArray, List.set_cons_zero, List.set_cons_succ]
      rfl
    refine tk_ 2 (some 14) #[true, false, true, false] rfl rfl (by kernel_rfl) (fun _ _ _ h => h) (yieldsIf_cell rfl 3 (.tmp 5) rfl ⟨w.heap.size + 1, 0, none⟩ rfl (.int .i64 k) _ (fun W' h => (h.cell (cell_lt (W := W) hk1)).trans hk1) Tryz.underlying3 rfl) hHeld (a' := ?_) ?_ ?_
    rotate_left
    · simp only [Act.put, List.setIfInBounds_toArray, List.set_cons_zero, List.set_cons_succ]
      rfl
    refine call_ 1 (some 13) #[true, true, true, false] rfl rfl (by kernel_rfl) rfl 25 _ (by kernel_rfl) (HH.out) ?_
    rintro e w1 ⟨rfl, hb1⟩
    have HB1 := Lib.hid hb1
    have HG1 : Hid (w1.heap[bx]? = some (.cells #[x.1] 28 (0, 0))) := Lib.hid ((hb1.block _ (Array.getElem?_eq_some_iff.1 HG.out).1).trans HG.out)
    have HR1 : Hid (w1.heap[w.heap.size + 2]? = some (.cells #[.slice none 0 0] 28 (0, 0))) := Lib.hid ((hb1.block _ (Array.getElem?_eq_some_iff.1 HR.out).1).trans HR.out)
    refine ⟨_, rfl, hb1, fun hHeld => ⟨?_, ?_, ?_⟩⟩
    rotate_left
    · simp only [Act.put, List.setIfInBounds_toArray, List.set_cons_zero, List.set_cons_succ]
      rfl
    refine tk_ 3 (some 15) #[true, true, true, true] (v := ?_) (a' := ?_) rfl rfl (by kernel_rfl) (fun _ _ _ h => h) (yieldsIf_run rfl ?_) hHeld ?_ ?_
    rotate_left
    · intro w'
      go_simp
      with_reducible rfl
    rotate_left
    · simp only [Act.put, List.setIfInBounds_toArray, List.set_cons_zero, List.set_cons_succ]
      rfl
    refine wpAnyH_done (by kernel_rfl) ?_ _
    change Exit.then _ _ _ _ _
    have hbW : Below W.heap.size W w1 := (Below.refl _ W).drew.trans HB1.out
    have HLc := Lib.hid (HL.out.grow hbW)
    have HTc := Lib.hid (HTX.out.below hbW)
    gi_wp2_with (first
      | (refine wplIn_load rfl 28 (.tmp 7) rfl bx 0 rfl [x.1] _ (fun j u hu => by rw [Nat.zero_add]; exact cell_block HG1.out (by simpa using hu)) Tryz.underlying28 rfl tip_size ?_)
      | (refine wplIn_store_row rfl 28 (.tmp 6) (.tmp 16) rfl (w.heap.size + 2) rfl [x.1] rfl _ 28 HR1.out rfl HTX.out.one tip_size ?_))
    · rename_i hle
      have hz0 := HZ.out.1
      have hz1 := HZ.out.2
      have hat : atG (hdrs D) T k = x.2 := atG_split hrest (fun y hy => by obtain ⟨z, hz, rfl⟩ := List.mem_map.1 hy; exact hall z hz) (by rw [hhx]; exact hle)
      refine ⟨(keeps_below hbW).trans (keeps_set _ (by omega) _), rfl, x, hat, HLc.out.res _, setRow_heap _ _ _ _ _ _ HR1.out, HTc.out.set (fun j hj => ?_) _⟩
      have h2 := hj.2
      rw [hokr] at h2
      exact h2.2
    · rename_i hle
      refine ⟨keeps_below hbW, ⟨hbW.size, fun j _ hl => hbW.block j hl⟩, ?_, HLc.out, HR1.out⟩
      intro y hy
      rcases List.mem_append.1 hy with hy | hy
      · exact hall y hy
      · rw [List.mem_singleton.1 hy, hhx]; omega
  case done =>
    rintro Db xs W rfl hS ⟨hall, hl, hr⟩ hK
    have hnone : atG (hdrs D) T k = [] := by
      unfold atG
      rw [← hS, List.find?_map, List.find?_eq_none.2 fun x hx => by have := hall x hx; simp; omega]
      rfl
    have HZ := Lib.hid (And.intro hz0 hz1)
    have HR := Lib.hid hr
    have HL := Lib.hid hl
    have HK := Lib.hid hK
    have HN := Lib.hid hnone
    clear hz0 hz1 hl hr hK hnone hS hall
    gi_wp2_with (refine wplIn_store_row rfl 28 (.tmp 6) (.tmp 17) rfl (w.heap.size + 2) rfl [.slice none 0 0] rfl _ 28 HR.out rfl (by simp [Value.oneCell']) tip_size ?_)
    have hz0 := HZ.out.1
    have hz1 := HZ.out.2
    refine ⟨by simp, .inl ⟨_, _, rfl, run_takeDeferred ((heap_setRow_ne _ _ _ _ (by omega)).trans HK.out), ?_⟩⟩
    refine ⟨_, results_cell_row rfl _ _ (w.heap.size + 2) 28 #[.slice none 0 0] (0, 0) _ rfl ((World.putObj_heap_other (by omega)).trans (setRow_heap _ _ _ _ _ _ HR.out)) Tryz.underlying28 rfl tip_size, .slice none 0 0, rfl, ?_, ?_⟩
    · rw [HN.out]; exact TipIs.zero
    · exact (HL.out.res _).below.grown (grownBy_putObj' _ _ _) (HL.out.res _).below.size (fun k e => by cases e; omega)
  case stop =>
    rintro Db c pre W rfl - ⟨rfl, x, ha, hl, hr, htx⟩ hK
    have HZ := Lib.hid (And.intro hz0 hz1)
    have HR := Lib.hid hr
    have HBW := Lib.hid hl.below
    have hrb : w.heap.size + 1 + 1 = w.heap.size + 2 := rfl
    clear hz0 hz1 hl hr
    gi_wp2
    refine ⟨by simp, .inl ⟨_, _, rfl, run_takeDeferred hK, ?_⟩⟩
    have hz0 := HZ.out.1
    have hz1 := HZ.out.2
    refine ⟨_, results_cell_row rfl _ _ (w.heap.size + 2) 28 #[x.1] (0, 0) _ rfl ((World.putObj_heap_other (by omega)).trans HR.out) Tryz.underlying28 rfl tip_size, x.1, rfl, ?_, ?_⟩
    · try rw [ha]
      exact (htx.put (fun k hk => hk.1.2) _).mono fun j hj => by have h2 := hj.2; rw [hokr] at h2; exact h2.1
    · exact HBW.out.grown (grownBy_putObj' W _ _) HBW.out.size (fun k e => by cases e; omega)
end Go.Proofs.YthpcedficlhanaaGreatDoor
namespace Go.Proofs.YthpcedficlhanaaGreatDoor
open Go.RowKit

section
variable {ops : Array Oper} {rest : List Oper} {o : Oper} {a : Act} {w : World} {Q : Exit → Act → World → Prop}
theorem wpl_tip (hgd : Region.wanted o (yielded ops a.tmps) = true) (x : Operand) (ho : o.op = .load 28 x) (b : Nat) (hx : a.eval x = .pointer (some ⟨b, 0, none⟩)) (v : Value) (hb : w.heap[b]? = some (.cells #[v] 28 (0, 0)))
    (h : wpList Tryz.prog ops Q rest (a.put o.dst (tipV v)) w) : wpList Tryz.prog ops Q (o :: rest) a w :=
  wpl_load_on hgd 28 x ho b 0 hx [v] _ (fun j u hu => by rw [Nat.zero_add]; exact cell_block hb (by simpa using hu)) Tryz.underlying28 rfl tip_size h
theorem wpl_tip_set (hgd : o.guard = none) (x y : Operand) (ho : o.op = .store 28 x y) (g : Nat) (hx : a.eval x = .pointer (some ⟨g, 0, none⟩)) (v u : Value) (hy : a.eval y = tipV v) (hg : w.heap[g]? = some (.cells #[u] 28 (0, 0))) (h1 : ∀ u ∈ [v], u.oneCell' = true)
    (h : wpList Tryz.prog ops Q rest (a.put o.dst undef) (w.setRow g #[v])) : wpList Tryz.prog ops Q (o :: rest) a w :=
  wpl_store_row hgd 28 x y ho g hx [v] hy _ 28 hg rfl h1 tip_size h
end
theorem run_storeVar_1 {P : Program} (w : World) (g : Nat) (ty T : TypeId) (v u : Value) (hg : w.heap[g]? = some (.cells #[u] T (0, 0))) (h1 : v.oneCell' = true) (hi : (P.info? ty).map (·.size) = some 1) :
    (storeVar ty ⟨g, 0, none⟩ v).run P w = .ok () (w.setRow g #[v]) := by
  have hv : v.cells = #[v] := by cases v <;> first | rfl | cases h1
  cases hq : P.info? ty with
  | none => simp [hq] at hi
  | some i =>
    have hs : i.size = [v].length := by simpa [hq] using hi
    have := run_storeCells_from (P := P) g T [v] 0 #[u] w hg (by simp) (fun u hu => by rw [List.mem_singleton.1 hu]; exact h1)
    simpa [storeVar, sizeOf, typeInfo, hq, hs, hv] using this
section
variable {P : Program} {ops : Array Oper} {rest : List Oper} {o : Oper} {a : Act} {w : World} {Q : Exit → Act → World → Prop}
/-- A value of one cell, stored into a variable of its own. -/
theorem wpl_set1 (hgd : o.guard = none) (ty : TypeId) (x y : Operand) (ho : o.op = .store ty x y) (g : Nat) (hx : a.eval x = .pointer (some ⟨g, 0, none⟩)) (v u : Value) (T : TypeId) (hy : a.eval y = v) (hg : w.heap[g]? = some (.cells #[u] T (0, 0))) (h1 : v.oneCell' = true) (hi : (P.info? ty).map (·.size) = some 1)
    (h : wpList P ops Q rest (a.put o.dst undef) (w.setRow g #[v])) : wpList P ops Q (o :: rest) a w :=
  wpList_plain hgd fun K hK => by
    unfold Oper.wp execOp
    simp only [ho, hx, hy, Instr.storeAt, Instr.sureAddr, Sem.run_bind, Sem.run_pure, Result.andThen_ok, run_storeVar_1 w g ty T v u hg h1 hi]
    exact hK _ _ h
end
section
variable {S : World → Prop} {ops : Array Oper}
theorem yieldsIf_tipb {o : Oper} {a : Act} (hw : Region.wanted o (yielded ops a.tmps) = true) (x : Operand) (ho : o.op = .load 28 x) (b : Nat) (hx : a.eval x = .pointer (some ⟨b, 0, none⟩)) (v : Value) (hc : ∀ w, S w → w.heap[b]? = some (.cells #[v] 28 (0, 0))) : YieldsIf Tryz.prog ops S o (tipV v) a :=
  yieldsIf_load hw 28 x ho b 0 hx [v] _ (fun w hS j u hu => by rw [Nat.zero_add]; exact cell_block (hc w hS) (by simpa using hu)) Tryz.underlying28 rfl tip_size
end
/-- Two tipsets in two variables that were just made. -/
structure Box2 (w W : World) (v u : Value) : Prop where
  below : Below w.heap.size w W
  b0 : W.heap[w.heap.size]? = some (.cells #[v] 28 (0, 0))
  b1 : W.heap[w.heap.size + 1]? = some (.cells #[u] 28 (0, 0))
  lt : w.heap.size + 1 < W.heap.size
theorem Box2.next {w W W' : World} {v u : Value} (h : Box2 w W v u) (hb : Below W.heap.size W W') : Box2 w W' v u :=
  ⟨h.below.trans (hb.mono h.below.size), (hb.block _ (Nat.lt_of_succ_lt h.lt)).trans h.b0, (hb.block _ h.lt).trans h.b1, Nat.lt_of_lt_of_le h.lt hb.size⟩
theorem Box2.mk2 (w : World) (v u : Value) : Box2 w ((w.alloc (.cells #[v] 28)).alloc (.cells #[u] 28)) v u :=
  ⟨((Below.refl _ w).alloc (Nat.le_refl _) _).alloc (by simp) _, (heap_alloc_old _ _ (by simp)).trans (heap_alloc_new w _), by have := heap_alloc_new (w.alloc (.cells #[v] 28)) (.cells #[u] 28); rw [World.size_alloc] at this; exact this, by simp⟩
end Go.Proofs.YthpcedficlhanaaGreatDoor
