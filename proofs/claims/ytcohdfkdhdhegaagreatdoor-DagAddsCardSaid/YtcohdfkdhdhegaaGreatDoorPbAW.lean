/- Ways through a dag, in plain words: who descends from whom. No program in sight. path.Paths.chain: what its iterator does. A drawn region inside a fence: one operation at a time. A region that draws its order, inside a round, goes as it goes anywhere (no defer statement in it). No program in sight. -/
import Derived.Test.YtcohdfkdhdhegaaGreatDoorPbAN
import Derived.Test.YtcohdfkdhdhegaaGreatDoorPbAP
import Derived.Test.YtcohdfkdhdhegaaGreatDoorPbAV
import Derived.Shelf.Abstract
import Derived.Shelf.RegionOpen
import Derived.WalkKit
import Derived.OwnWalkIn
import Derived.TacticsInMore
import Derived.LoopNIn
import Derived.LoopIn
import Derived.OrdersIn
namespace Go.Proofs.YtcohdfkdhdhegaaGreatDoor

section
variable {G : List Hdr}
theorem TipOf.ne {T : List ID} (h : TipOf G T) : T ≠ [] := fun e => by have := h.one; rw [e] at this; simp at this
theorem GoodG.chain_ind (g : GoodG G) {M : List ID → Prop} (root : ∀ T, TipOf G T → parG G T = [] → (∃ l, T = rootID :: l) → M T) (step : ∀ T, TipOf G T → TipOf G (parG G T) → hgtG G (parG G T) < hgtG G T → M (parG G T) → M T) : ∀ T, TipOf G T → M T := by
  have H : ∀ n T, TipOf G T → (hgtG G T).toNat = n → M T := by
    intro n
    induction n using Nat.strongRecOn with
    | _ n ih =>
      intro T h hn
      rcases g.par h with ⟨h0, hl⟩ | ⟨h1, h2, h3⟩
      · exact root T h h0 hl
      · exact step T h h1 h2 (ih _ (by have := g.hgt0 h1; omega) _ h1 rfl)
  exact fun T h => H _ T h rfl
theorem GoodG.chain_root (g : GoodG G) {T : List ID} (h : TipOf G T) (h0 : parG G T = []) : chainG G T = [T] := by
  rw [g.chain_step h, if_pos h0]
theorem GoodG.chain_cons (g : GoodG G) {T : List ID} (h : TipOf G T) (h1 : TipOf G (parG G T)) : chainG G T = T :: chainG G (parG G T) := by
  rw [g.chain_step h, if_neg h1.ne]
theorem GoodG.chain_tip (g : GoodG G) : ∀ T, TipOf G T → ∀ F ∈ chainG G T, TipOf G F := by
  refine g.chain_ind (fun T h h0 _ F hF => ?_) (fun T h h1 _ ih F hF => ?_)
  · rw [g.chain_root h h0] at hF
    rw [List.mem_singleton.1 hF]; exact h
  · rw [g.chain_cons h h1] at hF
    rcases List.mem_cons.1 hF with rfl | hF
    · exact h
    · exact ih F hF
theorem GoodG.chain_self (g : GoodG G) {T : List ID} (h : TipOf G T) : T ∈ chainG G T := by
  rw [g.chain_step h]; exact List.mem_cons_self
theorem GoodG.chain_low (g : GoodG G) : ∀ T, TipOf G T → ∀ F ∈ chainG G T, hgtG G F ≤ hgtG G T := by
  refine g.chain_ind (fun T h h0 _ F hF => ?_) (fun T h h1 hl ih F hF => ?_)
  · rw [g.chain_root h h0] at hF
    rw [List.mem_singleton.1 hF]; exact Int.le_refl _
  · rw [g.chain_cons h h1] at hF
    rcases List.mem_cons.1 hF with rfl | hF
    · exact Int.le_refl _
    · exact Int.le_trans (ih F hF) (Int.le_of_lt hl)
theorem GoodG.chain_down (g : GoodG G) : ∀ T, TipOf G T → (chainG G T).Pairwise fun a b => hgtG G b < hgtG G a := by
  refine g.chain_ind (fun T h h0 _ => ?_) (fun T h h1 hl ih => ?_)
  · rw [g.chain_root h h0]; simp
  · rw [g.chain_cons h h1]
    exact List.pairwise_cons.2 ⟨fun F hF => Int.lt_of_le_of_lt (g.chain_low _ h1 F hF) hl, ih⟩
theorem GoodG.chain_tail (g : GoodG G) : ∀ T, TipOf G T → ∀ F ∈ chainG G T, ∃ pre, chainG G T = pre ++ chainG G F := by
  refine g.chain_ind (fun T h h0 _ F hF => ?_) (fun T h h1 _ ih F hF => ?_)
  · rw [g.chain_root h h0] at hF
    rw [List.mem_singleton.1 hF]; exact ⟨[], rfl⟩
  · rw [g.chain_cons h h1] at hF ⊢
    rcases List.mem_cons.1 hF with rfl | hF
    · exact ⟨[], by rw [g.chain_cons h h1]; rfl⟩
    · obtain ⟨pre, hp⟩ := ih F hF
      exact ⟨T :: pre, by rw [hp]; rfl⟩
theorem GoodG.chain_trans (g : GoodG G) {T F E : List ID} (h : TipOf G T) (hF : F ∈ chainG G T) (hE : E ∈ chainG G F) : E ∈ chainG G T := by
  obtain ⟨pre, hp⟩ := g.chain_tail T h F hF
  rw [hp]; exact List.mem_append_right _ hE
/-- The highest one of at most a height. -/
def atG (G : List Hdr) (T : List ID) (k : Int) : List ID := ((chainG G T).find? fun T => decide (hgtG G T ≤ k)).getD []
theorem atG_mem {T : List ID} {k : Int} : atG G T k = [] ∨ (atG G T k ∈ chainG G T ∧ hgtG G (atG G T k) ≤ k) := by
  unfold atG
  cases h : (chainG G T).find? fun T => decide (hgtG G T ≤ k) with
  | none => exact .inl rfl
  | some F => exact .inr ⟨List.mem_of_find?_eq_some h, by have := List.find?_some h; simpa using this⟩
theorem GoodG.atG_tip (g : GoodG G) {T : List ID} (h : TipOf G T) (k : Int) : atG G T k = [] ∨ TipOf G (atG G T k) := by
  rcases atG_mem (G := G) (T := T) (k := k) with h0 | ⟨h1, -⟩
  · exact .inl h0
  · exact .inr (g.chain_tip T h _ h1)
/-- The first that is not above a height. -/
theorem atG_split {T : List ID} {pre rest : List (List ID)} {F : List ID} {k : Int} (hs : pre ++ F :: rest = chainG G T) (hpre : ∀ x ∈ pre, k < hgtG G x) (hF : hgtG G F ≤ k) : atG G T k = F := by
  unfold atG
  rw [← hs, List.find?_append, List.find?_eq_none.2 fun x hx => by have := hpre x hx; simp; omega]
  simp [hF]
theorem GoodG.atG_self (g : GoodG G) {T F : List ID} (h : TipOf G T) (hF : F ∈ chainG G T) : atG G T (hgtG G F) = F := by
  obtain ⟨pre, rest, hs⟩ := List.append_of_mem hF
  have hd := g.chain_down T h
  rw [hs] at hd
  refine atG_split hs.symm (fun x hx => ?_) (Int.le_refl _)
  exact (List.pairwise_append.1 hd).2.2 x hx F List.mem_cons_self
/-- Asked by heights, or looked for in the chain: it is the same. -/
theorem GoodG.at_iff (g : GoodG G) {T F : List ID} (h : TipOf G T) (hF : F ≠ []) : atG G T (hgtG G F) = F ↔ F ∈ chainG G T := by
  refine ⟨fun he => ?_, g.atG_self h⟩
  rcases atG_mem (G := G) (T := T) (k := hgtG G F) with h0 | ⟨h1, -⟩
  · exact absurd (he.symm.trans h0) hF
  · rw [he] at h1; exact h1
open Classical in
noncomputable def descG (G : List Hdr) (T F : List ID) : Bool := decide (F ∈ chainG G T)
theorem descG_iff {T F : List ID} : descG G T F = true ↔ F ∈ chainG G T := by unfold descG; simp
end
end Go.Proofs.YtcohdfkdhdhegaaGreatDoor
namespace Go.Proofs.YtcohdfkdhdhegaaGreatDoor
open Go Go.RowKit Go.Maps Go.Shelf
attribute [local go_sem] Oper.semAt_some

section
theorem least_ex {P : Nat → Prop} : ∀ m, P m → ∃ k, P k ∧ ∀ j, P j → k ≤ j := by
  intro m
  induction m using Nat.strongRecOn with
  | _ m ih =>
    intro h
    by_cases hl : ∃ j, j < m ∧ P j
    · obtain ⟨j, hj, hp⟩ := hl
      exact ih j hj hp
    · exact ⟨m, h, fun j hj => Nat.le_of_not_lt fun hlt => hl ⟨j, hlt, hj⟩⟩
open Classical in
/-- The least number of which something holds. -/
noncomputable def leastN (P : Nat → Prop) : Nat := if h : ∃ m, P m then Classical.choose (least_ex h.choose h.choose_spec) else 0
theorem leastN_spec {P : Nat → Prop} (h : ∃ m, P m) : P (leastN P) ∧ ∀ j, P j → leastN P ≤ j := by
  unfold leastN
  rw [dif_pos h]
  exact Classical.choose_spec (least_ex h.choose h.choose_spec)
end
section
variable {F : Fence} {n : Nat} {P : Program} {ops : Array Oper} {Q : Exit → Act → World → Prop} {a : Act} {w : World} {rest : List Oper} {o : Oper}
theorem wplIn_load (hw : Region.wanted o (yielded ops a.tmps) = true) (ty : TypeId) (x : Operand) (ho : o.op = .load ty x)
    (b off : Nat) (hx : a.eval x = .pointer (some ⟨b, off, none⟩)) (cs : List Value) (d : TypeDesc) (hc : ∀ j u, cs[j]? = some u → w.cell? ⟨b, off + j, none⟩ = some u)
    (hu : P.underlying ty = some d) (hd : (match d with | .struct _ | .array _ _ => true | _ => false) = true) (hi : (P.info? ty).map (·.size) = some cs.length)
    (h : wpListIn F n P ops Q rest (a.put o.dst (.agg cs.toArray)) w) : wpListIn F n P ops Q (o :: rest) a w :=
  wpListIn_step fun K hK => by
    rw [if_pos hw]
    unfold Oper.wpIn
    refine ⟨by simp [Oper.about, ho], ?_⟩
    rw [Oper.semAt_plain F _ _ (by rw [ho]; intro c hc'; cases hc')]
    unfold execOp
    simp only [ho, hx, Instr.loadAt, Instr.sureAddr, Sem.run_bind, Sem.run_pure, Result.andThen_ok, run_loadVar_at w b off ty cs d hc hu hd hi]
    exact hK _ _ h
theorem wplIn_store_row (hgd : o.guard = none) (ty : TypeId) (x y : Operand) (ho : o.op = .store ty x y) (g : Nat)
    (hx : a.eval x = .pointer (some ⟨g, 0, none⟩)) (cs : List Value) (hy : a.eval y = .agg cs.toArray) (cur : Array Value) (T : TypeId) (hg : w.heap[g]? = some (.cells cur T (0, 0))) (hl : cs.length = cur.size) (h1 : ∀ u ∈ cs, u.oneCell' = true) (hi : (P.info? ty).map (·.size) = some cs.length)
    (h : wpListIn F n P ops Q rest (a.put o.dst undef) (w.setRow g cs.toArray)) : wpListIn F n P ops Q (o :: rest) a w :=
  wpListIn_plain hgd fun K hK => by
    unfold Oper.wpIn
    refine ⟨by simp [Oper.about, ho], ?_⟩
    rw [Oper.semAt_plain F _ _ (by rw [ho]; intro c hc'; cases hc')]
    unfold execOp
    simp only [ho, hx, hy, Instr.storeAt, Instr.sureAddr, Sem.run_bind, Sem.run_pure, Result.andThen_ok, run_storeVar_block w g ty T cs cur hg hl h1 hi]
    exact hK _ _ h
end

/-- What a caller's rounds spare. -/
structure Spare (ok : World → Nat → Prop) (Kp : World → World → Prop) (n₀ tB : Nat) : Prop where
  kp : ∀ {A C}, Kp A C → A.heap.size ≤ C.heap.size ∧ ∀ k, ok A k → k < A.heap.size → C.heap[k]? = A.heap[k]? ∧ ok C k
  grow : ∀ {A C}, n₀ ≤ A.heap.size → (∃ k, ok A k) → Below A.heap.size A C → ∀ k, (k < A.heap.size → ok A k) → k < C.heap.size → ok C k
  set : ∀ {A} cs k, ok A k → ok (A.setRow tB cs) k
/-- What lies while a chain is walked. -/
structure ChS (ok : World → Nat → Prop) (n₀ : Nat) (W : World) (tB pB pp p b1 b2 : Nat) (D : List LB) (okx : Nat → Prop) (tv : Value) (cur : List ID) : Prop where
  tbox : W.heap[tB]? = some (.cells #[tv] 52 (0, 0))
  pbox : W.cell? ⟨pB, 0, none⟩ = some (.pointer (some ⟨pp, 0, none⟩))
  toD : W.cell? ⟨pp, 0, none⟩ = some (.pointer (some ⟨p, 0, none⟩))
  dag : DagAt okx W p b1 b2 D
  tip : TipIs (fun k => ok W k ∧ k ≠ tB ∧ k < W.heap.size) W (hdrs D) tv cur
  fix : ∀ k, (okx k ∨ k = tB ∨ k = pB ∨ k = pp) → k < W.heap.size ∧ ok W k
  apart : ¬ okx tB ∧ pB ≠ tB ∧ pp ≠ tB
  size : n₀ ≤ W.heap.size
section
variable {ok : World → Nat → Prop} {Kp : World → World → Prop} {n₀ tB pB pp p b1 b2 : Nat} {W W' : World} {D : List LB} {okx : Nat → Prop} {tv : Value} {cur : List ID}
theorem cell_eq {A C : World} {k : Nat} (h : C.heap[k]? = A.heap[k]?) (off : Nat) : C.cell? ⟨k, off, none⟩ = A.cell? ⟨k, off, none⟩ := World.cell?_of_block (w := A) h
theorem ChS.kp (h : ChS ok n₀ W tB pB pp p b1 b2 D okx tv cur) (hS : Spare ok Kp n₀ tB) (hK : Kp W W') : ChS ok n₀ W' tB pB pp p b1 b2 D okx tv cur := by
  obtain ⟨hz, hk⟩ := hS.kp hK
  have hs : ∀ k, (okx k ∨ k = tB ∨ k = pB ∨ k = pp) → W'.heap[k]? = W.heap[k]? ∧ ok W' k := fun k hk' => hk k (h.fix k hk').2 (h.fix k hk').1
  refine ⟨(hs tB (by simp)).1.trans h.tbox, (cell_eq (hs pB (by simp)).1 0).trans h.pbox, (cell_eq (hs pp (by simp)).1 0).trans h.toD, h.dag.fr ⟨hz, fun k hk' _ => (hs k (.inl hk')).1⟩, ?_, fun k hk' => ⟨Nat.lt_of_lt_of_le (h.fix k hk').1 hz, (hs k hk').2⟩, h.apart, Nat.le_trans h.size hz⟩
  exact (h.tip.fr ⟨hz, fun k hk' _ => (hk k hk'.1 hk'.2.2).1⟩).mono fun k hk' => ⟨(hk k hk'.1 hk'.2.2).2, hk'.2.1, Nat.lt_of_lt_of_le hk'.2.2 hz⟩
theorem ChS.grow (h : ChS ok n₀ W tB pB pp p b1 b2 D okx tv cur) (hS : Spare ok Kp n₀ tB) (hb : Below W.heap.size W W') : ChS ok n₀ W' tB pB pp p b1 b2 D okx tv cur := by
  have hz := hb.size
  have ho : ∀ k, ok W k → k < W.heap.size → ok W' k := fun k hk hl => hS.grow h.size ⟨_, (h.fix tB (by simp)).2⟩ hb k (fun _ => hk) (Nat.lt_of_lt_of_le hl hz)
  refine ⟨(hb.block _ (h.fix tB (by simp)).1).trans h.tbox, (cell_eq (hb.block _ (h.fix pB (by simp)).1) 0).trans h.pbox, (cell_eq (hb.block _ (h.fix pp (by simp)).1) 0).trans h.toD, h.dag.below hb, ?_, fun k hk' => ⟨Nat.lt_of_lt_of_le (h.fix k hk').1 hz, ho k (h.fix k hk').2 (h.fix k hk').1⟩, h.apart, Nat.le_trans h.size hz⟩
  exact (h.tip.below hb).mono fun k hk' => ⟨ho k hk'.1 hk'.2.2, hk'.2.1, Nat.lt_of_lt_of_le hk'.2.2 hz⟩
theorem ChS.step (h : ChS ok n₀ W tB pB pp p b1 b2 D okx tv cur) (hS : Spare ok Kp n₀ tB) (hb : Below W.heap.size W W') {t2 : Value} {c2 : List ID} (ht : TipIs (fun k => W.heap.size ≤ k ∨ okx k) W' (hdrs D) t2 c2) : ChS ok n₀ (W'.setRow tB #[t2]) tB pB pp p b1 b2 D okx t2 c2 := by
  have h1 := h.grow hS hb
  have hlt := (h.fix tB (by simp)).1
  have hsz : (W'.setRow tB #[t2]).heap.size = W'.heap.size := by simp
  refine ⟨setRow_heap _ _ _ _ _ _ h1.tbox, (cell_eq (heap_setRow_ne _ _ _ _ h.apart.2.1) 0).trans h1.pbox, (cell_eq (heap_setRow_ne _ _ _ _ h.apart.2.2) 0).trans h1.toD, h1.dag.fr ⟨by simp, fun k hk _ => heap_setRow_ne _ _ _ _ (fun e => h.apart.1 (e ▸ hk))⟩, ?_, fun k hk => ⟨by rw [hsz]; exact (h1.fix k hk).1, hS.set _ _ (h1.fix k hk).2⟩, h.apart, by rw [hsz]; exact h1.size⟩
  have hne : ∀ k, (W.heap.size ≤ k ∨ okx k) ∧ k < W'.heap.size → k ≠ tB := fun k hk => by
    rcases hk.1 with h2 | h2
    · omega
    · exact fun e => h.apart.1 (e ▸ h2)
  refine ((ht.old).set hne _).mono fun k hk => ⟨hS.set _ _ (hS.grow h.size ⟨_, (h.fix tB (by simp)).2⟩ hb k (fun hl => ?_) hk.2), hne k hk, by rw [hsz]; exact hk.2⟩
  rcases hk.1 with h2 | h2
  · exact absurd hl (Nat.not_lt.2 h2)
  · exact (h.fix k (.inl h2)).2
end

/-- What is left of a chain. -/
def leftG (G : List Hdr) (cur : List ID) : List (List ID) := if cur = [] then [] else chainG G cur
theorem leftG_step {G : List Hdr} (g : GoodG G) {T : List ID} (h : TipOf G T) : leftG G T = T :: leftG G (parG G T) := by
  have hne : T ≠ [] := fun e => by have := h.one; rw [e] at this; simp at this
  unfold leftG
  rw [if_neg hne]
  exact g.chain_step h
/-- At the head of the iterator's loop. -/
structure ChI (J : List (Value × List ID) → World → Prop) (ok : World → Nat → Prop) (n₀ : Nat) (tB pB pp p b1 b2 : Nat) (D : List LB) (okx : Nat → Prop) (T : List ID) (m : Nat) (is : Value) (W : World) (pre : List (Value × List ID)) (tv : Value) (cur : List ID) : Prop where
  st : ChS ok n₀ W tB pB pp p b1 b2 D okx tv cur
  j : J pre W
  is : is = .bool (!cur.isEmpty)
  tip : cur = [] ∨ TipOf (hdrs D) cur
  way : pre.map Prod.snd ++ leftG (hdrs D) cur = chainG (hdrs D) T
  m : m = (leftG (hdrs D) cur).length

set_option maxRecDepth 100000 in
set_option maxHeartbeats 2000000 in
theorem chain1_stops (n : Nat) (ok : World → Nat → Prop) (Kp : World → World → Prop) (n₀ tB pB pp p b1 b2 : Nat) (hS : Spare ok Kp n₀ tB) (D : List LB) (okx : Nat → Prop) (hf : FineD D) (g : GoodG (hdrs D)) (T : List ID) (hT : TipOf (hdrs D) T) (tv : Value) (w : World)
    (h : ∀ W, Below w.heap.size w W → w.heap.size + 2 ≤ W.heap.size → ChS ok n₀ W tB pB pp p b1 b2 D okx tv T) :
    SeqVar Fence.wide n Tryz.prog 168 #[.pointer (some ⟨tB, 0, none⟩), .pointer (some ⟨pB, 0, none⟩)] (fun x : Value × List ID => #[tipV x.1])
      (fun pre x W => ChS ok n₀ W tB pB pp p b1 b2 D okx x.1 x.2 ∧ TipOf (hdrs D) x.2 ∧ ∃ rest, pre.map Prod.snd ++ x.2 :: rest = chainG (hdrs D) T) Kp (fun xs => xs.map Prod.snd = chainG (hdrs D) T) (fun _ => True) tB w := by
  intro l J Jx W hb hsz hJ1 hJ2 hY h0
  have HS0 := Lib.hid (h W hb hsz)
  have HZ := Lib.hid (zero_is HS0.out.tip)
  have hTe : T.isEmpty = false := by cases T with | nil => exact absurd rfl hT.ne | cons a l => rfl
  rw [hTe] at HZ
  clear hTe
  have HY := Lib.hid hY
  clear h hb hsz hY
  refine callsIn_of_wp Tryz.func168 rfl trivial ?_ rfl
  simp only [Tryz.ntmps168, List.size_toArray, List.length_cons, List.length_nil, Nat.reduceAdd, Nat.reduceSub, Array.replicate_succ, Array.replicate_zero, List.push_toArray, List.append_toArray, List.nil_append, List.cons_append]
  gi_wp2_with (first
    | (refine wplIn_load rfl 52 (.tmp 1) rfl tB 0 rfl [tv] _ (fun j u hu => by rw [Nat.zero_add]; exact cell_block HS0.out.tbox (by simpa using hu)) Tryz.underlying52 rfl tip_size ?_)
    | (refine ⟨trivial, fun h => (by cases h), ?_⟩; refine (callsIn_wide.2 HZ.out).mono ?_; rintro e w1 ⟨rfl, hb1⟩; have HS1 := Lib.hid (HS0.out.grow hS hb1); have HJ1 := Lib.hid (hJ1 _ _ _ h0 hb1); clear hb1))
  gi_loopw [4] (fun is wr => ∃ m pre tv cur, ChI J ok n₀ tB pB pp p b1 b2 D okx T m is wr pre tv cur) (fun is wr => leastN fun m => ∃ pre tv cur, ChI J ok n₀ tB pB pp p b1 b2 D okx T m is wr pre tv cur)
  case atStart =>
    have hne : T ≠ [] := fun e => by have := hT.one; rw [e] at this; simp at this
    refine ⟨_, [], tv, T, HS1.out, HJ1.out, ?_, .inr hT, ?_, rfl⟩
    · cases T with
      | nil => exact absurd rfl hne
      | cons a l => rfl
    · unfold leftG; rw [if_neg hne]; rfl
  case round =>
    obtain ⟨hI0, hmin⟩ := leastN_spec hrel
    obtain ⟨pre, tv1, cur, hI⟩ := hI0
    generalize hme : leastN _ = m at hI hmin
    obtain ⟨hst, hj, rfl, htip, hway, hm⟩ := hI
    clear hrel
    by_cases hc : cur = []
    · subst hc
      have hpre : pre.map Prod.snd = chainG (hdrs D) T := by have h := hway; unfold leftG at h; rw [if_pos rfl, List.append_nil] at h; exact h
      gi_wp2
      refine ⟨fun _ h => (by cases h), ?_⟩
      gi_wp2
      go_end0
      exact ⟨⟨_, rfl⟩, .inl ⟨pre, hpre, hj⟩⟩
    · have ht : TipOf (hdrs D) cur := htip.resolve_left hc
      have hl := leftG_step g ht
      have HST := Lib.hid hst
      obtain ⟨fn, tmps, assign, body, hy, hR⟩ := HY.out pre (tv1, cur) wr hj ⟨hst, ht, _, by rw [← hl]; exact hway⟩
      have hbo : (!cur.isEmpty) = true := by cases cur with | nil => exact absurd rfl hc | cons a l => rfl
      rw [hbo]
      rw [hbo] at hme
      gi_wp2_with (first
        | (refine wplIn_load (by kernel_rfl) 52 (.tmp 1) rfl tB 0 rfl [tv1] _ (fun j u hu => by rw [Nat.zero_add]; exact cell_block HST.out.tbox (by simpa using hu)) Tryz.underlying52 rfl tip_size ?_))
      refine ⟨fun h => (by cases h), ?_⟩
      refine hR.mono ?_
      rintro e W2 (⟨rfl, hj2, hk2⟩ | ⟨rfl, hjx⟩)
      · have HS2 := Lib.hid (hst.kp hS hk2)
        have hpb := HS2.out.pbox
        have HPA := Lib.hid (parent_any W2 pp p b1 b2 D okx _ HS2.out.toD HS2.out.dag hf g tv1 cur ht HS2.out.tip)
        have HX : Hid (parG (hdrs D) cur = [] ∨ TipOf (hdrs D) (parG (hdrs D) cur)) := Lib.hid (by rcases g.par ht with ⟨h0, -⟩ | ⟨h1, -, -⟩; exact .inl h0; exact .inr h1)
        gi_wp2_with (first
          | (refine wplIn_load (by kernel_rfl) 52 (.tmp 1) rfl tB 0 rfl [tv1] _ (fun j u hu => by rw [Nat.zero_add]; exact cell_block HS2.out.tbox (by simpa using hu)) Tryz.underlying52 rfl tip_size ?_)
          | (refine ⟨trivial, fun h => (by cases h), ?_⟩; refine (callsIn_wide.2 HPA.out).mono ?_; rintro e w3 ⟨t3, rfl, ht3, hb3⟩; have HT3 := Lib.hid ht3; have HB3 := Lib.hid hb3; have HBX := Lib.hid (HS2.out.grow hS hb3); clear ht3 hb3)
          | (refine wplIn_store_row rfl 52 (.tmp 1) (.tmp 18) rfl tB rfl [t3] rfl _ 52 HBX.out.tbox rfl HT3.out.one tip_size ?_))
        go_roundw
        all_goals have hnew : ChI J ok n₀ tB pB pp p b1 b2 D okx T (leftG (hdrs D) (parG (hdrs D) cur)).length (.bool (!(parG (hdrs D) cur).isEmpty)) (w3.setRow tB #[t3]) (pre ++ [(tv1, cur)]) t3 (parG (hdrs D) cur) :=
          ⟨HS2.out.step hS HB3.out HT3.out, hJ2 _ _ _ (hJ1 _ _ _ hj2 HB3.out), rfl, HX.out, by rw [List.map_append, List.append_assoc]; show _ ++ (cur :: leftG (hdrs D) (parG (hdrs D) cur)) = _; rw [← hl]; exact hway, rfl⟩
        case rel => exact ⟨_, _, _, _, hnew⟩
        case measure =>
          refine Nat.lt_of_le_of_lt ((leastN_spec ⟨_, _, _, _, hnew⟩).2 _ ⟨_, _, _, hnew⟩) ?_
          rw [hme, hm, hl]
          simp
      · gi_wp2
        go_end0
        exact ⟨⟨_, rfl⟩, .inr ⟨_, trivial, hjx⟩⟩
end Go.Proofs.YtcohdfkdhdhegaaGreatDoor
namespace Go.Proofs.YtcohdfkdhdhegaaGreatDoor
open Go Go.RowKit

section
variable {F : Fence} {n : Nat} {P : Program} {ops : Array Oper} {Q : Exit → Act → World → Prop} {a : Act} {w : World} {i : Nat} {o : Oper} {K : Act → World → Prop}
end
end Go.Proofs.YtcohdfkdhdhegaaGreatDoor
namespace Go.Proofs.YtcohdfkdhdhegaaGreatDoor
open Go Go.RowKit

def noDefer (ops : Array Oper) : Bool := ops.all fun o => match o.op with | .defer _ => false | _ => true
theorem noDefer_spec {ops : Array Oper} (h : noDefer ops = true) {i : Nat} {o : Oper} (hi : ops[i]? = some o) : ∀ c, o.op ≠ .defer c := by
  intro c hc
  have h1 := Array.all_eq_true'.1 h o (Array.mem_of_getElem? hi)
  rw [hc] at h1
  cases h1
theorem rowsIn_wide {n : Nat} {P : Program} {row : String} {args : Array Value} {w : World} {R : Value → World → Prop} (h : Rows P row args w R) : RowsIn Fence.wide n P row args w R :=
  fun c cs _ => let ⟨v, w', r, s⟩ := h c cs; ⟨v, w', r, stepsIn_wide.2 s⟩

section
variable {n l : Nat} {P : Program} {ops : Array Oper} {Q : Exit → Act → World → Prop} {md : Region.Mode}
theorem operIn_of {o : Oper} {a : Act} {w : World} {K : Act → World → Prop} (hd : ∀ c, o.op ≠ .defer c) (h : o.wp P a w K Q) : o.wpIn (Fence.wide.inRound l) n P a w K Q := by
  unfold Oper.wpIn
  refine ⟨fun _ _ => trivial, ?_⟩
  rw [Oper.semAt_plain (Fence.wide.inRound l) _ _ hd]
  unfold Oper.wp at h
  generalize (execOp a.eval o).run P w = r at h ⊢
  cases r with
  | ok x w' =>
    cases x with
    | value v => exact h
    | skip => exact h
    | defer d => exact h
    | enter f args => exact ⟨fun h => (by cases h), callsIn_wide.2 h⟩
    | row r args => exact ⟨fun h => (by cases h), rowsIn_wide h⟩
    | _ => exact h.elim
  | halt x w' => cases x <;> exact h
theorem wpOpIn_of {i : Nat} {a : Act} {w : World} {K : Act → World → Prop} (hnd : noDefer ops = true) (hq : ¬ LetsOut Q) (h : wpOp P ops Q i K a w) : wpOpIn (Fence.wide.inRound l) n P ops Q i K a w := by
  unfold wpOp at h
  unfold wpOpIn
  cases hi : ops[i]? with
  | none => rw [hi] at h; exact h
  | some o =>
    rw [hi] at h
    simp only at h ⊢
    by_cases hw : Region.wanted o (yielded ops a.tmps) = true
    · rw [if_pos hw] at h ⊢
      exact operIn_of (noDefer_spec hnd hi) (h.resolve_right fun h => hq h.2)
    · rw [if_neg hw] at h ⊢
      exact ⟨fun _ _ => trivial, h⟩
theorem wpAnyIn_of (hnd : noDefer ops = true) (hq : ¬ LetsOut Q) : ∀ (f : Nat) (s : Array Bool) (a : Act) (w : World), wpAny P md ops Q f s a w → wpAnyIn (Fence.wide.inRound l) n P md ops Q f s a w
  | 0, _, _, _, h => h
  | f + 1, _, _, _, h => ⟨h.1, fun i hi => wpOpIn_mono (fun a' w' h' => wpAnyIn_of hnd hq f _ a' w' h') (wpOpIn_of hnd hq (h.2 i hi))⟩
def noDeferL (l : List Oper) : Bool := l.all fun o => match o.op with | .defer _ => false | _ => true
theorem listIn_of (hq : ¬ LetsOut Q) : ∀ (r : List Oper) (a : Act) (w : World), noDeferL r = true → wpList P ops Q r a w → wpListIn (Fence.wide.inRound l) n P ops Q r a w
  | [], _, _, _, h => h
  | o :: r, a, w, hnd, h => by
    unfold wpList at h
    unfold wpListIn
    have h1 : (match o.op with | .defer _ => false | _ => true) = true ∧ noDeferL r = true := by
      have := hnd
      unfold noDeferL at this
      rw [List.all_cons, Bool.and_eq_true] at this
      exact this
    by_cases hw : Region.wanted o (yielded ops a.tmps) = true
    · rw [if_pos hw] at h ⊢
      refine operIn_of (fun c hc => ?_) (Oper.wp_mono (fun a' w' h' => listIn_of hq r a' w' h1.2 h') (h.resolve_right fun h => hq h.2))
      have := h1.1
      rw [hc] at this
      cases this
    · rw [if_neg hw] at h ⊢
      exact ⟨fun _ _ => trivial, listIn_of hq r _ _ h1.2 h⟩
variable {S : World → Prop}
theorem stDI_ (ds : List Nat) (m : Nat) (s : Array Bool) {id : Nat} {a : Act} {w : World} (hm : P.follows .mixedOrders = true) (hn : ops.size = m) (hl : Array.replicate m false = s) (hnd : noDefer ops = true) (hq : ¬ LetsOut Q) (hS : S w.drew)
    (h : S w.drew → wpD P .any ops Q S ds m s a w.drew) : (Code.region id ops true).wpIn (Fence.wide.inRound l) n P Q a w := by
  subst hn
  subst hl
  exact wpIn_region_any hm (wpAnyIn_of hnd hq _ _ _ _ (wpAny_of_D _ _ _ _ (h hS)))
theorem stI_ (m : Nat) (s : Array Bool) {id : Nat} {a : Act} {w : World} (hm : P.follows .mixedOrders = true) (hn : ops.size = m) (hl : Array.replicate m false = s) (hnd : noDefer ops = true) (hq : ¬ LetsOut Q) (hS : S w.drew)
    (h : S w.drew → wpAnyH P .any ops Q S m s a w.drew) : (Code.region id ops true).wpIn (Fence.wide.inRound l) n P Q a w := by
  subst hn
  subst hl
  exact wpIn_region_any hm (wpAnyIn_of hnd hq _ _ _ _ (wpAny_of_held _ _ _ _ (h hS)))
end
end Go.Proofs.YtcohdfkdhdhegaaGreatDoor
