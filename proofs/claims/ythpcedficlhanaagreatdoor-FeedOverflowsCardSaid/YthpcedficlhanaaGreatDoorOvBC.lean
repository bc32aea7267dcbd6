/- Ways through a dag, in plain words: what two have in common. No program in sight. path.Paths.above. -/
import Derived.Test.YthpcedficlhanaaGreatDoorOvBB
namespace Go.Proofs.YthpcedficlhanaaGreatDoor

section
variable {G : List Hdr}
theorem goodN_down {zs : List LB} : ∀ (i j : Nat), goodN zs (i + j) = true → goodN zs i = true
  | i, 0, h => h
  | i, j + 1, h => by
    refine goodN_down i j ?_
    cases h1 : goodN zs (i + j) with
    | true => rfl
    | false => rw [← Nat.add_assoc, goodN_off h1] at h; cases h
theorem fam_long (h : Hdr) : 2 + h.parents.length * 32 ≤ (famB h).length := by
  unfold famB
  simp only [List.length_append, textB, numB, List.length_cons]
  have := keyB_size h.parents
  have h2 : (keyB h.parents).data.toList.length = (keyB h.parents).size := Array.length_toList
  omega
/-- The first tipset is the first block alone. -/
theorem GoodG.root_only (g : GoodG G) {T : List ID} (h : TipOf G T) (h0 : parG G T = []) : T = [rootID] := by
  rcases g.par h with ⟨-, l, rfl⟩ | ⟨h1, -, -⟩
  · cases l with
    | nil => rfl
    | cons j l =>
      exfalso
      have hx : getG G rootID = some genH := g.root_get
      obtain ⟨y, hy⟩ := hasG_get (h.all j (by simp))
      have hv : valsG G (rootID :: j :: l) = blkG genH :: blkG y :: valsG G l := by
        unfold valsG
        rw [List.filterMap_cons, hx, List.filterMap_cons, hy]
        rfl
      have ht := (tipG_all h.ok).2.1
      rw [hv] at ht
      unfold tipB goodB at ht
      have h2 : goodN ((blkG genH :: blkG y :: valsG G l).map toLB) 2 = true := goodN_down 2 ((valsG G l).length) (by rw [← ht]; congr 1; simp; omega)
      have hf : ¬ hdrID genH = hdrID y ∧ famS genH = famS y := by
        rw [goodN] at h2
        simp only [Bool.and_eq_true] at h2
        have h3 := h2.2
        simpa [fits?, fitsB, blkG, toLB] using h3
      rcases g.parents y (getG_some hy).1 with rfl | ⟨h3, -, -⟩
      · exact hf.1 rfl
      · have h4 := congrArg ByteArray.size hf.2
        have h5 : (famS genH).size = 4 := by decide +kernel
        have h6 : (famS y).size = (famB y).length := by simp [famS, ByteArray.size]
        have h7 := fam_long y
        have h8 := h3.one
        omega
  · rw [h0] at h1
    exact absurd rfl h1.ne
theorem GoodG.par_or (g : GoodG G) {T : List ID} (h : TipOf G T) : T = [rootID] ∨ (TipOf G (parG G T) ∧ hgtG G (parG G T) < hgtG G T ∧ 1 ≤ hgtG G T) := by
  rcases g.par h with ⟨h0, -⟩ | h1
  · exact .inl (g.root_only h h0)
  · exact .inr h1
theorem GoodG.root_in (g : GoodG G) : ∀ T, TipOf G T → [rootID] ∈ chainG G T := by
  refine g.chain_ind (fun T h h0 _ => ?_) (fun T h h1 _ ih => ?_)
  · rw [g.chain_root h h0, g.root_only h h0]; exact List.mem_singleton.2 rfl
  · rw [g.chain_cons h h1]; exact List.mem_cons_of_mem _ ih
theorem GoodG.root_hgt (g : GoodG G) : hgtG G [rootID] = 0 := by
  have h : headG G [rootID] = some genH := g.root_get
  unfold hgtG
  rw [h]
  rfl
/-- In a chain each height is met once. -/
theorem GoodG.chain_one (g : GoodG G) {T E F : List ID} (h : TipOf G T) (hE : E ∈ chainG G T) (hF : F ∈ chainG G T) (he : hgtG G E = hgtG G F) : E = F := by
  rw [← g.atG_self h hE, ← g.atG_self h hF, he]
open Classical in
/-- The highest one from which both descend. -/
noncomputable def commG (G : List Hdr) (A B : List ID) : List ID := ((chainG G A).find? fun T => descG G B T).getD []
theorem GoodG.comm_mem (g : GoodG G) {A B : List ID} (hA : TipOf G A) (hB : TipOf G B) : commG G A B ∈ chainG G A ∧ commG G A B ∈ chainG G B ∧ ∀ F ∈ chainG G A, F ∈ chainG G B → hgtG G F ≤ hgtG G (commG G A B) := by
  unfold commG
  cases hf : (chainG G A).find? fun T => descG G B T with
  | none => exact absurd (descG_iff.2 (g.root_in B hB)) (by simpa using List.find?_eq_none.1 hf _ (g.root_in A hA))
  | some C =>
    have h1 := List.find?_some hf
    obtain ⟨-, pre, rest, hs, hpre⟩ := List.find?_eq_some_iff_append.1 hf
    refine ⟨List.mem_of_find?_eq_some hf, descG_iff.1 h1, fun F hF hFB => ?_⟩
    have hd := g.chain_down A hA
    rw [hs] at hF hd
    rcases List.mem_append.1 hF with hF | hF
    · have := hpre F hF
      rw [descG_iff.2 hFB] at this
      cases this
    · rcases List.mem_cons.1 hF with rfl | hF
      · exact Int.le_refl _
      · exact Int.le_of_lt ((List.pairwise_cons.1 (List.pairwise_append.1 hd).2.1).1 F hF)
theorem GoodG.comm_eq (g : GoodG G) {A B C : List ID} (hA : TipOf G A) (hB : TipOf G B) (h1 : C ∈ chainG G A) (h2 : C ∈ chainG G B) (h3 : ∀ F ∈ chainG G A, F ∈ chainG G B → hgtG G F ≤ hgtG G C) : commG G A B = C := by
  obtain ⟨c1, c2, c3⟩ := g.comm_mem hA hB
  exact g.chain_one hA c1 h1 (Int.le_antisymm (h3 _ c1 c2) (c3 _ h1 h2))
theorem GoodG.comm_symm (g : GoodG G) {A B : List ID} (hA : TipOf G A) (hB : TipOf G B) : commG G A B = commG G B A := by
  obtain ⟨c1, c2, c3⟩ := g.comm_mem hB hA
  exact g.comm_eq hA hB c2 c1 fun F h1 h2 => c3 F h2 h1
theorem GoodG.comm_self (g : GoodG G) {A : List ID} (hA : TipOf G A) : commG G A A = A := g.comm_eq hA hA (g.chain_self hA) (g.chain_self hA) fun F h1 _ => g.chain_low A hA F h1
/-- Who goes down no lower than the other one meets the same. -/
theorem GoodG.comm_down (g : GoodG G) {A B A' : List ID} (hA : TipOf G A) (hB : TipOf G B) (hA' : A' ∈ chainG G A) (hm : commG G A B ∈ chainG G A') : commG G A' B = commG G A B := by
  obtain ⟨c1, c2, c3⟩ := g.comm_mem hA hB
  exact g.comm_eq (g.chain_tip A hA A' hA') hB hm c2 fun F h1 h2 => c3 F (g.chain_trans hA hA' h1) h2
theorem GoodG.at_step (g : GoodG G) {A : List ID} (hA : TipOf G A) {k : Int} (hk : 0 ≤ k) : atG G A k ∈ chainG G A ∧ hgtG G (atG G A k) ≤ k ∧ ∀ F ∈ chainG G A, hgtG G F ≤ k → F ∈ chainG G (atG G A k) := by
  unfold atG
  cases hf : (chainG G A).find? fun T => decide (hgtG G T ≤ k) with
  | none => exact absurd hk (by have := List.find?_eq_none.1 hf _ (g.root_in A hA); rw [g.root_hgt] at this; simpa using this)
  | some C =>
    have h1 := List.find?_some hf
    obtain ⟨-, pre, rest, hs, hpre⟩ := List.find?_eq_some_iff_append.1 hf
    have hm := List.mem_of_find?_eq_some hf
    refine ⟨hm, by simpa using h1, fun F hF hl => ?_⟩
    show F ∈ chainG G C
    obtain ⟨pre', hs'⟩ := g.chain_tail A hA C hm
    have hC := g.chain_tip A hA C hm
    have hd := g.chain_down A hA
    rw [hs'] at hF hd
    rcases List.mem_append.1 hF with hF | hF
    · exfalso
      have h2 := (List.pairwise_append.1 hd).2.2 F hF C (g.chain_self hC)
      have hFA : F ∈ chainG G A := by rw [hs']; exact List.mem_append_left _ hF
      rw [hs] at hFA
      rcases List.mem_append.1 hFA with h3 | h3
      · have := hpre F h3
        simp at this
        omega
      · have hd2 := g.chain_down A hA
        rw [hs] at hd2
        rcases List.mem_cons.1 h3 with rfl | h3
        · omega
        · have := (List.pairwise_cons.1 (List.pairwise_append.1 hd2).2.1).1 F h3
          omega
    · exact hF
theorem GoodG.comm_at (g : GoodG G) {A B : List ID} (hA : TipOf G A) (hB : TipOf G B) : TipOf G (atG G A (hgtG G B)) ∧ commG G (atG G A (hgtG G B)) B = commG G A B ∧ hgtG G (atG G A (hgtG G B)) ≤ hgtG G B := by
  obtain ⟨h1, h2, h3⟩ := g.at_step hA (g.hgt0 hB)
  obtain ⟨c1, c2, -⟩ := g.comm_mem hA hB
  exact ⟨g.chain_tip A hA _ h1, g.comm_down hA hB h1 (h3 _ c1 (g.chain_low B hB _ c2)), h2⟩
theorem GoodG.up_of_ne (g : GoodG G) {A B : List ID} (hA : TipOf G A) (hB : TipOf G B) (he : hgtG G A = hgtG G B) (hne : A ≠ B) : TipOf G (parG G A) ∧ hgtG G (parG G A) < hgtG G A := by
  rcases g.par_or hA with h0 | ⟨h1, h2, -⟩
  · exfalso
    rw [h0, g.root_hgt] at he
    rcases g.par_or hB with h3 | ⟨-, -, h3⟩
    · exact hne (h0.trans h3.symm)
    · omega
  · exact ⟨h1, h2⟩
theorem GoodG.comm_par1 (g : GoodG G) {A B : List ID} (hA : TipOf G A) (hB : TipOf G B) (he : hgtG G B ≤ hgtG G A) (hne : A ≠ B) (hp : TipOf G (parG G A)) : commG G (parG G A) B = commG G A B := by
  obtain ⟨c1, c2, -⟩ := g.comm_mem hA hB
  have hm : parG G A ∈ chainG G A := by rw [g.chain_cons hA hp]; exact List.mem_cons_of_mem _ (g.chain_self hp)
  refine g.comm_down hA hB hm ?_
  rw [g.chain_cons hA hp] at c1
  rcases List.mem_cons.1 c1 with h1 | h1
  · exfalso
    rw [h1] at c2
    have := g.chain_low B hB _ c2
    exact hne (g.chain_one hB c2 (g.chain_self hB) (by omega))
  · exact h1
theorem GoodG.comm_par (g : GoodG G) {A B : List ID} (hA : TipOf G A) (hB : TipOf G B) (he : hgtG G A = hgtG G B) (hne : A ≠ B) : (TipOf G (parG G A) ∧ hgtG G (parG G A) < hgtG G A) ∧ (TipOf G (parG G B) ∧ hgtG G (parG G B) < hgtG G B) ∧ commG G (parG G A) B = commG G A B ∧ commG G (parG G A) (parG G B) = commG G A B := by
  have h1 := g.up_of_ne hA hB he hne
  have h2 := g.up_of_ne hB hA he.symm hne.symm
  have h3 := g.comm_par1 hA hB (by omega) hne h1.1
  refine ⟨h1, h2, h3, ?_⟩
  rw [g.comm_symm h1.1 h2.1, g.comm_par1 hB h1.1 (by omega) (fun e => by rw [← e] at h1; omega) h2.1, ← g.comm_symm h1.1 hB, h3]
theorem nodup_len {α : Type} : ∀ {l m : List α}, l.Nodup → (∀ x ∈ l, x ∈ m) → l.length ≤ m.length := by
  classical
  intro l
  induction l with
  | nil => intro m _ _; simp
  | cons x l ih =>
    intro m hn hs
    rw [List.nodup_cons] at hn
    have hx := hs x List.mem_cons_self
    have h1 := ih (m := m.erase x) hn.2 fun y hy => (List.mem_erase_of_ne (fun e => hn.1 (by rw [← e]; exact hy))).2 (hs y (List.mem_cons_of_mem _ hy))
    rw [List.length_erase_of_mem hx] at h1
    have := List.length_pos_of_mem hx
    rw [List.length_cons]
    omega
/-- A chain is no longer than the dag is great. -/
theorem GoodG.chain_len (g : GoodG G) {T : List ID} (h : TipOf G T) : (chainG G T).length ≤ G.length := by
  have h1 : ((chainG G T).map (headG G)).Nodup := by
    refine List.Pairwise.map _ (fun a b hab e => ?_) (g.chain_down T h)
    have : hgtG G a = hgtG G b := by unfold hgtG; rw [e]
    omega
  have h2 := nodup_len (m := G.map some) h1 fun x hx => by
    obtain ⟨F, hF, rfl⟩ := List.mem_map.1 hx
    obtain ⟨y, hy, hm, -⟩ := (g.chain_tip T h F hF).head
    exact List.mem_map.2 ⟨y, hm, hy.symm⟩
  simpa using h2
open Classical in
/-- What is left: a tipset and all behind it, ahead of another one. -/
noncomputable def aboveG (G : List Hdr) (A C : List ID) : List (List ID) := (chainG G A).takeWhile fun T => decide (T ≠ C)
theorem aboveG_split {A C : List ID} {pre rest : List (List ID)} (hs : pre ++ C :: rest = chainG G A) (hpre : ∀ x ∈ pre, x ≠ C) : aboveG G A C = pre := by
  unfold aboveG
  rw [← hs, List.takeWhile_append_of_pos fun x hx => by simpa using hpre x hx, List.takeWhile_cons_of_neg (by simp), List.append_nil]
theorem aboveG_all {A C : List ID} (hpre : ∀ x ∈ chainG G A, x ≠ C) : aboveG G A C = chainG G A := by
  unfold aboveG
  conv => rhs; rw [← List.append_nil (chainG G A)]
  conv => lhs; rw [← List.append_nil (chainG G A)]
  rw [List.takeWhile_append_of_pos fun x hx => by simpa using hpre x hx, List.takeWhile_nil]
end
end Go.Proofs.YthpcedficlhanaaGreatDoor
namespace Go.Proofs.YthpcedficlhanaaGreatDoor
open Go Go.RowKit Go.Maps Go.Shelf
attribute [local go_sem] Oper.semAt_some

theorem tip_info : (Tryz.prog.info? 28).map (fun i => (i.zero, i.size, i.bytes)) = some (some (.agg #[.slice none 0 0]), 1, 24) := by kernel_rfl
theorem tips_size : (Tryz.prog.info? 123).map (·.size) = some 1 := by kernel_rfl
theorem own_same {W W' : World} {base : Nat} {e : TypeId} {size : Nat} {v : Value} {n : Nat} {xs : List Value} (h : W.ownsRow base e size v n xs) (hs : ∀ k, v.ownBlock = some k → W'.heap[k]? = W.heap[k]?) : W'.ownsRow base e size v n xs :=
  ⟨h.1, h.2.imp id fun ⟨g, cap, cur, hv, hb, hg, r⟩ => ⟨g, cap, cur, hv, hb, (hs g (by rw [hv]; rfl)).trans hg, r⟩⟩
theorem own_cells {W : World} {base : Nat} {e : TypeId} {size : Nat} {v : Value} {n : Nat} {xs : List Value} (h : W.ownsRow base e size v n xs) {k : Nat} (hk : v.ownBlock = some k) {o : Obj} (ho : W.heap[k]? = some o) : o.isCells = true := by
  rcases h.2 with ⟨h1, -⟩ | ⟨g, cap, cur, hv, hb, hg, -⟩
  · rw [h1] at hk; cases hk
  · rw [hv] at hk
    cases hk
    rw [hg] at ho
    cases ho
    rfl
/-- The block of the row that lies in a variable. -/
def ownOf (ob : Nat) (W : World) : Option Nat := match W.heap[ob]? with | some (.cells cs _ _) => (cs.getD 0 undef).ownBlock | _ => none
theorem ownOf_eq {ob : Nat} {W W' : World} (h : W'.heap[ob]? = W.heap[ob]?) : ownOf ob W' = ownOf ob W := by unfold ownOf; rw [h]
theorem ownOf_box {ob : Nat} {W : World} {v : Value} {T : TypeId} (h : W.heap[ob]? = some (.cells #[v] T (0, 0))) : ownOf ob W = v.ownBlock := by unfold ownOf; rw [h]; rfl
/-- What lies while what is above another one is gathered. -/
structure AbI (w w1 W : World) (G : List Hdr) (okr : Nat → Prop) (C : List ID) (tB ob : Nat) (pre : List (Value × List ID)) : Prop where
  below : Below w.heap.size w W
  far : w.heap.size ≤ tB ∧ w.heap.size ≤ ob ∧ ob < w1.heap.size ∧ tB < w1.heap.size ∧ ob ≠ tB
  size : w1.heap.size ≤ W.heap.size
  same : ∀ j, j < w1.heap.size → j ≠ tB → j ≠ ob → W.heap[j]? = w1.heap[j]?
  out : ∃ v, W.heap[ob]? = some (.cells #[v] 123 (0, 0)) ∧ W.ownsRow (w1.heap.size + 2) 28 1 v pre.length (pre.map Prod.fst) ∧ ∀ x ∈ pre, TipIs (fun j => okr j ∧ j ≠ ob ∧ j ≠ w1.heap.size + 1 ∧ j ≠ tB ∧ some j ≠ v.ownBlock) W G x.1 x.2
  ne : ∀ x ∈ pre, x.2 ≠ C
  tips : ∀ x ∈ pre, TipOf G x.2
section
variable {w w1 W W' : World} {G : List Hdr} {okr : Nat → Prop} {C : List ID} {tB ob : Nat} {pre : List (Value × List ID)}
theorem AbI.grow (h : AbI w w1 W G okr C tB ob pre) (hb : Below W.heap.size W W') : AbI w w1 W' G okr C tB ob pre := by
  obtain ⟨v, h1, h2, h3⟩ := h.out
  exact ⟨h.below.trans (hb.mono h.below.size), h.far, Nat.le_trans h.size hb.size, fun j hj ha hc => (hb.block j (Nat.lt_of_lt_of_le hj h.size)).trans (h.same j hj ha hc), ⟨v, (hb.block _ (Array.getElem?_eq_some_iff.1 h1).1).trans h1, own_below h2 hb, fun x hx => (h3 x hx).below hb⟩, h.ne, h.tips⟩
theorem AbI.set (h : AbI w w1 W G okr C tB ob pre) (cs : Array Value) : AbI w w1 (W.setRow tB cs) G okr C tB ob pre := by
  obtain ⟨v, h1, h2, h3⟩ := h.out
  refine ⟨below_setRow h.below h.far.1 _, h.far, by simpa using h.size, fun j hj ha hc => (heap_setRow_ne _ _ _ _ ha).trans (h.same j hj ha hc), ⟨v, (heap_setRow_ne _ _ _ _ h.far.2.2.2.2).trans h1, own_setRow _ h2 fun k hk => ?_, fun x hx => (h3 x hx).set (fun k hk => hk.2.2.2.1) _⟩, h.ne, h.tips⟩
  have := (own_lt h2 k hk).1
  have := h.far.2.2.2.1
  omega
theorem AbI.put (h : AbI w w1 W G okr C tB ob pre) (o : Obj) : AbI w w1 (W.putObj (w1.heap.size + 1) o) G okr C tB ob pre := by
  obtain ⟨v, h1, h2, h3⟩ := h.out
  have := h.far
  refine ⟨h.below.grown (grownBy_putObj' W _ o) h.below.size (fun k e => by cases e; omega), h.far, by simpa using h.size, fun j hj ha hc => (World.putObj_heap_other (by omega)).trans (h.same j hj ha hc), ⟨v, (World.putObj_heap_other (by omega)).trans h1, own_same h2 fun k hk => World.putObj_heap_other ?_, fun x hx => (h3 x hx).put (fun k hk => hk.2.2.1) _⟩, h.ne, h.tips⟩
  have := (own_lt h2 k hk).1
  omega
end

set_option maxRecDepth 100000 in
set_option maxHeartbeats 4000000 in
theorem above_any (w : World) (pp p b1 b2 : Nat) (D : List LB) (okx ok ok2 : Nat → Prop) (h : PathAt okx w pp p b1 b2 D) (tv : Value) (T : List ID) (hT : TipOf (hdrs D) T) (hw : TipIs ok w (hdrs D) tv T) (cv : Value) (C : List ID) (hC : TipOf (hdrs D) C) (hv : TipIs ok2 w (hdrs D) cv C) (hlen : D.length ≤ 1000000) :
    Calls Tryz.prog 143 #[.pointer (some ⟨pp, 0, none⟩), tipV tv, tipV cv] w fun e w' => ∃ (v : Value) (xs : List (Value × List ID)), e = .returned v ∧ w'.ownsRow w.heap.size 28 1 v xs.length (xs.map Prod.fst) ∧ xs.map Prod.snd = aboveG (hdrs D) T C ∧ (∀ x ∈ xs, TipIs (fun k => (ok k ∨ okx k ∨ k = pp ∨ w.heap.size ≤ k) ∧ some k ≠ v.ownBlock) w' (hdrs D) x.1 x.2 ∧ TipOf (hdrs D) x.2) ∧ Below w.heap.size w w' := by
  have htv : tv.oneCell' = true := hw.one tv (by simp)
  have g := h.good
  have hp := h.toD
  have hCL : (chainG (hdrs D) T).length ≤ 1000000 := Nat.le_trans (g.chain_len hT) (by simpa [hdrs] using hlen)
  refine (callsIn_wide (n := 5)).1 ?_
  refine callsIn_of_wp_marks Tryz.func143 rfl trivial ?_ rfl
  simp only [Tryz.ntmps143, List.size_toArray, List.length_cons, List.length_nil, Nat.reduceAdd, Nat.reduceSub, Array.replicate_succ, Array.replicate_zero, List.push_toArray, List.append_toArray, List.nil_append, List.cons_append]
  obtain ⟨W0, hW0⟩ : ∃ W0, (((w.alloc (.cells #[tv] 28)).alloc (.cells #[cv] 28)).alloc (.cells #[.slice none 0 0] 123)) = W0 := ⟨_, rfl⟩
  have HC := Lib.hid (chain_any W0 pp tv htv)
  have HX := (Box2.mk2 w tv cv).next ((Below.refl _ _).alloc (Nat.le_refl _) (.cells #[.slice none 0 0] 123))
  rw [hW0] at HX
  have HB0 := Lib.hid HX.b0
  have HP : Hid (Below w.heap.size w W0 ∧ W0.heap.size = w.heap.size + 3 ∧ W0.heap[w.heap.size + 1]? = some (.cells #[cv] 28 (0, 0)) ∧ W0.heap[w.heap.size + 2]? = some (.cells #[.slice none 0 0] 123 (0, 0))) := Lib.hid (by
    refine ⟨HX.below, by rw [← hW0]; simp, HX.b1, ?_⟩
    rw [← hW0]
    have h1 := heap_alloc_new ((w.alloc (.cells #[tv] 28)).alloc (.cells #[cv] 28)) (.cells #[.slice none 0 0] 123)
    rw [World.size_alloc, World.size_alloc] at h1
    exact h1)
  clear HX
  gi_wp2_with (first
    | (refine wplIn_load (by kernel_rfl) 28 (.tmp 4) rfl w.heap.size 0 rfl [tv] _ (fun j u hu => by rw [Nat.zero_add]; exact cell_block HB0.out (by simpa using hu)) Tryz.underlying28 rfl tip_size ?_)
    | (refine ⟨trivial, ?_⟩; refine (callsIn_wide.2 HC.out).mono ?_; rintro e w1 ⟨rfl, hw1⟩; have HW1 := Lib.hid hw1; clear hw1))
  have hw1 := HW1.out
  have hz1 : w1.heap.size = W0.heap.size + 2 := by rw [hw1]; simp
  have hb1 : Below W0.heap.size W0 w1 := by rw [hw1]; exact ((Below.refl _ W0).alloc (Nat.le_refl _) _).alloc (by simp) _
  have hbw : Below w.heap.size w w1 := HP.out.1.trans (hb1.mono HP.out.1.size)
  have hz0 := HP.out.2.1
  have hob1 : w1.heap[w.heap.size + 2]? = some (.cells #[.slice none 0 0] 123 (0, 0)) := (hb1.block _ (by omega)).trans HP.out.2.2.2
  obtain ⟨okr, hokr⟩ : ∃ okr : Nat → Prop, okr = fun j => (ok j ∨ okx j ∨ j = pp ∨ w.heap.size ≤ j) ∧ j ≠ w.heap.size + 2 ∧ j ≠ w1.heap.size := ⟨_, rfl⟩
  have hokn : ∀ j, w.heap.size ≤ j → j ≠ w.heap.size + 2 → j ≠ w1.heap.size → okr j := fun j hj hn hn2 => by rw [hokr]; exact ⟨.inr (.inr (.inr hj)), hn, hn2⟩
  have hokob : ∀ j, okr j → j ≠ w.heap.size + 2 := fun j hj => by rw [hokr] at hj; exact hj.2.1
  have HS : Spare (fun W j => ((j ≠ w1.heap.size + 1 ∧ j ≠ w1.heap.size) ∧ okr j) ∧ some j ≠ ownOf (w.heap.size + 2) W ∧ ∀ i, ownOf (w.heap.size + 2) W = some i → i < W.heap.size) (fun A C => A.heap.size ≤ C.heap.size ∧ ((∀ i, ownOf (w.heap.size + 2) A = some i → i < A.heap.size) → ∀ i, ownOf (w.heap.size + 2) C = some i → i < C.heap.size) ∧ ∀ j, j ≠ w1.heap.size + 1 → j ≠ w.heap.size + 2 → some j ≠ ownOf (w.heap.size + 2) A → j < A.heap.size → C.heap[j]? = A.heap[j]? ∧ some j ≠ ownOf (w.heap.size + 2) C) (w1.heap.size + 2) (W0.heap.size + 1) :=
    ⟨fun hK => ⟨hK.1, fun j hj hl => ⟨(hK.2.2 j hj.1.1.1 (hokob j hj.1.2) hj.2.1 hl).1, hj.1, (hK.2.2 j hj.1.1.1 (hokob j hj.1.2) hj.2.1 hl).2, hK.2.1 hj.2.2⟩⟩, fun {A C} hn hv hb j hj hl => by
      obtain ⟨k0, hk0⟩ := hv
      have he : ownOf (w.heap.size + 2) C = ownOf (w.heap.size + 2) A := ownOf_eq (hb.block _ (by omega))
      have hvd : ∀ i, ownOf (w.heap.size + 2) C = some i → i < C.heap.size := fun i hi => Nat.lt_of_lt_of_le (hk0.2.2 i (by rw [← he]; exact hi)) hb.size
      by_cases hlt : j < A.heap.size
      · exact ⟨(hj hlt).1, by rw [he]; exact (hj hlt).2.1, hvd⟩
      · refine ⟨⟨⟨by omega, by omega⟩, hokn j (by omega) (by omega) (by omega)⟩, fun e => ?_, hvd⟩
        rw [he] at e
        have := hk0.2.2 j e.symm
        omega, fun cs k hk => ⟨hk.1, by rw [ownOf_eq (heap_setRow_ne _ _ _ _ (by omega))]; exact hk.2.1, by rw [ownOf_eq (heap_setRow_ne _ _ _ _ (by omega))]; simpa using hk.2.2⟩⟩
  have htb : w1.heap[W0.heap.size + 1]? = some (.cells #[tv] 28 (0, 0)) := by
    rw [hw1]
    have h1 := heap_alloc_new (W0.alloc (.cells #[.pointer (some ⟨pp, 0, none⟩)] 92)) (.cells #[tv] 28)
    rw [World.size_alloc] at h1
    exact h1
  have hpb : w1.cell? ⟨W0.heap.size, 0, none⟩ = some (.pointer (some ⟨pp, 0, none⟩)) := by
    rw [hw1]
    exact cell_block ((heap_alloc_old _ _ (by simp)).trans (heap_alloc_new W0 _)) rfl
  have hlt := cell_lt hp
  have hch : ∀ W, Below w1.heap.size w1 W → w1.heap.size + 2 ≤ W.heap.size → ChS (fun W j => ((j ≠ w1.heap.size + 1 ∧ j ≠ w1.heap.size) ∧ okr j) ∧ some j ≠ ownOf (w.heap.size + 2) W ∧ ∀ i, ownOf (w.heap.size + 2) W = some i → i < W.heap.size) (w1.heap.size + 2) W (W0.heap.size + 1) W0.heap.size pp p b1 b2 D (fun k => okx k ∧ k < w.heap.size) tv T := fun W hb hs => by
    have hbW : Below w.heap.size w W := hbw.trans (hb.mono hbw.size)
    have hno : ownOf (w.heap.size + 2) W = none := ownOf_box ((hb.block _ (by omega)).trans hob1)
    have hnn : ∀ j : Nat, some j ≠ ownOf (w.heap.size + 2) W ∧ ∀ i, ownOf (w.heap.size + 2) W = some i → i < W.heap.size := fun j => by rw [hno]; exact ⟨fun e => (by cases e), fun i e => (by cases e)⟩
    refine ⟨(hb.block _ (by omega)).trans htb, (cell_eq (hb.block _ (by omega)) 0).trans hpb, (hbW.cell hlt).trans hp, h.dag.old.below hbW, (hw.old.below hbW).mono fun j hj => ⟨⟨⟨⟨by have := hj.2; omega, by have := hj.2; omega⟩, by rw [hokr]; exact ⟨.inl hj.1, by have := hj.2; omega, by have := hj.2; omega⟩⟩, hnn j⟩, by have := hj.2; omega, by have := hj.2; omega⟩, ?_, ⟨fun hk => by have := hk.2; omega, by omega, by omega⟩, hs⟩
    rintro j (⟨hx, hj⟩ | rfl | rfl | rfl)
    · exact ⟨by omega, ⟨⟨by omega, by omega⟩, by rw [hokr]; exact ⟨.inr (.inl hx), by omega, by omega⟩⟩, hnn j⟩
    · exact ⟨by omega, ⟨⟨by omega, by omega⟩, hokn _ (by omega) (by omega) (by omega)⟩, hnn _⟩
    · exact ⟨by omega, ⟨⟨by omega, by omega⟩, hokn _ (by omega) (by omega) (by omega)⟩, hnn _⟩
    · exact ⟨by omega, ⟨⟨by omega, by omega⟩, by rw [hokr]; exact ⟨.inr (.inr (.inl rfl)), by omega, by omega⟩⟩, hnn _⟩
  have HOKR := Lib.hid hokr
  clear hw1 hokr
  refine wpIn_range_var rfl (by decide) (gf := 203) (lb := #[.pointer (some ⟨W0.heap.size + 1, 0, none⟩), .pointer (some ⟨W0.heap.size, 0, none⟩)]) rfl trivial (enters_of Tryz.func203 (by kernel_rfl) rfl)
    (chain1_stops _ _ _ _ _ _ pp p b1 b2 HS D _ h.fine g T hT tv w1 hch) (by omega) ?kt ?kb ?kg (Below.refl _ _) (fun _ => rfl)
    (fun pre W => AbI w w1 W (hdrs D) okr C (W0.heap.size + 1) (w.heap.size + 2) pre ∧ pre.length ≤ 1000000)
    (fun c s W => c = .exit 0 ∧ ∃ pre, aboveG (hdrs D) T C = pre.map Prod.snd ∧ AbI w w1 W (hdrs D) okr C (W0.heap.size + 1) (w.heap.size + 2) pre)
    ?bears ?ixp ?h0
    (fun pre x a' W => ∃ bx, w1.heap.size + 2 ≤ bx ∧ W.heap[bx]? = some (.cells #[x.1] 28 (0, 0)) ∧ TipIs (fun j => okr j ∧ j ≠ w.heap.size + 2 ∧ j ≠ w1.heap.size + 1 ∧ j ≠ W0.heap.size + 1 ∧ some j ≠ ownOf (w.heap.size + 2) W) W (hdrs D) x.1 x.2 ∧ TipOf (hdrs D) x.2 ∧ (∃ rest, pre.map Prod.snd ++ x.2 :: rest = chainG (hdrs D) T) ∧ a' = { tmps := #[.pointer (some ⟨pp, 0, none⟩), tipV tv, tipV cv, undef, .pointer (some ⟨w.heap.size, 0, none⟩), .pointer (some ⟨w.heap.size + 1, 0, none⟩), .slice none 0 0, .pointer (some ⟨w.heap.size + 1 + 1, 0, none⟩), .pointer (some ⟨bx, 0, none⟩), .pointer (some ⟨pp, 0, none⟩), .agg #[tv], .func (.func 203) #[] #[.pointer (some ⟨W0.heap.size + 1, 0, none⟩), .pointer (some ⟨W0.heap.size, 0, none⟩)], tipV x.1, undef, undef, undef, undef, undef, undef, undef, undef, undef, undef], defers := [] })
    ?axp ?assign ?body ?done ?stop
  case kt =>
    intro A B E h1 h2
    refine ⟨Nat.le_trans h1.1 h2.1, fun h3 => h2.2.1 (h1.2.1 h3), fun j ha hb hc hl => ?_⟩
    have h3 := h1.2.2 j ha hb hc hl
    have h4 := h2.2.2 j ha hb h3.2 (Nat.lt_of_lt_of_le hl h1.1)
    exact ⟨h4.1.trans h3.1, h4.2⟩
  case kb =>
    intro W o'
    have he : ownOf (w.heap.size + 2) (W.putObj (w1.heap.size + 1) o') = ownOf (w.heap.size + 2) W := ownOf_eq (World.putObj_heap_other (by omega))
    exact ⟨by simp, fun h3 => by rw [he]; simpa using h3, fun j ha hb hc hl => ⟨World.putObj_heap_other ha, by rw [he]; exact hc⟩⟩
  case kg =>
    intro A E hs hb
    have he : ownOf (w.heap.size + 2) E = ownOf (w.heap.size + 2) A := ownOf_eq (hb.block _ (by omega))
    exact ⟨hb.size, fun h3 i hi => Nat.lt_of_lt_of_le (h3 i (by rw [← he]; exact hi)) hb.size, fun j ha hc hd hl => ⟨hb.block j hl, by rw [he]; exact hd⟩⟩
  case bears => exact ⟨fun s A E hs hb => ⟨hs.1.grow hb, hs.2⟩, fun s A cs hs => ⟨hs.1.set cs, hs.2⟩, fun s A o' hs => ⟨hs.1.put o', hs.2⟩⟩
  case ixp =>
    rintro c s A o' ⟨hc, pre, ha, hl⟩
    exact ⟨hc, pre, ha, hl.put o'⟩
  case h0 => exact ⟨⟨hbw, ⟨by omega, by omega, by omega, by omega, by omega⟩, Nat.le_refl _, fun _ _ _ _ => rfl, ⟨_, hob1, ⟨rfl, .inl ⟨rfl, rfl⟩⟩, by simp⟩, by simp, by simp⟩, by simp⟩
  case axp =>
    rintro pre x a' A o' ⟨bx, h1, h2, h3, h4⟩
    have he : ownOf (w.heap.size + 2) (A.putObj (w1.heap.size + 1) o') = ownOf (w.heap.size + 2) A := ownOf_eq (World.putObj_heap_other (by omega))
    exact ⟨bx, h1, (World.putObj_heap_other (by omega)).trans h2, by rw [he]; exact h3.put (fun k hk => hk.2.2.1) o', h4⟩
  case assign =>
    intro l pre x W K hi hx hsz hK
    obtain ⟨hc, htx, hrest⟩ := hx
    have hwl := hc.size
    have HCX := Lib.hid hc.tip.one
    have hb : Below W.heap.size W ((W.alloc (.cells #[.slice none 0 0] 28)).setRow W.heap.size #[x.1]) := below_setRow ((Below.refl _ W).alloc (Nat.le_refl _) _) (Nat.le_refl _) _
    have he : ownOf (w.heap.size + 2) ((W.alloc (.cells #[.slice none 0 0] 28)).setRow W.heap.size #[x.1]) = ownOf (w.heap.size + 2) W := ownOf_eq (hb.block _ (by omega))
    have HK := Lib.hid (hK _ _ hb ⟨W.heap.size, hwl, setRow_heap _ _ _ _ _ _ (heap_alloc_new W _), by
      rw [he]
      refine (((hc.tip.mono (ok' := fun j => (okr j ∧ j ≠ w.heap.size + 2 ∧ j ≠ w1.heap.size + 1 ∧ j ≠ W0.heap.size + 1 ∧ some j ≠ ownOf (w.heap.size + 2) W) ∧ j < W.heap.size) fun j hj => ⟨⟨hj.1.1.2, hokob j hj.1.1.2, hj.1.1.1.1, hj.2.1, hj.1.2.1⟩, hj.2.2⟩).below ((Below.refl _ W).alloc (Nat.le_refl _) _)).set (fun j hj => by have := hj.2; omega) _).mono fun j hj => hj.1, htx, hrest, rfl⟩)
    clear hK hb hz0 hz1 hc he
    gi_wp2_with (refine wplIn_store_row rfl 28 (.tmp 8) (.tmp 12) rfl W.heap.size rfl [x.1] rfl _ 28 (heap_alloc_new W _) rfl HCX.out tip_size ?_)
    exact HK.out
  case body =>
    rintro l pre x a' W hl hsz ⟨hI, hpl⟩ ⟨bx, hbx, hgx, htx, hto, ⟨rest, hrest⟩, rfl⟩
    obtain ⟨v, hv1, hv2, hv3⟩ := hI.out
    have how : ownOf (w.heap.size + 2) W = v.ownBlock := ownOf_box hv1
    rw [how] at htx
    have hWd : Below w.heap.size w W.drew := hI.below.drew
    have hcb : W.heap[w.heap.size + 1]? = some (.cells #[cv] 28 (0, 0)) := (hI.same _ (by omega) (by omega) (by omega)).trans ((hb1.block _ (by omega)).trans HP.out.2.2.1)
    have HG : Hid (W.drew.heap[bx]? = some (.cells #[x.1] 28 (0, 0))) := Lib.hid hgx
    have HCB : Hid (W.drew.heap[w.heap.size + 1]? = some (.cells #[cv] 28 (0, 0))) := Lib.hid hcb
    obtain ⟨ka, hka⟩ : ∃ ka, keyB x.2 = ka := ⟨_, rfl⟩
    obtain ⟨kb, hkb⟩ : ∃ kb, keyB C = kb := ⟨_, rfl⟩
    have HKX : Hid (∀ W', Below W.drew.heap.size W.drew W' → Calls Tryz.prog 34 #[tipV x.1] W' fun e w' => e = .returned (.string ka) ∧ Below W'.heap.size W' w') := Lib.hid fun W' hb => by rw [← hka]; exact key_is ((htx.below (Below.refl _ W).drew).below hb) (.inr hto)
    have HKC : Hid (∀ W', Below W.drew.heap.size W.drew W' → Calls Tryz.prog 34 #[tipV cv] W' fun e w' => e = .returned (.string kb) ∧ Below W'.heap.size W' w') := Lib.hid fun W' hb => by rw [← hkb]; exact key_is ((hv.below hWd).below hb) (.inr hC)
    obtain ⟨q, hq⟩ : ∃ q, (ka.toList == kb.toList) = q := ⟨_, rfl⟩
    have HQ : Hid (q = true ↔ x.2 = C) := Lib.hid (by rw [← hq, ← hka, ← hkb]; exact key_beq (.inr hto) (.inr hC))
    have hKq : q = true → ka = kb := fun e => by rw [← hka, ← hkb, HQ.out.1 e]
    have HHV : Hid (W.heap[w.heap.size + 2]? = some (.cells #[v] 123 (0, 0)) ∧ W.ownsRow (w1.heap.size + 2) 28 1 v pre.length (pre.map Prod.fst) ∧ ∀ y ∈ pre, TipIs (fun j => okr j ∧ j ≠ w.heap.size + 2 ∧ j ≠ w1.heap.size + 1 ∧ j ≠ W0.heap.size + 1 ∧ some j ≠ v.ownBlock) W (hdrs D) y.1 y.2) := Lib.hid ⟨hv1, hv2, hv3⟩
    have HTX := Lib.hid htx
    have HI := Lib.hid hI
    have HZ := Lib.hid (And.intro hz0 hz1)
    have HHOW := Lib.hid how
    clear hI hv1 hv2 hv3 how htx hgx hcb hWd hka hkb hz0 hz1
    cases q with
    | true =>
      obtain rfl : ka = kb := hKq rfl
      have hxc := HQ.out.1 rfl
      clear hq
      gi_wp2
      refine stI_ (S := (fun W' => Below W.drew.heap.size W.drew W')) 5 #[false, false, false, false, false] (by kernel_rfl) rfl (by rfl) (by kernel_rfl) (by rintro ⟨_, _, h⟩; exact h) (Below.refl _ _) (fun hHeld => ?_)
      refine tk_ 0 (some 13) #[true, false, false, false, false] rfl rfl (by kernel_rfl) (fun _ _ _ h => h) (yieldsIf_tipb rfl (.tmp 8) rfl bx rfl x.1 (fun W' h => (h.block _ (Array.getElem?_eq_some_iff.1 HG.out).1).trans HG.out)) hHeld (a' := ?_) ?_ ?_
      rotate_left
      · simp only [Act.put, List.setIfInBounds_toArray, List.set_cons_zero, List.set_cons_succ]
        rfl
      refine tk_ 2 (some 15) #[true, false, true, false, false] rfl rfl (by kernel_rfl) (fun _ _ _ h => h) (yieldsIf_tipb rfl (.tmp 5) rfl (w.heap.size + 1) rfl cv (fun W' h => (h.block _ (Array.getElem?_eq_some_iff.1 HCB.out).1).trans HCB.out)) hHeld (a' := ?_) ?_ ?_
      rotate_left
      · simp only [Act.put, List.setIfInBounds_toArray, List.set_cons_zero, List.set_cons_succ]
        rfl
      refine call_ 1 (some 14) #[true, true, true, false, false] rfl rfl (by kernel_rfl) rfl 34 _ (by kernel_rfl) (HKX.out _ hHeld) ?_
      rintro e w3 ⟨rfl, hb3⟩
      have HB3 := Lib.hid (hHeld.trans (hb3.mono hHeld.size))
      refine ⟨_, rfl, HB3.out, fun hHeld => ⟨?_, ?_, ?_⟩⟩
      rotate_left
      · simp only [Act.put, List.setIfInBounds_toArray, List.set_cons_zero, List.set_cons_succ]
        rfl
      refine call_ 3 (some 16) #[true, true, true, true, false] rfl rfl (by kernel_rfl) rfl 34 _ (by kernel_rfl) (HKC.out _ hHeld) ?_
      rintro e w4 ⟨rfl, hb4⟩
      have HB4 := Lib.hid (hHeld.trans (hb4.mono hHeld.size))
      refine ⟨_, rfl, HB4.out, fun hHeld => ⟨?_, ?_, ?_⟩⟩
      rotate_left
      · simp only [Act.put, List.setIfInBounds_toArray, List.set_cons_zero, List.set_cons_succ]
        rfl
      refine tk_ 4 (some 17) #[true, true, true, true, true] (v := ?_) (a' := ?_) rfl rfl (by kernel_rfl) (fun _ _ _ h => h) (yieldsIf_run rfl ?_) hHeld ?_ ?_
      rotate_left
      · intro w'
        go_simp
        with_reducible rfl
      rotate_left
      · simp only [Act.put, List.setIfInBounds_toArray, List.set_cons_zero, List.set_cons_succ]
        rfl
      refine wpAnyH_done (by kernel_rfl) ?_ _
      have hbW : Below W.heap.size W w4 := (Below.refl _ W).drew.trans HB4.out
      change Exit.then _ _ _ _ _
      gi_wp2
      exact ⟨keeps_below hbW, rfl, pre, aboveG_split (C := C) (by rw [← hxc]; exact hrest) (fun y hy => by obtain ⟨z, hz, rfl⟩ := List.mem_map.1 hy; exact HI.out.ne z hz), HI.out.grow hbW⟩
    | false =>
      have hxc : x.2 ≠ C := fun e => by have := HQ.out.2 e; cases this
      have HKK := Lib.hid hq
      clear hq
      gi_wp2
      refine stI_ (S := (fun W' => Below W.drew.heap.size W.drew W')) 5 #[false, false, false, false, false] (by kernel_rfl) rfl (by rfl) (by kernel_rfl) (by rintro ⟨_, _, h⟩; exact h) (Below.refl _ _) (fun hHeld => ?_)
      refine tk_ 0 (some 13) #[true, false, false, false, false] rfl rfl (by kernel_rfl) (fun _ _ _ h => h) (yieldsIf_tipb rfl (.tmp 8) rfl bx rfl x.1 (fun W' h => (h.block _ (Array.getElem?_eq_some_iff.1 HG.out).1).trans HG.out)) hHeld (a' := ?_) ?_ ?_
      rotate_left
      · simp only [Act.put, List.setIfInBounds_toArray, List.set_cons_zero, List.set_cons_succ]
        rfl
      refine tk_ 2 (some 15) #[true, false, true, false, false] rfl rfl (by kernel_rfl) (fun _ _ _ h => h) (yieldsIf_tipb rfl (.tmp 5) rfl (w.heap.size + 1) rfl cv (fun W' h => (h.block _ (Array.getElem?_eq_some_iff.1 HCB.out).1).trans HCB.out)) hHeld (a' := ?_) ?_ ?_
      rotate_left
      · simp only [Act.put, List.setIfInBounds_toArray, List.set_cons_zero, List.set_cons_succ]
        rfl
      refine call_ 1 (some 14) #[true, true, true, false, false] rfl rfl (by kernel_rfl) rfl 34 _ (by kernel_rfl) (HKX.out _ hHeld) ?_
      rintro e w3 ⟨rfl, hb3⟩
      have HB3 := Lib.hid (hHeld.trans (hb3.mono hHeld.size))
      refine ⟨_, rfl, HB3.out, fun hHeld => ⟨?_, ?_, ?_⟩⟩
      rotate_left
      · simp only [Act.put, List.setIfInBounds_toArray, List.set_cons_zero, List.set_cons_succ]
        rfl
      refine call_ 3 (some 16) #[true, true, true, true, false] rfl rfl (by kernel_rfl) rfl 34 _ (by kernel_rfl) (HKC.out _ hHeld) ?_
      rintro e w4 ⟨rfl, hb4⟩
      have HB4 := Lib.hid (hHeld.trans (hb4.mono hHeld.size))
      refine ⟨_, rfl, HB4.out, fun hHeld => ⟨?_, ?_, ?_⟩⟩
      rotate_left
      · simp only [Act.put, List.setIfInBounds_toArray, List.set_cons_zero, List.set_cons_succ]
        rfl
      refine tk_ 4 (some 17) #[true, true, true, true, true] rfl rfl (by kernel_rfl) (fun _ _ _ h => h) (yieldsIf_run (v := .bool false) rfl fun W' => by go_simp; exact ne_of_beq_false HKK.out) hHeld (a' := ?_) ?_ ?_
      rotate_left
      · simp only [Act.put, List.setIfInBounds_toArray, List.set_cons_zero, List.set_cons_succ]
        rfl
      refine wpAnyH_done (by kernel_rfl) ?_ _
      have hbW : Below W.heap.size W w4 := (Below.refl _ W).drew.trans HB4.out
      have hz0 := HZ.out.1
      have hz1 := HZ.out.2
      have HG4 : Hid (w4.heap[bx]? = some (.cells #[x.1] 28 (0, 0))) := Lib.hid ((HB4.out.block _ (Array.getElem?_eq_some_iff.1 HG.out).1).trans HG.out)
      have HV4 : Hid (w4.heap[w.heap.size + 2]? = some (.cells #[v] 123 (0, 0))) := Lib.hid ((hbW.block _ (Array.getElem?_eq_some_iff.1 HHV.out.1).1).trans HHV.out.1)
      have HO4 := Lib.hid (own_below HHV.out.2.1 hbW)
      clear hz0 hz1
      change Exit.then _ _ _ _ _
      gi_wp2_with (refine listIn_of (by rintro ⟨_, _, h⟩; exact h) _ _ _ (by kernel_rfl) ?_)
      have hbase : w1.heap.size + 2 ≤ w4.heap.size := by have := (Array.getElem?_eq_some_iff.1 HG4.out).1; omega
      have hnob : some (w.heap.size + 2) ≠ v.ownBlock := fun e => by have := (own_lt HO4.out _ e.symm).1; have := HI.out.far.2.2.1; omega
      have hl24 : (pre.length + 1) * 24 ≤ 140737488355328 := by omega
      have hpl2 : (pre ++ [x]).length ≤ 1000000 := by have := congrArg List.length hrest; simp at this; simp; omega
      have hcv : w4.cell? ⟨w.heap.size + 2, 0, none⟩ = some v := cell_block HV4.out rfl
      go_wp2_with (first
        | (refine wpl_tip rfl _ rfl _ rfl _ HG4.out ?_)
        | (refine wpl_slice1 rfl 123 28 (.tmp 19) rfl #[x.1] rfl _ 1 24 Tryz.underlying123 tip_info (by kernel_rfl) rfl (by decide) (by decide) ?_)
        | (at_builtin; refine wpl_app1 #[x.1] (w1.heap.size + 2) rfl (.tmp 18) (.tmp 20) 123 28 _ 1 24 rfl Tryz.underlying123 tip_info (by kernel_rfl) (by decide) (by decide) v pre.length _ rfl rfl rfl (by simpa using HTX.out.one) HO4.out hbase hl24 ?_; intro v1 w5 ho5 hg5 hat5; obtain ⟨A1, c1, rfl, -⟩ := own_slice ho5; have HO5 := Lib.hid ho5; have HG5 := Lib.hid hg5; have HAT5 := Lib.hid hat5; have HV5 := Lib.hid ((hg5.block _ (Array.getElem?_eq_some_iff.1 HV4.out).1 hnob).trans HV4.out); clear ho5 hg5 hat5)
        | (refine wpl_set1 rfl 123 (.tmp 7) (.tmp 21) rfl (w.heap.size + 2) rfl (.slice A1 (pre.length + 1) c1) v 123 rfl HV5.out rfl tips_size ?_))
      have hz0 := HZ.out.1
      have hz1 := HZ.out.2
      have hHI := HI.out
      have hsz5 : w4.heap.size ≤ w5.heap.size := HG5.out.size
      have hszW := hbW.size
      have hown1 : ∀ i, (Value.slice A1 (pre.length + 1) c1).ownBlock = some i → w1.heap.size + 2 ≤ i ∧ i < w5.heap.size := fun i hi => own_lt HO5.out i hi
      have hown0 : ∀ i, v.ownBlock = some i → w1.heap.size + 2 ≤ i ∧ i < W.heap.size := fun i hi => own_lt HHV.out.2.1 i hi
      have how6 : ownOf (w.heap.size + 2) (w5.setRow (w.heap.size + 2) #[.slice A1 (pre.length + 1) c1]) = (Value.slice A1 (pre.length + 1) c1).ownBlock := ownOf_box (setRow_heap _ _ _ _ _ _ HV5.out)
      have hkeep : ∀ j, j ≠ w.heap.size + 2 → some j ≠ v.ownBlock → j < W.heap.size → (w5.setRow (w.heap.size + 2) #[.slice A1 (pre.length + 1) c1]).heap[j]? = W.heap[j]? := fun j h1 h2 h3 => (heap_setRow_ne _ _ _ _ h1).trans ((HG5.out.block j (Nat.lt_of_lt_of_le h3 hszW) h2).trans (hbW.block j h3))
      have hnew : ∀ j, j < w4.heap.size → some j ≠ v.ownBlock → some j ≠ (Value.slice A1 (pre.length + 1) c1).ownBlock := fun j h1 h2 => by
        rcases HAT5.out with he | ⟨b, he, hb⟩
        · rw [he]; exact h2
        · rw [he]; intro e; cases e; omega
      have hmv : ∀ y : Value × List ID, TipIs (fun j => okr j ∧ j ≠ w.heap.size + 2 ∧ j ≠ w1.heap.size + 1 ∧ j ≠ W0.heap.size + 1 ∧ some j ≠ v.ownBlock) W (hdrs D) y.1 y.2 → TipIs (fun j => okr j ∧ j ≠ w.heap.size + 2 ∧ j ≠ w1.heap.size + 1 ∧ j ≠ W0.heap.size + 1 ∧ some j ≠ (Value.slice A1 (pre.length + 1) c1).ownBlock) (w5.setRow (w.heap.size + 2) #[.slice A1 (pre.length + 1) c1]) (hdrs D) y.1 y.2 := fun y hy =>
        (((hy.below hbW).old.fr (Fr.grown HG5.out fun k hk => hk.1.2.2.2.2)).set (fun k hk => hk.1.2.1) _).mono fun k hk => ⟨hk.1.1, hk.1.2.1, hk.1.2.2.1, hk.1.2.2.2.1, hnew k hk.2 hk.1.2.2.2.2⟩
      refine ⟨⟨by simp; omega, fun k o hB hk hc => (hkeep k (by omega) (fun e => ?_) (Array.getElem?_eq_some_iff.1 hk).1).trans hk⟩, ⟨by simp; omega, fun _ i hi => ?_, fun j h1 h2 h3 h4 => ?_⟩, ⟨?_, hHI.far, by simp; have := hHI.size; omega, fun j h1 h2 h3 => (hkeep j h3 (fun e => by have := (hown0 j e.symm).1; omega) (Nat.lt_of_lt_of_le h1 hHI.size)).trans (hHI.same j h1 h2 h3), ⟨_, setRow_heap _ _ _ _ _ _ HV5.out, ?_, fun y hy => ?_⟩, fun y hy => ?_, fun y hy => ?_⟩, hpl2⟩
      · rw [own_cells HHV.out.2.1 e.symm hk] at hc; cases hc
      · rw [how6] at hi
        simpa using (hown1 i hi).2
      · rw [HHOW.out] at h3
        exact ⟨hkeep j h2 h3 h4, by rw [how6]; exact hnew j (by omega) h3⟩
      · exact below_setRow (below_grown_own (hHI.below.trans (hbW.mono hHI.below.size)) HO4.out (by omega) (by have := hHI.below.size; omega) HG5.out) (by omega) _
      · rw [List.length_append, List.map_append]
        exact own_setRow _ HO5.out fun k hk => by have := (hown1 k hk).1; omega
      · rcases List.mem_append.1 hy with hy | hy
        · exact hmv y (HHV.out.2.2 y hy)
        · rw [List.mem_singleton.1 hy]; exact hmv x HTX.out
      · rcases List.mem_append.1 hy with hy | hy
        · exact hHI.ne y hy
        · rw [List.mem_singleton.1 hy]; exact hxc
      · rcases List.mem_append.1 hy with hy | hy
        · exact hHI.tips y hy
        · rw [List.mem_singleton.1 hy]; exact hto
  case done =>
    rintro Db xs W rfl hS ⟨hI, hpl⟩ hK
    have hall : aboveG (hdrs D) T C = xs.map Prod.snd := by
      rw [hS]
      refine aboveG_all fun y hy => ?_
      rw [← hS] at hy
      obtain ⟨z, hz, rfl⟩ := List.mem_map.1 hy
      exact hI.ne z hz
    obtain ⟨v, hv1, hv2, hv3⟩ := hI.out
    have hcv : W.cell? ⟨w.heap.size + 2, 0, none⟩ = some v := cell_block hv1 rfl
    have HALL := Lib.hid hall
    have HI := Lib.hid hI
    have HV := Lib.hid (And.intro hv2 hv3)
    have HZ := Lib.hid (And.intro hz0 hz1)
    have HK := Lib.hid hK
    clear hall hI hv1 hv2 hv3 hz0 hz1 hK
    gi_wp2
    have hz0 := HZ.out.1
    have hz1 := HZ.out.2
    refine ⟨by simp, .inl ⟨_, _, rfl, run_takeDeferred HK.out, ?_⟩⟩
    refine ⟨_, results_tmp rfl _ _ _, v, xs, rfl, own_same (own_low HV.out.1 (by omega)) fun k hk => World.putObj_heap_other (by have := (own_lt HV.out.1 k hk).1; omega), HALL.out.symm, fun x hx => ⟨((HV.out.2 x hx).put (fun k hk => ?_) _).mono fun k hk => ⟨?_, hk.2.2.2.2⟩, HI.out.tips x hx⟩, HI.out.below.grown (grownBy_putObj' W _ _) HI.out.below.size (fun k e => by cases e; omega)⟩
    · have h2 := hk.1
      rw [HOKR.out] at h2
      exact h2.2.2
    · have h2 := hk.1
      rw [HOKR.out] at h2
      exact h2.1
  case stop =>
    rintro Db c s W rfl - ⟨rfl, pre, hall, hI⟩ hK
    obtain ⟨v, hv1, hv2, hv3⟩ := hI.out
    have hcv : W.cell? ⟨w.heap.size + 2, 0, none⟩ = some v := cell_block hv1 rfl
    have HALL := Lib.hid hall
    have HI := Lib.hid hI
    have HV := Lib.hid (And.intro hv2 hv3)
    have HZ := Lib.hid (And.intro hz0 hz1)
    have HK := Lib.hid hK
    clear hall hI hv1 hv2 hv3 hz0 hz1 hK
    gi_wp2
    have hz0 := HZ.out.1
    have hz1 := HZ.out.2
    refine ⟨by simp, .inl ⟨_, _, rfl, run_takeDeferred HK.out, ?_⟩⟩
    refine ⟨_, results_tmp rfl _ _ _, v, pre, rfl, own_same (own_low HV.out.1 (by omega)) fun k hk => World.putObj_heap_other (by have := (own_lt HV.out.1 k hk).1; omega), HALL.out.symm, fun x hx => ⟨((HV.out.2 x hx).put (fun k hk => ?_) _).mono fun k hk => ⟨?_, hk.2.2.2.2⟩, HI.out.tips x hx⟩, HI.out.below.grown (grownBy_putObj' W _ _) HI.out.below.size (fun k e => by cases e; omega)⟩
    · have h2 := hk.1
      rw [HOKR.out] at h2
      exact h2.2.2
    · have h2 := hk.1
      rw [HOKR.out] at h2
      exact h2.1
end Go.Proofs.YthpcedficlhanaaGreatDoor
