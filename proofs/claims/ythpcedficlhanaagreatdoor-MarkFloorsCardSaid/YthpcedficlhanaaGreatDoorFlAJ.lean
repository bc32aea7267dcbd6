/- tipset.Has, Blocks, Genesis. tipset.Genesis, Blocks. tipset.New, in one contract; what it answers for blocks in another order. A dag, as the list of the headers that came in. No program in sight. -/
import Derived.Test.YthpcedficlhanaaGreatDoorFlAI
namespace Go.Proofs.YthpcedficlhanaaGreatDoor
open Go.RowKit

set_option maxRecDepth 100000 in
set_option maxHeartbeats 1000000 in
theorem has1_any (w : World) (x : LB) (g : Nat) (i : ID) (h : ∀ j u, (idc i)[j]? = some u → w.cell? ⟨g, 0 + j, none⟩ = some u) :
    Calls Tryz.prog 103 #[.agg x.cells.toArray, .pointer (some ⟨g, 0, none⟩)] w fun e w' => e = .returned (.bool (decide (x.id = i))) ∧ Below w.heap.size w w' := by
  have hB0 : Below w.heap.size w (w.alloc (.cells x.cells.toArray 40)) := (Below.refl _ w).alloc (Nat.le_refl _) _
  have hcx : HoldB (w.alloc (.cells x.cells.toArray 40)) w.heap.size x := fun j u hu => cell_block (fr := (0, 0)) (T := 40) (heap_alloc_new w _) (by simpa using hu)
  have hi : ∀ j u, (idc i)[j]? = some u → (w.alloc (.cells x.cells.toArray 40)).cell? ⟨g, 0 + j, none⟩ = some u := fun j u hu => (hB0.cell (p := ⟨g, 0 + j, none⟩) (World.block_lt_of_cell? w _ (h j u hu))).trans (h j u hu)
  have HB0 := Lib.hid hB0
  have HCX := Lib.hid hcx
  have HI := Lib.hid hi
  clear hB0 hcx hi h
  go_enter Tryz.func103, Tryz.ntmps103
  go_wp2_with (first
    | (refine wpl_load rfl 34 (.tmp 4) rfl w.heap.size 0 rfl (idc x.id) _ HCX.out.id Tryz.underlying34 rfl (by rw [idc_length]; exact id_size) ?_)
    | (refine wpl_load rfl 34 (.tmp 1) rfl g 0 rfl (idc i) _ HI.out Tryz.underlying34 rfl (by rw [idc_length]; exact id_size) ?_)
    | (refine wpl_eql rfl (.tmp 5) (.tmp 6) _ rfl x.id i rfl rfl ?_))
  go_ret
  exact ⟨rfl, HB0.out⟩

/-- Is a block of a name among them? -/
def hasB (l : List LB) (i : ID) : Bool := l.any fun x => decide (x.id = i)
theorem has1_yes (w : World) (x : LB) (g : Nat) (i : ID) (h : ∀ j u, (idc i)[j]? = some u → w.cell? ⟨g, 0 + j, none⟩ = some u) (he : x.id = i) :
    Calls Tryz.prog 103 #[.agg x.cells.toArray, .pointer (some ⟨g, 0, none⟩)] w fun e w' => e = .returned (.bool true) ∧ Below w.heap.size w w' :=
  (has1_any w x g i h).mono fun e w' ⟨h1, h2⟩ => ⟨by rw [decide_eq_true he] at h1; exact h1, h2⟩
theorem has1_no (w : World) (x : LB) (g : Nat) (i : ID) (h : ∀ j u, (idc i)[j]? = some u → w.cell? ⟨g, 0 + j, none⟩ = some u) (he : ¬ x.id = i) :
    Calls Tryz.prog 103 #[.agg x.cells.toArray, .pointer (some ⟨g, 0, none⟩)] w fun e w' => e = .returned (.bool false) ∧ Below w.heap.size w w' :=
  (has1_any w x g i h).mono fun e w' ⟨h1, h2⟩ => ⟨by rw [decide_eq_false he] at h1; exact h1, h2⟩
set_option maxRecDepth 100000 in
set_option maxHeartbeats 1000000 in
theorem indexFunc_any (w : World) (t : Value) (l : List LB) (ok : Nat → Prop) (h : TipAt ok w t l) (g : Nat) (i : ID) (hi : ∀ j u, (idc i)[j]? = some u → w.cell? ⟨g, 0 + j, none⟩ = some u) :
    Calls Tryz.prog 154 #[t, .func (.func 103) #[] #[.pointer (some ⟨g, 0, none⟩)]] w fun e w' => Below w.heap.size w w' ∧ ((e = .returned (.int .i64 (-1)) ∧ ∀ x ∈ l, x.id ≠ i) ∨ ∃ n : Nat, n < l.length ∧ e = .returned (.int .i64 n) ∧ ∃ x ∈ l, x.id = i) := by
  obtain ⟨A, c, rfl, hc, hm⟩ := h.1.form
  have HT := Lib.hid h
  have HI := Lib.hid hi
  have hl5 := h.2
  clear h hi
  go_enter Tryz.func154, Tryz.ntmps154
  go_wp2
  go_loopw [8] (fun ci wr => ∃ n : Nat, n ≤ l.length ∧ ci = .int .i64 n ∧ Below w.heap.size w wr ∧ ∀ x ∈ l.take n, x.id ≠ i) (fun ci _ => l.length - (intOf ci).toNat)
  case atStart => exact ⟨0, Nat.zero_le _, rfl, Below.refl _ _, by simp⟩
  case round =>
    obtain ⟨n, hn, rfl, hB, hne⟩ := hrel
    have HB := Lib.hid hB
    have HNE := Lib.hid hne
    clear hB hne
    by_cases hlt : n < l.length
    · obtain ⟨x, hx⟩ : ∃ x, l[n]? = some x := ⟨_, List.getElem?_eq_getElem hlt⟩
      obtain ⟨b, off, rfl, hbl, -, hcx⟩ := (HT.out.below HB.out).1.at_ n x hx
      have HX := Lib.hid hcx
      have HXI := Lib.hid hx
      have HIr : Hid (∀ j u, (idc i)[j]? = some u → wr.cell? ⟨g, 0 + j, none⟩ = some u) := Lib.hid fun j u hu => (HB.out.cell (p := ⟨g, 0 + j, none⟩) (World.block_lt_of_cell? w _ (HI.out j u hu))).trans (HI.out j u hu)
      clear hcx hx
      by_cases he : x.id = i
      · have HE := Lib.hid he
        clear he
        go_wp2_with (first
          | (refine wpl_load rfl 40 (.tmp 14) rfl b _ rfl x.cells _ HX.out Tryz.underlying40 rfl (by rw [LB.cells_length]; exact block_size) ?_)
          | (go_at_call 103; refine (has1_yes _ x g i HIr.out HE.out).mono ?_; rintro e w2 ⟨rfl, hb2⟩))
        go_ret
        exact ⟨HB.out.trans (hb2.mono HB.out.size), .inr ⟨n, hlt, rfl, x, List.mem_of_getElem? HXI.out, HE.out⟩⟩
      · have HE := Lib.hid he
        clear he
        go_wp2_with (first
          | (refine wpl_load rfl 40 (.tmp 14) rfl b _ rfl x.cells _ HX.out Tryz.underlying40 rfl (by rw [LB.cells_length]; exact block_size) ?_)
          | (go_at_call 103; refine (has1_no _ x g i HIr.out HE.out).mono ?_; rintro e w2 ⟨rfl, hb2⟩))
        go_roundw
        case rel => exact ⟨n + 1, by omega, by go_num, HB.out.trans (hb2.mono HB.out.size), by rw [List.take_add_one, HXI.out]; intro y hy; rcases List.mem_append.1 hy with hy | hy; exact HNE.out y hy; simp at hy; subst hy; exact HE.out⟩
        case measure => simp [intOf]; omega
    · have hin : n = l.length := by omega
      subst hin
      go_wp2
      go_ret
      exact ⟨HB.out, .inl ⟨rfl, by have := HNE.out; rwa [List.take_length] at this⟩⟩
set_option maxRecDepth 100000 in
set_option maxHeartbeats 1000000 in
theorem contains_any (w : World) (t : Value) (l : List LB) (ok : Nat → Prop) (h : TipAt ok w t l) (g : Nat) (i : ID) (hi : ∀ j u, (idc i)[j]? = some u → w.cell? ⟨g, 0 + j, none⟩ = some u) :
    Calls Tryz.prog 102 #[t, .func (.func 103) #[] #[.pointer (some ⟨g, 0, none⟩)]] w fun e w' => e = .returned (.bool (hasB l i)) ∧ Below w.heap.size w w' := by
  have HC := Lib.hid (indexFunc_any w t l ok h g i hi)
  have hl5 := h.2
  obtain ⟨A, c, rfl, -, -⟩ := h.1.form
  clear h hi
  go_enter Tryz.func102, Tryz.ntmps102
  go_wp2_with (go_at_call 154; refine HC.out.mono ?_; rintro e w1 ⟨hb1, ⟨rfl, hne⟩ | ⟨n, hn, rfl, x, hx, hxi⟩⟩)
  · go_ret
    have hb : hasB l i = false := by rw [hasB, List.any_eq_false]; intro x hx; simpa using hne x hx
    exact ⟨by rw [hb]; rfl, hb1⟩
  · go_ret
    have hb : hasB l i = true := by rw [hasB, List.any_eq_true]; exact ⟨x, hx, by simpa using hxi⟩
    refine ⟨?_, hb1⟩
    rw [hb]
    simp
set_option maxRecDepth 100000 in
set_option maxHeartbeats 1000000 in
theorem thas_any (w : World) (t : Value) (l : List LB) (ok : Nat → Prop) (h : TipAt ok w t l) (i : ID) :
    Calls Tryz.prog 28 #[tipV t, .agg (idc i).toArray] w fun e w' => e = .returned (.bool (hasB l i)) ∧ Below w.heap.size w w' := by
  have hB0 : Below w.heap.size w ((w.alloc (.cells #[t] 28)).alloc (.cells (idc i).toArray 34)) := ((Below.refl _ w).alloc (Nat.le_refl _) _).alloc (by simp) _
  have hi : ∀ j u, (idc i)[j]? = some u → ((w.alloc (.cells #[t] 28)).alloc (.cells (idc i).toArray 34)).cell? ⟨w.heap.size + 1, 0 + j, none⟩ = some u := fun j u hu => by
    rw [Nat.zero_add]
    exact cell_block (fr := (0, 0)) (T := 34) (by rw [heap_alloc_if, if_pos (by simp)]) (by simpa using hu)
  have hc := contains_any _ t l ok (h.below hB0) (w.heap.size + 1) i hi
  have HC := Lib.hid hc
  have HB0 := Lib.hid hB0
  obtain ⟨A, c, rfl, -, -⟩ := h.1.form
  clear h hi hc hB0
  go_enter Tryz.func28, Tryz.ntmps28
  go_wp2_with (go_at_call 102; refine HC.out.mono ?_; rintro e w1 ⟨rfl, hb1⟩)
  go_ret
  exact ⟨rfl, HB0.out.trans (hb1.mono HB0.out.size)⟩
end Go.Proofs.YthpcedficlhanaaGreatDoor
namespace Go.Proofs.YthpcedficlhanaaGreatDoor
open Go.RowKit

theorem lbZ_cells : (Value.agg lbZ.cells.toArray).cells.size = 39 := by simp only [Value.cells, List.size_toArray, LB.cells_length]
theorem blk_info : (Tryz.prog.info? 40).map (fun i => (i.zero, i.size, i.bytes)) = some (some (.agg lbZ.cells.toArray), 39, 112) := by kernel_rfl

set_option maxRecDepth 100000 in
set_option maxHeartbeats 2000000 in
theorem tgenesis_any (w : World) (ht : Tab w) :
    Calls Tryz.prog 71 #[] w fun e w' => ∃ (t : Value) (y : LH), y.h = genH ∧ e = .returned (tipV t) ∧ Sl lbE (fun k => w.heap.size ≤ k) w' t [⟨rootID, y⟩] ∧ y.At (fun k => w.heap.size ≤ k) w' ∧ Below w.heap.size w w' := by
  have HT := Lib.hid ht
  clear ht
  go_enter Tryz.func71, Tryz.ntmps71
  go_wp2_with (first
    | (go_at_call 107; refine (genesis_any _).mono ?_; rintro e w1 ⟨rfl, hb1⟩; have HB1 : Hid (Below w.heap.size w w1) := ((Below.refl _ w).alloc (Nat.le_refl _) _).trans (hb1.mono (by simp)); have HK1 : Hid (w1.heap[w.heap.size]? = some (.cells #[.slice none 0 0] 28 (0, 0))) := (hb1.block _ (by simp)).trans (heap_alloc_new w _); clear hb1)
    | (go_at_call 91; refine (make_any _ genL (fun _ => True) (genL_at _ _) genH_ok (HT.out.below HB1.out)).mono ?_; rintro e w2 ⟨y, hyh, rfl, hy, hb2⟩; have HYH := Lib.hid hyh; have HY := Lib.hid hy; have HB2 : Hid (Below w.heap.size w w2) := HB1.out.trans (hb2.mono HB1.out.size); have HK2 : Hid (w2.heap[w.heap.size]? = some (.cells #[.slice none 0 0] 28 (0, 0))) := (hb2.block _ (Array.getElem?_eq_some_iff.1 HK1.out).1).trans HK1.out; clear hyh hy hb2)
    | (refine wpl_slice1 rfl 25 40 (.tmp 2) rfl (LB.cells ⟨hdrID genL.h, y⟩).toArray rfl _ 39 112 Tryz.underlying25 blk_info lbZ_cells (by rw [List.size_toArray, LB.cells_length]) (by decide) (by decide) ?_)
    | (refine wpl_store_row rfl 28 (.tmp 0) (.tmp 4) rfl w.heap.size rfl [.slice (some ⟨w2.heap.size, 0, none⟩) 1 1] rfl _ 28 ((heap_alloc_old w2 _ (Array.getElem?_eq_some_iff.1 HK2.out).1).trans HK2.out) rfl (by simp [Value.oneCell']) tip_size ?_))
  (try simp only [Exit.inBlock, Exit.then])
  have hlt2 := (Array.getElem?_eq_some_iff.1 HK2.out).1
  refine bodyPost_ret (results_cell_row rfl _ _ w.heap.size 28 #[.slice (some ⟨w2.heap.size, 0, none⟩) 1 1] (0, 0) _ rfl (setRow_heap _ w.heap.size _ _ _ _ ((heap_alloc_old w2 _ hlt2).trans HK2.out)) Tryz.underlying28 rfl tip_size) rfl ?_
  have hf : Fr (fun k => w.heap.size < k) w2 ((w2.alloc (.cells (LB.cells ⟨hdrID genL.h, y⟩).toArray 40)).setRow w.heap.size #[.slice (some ⟨w2.heap.size, 0, none⟩) 1 1]) :=
    ((Fr.refl _ w2).alloc _).trans ⟨by simp, fun k hk _ => heap_setRow_ne _ _ _ _ (by omega)⟩
  refine ⟨_, y, HYH.out, rfl, ?_, ?_, below_setRow (HB2.out.alloc HB2.out.size _) (Nat.le_refl _) _⟩
  · have hg : ((w2.alloc (.cells (LB.cells ⟨hdrID genL.h, y⟩).toArray 40)).setRow w.heap.size #[.slice (some ⟨w2.heap.size, 0, none⟩) 1 1]).heap[w2.heap.size]? = some (.cells (LB.cells ⟨hdrID genL.h, y⟩).toArray 40 (0, 0)) :=
      (heap_setRow_ne _ _ _ _ (by omega)).trans (heap_alloc_new w2 _)
    exact (Sl.of_block (E := lbE) (ys := [⟨rootID, y⟩]) (n := 1) (c := 1) hg (by simp only [lbE.flat_one]; rfl) rfl (Nat.le_refl _) (by omega)).mono fun k hk => by have := HB2.out.size; omega
  · have h1 : y.At (fun k => w.heap.size < k) w2 := Sl.mono HY.out fun k hk => by have h := (Array.getElem?_eq_some_iff.1 HK1.out).1; omega
    exact Sl.mono (Sl.fr h1 hf) fun k hk => Nat.le_of_lt hk

/-- A block's values, wherever its parents lie. -/
def LB.val (b : LB) : ID × Hdr := (b.id, b.x.h)
def vals (l : List LB) : List (ID × Hdr) := l.map LB.val
theorem LB.cells_set (x : LB) (y : LH) (hy : y.h = x.x.h) : x.cells.set 37 y.v = (LB.cells ⟨x.id, y⟩) := by
  unfold LB.cells
  rw [List.set_append_right _ _ (by rw [idc_length]; omega), idc_length]
  congr 1
  obtain ⟨h, A, c⟩ := y
  simp only at hy
  subst hy
  rfl
/-- Blocks that were copied, so far. -/
structure Copied (w wr : World) (v : Value) (l : List LB) (i : Nat) (ys : List LB) : Prop where
  vals : vals ys = vals (l.take i)
  own : wr.ownsRow w.heap.size 40 39 v i (lbE.flat ys)
  at_ : ∀ y ∈ ys, y.x.At (fun k => w.heap.size ≤ k ∧ some k ≠ v.ownBlock) wr
  below : Below w.heap.size w wr
theorem Copied.under {w wr w' : World} {v : Value} {l : List LB} {i : Nat} {ys : List LB} (h : Copied w wr v l i ys) (hb : Below wr.heap.size wr w') : Copied w w' v l i ys :=
  ⟨h.vals, own_below h.own hb, fun y hy => Sl.below (h.at_ y hy) hb, h.below.trans (hb.mono h.below.size)⟩
/-- .. and one more. -/
theorem Copied.more {w wr W w1 : World} {v v1 : Value} {l : List LB} {i : Nat} {ys : List LB} (h : Copied w W v l i ys) (hr : w.heap.size ≤ wr.heap.size) (x : LB) (hx : l[i]? = some x) (y : LH) (hy : y.h = x.x.h) (hat : y.At (fun k => w.heap.size ≤ k ∧ some k ≠ v.ownBlock) W)
    (ho : w1.ownsRow w.heap.size 40 39 v1 (i + 1) (lbE.flat ys ++ (LB.cells ⟨x.id, y⟩).toArray.toList)) (hg : W.grownBy w1 v.ownBlock) (hat1 : v1.ownBlock = v.ownBlock ∨ ∃ b, v1.ownBlock = some b ∧ W.heap.size ≤ b) : Copied w w1 v1 l (i + 1) (ys ++ [⟨x.id, y⟩]) where
  vals := by
    rw [List.take_add_one, hx]
    have := h.vals
    simp only [Go.Proofs.YthpcedficlhanaaGreatDoor.vals, List.map_append] at this ⊢
    rw [this]
    simp [LB.val, hy]
  own := by rw [lbE.flat_append, lbE.flat_one]; exact ho
  at_ := by
    intro z hz
    have h1 : z.x.At (fun k => w.heap.size ≤ k ∧ some k ≠ v.ownBlock) W := by
      rcases List.mem_append.1 hz with hz | hz
      · exact h.at_ z hz
      · rw [List.mem_singleton] at hz; subst hz; exact hat
    refine Sl.mono (Sl.fr (Sl.old h1) (Fr.grown hg fun k hk => hk.1.2)) fun k hk => ⟨hk.1.1, ?_⟩
    rcases hat1 with he | ⟨b, he, hb⟩
    · rw [he]; exact hk.1.2
    · rw [he]; intro e; injection e with e; omega
  below := below_grown_own h.below h.own (Nat.le_refl _) h.below.size hg

theorem hold_set {w2 : World} {g : Nat} {x : LB} (hg : w2.heap[g]? = some (.cells x.cells.toArray 40 (0, 0))) (y : LH) (hy : y.h = x.x.h) : ∀ j u, (LB.cells ⟨x.id, y⟩)[j]? = some u → (w2.setCell ⟨g, 37, none⟩ y.v).cell? ⟨g, 0 + j, none⟩ = some u := fun j u hu => by
  rw [Nat.zero_add]
  refine cell_block (heap_setCell_at w2 g 37 _ _ _ y.v hg) ?_
  rw [← x.cells_set y hy] at hu
  simpa using hu
theorem at_set {w wr W1 w2 : World} {u : Value} {l : List LB} {i : Nat} {ys : List LB} {x : LB} {A2 : Option Addr} {c2 : Nat} (hC : Copied w wr u l i ys) (hL : Laid w wr W1 x) (ho : w2.ownsRow W1.heap.size 34 32 (.slice A2 x.x.h.parents.length c2) x.x.h.parents.length (idE.flat x.x.h.parents)) :
    LH.At (fun k => w.heap.size ≤ k ∧ some k ≠ u.ownBlock) (w2.setCell ⟨wr.heap.size, 37, none⟩ (.slice A2 x.x.h.parents.length c2)) ⟨x.x.h, A2, c2⟩ := by
  have h1 : Sl idE (fun k => W1.heap.size ≤ k) w2 (.slice A2 x.x.h.parents.length c2) x.x.h.parents := (Sl.of_own (E := idE) ho).mono fun k hk => (own_lt ho k hk).1
  refine Sl.mono (Sl.fr h1 ((Fr.refl _ w2).setCell (p := ⟨wr.heap.size, 37, none⟩) (fun h => by have h : W1.heap.size ≤ wr.heap.size := h; have := hL.size; omega) _)) fun k hk => ?_
  have h2 := hL.size
  have h3 := hC.below.size
  refine ⟨by omega, fun e => ?_⟩
  have := (own_lt hC.own k e.symm).2
  omega

set_option maxRecDepth 100000 in
set_option maxHeartbeats 4000000 in
theorem tblocks_any (w : World) (t : Value) (l : List LB) (ok ok' : Nat → Prop) (h : TipAt ok w t l) (hk : Okay ok' w l) :
    Calls Tryz.prog 23 #[tipV t] w fun e w' => ∃ v ys, e = .returned v ∧ Copied w w' v l l.length ys := by
  obtain ⟨A, c, rfl, hc, hm⟩ := h.1.form
  have HT := Lib.hid h
  have HK := Lib.hid hk
  have hl5 := h.2
  clear h hk
  go_enter Tryz.func23, Tryz.ntmps23
  go_wp2
  go_loopw [3, 9] (fun v ci wr => ∃ (i : Nat) (ys : List LB), i ≤ l.length ∧ ci = .int .i64 i ∧ Copied w wr v l i ys) (fun _ ci _ => l.length - (intOf ci).toNat)
  case atStart => exact ⟨0, [], Nat.zero_le _, rfl, rfl, World.ownsRow_nil _ _ _ _, by simp, (Below.refl _ w).alloc (Nat.le_refl _) _⟩
  case round =>
    obtain ⟨i, ys, hi, rfl, hC⟩ := hrel
    have hsz := hC.below.size
    have HC := Lib.hid hC
    clear hC
    by_cases hlt : i < l.length
    · obtain ⟨x, hx⟩ : ∃ x, l[i]? = some x := ⟨_, List.getElem?_eq_getElem hlt⟩
      obtain ⟨b, off, rfl, hbl, -, hcx⟩ := (HT.out.below HC.out.below).1.at_ i x hx
      obtain ⟨hax, hox, -⟩ := (HK.out.below HC.out.below) x (List.mem_of_getElem? hx)
      have hpl : x.x.h.parents.length ≤ 4294967296 := by have h : _ ≤ 1048576 := hox.parents; omega
      have HAX := Lib.hid hax
      have HX := Lib.hid hcx
      have HXI := Lib.hid hx
      have HL := Lib.hid (Laid.start HC.out.below x)
      have HG1 : Hid ((wr.alloc (.cells x.cells.toArray 40)).heap[wr.heap.size]? = some (.cells x.cells.toArray 40 (0, 0))) := Lib.hid (heap_alloc_new wr _)
      clear hcx hx hax hox
      go_wp2_with (first
        | (refine wpl_load rfl 40 (.tmp 11) rfl b _ rfl x.cells _ HX.out Tryz.underlying40 rfl (by rw [LB.cells_length]; exact block_size) ?_)
        | (refine wpl_store_new rfl 40 _ _ rfl rfl x.cells rfl _ _ (by rw [LB.cells_length]; rfl) x.cells_one (by rw [LB.cells_length]; exact block_size) ?_; generalize (wr.alloc (.cells x.cells.toArray 40)) = W1 at HL HG1 ⊢; have hcp : W1.cell? ⟨wr.heap.size, 37, none⟩ = some x.x.v := HL.out.hold 37 _ x.cells_parents)
        | (go_at_call 98; refine (clone_id _ x.x.v x.x.h.parents ok' (Sl.below (w := wr) HAX.out HL.out.old) hpl).mono ?_; rintro e w2 ⟨v2, rfl, ho2, hb2⟩; obtain ⟨A2, c2, rfl, -⟩ := own_slice ho2; have HO2 := Lib.hid ho2; have HB2 := Lib.hid hb2; have HG2 : Hid (w2.heap[wr.heap.size]? = some (.cells x.cells.toArray 40 (0, 0))) := Lib.hid ((hb2.block _ (Array.getElem?_eq_some_iff.1 HG1.out).1).trans HG1.out); have hcp2 : w2.cell? ⟨wr.heap.size, 37, none⟩ = some x.x.v := cell_block HG2.out (by simpa using x.cells_parents); have hfp2 : w2.frozen? ⟨wr.heap.size, 37, none⟩ = false := Lib.frozen_of_heap HG2.out 37; have HBW : Hid (Below wr.heap.size wr (w2.setCell ⟨wr.heap.size, 37, none⟩ (.slice A2 x.x.h.parents.length c2))) := Lib.hid ((HL.out.old.trans (hb2.mono (by have := HL.out.size; omega))).setCell (p := ⟨wr.heap.size, 37, none⟩) (Nat.le_refl _) _); have HX2 : Hid (∀ j u, (LB.cells ⟨x.id, ⟨x.x.h, A2, c2⟩⟩)[j]? = some u → (w2.setCell ⟨wr.heap.size, 37, none⟩ (.slice A2 x.x.h.parents.length c2)).cell? ⟨wr.heap.size, 0 + j, none⟩ = some u) := Lib.hid (hold_set HG2.out _ rfl); have HAT : Hid (LH.At (fun k => w.heap.size ≤ k ∧ some k ≠ u3.ownBlock) (w2.setCell ⟨wr.heap.size, 37, none⟩ (.slice A2 x.x.h.parents.length c2)) ⟨x.x.h, A2, c2⟩) := Lib.hid (at_set HC.out HL.out ho2); clear ho2 hb2 hcp)
        | (refine wpl_load rfl 40 (.tmp 5) rfl wr.heap.size 0 rfl (LB.cells ⟨x.id, ⟨x.x.h, A2, c2⟩⟩) _ HX2.out Tryz.underlying40 rfl (by rw [LB.cells_length]; exact block_size) ?_)
        | (refine wpl_slice1 rfl 25 40 (.tmp 20) rfl (LB.cells ⟨x.id, ⟨x.x.h, A2, c2⟩⟩).toArray rfl _ 39 112 Tryz.underlying25 blk_info lbZ_cells (by rw [List.size_toArray, LB.cells_length]) (by decide) (by decide) ?_)
        | (at_builtin; refine wpl_app1 (LB.cells ⟨x.id, ⟨x.x.h, A2, c2⟩⟩).toArray w.heap.size rfl (.tmp 19) (.tmp 21) 25 40 _ 39 112 rfl Tryz.underlying25 blk_info lbZ_cells (by decide) (by decide) u3 i _ rfl rfl (by rw [List.size_toArray, LB.cells_length]) (fun u hu => LB.cells_one _ u hu) (HC.out.under HBW.out).own (HC.out.under HBW.out).below.size (by omega) ?_; intro v' w3 ho3 hg3 hat3; have HC3 := Lib.hid ((HC.out.under HBW.out).more hsz x HXI.out ⟨x.x.h, A2, c2⟩ rfl HAT.out ho3 hg3 hat3); clear ho3 hg3 hat3))
      go_roundw
      case rel => exact ⟨i + 1, _, by omega, by go_num, HC3.out⟩
      case measure => simp [intOf]; omega
    · have hin : i = l.length := by omega
      subst hin
      go_wp2
      go_ret
      exact ⟨_, ys, rfl, HC.out⟩
end Go.Proofs.YthpcedficlhanaaGreatDoor
namespace Go.Proofs.YthpcedficlhanaaGreatDoor
open Go.RowKit

section
variable {zs zs' : List LB}
theorem vals_get (h : vals zs = vals zs') (i : Nat) : (zs[i]?).map LB.val = (zs'[i]?).map LB.val := by
  have : (vals zs)[i]? = (vals zs')[i]? := by rw [h]
  simpa [vals] using this
theorem vals_length (h : vals zs = vals zs') : zs.length = zs'.length := by simpa [vals] using congrArg List.length h
theorem vals_ids (h : vals zs = vals zs') : zs.map LB.id = zs'.map LB.id := by
  have := congrArg (List.map Prod.fst) h
  simpa [vals, LB.val, Function.comp_def] using this
theorem minerC_of_vals (zs : List LB) (i : Nat) (m : Int) : minerC zs i m = (((vals zs).take i).filter fun v => decide (v.2.miner = m)).length := by
  unfold minerC vals
  rw [← List.map_take, List.filter_map, List.length_map]
  rfl
theorem fits_vals {a b a' b' : Option LB} (h : a.map LB.val = a'.map LB.val) (h' : b.map LB.val = b'.map LB.val) : fits? a b = fits? a' b' := by
  cases a <;> cases a' <;> cases b <;> cases b' <;> simp only [Option.map_some, Option.map_none, Option.some.injEq, LB.val, Prod.mk.injEq, reduceCtorEq, fits?] at h h' ⊢
  unfold fitsB
  rw [h.1, h.2, h'.1, h'.2]
theorem goodN_vals (h : vals zs = vals zs') : ∀ i, goodN zs i = goodN zs' i
  | 0 => by simp only [goodN, vals_length h]
  | i + 1 => by
    rw [goodN, goodN, goodN_vals h i, fits_vals (vals_get h (i - 1)) (vals_get h i)]
    congr 2
    have hi := vals_get h i
    cases hx : zs[i]? <;> cases hy : zs'[i]? <;> rw [hx, hy] at hi <;> simp only [Option.map_some, Option.map_none, Option.some.injEq, reduceCtorEq] at hi ⊢
    rw [minerC_of_vals, minerC_of_vals, h]
    have : _ = _ := congrArg Prod.snd hi
    simp only [LB.val] at this
    rw [this]
theorem goodB_vals (h : vals zs = vals zs') : goodB zs = goodB zs' := by unfold goodB; rw [vals_length h, goodN_vals h]
theorem goodN_adj : ∀ (n : Nat), goodN zs n = true → ∀ p x y, p + 1 < n → zs[p]? = some x → zs[p + 1]? = some y → x.id ≠ y.id
  | 0, _, p, _, _, hp, _, _ => by omega
  | n + 1, h, p, x, y, hp, hx, hy => by
    rw [goodN] at h
    simp only [Bool.and_eq_true] at h
    obtain ⟨⟨h1, -⟩, h3⟩ := h
    rcases Nat.lt_or_ge (p + 1) n with hl | hl
    · exact goodN_adj n h1 p x y hl hx hy
    · obtain rfl : n = p + 1 := by omega
      rw [show p + 1 - 1 = p by omega, hx, hy] at h3
      simp [fits?, fitsB] at h3
      exact h3.1
theorem good_nodup (hr : Risen cmpL zs) (hg : goodB zs = true) : (zs.map LB.id).Nodup := by
  unfold List.Nodup
  rw [List.pairwise_map, List.pairwise_iff_getElem]
  intro i j hi hj hij he
  have h1 : i + 1 < zs.length := by omega
  have ha := goodN_adj zs.length hg i _ _ h1 (List.getElem?_eq_getElem hi) (List.getElem?_eq_getElem h1)
  have hb := hr i (i + 1) _ _ (by omega) (List.getElem?_eq_getElem hi) (List.getElem?_eq_getElem h1)
  have hc : ¬ cmpL zs[i] zs[i + 1] < 0 := by
    rcases Nat.lt_or_ge (i + 1) j with hl | hl
    · have := hr (i + 1) j _ _ hl (List.getElem?_eq_getElem h1) (List.getElem?_eq_getElem hj)
      unfold cmpL at this ⊢
      rw [he]; exact this
    · obtain rfl : j = i + 1 := by omega
      exact absurd he ha
  unfold cmpL at hb hc
  have := cmpI_swap zs[i].id zs[i + 1].id
  exact ha (cmpI_zero _ _ (by omega))
end
/-- Pairs in the order of their names. -/
theorem pairs_eq {α β : Type} : ∀ {p q : List (α × β)}, p.Perm q → p.map Prod.fst = q.map Prod.fst → (p.map Prod.fst).Nodup → p = q
  | [], [], _, _, _ => rfl
  | [], _ :: _, h, _, _ => by have := h.length_eq; simp at this
  | _ :: _, [], h, _, _ => by have := h.length_eq; simp at this
  | (a, x) :: p, (b, y) :: q, h, he, hn => by
    simp only [List.map_cons, List.cons.injEq] at he
    obtain ⟨rfl, he⟩ := he
    simp only [List.map_cons, List.nodup_cons] at hn
    have hxy : x = y := by
      have : (a, x) ∈ (a, y) :: q := h.mem_iff.1 (List.mem_cons_self)
      rcases List.mem_cons.1 this with e | hm
      · exact congrArg Prod.snd e
      · exact absurd (by rw [he]; exact List.mem_map.2 ⟨_, hm, rfl⟩) hn.1
    subst hxy
    rw [pairs_eq (List.Perm.cons_inv h) he hn.2]
/-- What New answers. -/
def Newed (l : List LB) (ec : Int) (zs : List LB) : Prop :=
  (5 < l.length ∧ ec = 4 ∧ zs = []) ∨ (l.length ≤ 5 ∧ ∃ z, z.Perm l ∧ Risen cmpL z ∧ ((goodB z = true ∧ ec = 0 ∧ zs = z) ∨ (goodB z = false ∧ ec = 15 ∧ zs = [])))
theorem Newed.nodup {l zs : List LB} {ec : Int} (h : Newed l ec zs) : (zs.map LB.id).Nodup := by
  rcases h with ⟨-, -, rfl⟩ | ⟨-, z, -, hr, ⟨hg, -, rfl⟩ | ⟨-, -, rfl⟩⟩
  · simp
  · exact good_nodup hr hg
  · simp
theorem Newed.mem {l zs : List LB} {ec : Int} (h : Newed l ec zs) : ∀ x ∈ zs, x ∈ l := by
  rcases h with ⟨-, -, rfl⟩ | ⟨-, z, hp, hr, ⟨hg, -, rfl⟩ | ⟨-, -, rfl⟩⟩
  · simp
  · exact fun x hx => hp.mem_iff.1 hx
  · simp
theorem sorted_ids {l z : List LB} (hp : z.Perm l) (hr : Risen cmpL z) : z.map LB.id = sortI (l.map LB.id) :=
  sortI_risen (hp.map _) fun i j x y hij hx hy => by
    rw [List.getElem?_map] at hx hy
    obtain ⟨a, ha, rfl⟩ := Option.map_eq_some_iff.1 hx
    obtain ⟨b, hb, rfl⟩ := Option.map_eq_some_iff.1 hy
    exact hr i j a b hij ha hb
theorem good_perm {l l' z z' : List LB} (hv : (vals l).Perm (vals l')) (hp : z.Perm l) (hp' : z'.Perm l') (hr : Risen cmpL z) (hr' : Risen cmpL z') (hg : goodB z = true) : vals z = vals z' := by
  have hi : (vals z).map Prod.fst = z.map LB.id := by simp [vals, LB.val, Function.comp_def]
  have hi' : (vals z').map Prod.fst = z'.map LB.id := by simp [vals, LB.val, Function.comp_def]
  have hv1 : (l.map LB.id).Perm (l'.map LB.id) := by
    have := hv.map Prod.fst
    simpa [vals, LB.val, Function.comp_def] using this
  refine pairs_eq (((hp.map LB.val).trans hv).trans (hp'.map LB.val).symm) ?_ (by rw [hi]; exact good_nodup hr hg)
  rw [hi, hi', sorted_ids hp hr, sorted_ids hp' hr', sortI_of_perm hv1]
theorem Newed.same {l l' zs zs' : List LB} {ec ec' : Int} (h : Newed l ec zs) (h' : Newed l' ec' zs') (hv : (vals l).Perm (vals l')) : ec = ec' ∧ vals zs = vals zs' := by
  have hl : l.length = l'.length := by simpa [vals] using hv.length_eq
  rcases h with ⟨h5, rfl, rfl⟩ | ⟨h5, z, hp, hr, hz⟩ <;> rcases h' with ⟨h5', rfl, rfl⟩ | ⟨h5', z', hp', hr', hz'⟩
  · exact ⟨rfl, rfl⟩
  · omega
  · omega
  · rcases hz with ⟨hg, rfl, rfl⟩ | ⟨hg, rfl, rfl⟩ <;> rcases hz' with ⟨hg', rfl, rfl⟩ | ⟨hg', rfl, rfl⟩
    · exact ⟨rfl, good_perm hv hp hp' hr hr' hg⟩
    · have := good_perm hv hp hp' hr hr' hg
      rw [goodB_vals this, hg'] at hg; cases hg
    · have := good_perm hv.symm hp' hp hr' hr hg'
      rw [goodB_vals this, hg] at hg'; cases hg'
    · exact ⟨rfl, rfl⟩
theorem new_any (w : World) (v : Value) (l : List LB) (ok : Nat → Prop) (hl : Sl lbE ok w v l) (hok : Okay ok w l) :
    Calls Tryz.prog 21 #[v] w fun e w' => ∃ ec zs t, Newed l ec zs ∧ e = .returned (.tuple #[tipV t, .int .i64 ec]) ∧ TipAt (fun k => w.heap.size ≤ k) w' t zs ∧ Below w.heap.size w w' := by
  rcases Nat.lt_or_ge 5 l.length with h5 | h5
  · exact (new_big w v l ok hl h5).mono fun e w' ⟨he, hb⟩ => ⟨4, [], .slice none 0 0, .inl ⟨h5, rfl, rfl⟩, he, ⟨Sl.nil _ _ _, by simp⟩, hb⟩
  · refine (new_few w v l ok hl hok h5).mono fun e w' ⟨z, t, hp, hr, hb, hz⟩ => ?_
    rcases hz with ⟨hg, he, hs⟩ | ⟨hg, he⟩
    · exact ⟨0, z, t, .inr ⟨h5, z, hp, hr, .inl ⟨hg, rfl, rfl⟩⟩, he, ⟨hs, by have := hp.length_eq; omega⟩, hb⟩
    · exact ⟨15, [], .slice none 0 0, .inr ⟨h5, z, hp, hr, .inr ⟨hg, rfl, rfl⟩⟩, he, ⟨Sl.nil _ _ _, by simp⟩, hb⟩
section
variable {zs zs' : List LB}
theorem winsN_vals (h : vals zs = vals zs') : winsN zs zs.length = winsN zs' zs'.length := by
  have e (z : List LB) : winsN z z.length = ((vals z).map fun v => v.2.wins).sum := by unfold winsN vals; rw [List.take_length, List.map_map]; rfl
  rw [e, e, h]
theorem ticketN_vals (h : vals zs = vals zs') : ticketN zs zs.length = ticketN zs' zs'.length := by
  have e (z : List LB) (s : ByteArray) : z.foldl (fun s b => minT s b.x.h.ticket) s = (vals z).foldl (fun s v => minT s v.2.ticket) s := by unfold vals; rw [List.foldl_map]; rfl
  unfold ticketN
  rw [List.take_length, List.take_length, e, e, h]
  congr 1
  cases zs with
  | nil => cases zs' with | nil => rfl | cons b l => cases h
  | cons a l => cases zs' with
    | nil => cases h
    | cons b m =>
      have : a.val = b.val := by injection h
      show a.x.h.ticket = b.x.h.ticket
      exact congrArg (fun v => v.2.ticket) this
theorem keyB_vals (h : vals zs = vals zs') : keyB (zs.map LB.id) = keyB (zs'.map LB.id) := by rw [vals_ids h]
end
end Go.Proofs.YthpcedficlhanaaGreatDoor
namespace Go.Proofs.YthpcedficlhanaaGreatDoor

def blkG (h : Hdr) : ID × Hdr := (hdrID h, h)
def toLB (v : ID × Hdr) : LB := ⟨v.1, ⟨v.2, none, 0⟩⟩
/-- Are they a tipset, as they stand? -/
def tipB (vs : List (ID × Hdr)) : Bool := goodB (vs.map toLB)
theorem vals_toLB (vs : List (ID × Hdr)) : vals (vs.map toLB) = vs := by
  simp [vals, toLB, LB.val, Function.comp_def]
theorem tipB_vals (l : List LB) : tipB (vals l) = goodB l := goodB_vals (vals_toLB _)
theorem tipB_one (v : ID × Hdr) : tipB [v] = true := by
  simp [tipB, goodB, goodN, minerC, toLB]

def hasG (G : List Hdr) (i : ID) : Bool := G.any fun h => decide (hdrID h = i)
def getG (G : List Hdr) (i : ID) : Option Hdr := G.find? fun h => decide (hdrID h = i)
theorem getG_some {G : List Hdr} {i : ID} {h : Hdr} (e : getG G i = some h) : h ∈ G ∧ hdrID h = i := by
  have h1 := List.mem_of_find?_eq_some e
  have h2 := List.find?_some e
  exact ⟨h1, by simpa using h2⟩
theorem hasG_iff {G : List Hdr} {i : ID} : hasG G i = true ↔ ∃ h ∈ G, hdrID h = i := by simp [hasG]
theorem getG_none {G : List Hdr} {i : ID} : getG G i = none ↔ hasG G i = false := by
  simp [getG, hasG, List.find?_eq_none]
theorem hasG_get {G : List Hdr} {i : ID} (h : hasG G i = true) : ∃ x, getG G i = some x := by
  cases e : getG G i with
  | none => rw [getG_none.1 e] at h; cases h
  | some x => exact ⟨x, rfl⟩
/-- The tipset of names. -/
def tipG (G : List Hdr) (l : List ID) : Int × List (ID × Hdr) :=
  if l.all (hasG G) then (if tipB (l.filterMap fun i => (getG G i).map blkG) then (0, l.filterMap fun i => (getG G i).map blkG) else (15, [])) else (7, [])
def heightV (vs : List (ID × Hdr)) : Int := match vs with | v :: _ => v.2.height | [] => 0
/-- May a header come in? -/
def checkG (G : List Hdr) (h : Hdr) : Int :=
  if checkH h ≠ 0 then checkH h
  else if hasG G (hdrID h) then 9
  else if (tipG G h.parents).1 = 15 then 10
  else if (tipG G h.parents).1 ≠ 0 then (tipG G h.parents).1
  else if heightV (tipG G h.parents).2 ≥ h.height then 11
  else 0
def addG (G : List Hdr) (h : Hdr) : List Hdr := if checkG G h = 0 then G ++ [h] else G
/-- Whatever came in was let in. -/
inductive GoodG : List Hdr → Prop
  | start : GoodG [genH]
  | add {G : List Hdr} {h : Hdr} : GoodG G → checkG G h = 0 → GoodG (G ++ [h])
theorem GoodG.addG {G : List Hdr} (g : GoodG G) (h : Hdr) : GoodG (addG G h) := by
  unfold Proofs.YthpcedficlhanaaGreatDoor.addG
  split
  · exact .add g ‹_›
  · exact g
theorem checkG_parts {G : List Hdr} {h : Hdr} (e : checkG G h = 0) : checkH h = 0 ∧ hasG G (hdrID h) = false ∧ (tipG G h.parents).1 = 0 ∧ heightV (tipG G h.parents).2 < h.height := by
  unfold checkG at e
  by_cases h1 : checkH h = 0
  · rw [if_neg (by simp [h1])] at e
    cases h2 : hasG G (hdrID h) with
    | true => rw [h2, if_pos rfl] at e; cases e
    | false =>
      rw [h2, if_neg (by simp)] at e
      by_cases h3 : (tipG G h.parents).1 = 15
      · rw [if_pos h3] at e; cases e
      · rw [if_neg h3] at e
        by_cases h4 : (tipG G h.parents).1 = 0
        · rw [if_neg (by simp [h4])] at e
          by_cases h5 : heightV (tipG G h.parents).2 ≥ h.height
          · rw [if_pos h5] at e; cases e
          · exact ⟨h1, rfl, h4, by omega⟩
        · rw [if_pos h4] at e; exact absurd e h4
  · rw [if_pos h1] at e; exact absurd e h1
theorem GoodG.nodup {G : List Hdr} (g : GoodG G) : (G.map hdrID).Nodup := by
  induction g with
  | start => simp
  | add _ hc ih =>
    rw [List.map_append, List.nodup_append]
    refine ⟨ih, by simp, fun a ha b hb => ?_⟩
    simp only [List.map_cons, List.map_nil, List.mem_singleton] at hb
    subst hb
    rintro rfl
    have h2 := (checkG_parts hc).2.1
    obtain ⟨x, hx, he⟩ := List.mem_map.1 ha
    have := hasG_iff.2 ⟨x, hx, he⟩
    rw [h2] at this
    cases this
theorem getG_mem {G : List Hdr} (g : (G.map hdrID).Nodup) {h : Hdr} (hm : h ∈ G) : getG G (hdrID h) = some h := by
  obtain ⟨x, hx⟩ := hasG_get (hasG_iff.2 ⟨h, hm, rfl⟩)
  obtain ⟨h1, h2⟩ := getG_some hx
  have : x = h := by
    have hp : List.Pairwise (fun a b => hdrID a ≠ hdrID b) G := by simpa [List.Nodup, List.pairwise_map] using g
    obtain ⟨i, hi, e1⟩ := List.getElem_of_mem h1
    obtain ⟨j, hj, e2⟩ := List.getElem_of_mem hm
    rw [List.pairwise_iff_getElem] at hp
    rcases Nat.lt_trichotomy i j with hl | hl | hl
    · exact absurd (by rw [e1, e2, h2]) (hp i j hi hj hl)
    · subst hl; rw [← e1, ← e2]
    · exact absurd (by rw [e1, e2, h2]) (hp j i hj hi hl)
  rw [hx, this]
end Go.Proofs.YthpcedficlhanaaGreatDoor
