/- dag.Dag: Len, Has, Block; dag.copied. Regions that draw their order: two operations of which either may come first. No program in sight. -/
import Derived.Test.YthpcedficlhanaaGreatDoorFlAK
namespace Go.Proofs.YthpcedficlhanaaGreatDoor
open Go.RowKit Go.Maps

section
variable {P : Program}
theorem exec_store_new {o : Oper} {a : Act} {W : World} (ty : TypeId) (x y : Operand) (ho : o.op = .store ty x y) (hx : a.eval x = .pointer (some ⟨W.heap.size, 0, none⟩)) (cs : List Value) (hy : a.eval y = .agg cs.toArray) (old : Array Value) (T : TypeId) (hl : cs.length = old.size) (h1 : ∀ u ∈ cs, u.oneCell' = true) (hi : (P.info? ty).map (·.size) = some cs.length) :
    (execOp a.eval o).run P (W.alloc (.cells old T)) = .ok .skip (W.alloc (.cells cs.toArray T)) :=
  (exec_store ty x y ho W.heap.size 0 hx _ hy (run_storeVar_block (W.alloc (.cells old T)) W.heap.size ty T cs old (heap_alloc_new W _) hl h1 hi)).trans (by rw [World.setRow_alloc_new])
end
theorem LB.v_eq (x : LB) : x.v = .agg x.cells.toArray := rfl

set_option maxRecDepth 100000 in
set_option maxHeartbeats 1000000 in
theorem dlen_any (w : World) (p b1 b2 : Nat) (D : List LB) (ok : Nat → Prop) (h : DagAt ok w p b1 b2 D) :
    Calls Tryz.prog 45 #[.pointer (some ⟨p, 0, none⟩)] w fun e w' => e = .returned (.int .i64 D.length) ∧ w = w' := by
  have hc := h.c0
  have hl := fun ty => h.blocks.len Tryz.underlying150 ty
  clear h
  go_enter Tryz.func45, Tryz.ntmps45
  go_wp2
  go_ret
  exact ⟨rfl, rfl⟩

/-- What the look for a name reads. -/
structure HasS (w W : World) (p b1 g : Nat) (D : List LB) (i : ID) : Prop where
  cell : W.cell? ⟨p, 0, none⟩ = some (.map (some b1))
  map : MapV Tryz.prog 34 W b1 D.length (blkF D)
  name : ∀ j u, (idc i)[j]? = some u → W.cell? ⟨g, 0 + j, none⟩ = some u
  below : Below w.heap.size w W
  lt : p < W.heap.size ∧ g < W.heap.size
theorem HasS.alloc {w W : World} {p b1 g : Nat} {D : List LB} {i : ID} (h : HasS w W p b1 g D i) (o : Obj) : HasS w (W.alloc o) p b1 g D i :=
  have hb : Below W.heap.size W (W.alloc o) := (Below.refl _ _).alloc (Nat.le_refl _) o
  ⟨(hb.cell (p := ⟨p, 0, none⟩) h.lt.1).trans h.cell, h.map.alloc o, fun j u hu => (hb.cell (p := ⟨g, 0 + j, none⟩) h.lt.2).trans (h.name j u hu), h.below.alloc h.below.size o, Nat.lt_of_lt_of_le h.lt.1 hb.size, Nat.lt_of_lt_of_le h.lt.2 hb.size⟩
theorem HasS.start {w : World} {p b1 b2 : Nat} {D : List LB} {ok : Nat → Prop} (h : DagAt ok w p b1 b2 D) (i : ID) : HasS w (w.alloc (.cells (idc i).toArray 34)) p b1 w.heap.size D i :=
  have hb : Below w.heap.size w (w.alloc (.cells (idc i).toArray 34)) := (Below.refl _ _).alloc (Nat.le_refl _) _
  ⟨(hb.cell (p := ⟨p, 0, none⟩) h.lt.1).trans h.c0, h.blocks.alloc _, fun j u hu => by rw [Nat.zero_add]; exact cell_block (heap_alloc_new w _) (by simpa using hu), hb, Nat.lt_of_lt_of_le h.lt.1 hb.size, by simp⟩

set_option maxRecDepth 100000 in
set_option maxHeartbeats 1000000 in
theorem dhas_any (w : World) (p b1 b2 : Nat) (D : List LB) (ok : Nat → Prop) (h : DagAt ok w p b1 b2 D) (i : ID) :
    Calls Tryz.prog 42 #[.pointer (some ⟨p, 0, none⟩), .agg (idc i).toArray] w fun e w' => e = .returned (.bool (hasB D i)) ∧ Below w.heap.size w w' := by
  have hS : HasS w (w.alloc (.cells (idc i).toArray 34)).drew p b1 w.heap.size D i := by
    have h1 := HasS.start h i
    exact ⟨h1.cell, h1.map, h1.name, h1.below.drew, h1.lt⟩
  have HS := Lib.hid hS
  obtain ⟨y, hy⟩ : ∃ y, getB D i = y := ⟨_, rfl⟩
  obtain ⟨hb, hhb⟩ : ∃ hb, hasB D i = hb := ⟨_, rfl⟩
  have HY := Lib.hid hy
  have HHB := Lib.hid hhb
  rw [hhb]
  clear h hS hy hhb
  go_enter Tryz.func42, Tryz.ntmps42
  go_wp2
  refine st_ (S := (fun W' => HasS w W' p b1 w.heap.size D i)) 12 #[false, false, false, false, false, false, false, false, false, false, false, false] (by kernel_rfl) rfl (by rfl) HS.out (fun hHeld => ?_)
  refine tk_ 0 (some 8) #[true, false, false, false, false, false, false, false, false, false, false, false] (v := ?_) (a' := ?_) rfl rfl (by kernel_rfl) (fun _ _ _ h => h) (yieldsIf_run rfl ?_) hHeld ?_ ?_
  rotate_left
  · intro w'
    go_simp
    with_reducible rfl
  rotate_left
  · simp only [Act.put, List.setIfInBounds_toArray, List.set_cons_zero, List.set_cons_succ]
    rfl
  refine tk_ 1 (some 9) #[true, true, false, false, false, false, false, false, false, false, false, false] (v := ?_) (a' := ?_) rfl rfl (by kernel_rfl) (fun _ _ _ h => h) (yieldsIf_run rfl ?_) hHeld ?_ ?_
  rotate_left
  · intro w'
    go_simp
    with_reducible rfl
  rotate_left
  · simp only [Act.put, List.setIfInBounds_toArray, List.set_cons_zero, List.set_cons_succ]
    rfl
  refine tk_ 2 (some 10) #[true, true, true, false, false, false, false, false, false, false, false, false] (v := ?_) (a' := ?_) rfl rfl (by kernel_rfl) (fun _ _ _ h => h) (yieldsIf_run rfl ?_) hHeld ?_ ?_
  rotate_left
  · intro w'
    go_simp
    with_reducible rfl
  rotate_left
  · simp only [Act.put, List.setIfInBounds_toArray, List.set_cons_zero, List.set_cons_succ]
    rfl
  refine tk_ 3 (some 11) #[true, true, true, true, false, false, false, false, false, false, false, false] rfl rfl (by kernel_rfl) (fun _ _ _ h => h) (yieldsIf_cell rfl 150 (.tmp 10) rfl ⟨p, 0, none⟩ rfl (.map (some b1)) _ (fun W' h => h.cell) Tryz.underlying150 rfl) hHeld (a' := ?_) ?_ ?_
  rotate_left
  · simp only [Act.put, List.setIfInBounds_toArray, List.set_cons_zero, List.set_cons_succ]
    rfl
  refine tk_ 4 (some 12) #[true, true, true, true, true, false, false, false, false, false, false, false] rfl rfl (by kernel_rfl) (fun _ _ _ h => h) (yieldsIf_load rfl 34 (.tmp 3) rfl w.heap.size 0 rfl (idc i) _ (fun W' h => h.name) Tryz.underlying34 rfl (by rw [idc_length]; exact id_size)) hHeld (a' := ?_) ?_ ?_
  rotate_left
  · simp only [Act.put, List.setIfInBounds_toArray, List.set_cons_zero, List.set_cons_succ]
    rfl
  refine tk_ 5 (some 13) #[true, true, true, true, true, true, false, false, false, false, false, false] rfl rfl (by kernel_rfl) (fun _ _ _ h => h) (yieldsIf_of (v := .tuple #[.agg y.cells.toArray, .bool hb]) rfl fun W' h => (exec_lookokV (key := .agg (idc i).toArray) h.map lawID Tryz.underlying150 (zeroBlk W') (.tmp 11) (.tmp 12) rfl rfl rfl (keyOf_id i)).trans (by rw [blkF_get, blkF_has, HY.out, HHB.out]; rfl)) hHeld (a' := ?_) ?_ ?_
  rotate_left
  · simp only [Act.put, List.setIfInBounds_toArray, List.set_cons_zero, List.set_cons_succ]
    rfl
  refine tk_ 6 (some 7) #[true, true, true, true, true, true, true, false, false, false, false, false] (v := ?_) (a' := ?_) rfl rfl (by kernel_rfl) (fun _ _ _ h => h) (yieldsIf_run rfl ?_) hHeld ?_ ?_
  rotate_left
  · intro w'
    go_simp
    with_reducible rfl
  rotate_left
  · simp only [Act.put, List.setIfInBounds_toArray, List.set_cons_zero, List.set_cons_succ]
    rfl
  refine tk_ 7 (some 14) #[true, true, true, true, true, true, true, true, false, false, false, false] (v := ?_) (a' := ?_) rfl rfl (by kernel_rfl) (fun _ _ _ h => h) (yieldsIf_run rfl ?_) hHeld ?_ ?_
  rotate_left
  · intro w'
    go_simp
    with_reducible rfl
  rotate_left
  · simp only [Act.put, List.setIfInBounds_toArray, List.set_cons_zero, List.set_cons_succ]
    rfl
  refine tk_ 8 (some 15) #[true, true, true, true, true, true, true, true, true, false, false, false] (v := ?_) (a' := ?_) rfl rfl (by kernel_rfl) (fun _ _ _ h => h) (yieldsIf_run rfl ?_) hHeld ?_ ?_
  rotate_left
  · intro w'
    go_simp
    with_reducible rfl
  rotate_left
  · simp only [Act.put, List.setIfInBounds_toArray, List.set_cons_zero, List.set_cons_succ]
    rfl
  have hHeld := HS.out.alloc (.cells lbZ.cells.toArray 40)
  refine val_ 9 (some 5) #[true, true, true, true, true, true, true, true, true, true, false, false] rfl rfl (by kernel_rfl) rfl ((.pointer (some ⟨(w.alloc (.cells (idc i).toArray 34)).heap.size, 0, none⟩))) (((w.alloc (.cells (idc i).toArray 34)).drew.alloc (.cells lbZ.cells.toArray 40))) (by kernel_rfl) hHeld (a' := ?_) ?_ ?_
  rotate_left
  · simp only [Act.put, List.setIfInBounds_toArray, List.set_cons_zero, List.set_cons_succ]
    rfl
  have hHeld := HS.out.alloc (.cells y.cells.toArray 40)
  refine sk_ 10 #[true, true, true, true, true, true, true, true, true, true, true, false] rfl rfl (by kernel_rfl) rfl (((w.alloc (.cells (idc i).toArray 34)).drew.alloc (.cells y.cells.toArray 40))) (exec_store_new 40 (.tmp 5) (.tmp 14) rfl rfl y.cells rfl lbZ.cells.toArray 40 (by rw [LB.cells_length]; rfl) y.cells_one (by rw [LB.cells_length]; exact block_size)) hHeld ?_
  refine tk_ 11 (some 6) #[true, true, true, true, true, true, true, true, true, true, true, true] (v := ?_) (a' := ?_) rfl rfl (by kernel_rfl) (fun _ _ _ h => h) (yieldsIf_run rfl ?_) hHeld ?_ ?_
  rotate_left
  · intro w'
    go_simp
    with_reducible rfl
  rotate_left
  · simp only [Act.put, List.setIfInBounds_toArray, List.set_cons_zero, List.set_cons_succ]
    rfl
  refine wpAnyH_done (by kernel_rfl) ?_ _
  change Exit.then _ _ _ _ _
  go_wp2
  go_ret
  exact ⟨rfl, hHeld.below⟩

set_option maxRecDepth 100000 in
set_option maxHeartbeats 2000000 in
theorem copied_any (w : World) (x : LB) (ok : Nat → Prop) (hx : x.x.At ok w) (hp : x.x.h.parents.length ≤ 4294967296) :
    Calls Tryz.prog 112 #[.agg x.cells.toArray] w fun e w' => ∃ y : LH, y.h = x.x.h ∧ e = .returned (.agg (LB.cells ⟨x.id, y⟩).toArray) ∧ y.At (fun k => w.heap.size ≤ k) w' ∧ Below w.heap.size w w' := by
  have hB0 : Below w.heap.size w ((w.alloc (.cells x.cells.toArray 40)).alloc (.cells lbZ.cells.toArray 40)) := ((Below.refl _ w).alloc (Nat.le_refl _) _).alloc (by simp) _
  have hg0 : ((w.alloc (.cells x.cells.toArray 40)).alloc (.cells lbZ.cells.toArray 40)).heap[w.heap.size]? = some (.cells x.cells.toArray 40 (0, 0)) := by rw [heap_alloc_if, if_neg (by simp), heap_alloc_if, if_pos rfl]
  have hg1 : ((w.alloc (.cells x.cells.toArray 40)).alloc (.cells lbZ.cells.toArray 40)).heap[w.heap.size + 1]? = some (.cells lbZ.cells.toArray 40 (0, 0)) := by rw [heap_alloc_if, if_pos (by simp)]
  have hz : ((w.alloc (.cells x.cells.toArray 40)).alloc (.cells lbZ.cells.toArray 40)).heap.size = w.heap.size + 2 := by simp
  have hcp : ((w.alloc (.cells x.cells.toArray 40)).alloc (.cells lbZ.cells.toArray 40)).cell? ⟨w.heap.size, 37, none⟩ = some x.x.v := cell_block hg0 (by simpa using x.cells_parents)
  have HX : Hid (x.x.At ok ((w.alloc (.cells x.cells.toArray 40)).alloc (.cells lbZ.cells.toArray 40))) := Lib.hid (Sl.below hx hB0)
  have HP := Lib.hid hp
  have HB0 := Lib.hid hB0
  have HG0 := Lib.hid hg0
  have HG1 := Lib.hid hg1
  have HZ := Lib.hid hz
  clear hx hp hB0 hg0 hg1 hz
  go_enter Tryz.func112, Tryz.ntmps112
  go_upto_region 1 with fail
  change Code.wp _ _ _ _ ((w.alloc (.cells x.cells.toArray 40)).alloc (.cells lbZ.cells.toArray 40))
  generalize (w.alloc (.cells x.cells.toArray 40)).alloc (.cells lbZ.cells.toArray 40) = W at HX HB0 HG0 HG1 HZ hcp ⊢
  go_wp2_with (first
    | (go_at_call 98; refine (clone_id _ x.x.v x.x.h.parents ok HX.out HP.out).mono ?_; rintro e w2 ⟨v2, rfl, ho2, hb2⟩; obtain ⟨A2, c2, rfl, -⟩ := own_slice ho2; have HO2 := Lib.hid ho2; have HB2 : Hid (Below w.heap.size w w2) := Lib.hid (HB0.out.trans (hb2.mono HB0.out.size)); have HG2 : Hid (w2.heap[w.heap.size]? = some (.cells x.cells.toArray 40 (0, 0))) := Lib.hid ((hb2.block _ (Array.getElem?_eq_some_iff.1 HG0.out).1).trans HG0.out); have HG3 : Hid (w2.heap[w.heap.size + 1]? = some (.cells lbZ.cells.toArray 40 (0, 0))) := Lib.hid ((hb2.block _ (Array.getElem?_eq_some_iff.1 HG1.out).1).trans HG1.out); have hf5 : w2.frozen? ⟨w.heap.size, 37, none⟩ = false := Lib.frozen_of_heap HG2.out 37; have hc5 : w2.cell? ⟨w.heap.size, 37, none⟩ = some x.x.v := cell_block HG2.out (by simpa using x.cells_parents); have HX2 := Lib.hid (hold_set HG2.out ⟨x.x.h, A2, c2⟩ rfl); have HG4 : Hid ((w2.setCell ⟨w.heap.size, 37, none⟩ (.slice A2 x.x.h.parents.length c2)).heap[w.heap.size + 1]? = some (.cells lbZ.cells.toArray 40 (0, 0))) := Lib.hid ((Below.heap_setCell _ _ _ _ (by simp)).trans HG3.out); clear ho2 hb2)
    | (refine wpl_load rfl 40 (.tmp 1) rfl w.heap.size 0 rfl (LB.cells ⟨x.id, ⟨x.x.h, A2, c2⟩⟩) _ HX2.out Tryz.underlying40 rfl (by rw [LB.cells_length]; exact block_size) ?_)
    | (refine wpl_store_row rfl 40 (.tmp 2) (.tmp 9) rfl (w.heap.size + 1) rfl (LB.cells ⟨x.id, ⟨x.x.h, A2, c2⟩⟩) rfl _ 40 HG4.out (by rw [LB.cells_length, List.size_toArray, LB.cells_length]) (LB.cells_one _) (by rw [LB.cells_length]; exact block_size) ?_))
  (try simp only [Exit.inBlock, Exit.then])
  refine bodyPost_ret (results_cell_row rfl _ _ (w.heap.size + 1) 40 (LB.cells ⟨x.id, ⟨x.x.h, A2, c2⟩⟩).toArray (0, 0) _ rfl (setRow_heap _ (w.heap.size + 1) _ _ _ _ HG4.out) Tryz.underlying40 rfl (by rw [List.size_toArray, LB.cells_length]; exact block_size)) rfl ?_
  refine ⟨⟨x.x.h, A2, c2⟩, rfl, rfl, ?_, below_setRow (HB2.out.setCell (p := ⟨w.heap.size, 37, none⟩) (Nat.le_refl _) _) (Nat.le_succ _) _⟩
  have h1 : Sl idE (fun k => w.heap.size + 2 ≤ k) w2 (.slice A2 x.x.h.parents.length c2) x.x.h.parents := (Sl.of_own (E := idE) HO2.out).mono fun k hk => by have := (own_lt HO2.out k hk).1; rw [HZ.out] at this; exact this
  have hf : Fr (fun k => w.heap.size + 2 ≤ k) w2 ((w2.setCell ⟨w.heap.size, 37, none⟩ (.slice A2 x.x.h.parents.length c2)).setRow (w.heap.size + 1) (LB.cells ⟨x.id, ⟨x.x.h, A2, c2⟩⟩).toArray) :=
    ((Fr.refl _ w2).setCell (p := ⟨w.heap.size, 37, none⟩) (fun h => by have h : w.heap.size + 2 ≤ w.heap.size := h; omega) _).trans ⟨by simp, fun k hk _ => heap_setRow_ne _ _ _ _ (by omega)⟩
  exact Sl.mono (h1.fr hf) fun k hk => by omega


set_option maxRecDepth 100000 in
set_option maxHeartbeats 2000000 in
theorem dblock_any (w : World) (p b1 b2 : Nat) (D : List LB) (ok : Nat → Prop) (h : DagAt ok w p b1 b2 D) (i : ID) (hp : (getB D i).x.h.parents.length ≤ 4294967296) (hat : (getB D i).x.At ok w) :
    Calls Tryz.prog 41 #[.pointer (some ⟨p, 0, none⟩), .agg (idc i).toArray] w fun e w' => ∃ y : LH, y.h = (getB D i).x.h ∧ e = .returned (.tuple #[.agg (LB.cells ⟨(getB D i).id, y⟩).toArray, .bool (hasB D i)]) ∧ y.At (fun k => w.heap.size ≤ k) w' ∧ Below w.heap.size w w' := by
  have h1 := (HasS.start h i).alloc (.cells lbZ.cells.toArray 40)
  have hS : HasS w ((w.alloc (.cells (idc i).toArray 34)).alloc (.cells lbZ.cells.toArray 40)).drew p b1 w.heap.size D i := ⟨h1.cell, h1.map, h1.name, h1.below.drew, h1.lt⟩
  have HS := Lib.hid hS
  have hg1 : ((w.alloc (.cells (idc i).toArray 34)).alloc (.cells lbZ.cells.toArray 40)).drew.heap[w.heap.size + 1]? = some (.cells lbZ.cells.toArray 40 (0, 0)) := by show ((w.alloc _).alloc _).heap[w.heap.size + 1]? = _; rw [heap_alloc_if, if_pos (by simp)]
  have HG1 := Lib.hid hg1
  obtain ⟨y, hy⟩ : ∃ y, getB D i = y := ⟨_, rfl⟩
  obtain ⟨hb, hhb⟩ : ∃ hb, hasB D i = hb := ⟨_, rfl⟩
  rw [hy] at hp hat
  have HAT : Hid (y.x.At ok ((w.alloc (.cells (idc i).toArray 34)).alloc (.cells lbZ.cells.toArray 40)).drew) := Lib.hid (Sl.below hat hS.below)
  have HY := Lib.hid hy
  have HHB := Lib.hid hhb
  have HPL := Lib.hid hp
  rw [hhb, hy]
  clear h hS hy hhb h1 hg1 hp hat
  go_enter Tryz.func41, Tryz.ntmps41
  go_wp2
  change Code.wp _ _ _ _ ((w.alloc (.cells (idc i).toArray 34)).alloc (.cells lbZ.cells.toArray 40))
  generalize (w.alloc (.cells (idc i).toArray 34)).alloc (.cells lbZ.cells.toArray 40) = W at HS HG1 HAT ⊢
  refine st_ (S := (fun W' => HasS w W' p b1 w.heap.size D i)) 12 #[false, false, false, false, false, false, false, false, false, false, false, false] (by kernel_rfl) rfl (by rfl) HS.out (fun hHeld => ?_)
  refine tk_ 0 (some 9) #[true, false, false, false, false, false, false, false, false, false, false, false] (v := ?_) (a' := ?_) rfl rfl (by kernel_rfl) (fun _ _ _ h => h) (yieldsIf_run rfl ?_) hHeld ?_ ?_
  rotate_left
  · intro w'
    go_simp
    with_reducible rfl
  rotate_left
  · simp only [Act.put, List.setIfInBounds_toArray, List.set_cons_zero, List.set_cons_succ]
    rfl
  refine tk_ 1 (some 10) #[true, true, false, false, false, false, false, false, false, false, false, false] (v := ?_) (a' := ?_) rfl rfl (by kernel_rfl) (fun _ _ _ h => h) (yieldsIf_run rfl ?_) hHeld ?_ ?_
  rotate_left
  · intro w'
    go_simp
    with_reducible rfl
  rotate_left
  · simp only [Act.put, List.setIfInBounds_toArray, List.set_cons_zero, List.set_cons_succ]
    rfl
  refine tk_ 2 (some 11) #[true, true, true, false, false, false, false, false, false, false, false, false] (v := ?_) (a' := ?_) rfl rfl (by kernel_rfl) (fun _ _ _ h => h) (yieldsIf_run rfl ?_) hHeld ?_ ?_
  rotate_left
  · intro w'
    go_simp
    with_reducible rfl
  rotate_left
  · simp only [Act.put, List.setIfInBounds_toArray, List.set_cons_zero, List.set_cons_succ]
    rfl
  refine tk_ 3 (some 12) #[true, true, true, true, false, false, false, false, false, false, false, false] rfl rfl (by kernel_rfl) (fun _ _ _ h => h) (yieldsIf_cell rfl 150 (.tmp 11) rfl ⟨p, 0, none⟩ rfl (.map (some b1)) _ (fun W' h => h.cell) Tryz.underlying150 rfl) hHeld (a' := ?_) ?_ ?_
  rotate_left
  · simp only [Act.put, List.setIfInBounds_toArray, List.set_cons_zero, List.set_cons_succ]
    rfl
  refine tk_ 4 (some 13) #[true, true, true, true, true, false, false, false, false, false, false, false] rfl rfl (by kernel_rfl) (fun _ _ _ h => h) (yieldsIf_load rfl 34 (.tmp 3) rfl w.heap.size 0 rfl (idc i) _ (fun W' h => h.name) Tryz.underlying34 rfl (by rw [idc_length]; exact id_size)) hHeld (a' := ?_) ?_ ?_
  rotate_left
  · simp only [Act.put, List.setIfInBounds_toArray, List.set_cons_zero, List.set_cons_succ]
    rfl
  refine tk_ 5 (some 14) #[true, true, true, true, true, true, false, false, false, false, false, false] rfl rfl (by kernel_rfl) (fun _ _ _ h => h) (yieldsIf_of (v := .tuple #[.agg y.cells.toArray, .bool hb]) rfl fun W' h => (exec_lookokV (key := .agg (idc i).toArray) h.map lawID Tryz.underlying150 (zeroBlk W') (.tmp 12) (.tmp 13) rfl rfl rfl (keyOf_id i)).trans (by rw [blkF_get, blkF_has, HY.out, HHB.out]; rfl)) hHeld (a' := ?_) ?_ ?_
  rotate_left
  · simp only [Act.put, List.setIfInBounds_toArray, List.set_cons_zero, List.set_cons_succ]
    rfl
  refine tk_ 6 (some 8) #[true, true, true, true, true, true, true, false, false, false, false, false] (v := ?_) (a' := ?_) rfl rfl (by kernel_rfl) (fun _ _ _ h => h) (yieldsIf_run rfl ?_) hHeld ?_ ?_
  rotate_left
  · intro w'
    go_simp
    with_reducible rfl
  rotate_left
  · simp only [Act.put, List.setIfInBounds_toArray, List.set_cons_zero, List.set_cons_succ]
    rfl
  refine tk_ 7 (some 15) #[true, true, true, true, true, true, true, true, false, false, false, false] (v := ?_) (a' := ?_) rfl rfl (by kernel_rfl) (fun _ _ _ h => h) (yieldsIf_run rfl ?_) hHeld ?_ ?_
  rotate_left
  · intro w'
    go_simp
    with_reducible rfl
  rotate_left
  · simp only [Act.put, List.setIfInBounds_toArray, List.set_cons_zero, List.set_cons_succ]
    rfl
  refine tk_ 8 (some 16) #[true, true, true, true, true, true, true, true, true, false, false, false] (v := ?_) (a' := ?_) rfl rfl (by kernel_rfl) (fun _ _ _ h => h) (yieldsIf_run rfl ?_) hHeld ?_ ?_
  rotate_left
  · intro w'
    go_simp
    with_reducible rfl
  rotate_left
  · simp only [Act.put, List.setIfInBounds_toArray, List.set_cons_zero, List.set_cons_succ]
    rfl
  have hHeld := HS.out.alloc (.cells lbZ.cells.toArray 40)
  refine val_ 9 (some 6) #[true, true, true, true, true, true, true, true, true, true, false, false] rfl rfl (by kernel_rfl) rfl ((.pointer (some ⟨W.heap.size, 0, none⟩))) ((W.drew.alloc (.cells lbZ.cells.toArray 40))) (by kernel_rfl) hHeld (a' := ?_) ?_ ?_
  rotate_left
  · simp only [Act.put, List.setIfInBounds_toArray, List.set_cons_zero, List.set_cons_succ]
    rfl
  have hHeld := HS.out.alloc (.cells y.cells.toArray 40)
  refine sk_ 10 #[true, true, true, true, true, true, true, true, true, true, true, false] rfl rfl (by kernel_rfl) rfl ((W.drew.alloc (.cells y.cells.toArray 40))) (exec_store_new 40 (.tmp 6) (.tmp 15) rfl rfl y.cells rfl lbZ.cells.toArray 40 (by rw [LB.cells_length]; rfl) y.cells_one (by rw [LB.cells_length]; exact block_size)) hHeld ?_
  refine tk_ 11 (some 7) #[true, true, true, true, true, true, true, true, true, true, true, true] (v := ?_) (a' := ?_) rfl rfl (by kernel_rfl) (fun _ _ _ h => h) (yieldsIf_run rfl ?_) hHeld ?_ ?_
  rotate_left
  · intro w'
    go_simp
    with_reducible rfl
  rotate_left
  · simp only [Act.put, List.setIfInBounds_toArray, List.set_cons_zero, List.set_cons_succ]
    rfl
  refine wpAnyH_done (by kernel_rfl) ?_ _
  change Exit.then _ _ _ _ _
  have hzW : w.heap.size + 1 < W.heap.size := (Array.getElem?_eq_some_iff.1 HG1.out).1
  have HBW : Hid (Below w.heap.size w (W.drew.alloc (.cells y.cells.toArray 40))) := Lib.hid hHeld.below
  have HHD : Hid (HoldB (W.drew.alloc (.cells y.cells.toArray 40)) W.heap.size y) := Lib.hid fun j u hu => cell_block (fr := (0, 0)) (T := 40) (heap_alloc_new W.drew _) (by simpa using hu)
  have HAT2 : Hid (y.x.At ok (W.drew.alloc (.cells y.cells.toArray 40))) := Lib.hid (Sl.below HAT.out ((Below.refl _ W.drew).alloc (Nat.le_refl _) _))
  have HG2 : Hid ((W.drew.alloc (.cells y.cells.toArray 40)).heap[w.heap.size + 1]? = some (.cells lbZ.cells.toArray 40 (0, 0))) := Lib.hid ((heap_alloc_old W.drew _ hzW).trans HG1.out)
  go_wp2_with (first
    | (refine wpl_load rfl 40 (.tmp 6) rfl W.heap.size 0 rfl y.cells _ (fun j u hu => by rw [Nat.zero_add]; exact HHD.out j u hu) Tryz.underlying40 rfl (by rw [LB.cells_length]; exact block_size) ?_)
    | (go_at_call 112; refine (copied_any _ y ok HAT2.out HPL.out).mono ?_; rintro e w3 ⟨z, hz, rfl, hza, hb3⟩; have HZH := Lib.hid hz; have HZA := Lib.hid hza; have HB3 := Lib.hid hb3; have HG3 : Hid (w3.heap[w.heap.size + 1]? = some (.cells lbZ.cells.toArray 40 (0, 0))) := Lib.hid ((hb3.block _ (Array.getElem?_eq_some_iff.1 HG2.out).1).trans HG2.out); clear hz hza hb3)
    | (refine wpl_store_row rfl 40 (.tmp 4) (.tmp 18) rfl (w.heap.size + 1) rfl (LB.cells ⟨y.id, z⟩) rfl _ 40 HG3.out (by rw [LB.cells_length, List.size_toArray, LB.cells_length]) (LB.cells_one _) (by rw [LB.cells_length]; exact block_size) ?_))
  (try simp only [Exit.inBlock, Exit.then])
  refine bodyPost_ret (results_row_tmp rfl _ _ (w.heap.size + 1) 40 (LB.cells ⟨y.id, z⟩).toArray (0, 0) _ rfl (setRow_heap _ (w.heap.size + 1) _ _ _ _ HG3.out) Tryz.underlying40 rfl (by rw [List.size_toArray, LB.cells_length]; exact block_size) _ rfl) rfl ?_
  refine ⟨z, HZH.out, rfl, ?_, below_setRow (HBW.out.trans (HB3.out.mono HBW.out.size)) (Nat.le_succ _) _⟩
  have hf : Fr (fun k => w.heap.size + 2 ≤ k) w3 (w3.setRow (w.heap.size + 1) (LB.cells ⟨y.id, z⟩).toArray) := ⟨by simp, fun k hk _ => heap_setRow_ne _ _ _ _ (by omega)⟩
  have h2 : z.At (fun k => w.heap.size + 2 ≤ k) w3 := Sl.mono HZA.out fun k hk => by simp only [World.size_alloc] at hk; have : W.drew.heap.size = W.heap.size := rfl; omega
  exact Sl.mono (Sl.fr h2 hf) fun k hk => by omega
end Go.Proofs.YthpcedficlhanaaGreatDoor
namespace Go.Proofs.YthpcedficlhanaaGreatDoor
open Go.RowKit

section
variable {P : Program} {ops : Array Oper} {Q : Exit → Act → World → Prop} {md : Region.Mode} {S : World → Prop} {ds : List Nat}
theorem forkD_ (i j : Nat) {fuel : Nat} {l : Array Bool} {a : Act} {w : World} (hc : decide (Region.ready md ops l = [i, j]) = true)
    (h1 : wpOp P ops Q i (fun a' w' => (i ∉ ds → S w') ∧ wpD P md ops Q S ds fuel (l.setIfInBounds i true) a' w') a w)
    (h2 : wpOp P ops Q j (fun a' w' => (j ∉ ds → S w') ∧ wpD P md ops Q S ds fuel (l.setIfInBounds j true) a' w') a w) : wpD P md ops Q S ds (fuel + 1) l a w := by
  have hc := of_decide_eq_true hc
  refine ⟨fun h0 => (by rw [hc] at h0; cases h0), fun k hk => ?_⟩
  rw [hc] at hk
  rcases List.mem_cons.1 hk with rfl | hk
  · exact h1
  · obtain rfl : k = j := by simpa using hk
    exact h2
theorem normD_ {fuel : Nat} {l l' : Array Bool} {a a' : Act} {w : World} (hl : l = l') (ha : a = a') (h : wpD P md ops Q S ds fuel l' a' w) : wpD P md ops Q S ds fuel l a w := by
  subst hl; subst ha; exact h
theorem fcallD_ (i : Nat) (N : Option Tmp) (l' : Array Bool) {o : Oper} {fuel : Nat} {l : Array Bool} {a : Act} {w : World} (ho : ops[i]? = some o) (hN : o.dst = N) (hl : l.setIfInBounds i true = l') (hw : Region.wanted o (yielded ops a.tmps) = true)
    (f : FuncId) (args : Array Value) (h : (execOp a.eval o).run P w = .ok (.enter f args) w) {R : Ending → World → Prop} (hc : Calls P f args w R)
    (hK : ∀ e w', R e w' → ∃ v, e = .returned v ∧ (i ∉ ds → S w') ∧ ∃ a', a.put N v = a' ∧ wpD P md ops Q S ds fuel l' a' w') :
    wpOp P ops Q i (fun a' w' => (i ∉ ds → S w') ∧ wpD P md ops Q S ds fuel (l.setIfInBounds i true) a' w') a w := by
  subst hN
  subst hl
  refine wpOp_call ho hw f args h hc fun e w' hr => ?_
  obtain ⟨v, he, hs, a', ha, hk⟩ := hK e w' hr
  exact ⟨v, he, hs, ha ▸ hk⟩
theorem fvalD_ (i : Nat) (N : Option Tmp) (l' : Array Bool) {o : Oper} {fuel : Nat} {l : Array Bool} {a : Act} {w : World} (ho : ops[i]? = some o) (hN : o.dst = N) (hl : l.setIfInBounds i true = l') (hw : Region.wanted o (yielded ops a.tmps) = true)
    (v : Value) (w1 : World) (h : (execOp a.eval o).run P w = .ok (.value v) w1) (hS : i ∉ ds → S w1) {a' : Act} (ha : a.put N v = a') (hk : wpD P md ops Q S ds fuel l' a' w1) :
    wpOp P ops Q i (fun a' w' => (i ∉ ds → S w') ∧ wpD P md ops Q S ds fuel (l.setIfInBounds i true) a' w') a w := by
  subst hN
  subst hl
  subst ha
  exact wpOp_value ho hw v w1 h ⟨hS, hk⟩
end
end Go.Proofs.YthpcedficlhanaaGreatDoor
