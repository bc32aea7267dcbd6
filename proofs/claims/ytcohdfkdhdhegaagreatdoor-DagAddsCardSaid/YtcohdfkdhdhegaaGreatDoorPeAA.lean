/- header.ID, Genesis, Root. Key, Wins, Ticket, Blocks of a tipset. tipset.Genesis, Blocks. tipset.New, in one contract; what it answers for blocks in another order. A dag, as the list of the headers that came in. No program in sight. dag.Dag: Len, Has, Block; dag.copied. coxswainref05.Sort: texts, rising, each once. coxswainlaw13.awake. What a law over a dag keeps: the dag, the headers that were grown, names. The names that a map of names has, in some order: maps.Keys's iterator; slices.AppendSeq, slices.Collect, slices.SortedFunc over it; all names of the dag. -/
import Derived.Test.YtcohdfkdhdhegaaGreatDoorPbAA
import Derived.Test.YtcohdfkdhdhegaaGreatDoorPbAB
import Derived.Test.YtcohdfkdhdhegaaGreatDoorPbAC
import Derived.Test.YtcohdfkdhdhegaaGreatDoorPbAD
import Derived.Test.YtcohdfkdhdhegaaGreatDoorPbAE
import Derived.Test.YtcohdfkdhdhegaaGreatDoorPbAF
import Derived.Test.YtcohdfkdhdhegaaGreatDoorPbAG
import Derived.Test.YtcohdfkdhdhegaaGreatDoorPbAH
import Derived.Test.YtcohdfkdhdhegaaGreatDoorPbAI
import Derived.Test.YtcohdfkdhdhegaaGreatDoorPbAJ
import Derived.Test.YtcohdfkdhdhegaaGreatDoorPbAK
import Derived.Test.YtcohdfkdhdhegaaGreatDoorPbAL
import Derived.Test.YtcohdfkdhdhegaaGreatDoorPbAM
import Derived.Test.YtcohdfkdhdhegaaGreatDoorPbAN
import Derived.Test.YtcohdfkdhdhegaaGreatDoorPbAO
import Derived.Test.YtcohdfkdhdhegaaGreatDoorPbAP
import Derived.Test.YtcohdfkdhdhegaaGreatDoorPbAQ
import Derived.Test.YtcohdfkdhdhegaaGreatDoorPbAR
import Derived.Test.YtcohdfkdhdhegaaGreatDoorPbAS
import Derived.Test.YtcohdfkdhdhegaaGreatDoorPbAT
import Derived.Test.YtcohdfkdhdhegaaGreatDoorPbAU
import Derived.Test.YtcohdfkdhdhegaaGreatDoorPbAV
import Derived.Test.YtcohdfkdhdhegaaGreatDoorPbAW
import Derived.Test.YtcohdfkdhdhegaaGreatDoorPbAX
import Derived.Test.YtcohdfkdhdhegaaGreatDoorPbAY
import Derived.Test.YtcohdfkdhdhegaaGreatDoorPbAZ
import Derived.Test.YtcohdfkdhdhegaaGreatDoorPbBA
import Derived.Test.YtcohdfkdhdhegaaGreatDoorPbBB
import Derived.Test.YtcohdfkdhdhegaaGreatDoorPbBC
import Derived.Test.YtcohdfkdhdhegaaGreatDoorPbBD
import Derived.Test.YtcohdfkdhdhegaaGreatDoorPbBJ
import Derived.Great.FillDense
import Derived.Great.BuildSlice
import Derived.Shelf.SlIter.Stops
namespace Go.Proofs.YtcohdfkdhdhegaaGreatDoor
open Go.RowKit

set_option maxRecDepth 100000 in
set_option maxHeartbeats 2000000 in
theorem root_any (w : World) (ht : Tab w) :
    Calls Tryz.prog 35 #[] w fun e w' => e = .returned (.agg (idc rootID).toArray) ∧ Below w.heap.size w w' := by
  have HT := Lib.hid ht
  clear ht
  go_enter Tryz.func35, Tryz.ntmps35
  go_wp2_with (first
    | (go_at_call 84; refine (genesis_any _).mono ?_; rintro e w1 ⟨rfl, hb1⟩; have HB1 : Hid (Below w.heap.size w w1) := ((Below.refl _ w).alloc (Nat.le_refl _) _).trans (hb1.mono (by simp)); have HK1 : Hid (w1.heap[w.heap.size]? = some (.cells (idc default).toArray 66 (0, 0))) := (hb1.block _ (by simp)).trans (heap_alloc_new w _); clear hb1)
    | (go_at_call 37; refine (id_any _ genL (fun _ => True) (genL_at _ _) genH_ok (HT.out.below HB1.out)).mono ?_; rintro e w2 ⟨rfl, hb2⟩; have HB2 : Hid (Below w.heap.size w w2) := HB1.out.trans (hb2.mono HB1.out.size); have HK2 : Hid (w2.heap[w.heap.size]? = some (.cells (idc default).toArray 66 (0, 0))) := (hb2.block _ (Array.getElem?_eq_some_iff.1 HK1.out).1).trans HK1.out; clear hb2)
    | (refine wpl_store_row rfl 66 (.tmp 0) (.tmp 2) rfl w.heap.size rfl (idc rootID) rfl _ 66 HK2.out (by rw [idc_length, List.size_toArray, idc_length]) (idE.one rootID) (by rw [idc_length]; exact id_size) ?_))
  (try simp only [Exit.inBlock, Exit.then])
  refine bodyPost_ret (results_cell_row rfl _ _ w.heap.size 66 (idc rootID).toArray (0, 0) _ rfl (setRow_heap w2 w.heap.size _ _ _ _ HK2.out) Tryz.underlying66 rfl (by rw [List.size_toArray, idc_length]; exact id_size)) rfl ?_
  exact ⟨rfl, below_setRow HB2.out (Nat.le_refl _) _⟩
end Go.Proofs.YtcohdfkdhdhegaaGreatDoor
namespace Go.Proofs.YtcohdfkdhdhegaaGreatDoor
open Go.RowKit

section
variable {P : Program} {ops : Array Oper} {rest : List Oper} {o : Oper} {a : Act} {w : World} {Q : Exit → Act → World → Prop}
end

theorem LB.cells_parents (x : LB) : x.cells[37]? = some x.x.v := x.cells_hdr 5 _ rfl

end Go.Proofs.YtcohdfkdhdhegaaGreatDoor
namespace Go.Proofs.YtcohdfkdhdhegaaGreatDoor
open Go.RowKit

theorem LB.cells_set (x : LB) (y : LH) (hy : y.h = x.x.h) : x.cells.set 37 y.v = (LB.cells ⟨x.id, y⟩) := by
  unfold LB.cells
  rw [List.set_append_right _ _ (by rw [idc_length]; omega), idc_length]
  congr 1
  obtain ⟨h, A, c⟩ := y
  simp only at hy
  subst hy
  rfl
theorem hold_set {w2 : World} {g : Nat} {x : LB} (hg : w2.heap[g]? = some (.cells x.cells.toArray 71 (0, 0))) (y : LH) (hy : y.h = x.x.h) : ∀ j u, (LB.cells ⟨x.id, y⟩)[j]? = some u → (w2.setCell ⟨g, 37, none⟩ y.v).cell? ⟨g, 0 + j, none⟩ = some u := fun j u hu => by
  rw [Nat.zero_add]
  refine cell_block (heap_setCell_at w2 g 37 _ _ _ y.v hg) ?_
  rw [← x.cells_set y hy] at hu
  simpa using hu
end Go.Proofs.YtcohdfkdhdhegaaGreatDoor
namespace Go.Proofs.YtcohdfkdhdhegaaGreatDoor
open Go.RowKit

section
variable {zs zs' : List LB}
end
theorem Newed.nodup {l zs : List LB} {ec : Int} (h : Newed l ec zs) : (zs.map LB.id).Nodup := by
  rcases h with ⟨-, -, rfl⟩ | ⟨-, z, -, hr, ⟨hg, -, rfl⟩ | ⟨-, -, rfl⟩⟩
  · simp
  · exact good_nodup hr hg
  · simp
section
variable {zs zs' : List LB}
end
end Go.Proofs.YtcohdfkdhdhegaaGreatDoor
namespace Go.Proofs.YtcohdfkdhdhegaaGreatDoor

theorem GoodG.nodup {G : List Hdr} (g : GoodG G) : (G.map hdrID).Nodup := by
  induction g with
  | start => simp
  | add _ hc ih =>
    rw [List.map_append, List.nodup_append]
    refine ⟨ih, by simp, fun a ha b hb => ?_⟩
    simp only [List.map_cons, List.map_nil, List.mem_singleton] at hb
    subst hb
    rintro rfl
    have h2 := (checkG_parts hc).2.1
    obtain ⟨x, hx, he⟩ := List.mem_map.1 ha
    have := hasG_iff.2 ⟨x, hx, he⟩
    rw [h2] at this
    cases this
end Go.Proofs.YtcohdfkdhdhegaaGreatDoor
namespace Go.Proofs.YtcohdfkdhdhegaaGreatDoor
open Go.RowKit Go.Maps

section
variable {P : Program}
end
set_option maxRecDepth 100000 in
set_option maxHeartbeats 1000000 in
theorem dlen_any (w : World) (p b1 b2 : Nat) (D : List LB) (ok : Nat → Prop) (h : DagAt ok w p b1 b2 D) :
    Calls Tryz.prog 22 #[.pointer (some ⟨p, 0, none⟩)] w fun e w' => e = .returned (.int .i64 D.length) ∧ w = w' := by
  have hc := h.c0
  have hl := fun ty => h.blocks.len Tryz.underlying129 ty
  clear h
  go_enter Tryz.func22, Tryz.ntmps22
  go_wp2
  go_ret
  exact ⟨rfl, rfl⟩

set_option maxRecDepth 100000 in
set_option maxHeartbeats 2000000 in
theorem copied_any (w : World) (x : LB) (ok : Nat → Prop) (hx : x.x.At ok w) (hp : x.x.h.parents.length ≤ 4294967296) :
    Calls Tryz.prog 117 #[.agg x.cells.toArray] w fun e w' => ∃ y : LH, y.h = x.x.h ∧ e = .returned (.agg (LB.cells ⟨x.id, y⟩).toArray) ∧ y.At (fun k => w.heap.size ≤ k) w' ∧ Below w.heap.size w w' := by
  have hB0 : Below w.heap.size w ((w.alloc (.cells x.cells.toArray 71)).alloc (.cells lbZ.cells.toArray 71)) := ((Below.refl _ w).alloc (Nat.le_refl _) _).alloc (by simp) _
  have hg0 : ((w.alloc (.cells x.cells.toArray 71)).alloc (.cells lbZ.cells.toArray 71)).heap[w.heap.size]? = some (.cells x.cells.toArray 71 (0, 0)) := by rw [heap_alloc_if, if_neg (by simp), heap_alloc_if, if_pos rfl]
  have hg1 : ((w.alloc (.cells x.cells.toArray 71)).alloc (.cells lbZ.cells.toArray 71)).heap[w.heap.size + 1]? = some (.cells lbZ.cells.toArray 71 (0, 0)) := by rw [heap_alloc_if, if_pos (by simp)]
  have hz : ((w.alloc (.cells x.cells.toArray 71)).alloc (.cells lbZ.cells.toArray 71)).heap.size = w.heap.size + 2 := by simp
  have hcp : ((w.alloc (.cells x.cells.toArray 71)).alloc (.cells lbZ.cells.toArray 71)).cell? ⟨w.heap.size, 37, none⟩ = some x.x.v := cell_block hg0 (by simpa using x.cells_parents)
  have HX : Hid (x.x.At ok ((w.alloc (.cells x.cells.toArray 71)).alloc (.cells lbZ.cells.toArray 71))) := Lib.hid (Sl.below hx hB0)
  have HP := Lib.hid hp
  have HB0 := Lib.hid hB0
  have HG0 := Lib.hid hg0
  have HG1 := Lib.hid hg1
  have HZ := Lib.hid hz
  clear hx hp hB0 hg0 hg1 hz
  go_enter Tryz.func117, Tryz.ntmps117
  go_upto_region 1 with fail
  change Code.wp _ _ _ _ ((w.alloc (.cells x.cells.toArray 71)).alloc (.cells lbZ.cells.toArray 71))
  generalize (w.alloc (.cells x.cells.toArray 71)).alloc (.cells lbZ.cells.toArray 71) = W at HX HB0 HG0 HG1 HZ hcp ⊢
  go_wp2_with (first
    | (go_at_call 107; refine (clone_id _ x.x.v x.x.h.parents ok HX.out HP.out).mono ?_; rintro e w2 ⟨v2, rfl, ho2, hb2⟩; obtain ⟨A2, c2, rfl, -⟩ := own_slice ho2; have HO2 := Lib.hid ho2; have HB2 : Hid (Below w.heap.size w w2) := Lib.hid (HB0.out.trans (hb2.mono HB0.out.size)); have HG2 : Hid (w2.heap[w.heap.size]? = some (.cells x.cells.toArray 71 (0, 0))) := Lib.hid ((hb2.block _ (Array.getElem?_eq_some_iff.1 HG0.out).1).trans HG0.out); have HG3 : Hid (w2.heap[w.heap.size + 1]? = some (.cells lbZ.cells.toArray 71 (0, 0))) := Lib.hid ((hb2.block _ (Array.getElem?_eq_some_iff.1 HG1.out).1).trans HG1.out); have hf5 : w2.frozen? ⟨w.heap.size, 37, none⟩ = false := Lib.frozen_of_heap HG2.out 37; have hc5 : w2.cell? ⟨w.heap.size, 37, none⟩ = some x.x.v := cell_block HG2.out (by simpa using x.cells_parents); have HX2 := Lib.hid (hold_set HG2.out ⟨x.x.h, A2, c2⟩ rfl); have HG4 : Hid ((w2.setCell ⟨w.heap.size, 37, none⟩ (.slice A2 x.x.h.parents.length c2)).heap[w.heap.size + 1]? = some (.cells lbZ.cells.toArray 71 (0, 0))) := Lib.hid ((Below.heap_setCell _ _ _ _ (by simp)).trans HG3.out); clear ho2 hb2)
    | (refine wpl_load rfl 71 (.tmp 1) rfl w.heap.size 0 rfl (LB.cells ⟨x.id, ⟨x.x.h, A2, c2⟩⟩) _ HX2.out Tryz.underlying71 rfl (by rw [LB.cells_length]; exact block_size) ?_)
    | (refine wpl_store_row rfl 71 (.tmp 2) (.tmp 9) rfl (w.heap.size + 1) rfl (LB.cells ⟨x.id, ⟨x.x.h, A2, c2⟩⟩) rfl _ 71 HG4.out (by rw [LB.cells_length, List.size_toArray, LB.cells_length]) (LB.cells_one _) (by rw [LB.cells_length]; exact block_size) ?_))
  (try simp only [Exit.inBlock, Exit.then])
  refine bodyPost_ret (results_cell_row rfl _ _ (w.heap.size + 1) 71 (LB.cells ⟨x.id, ⟨x.x.h, A2, c2⟩⟩).toArray (0, 0) _ rfl (setRow_heap _ (w.heap.size + 1) _ _ _ _ HG4.out) Tryz.underlying71 rfl (by rw [List.size_toArray, LB.cells_length]; exact block_size)) rfl ?_
  refine ⟨⟨x.x.h, A2, c2⟩, rfl, rfl, ?_, below_setRow (HB2.out.setCell (p := ⟨w.heap.size, 37, none⟩) (Nat.le_refl _) _) (Nat.le_succ _) _⟩
  have h1 : Sl idE (fun k => w.heap.size + 2 ≤ k) w2 (.slice A2 x.x.h.parents.length c2) x.x.h.parents := (Sl.of_own (E := idE) HO2.out).mono fun k hk => by have := (own_lt HO2.out k hk).1; rw [HZ.out] at this; exact this
  have hf : Fr (fun k => w.heap.size + 2 ≤ k) w2 ((w2.setCell ⟨w.heap.size, 37, none⟩ (.slice A2 x.x.h.parents.length c2)).setRow (w.heap.size + 1) (LB.cells ⟨x.id, ⟨x.x.h, A2, c2⟩⟩).toArray) :=
    ((Fr.refl _ w2).setCell (p := ⟨w.heap.size, 37, none⟩) (fun h => by have h : w.heap.size + 2 ≤ w.heap.size := h; omega) _).trans ⟨by simp, fun k hk _ => heap_setRow_ne _ _ _ _ (by omega)⟩
  exact Sl.mono (h1.fr hf) fun k hk => by omega


set_option maxRecDepth 100000 in
set_option maxHeartbeats 2000000 in
theorem dblock_any (w : World) (p b1 b2 : Nat) (D : List LB) (ok : Nat → Prop) (h : DagAt ok w p b1 b2 D) (i : ID) (hp : (getB D i).x.h.parents.length ≤ 4294967296) (hat : (getB D i).x.At ok w) :
    Calls Tryz.prog 39 #[.pointer (some ⟨p, 0, none⟩), .agg (idc i).toArray] w fun e w' => ∃ y : LH, y.h = (getB D i).x.h ∧ e = .returned (.tuple #[.agg (LB.cells ⟨(getB D i).id, y⟩).toArray, .bool (hasB D i)]) ∧ y.At (fun k => w.heap.size ≤ k) w' ∧ Below w.heap.size w w' := by
  have h1 := (HasS.start h i).alloc (.cells lbZ.cells.toArray 71)
  have hS : HasS w ((w.alloc (.cells (idc i).toArray 66)).alloc (.cells lbZ.cells.toArray 71)).drew p b1 w.heap.size D i := ⟨h1.cell, h1.map, h1.name, h1.below.drew, h1.lt⟩
  have HS := Lib.hid hS
  have hg1 : ((w.alloc (.cells (idc i).toArray 66)).alloc (.cells lbZ.cells.toArray 71)).drew.heap[w.heap.size + 1]? = some (.cells lbZ.cells.toArray 71 (0, 0)) := by show ((w.alloc _).alloc _).heap[w.heap.size + 1]? = _; rw [heap_alloc_if, if_pos (by simp)]
  have HG1 := Lib.hid hg1
  obtain ⟨y, hy⟩ : ∃ y, getB D i = y := ⟨_, rfl⟩
  obtain ⟨hb, hhb⟩ : ∃ hb, hasB D i = hb := ⟨_, rfl⟩
  rw [hy] at hp hat
  have HAT : Hid (y.x.At ok ((w.alloc (.cells (idc i).toArray 66)).alloc (.cells lbZ.cells.toArray 71)).drew) := Lib.hid (Sl.below hat hS.below)
  have HY := Lib.hid hy
  have HHB := Lib.hid hhb
  have HPL := Lib.hid hp
  rw [hhb, hy]
  clear h hS hy hhb h1 hg1 hp hat
  go_enter Tryz.func39, Tryz.ntmps39
  go_wp2
  change Code.wp _ _ _ _ ((w.alloc (.cells (idc i).toArray 66)).alloc (.cells lbZ.cells.toArray 71))
  generalize (w.alloc (.cells (idc i).toArray 66)).alloc (.cells lbZ.cells.toArray 71) = W at HS HG1 HAT ⊢
  refine st_ (S := (fun W' => HasS w W' p b1 w.heap.size D i)) 12 (bt 0 12) (by kernel_rfl) rfl (by rfl) HS.out (fun hHeld => ?_)
  refine tk_ 0 (some 9) (bt 1 11) (v := ?_) (a' := ?_) rfl rfl (by kernel_rfl) (fun _ _ _ h => h) (yieldsIf_run rfl ?_) hHeld ?_ ?_
  rotate_left
  · intro w'
    go_simp
    with_reducible rfl
  rotate_left
  · simp only [Act.put, List.setIfInBounds_toArray, List.set_cons_zero, List.set_cons_succ]
    rfl
  refine tk_ 1 (some 10) (bt 2 10) (v := ?_) (a' := ?_) rfl rfl (by kernel_rfl) (fun _ _ _ h => h) (yieldsIf_run rfl ?_) hHeld ?_ ?_
  rotate_left
  · intro w'
    go_simp
    with_reducible rfl
  rotate_left
  · simp only [Act.put, List.setIfInBounds_toArray, List.set_cons_zero, List.set_cons_succ]
    rfl
  refine tk_ 2 (some 11) (bt 3 9) (v := ?_) (a' := ?_) rfl rfl (by kernel_rfl) (fun _ _ _ h => h) (yieldsIf_run rfl ?_) hHeld ?_ ?_
  rotate_left
  · intro w'
    go_simp
    with_reducible rfl
  rotate_left
  · simp only [Act.put, List.setIfInBounds_toArray, List.set_cons_zero, List.set_cons_succ]
    rfl
  refine tk_ 3 (some 12) (bt 4 8) rfl rfl (by kernel_rfl) (fun _ _ _ h => h) (yieldsIf_cell rfl 129 (.tmp 11) rfl ⟨p, 0, none⟩ rfl (.map (some b1)) _ (fun W' h => h.cell) Tryz.underlying129 rfl) hHeld (a' := ?_) ?_ ?_
  rotate_left
  · simp only [Act.put, List.setIfInBounds_toArray, List.set_cons_zero, List.set_cons_succ]
    rfl
  refine tk_ 4 (some 13) (bt 5 7) rfl rfl (by kernel_rfl) (fun _ _ _ h => h) (yieldsIf_load rfl 66 (.tmp 3) rfl w.heap.size 0 rfl (idc i) _ (fun W' h => h.name) Tryz.underlying66 rfl (by rw [idc_length]; exact id_size)) hHeld (a' := ?_) ?_ ?_
  rotate_left
  · simp only [Act.put, List.setIfInBounds_toArray, List.set_cons_zero, List.set_cons_succ]
    rfl
  refine tk_ 5 (some 14) (bt 6 6) rfl rfl (by kernel_rfl) (fun _ _ _ h => h) (yieldsIf_of (v := .tuple #[.agg y.cells.toArray, .bool hb]) rfl fun W' h => (exec_lookokV (key := .agg (idc i).toArray) h.map lawID Tryz.underlying129 (zeroBlk W') (.tmp 12) (.tmp 13) rfl rfl rfl (keyOf_id i)).trans (by rw [blkF_get, blkF_has, HY.out, HHB.out]; rfl)) hHeld (a' := ?_) ?_ ?_
  rotate_left
  · simp only [Act.put, List.setIfInBounds_toArray, List.set_cons_zero, List.set_cons_succ]
    rfl
  refine tk_ 6 (some 8) (bt 7 5) (v := ?_) (a' := ?_) rfl rfl (by kernel_rfl) (fun _ _ _ h => h) (yieldsIf_run rfl ?_) hHeld ?_ ?_
  rotate_left
  · intro w'
    go_simp
    with_reducible rfl
  rotate_left
  · simp only [Act.put, List.setIfInBounds_toArray, List.set_cons_zero, List.set_cons_succ]
    rfl
  refine tk_ 7 (some 15) (bt 8 4) (v := ?_) (a' := ?_) rfl rfl (by kernel_rfl) (fun _ _ _ h => h) (yieldsIf_run rfl ?_) hHeld ?_ ?_
  rotate_left
  · intro w'
    go_simp
    with_reducible rfl
  rotate_left
  · simp only [Act.put, List.setIfInBounds_toArray, List.set_cons_zero, List.set_cons_succ]
    rfl
  refine tk_ 8 (some 16) (bt 9 3) (v := ?_) (a' := ?_) rfl rfl (by kernel_rfl) (fun _ _ _ h => h) (yieldsIf_run rfl ?_) hHeld ?_ ?_
  rotate_left
  · intro w'
    go_simp
    with_reducible rfl
  rotate_left
  · simp only [Act.put, List.setIfInBounds_toArray, List.set_cons_zero, List.set_cons_succ]
    rfl
  have hHeld := HS.out.alloc (.cells lbZ.cells.toArray 71)
  refine val_ 9 (some 6) (bt 10 2) rfl rfl (by kernel_rfl) rfl ((.pointer (some ⟨W.heap.size, 0, none⟩))) ((W.drew.alloc (.cells lbZ.cells.toArray 71))) (by kernel_rfl) hHeld (a' := ?_) ?_ ?_
  rotate_left
  · simp only [Act.put, List.setIfInBounds_toArray, List.set_cons_zero, List.set_cons_succ]
    rfl
  have hHeld := HS.out.alloc (.cells y.cells.toArray 71)
  refine sk_ 10 (bt 11 1) rfl rfl (by kernel_rfl) rfl ((W.drew.alloc (.cells y.cells.toArray 71))) (exec_store_new 71 (.tmp 6) (.tmp 15) rfl rfl y.cells rfl lbZ.cells.toArray 71 (by rw [LB.cells_length]; rfl) y.cells_one (by rw [LB.cells_length]; exact block_size)) hHeld ?_
  refine tk_ 11 (some 7) (bt 12 0) (v := ?_) (a' := ?_) rfl rfl (by kernel_rfl) (fun _ _ _ h => h) (yieldsIf_run rfl ?_) hHeld ?_ ?_
  rotate_left
  · intro w'
    go_simp
    with_reducible rfl
  rotate_left
  · simp only [Act.put, List.setIfInBounds_toArray, List.set_cons_zero, List.set_cons_succ]
    rfl
  refine wpAnyH_done (by kernel_rfl) ?_ _
  change Exit.then _ _ _ _ _
  have hzW : w.heap.size + 1 < W.heap.size := (Array.getElem?_eq_some_iff.1 HG1.out).1
  have HBW : Hid (Below w.heap.size w (W.drew.alloc (.cells y.cells.toArray 71))) := Lib.hid hHeld.below
  have HHD : Hid (HoldB (W.drew.alloc (.cells y.cells.toArray 71)) W.heap.size y) := Lib.hid fun j u hu => cell_block (fr := (0, 0)) (T := 71) (heap_alloc_new W.drew _) (by simpa using hu)
  have HAT2 : Hid (y.x.At ok (W.drew.alloc (.cells y.cells.toArray 71))) := Lib.hid (Sl.below HAT.out ((Below.refl _ W.drew).alloc (Nat.le_refl _) _))
  have HG2 : Hid ((W.drew.alloc (.cells y.cells.toArray 71)).heap[w.heap.size + 1]? = some (.cells lbZ.cells.toArray 71 (0, 0))) := Lib.hid ((heap_alloc_old W.drew _ hzW).trans HG1.out)
  go_wp2_with (first
    | (refine wpl_load rfl 71 (.tmp 6) rfl W.heap.size 0 rfl y.cells _ (fun j u hu => by rw [Nat.zero_add]; exact HHD.out j u hu) Tryz.underlying71 rfl (by rw [LB.cells_length]; exact block_size) ?_)
    | (go_at_call 117; refine (copied_any _ y ok HAT2.out HPL.out).mono ?_; rintro e w3 ⟨z, hz, rfl, hza, hb3⟩; have HZH := Lib.hid hz; have HZA := Lib.hid hza; have HB3 := Lib.hid hb3; have HG3 : Hid (w3.heap[w.heap.size + 1]? = some (.cells lbZ.cells.toArray 71 (0, 0))) := Lib.hid ((hb3.block _ (Array.getElem?_eq_some_iff.1 HG2.out).1).trans HG2.out); clear hz hza hb3)
    | (refine wpl_store_row rfl 71 (.tmp 4) (.tmp 18) rfl (w.heap.size + 1) rfl (LB.cells ⟨y.id, z⟩) rfl _ 71 HG3.out (by rw [LB.cells_length, List.size_toArray, LB.cells_length]) (LB.cells_one _) (by rw [LB.cells_length]; exact block_size) ?_))
  (try simp only [Exit.inBlock, Exit.then])
  refine bodyPost_ret (results_row_tmp rfl _ _ (w.heap.size + 1) 71 (LB.cells ⟨y.id, z⟩).toArray (0, 0) _ rfl (setRow_heap _ (w.heap.size + 1) _ _ _ _ HG3.out) Tryz.underlying71 rfl (by rw [List.size_toArray, LB.cells_length]; exact block_size) _ rfl) rfl ?_
  refine ⟨z, HZH.out, rfl, ?_, below_setRow (HBW.out.trans (HB3.out.mono HBW.out.size)) (Nat.le_succ _) _⟩
  have hf : Fr (fun k => w.heap.size + 2 ≤ k) w3 (w3.setRow (w.heap.size + 1) (LB.cells ⟨y.id, z⟩).toArray) := ⟨by simp, fun k hk _ => heap_setRow_ne _ _ _ _ (by omega)⟩
  have h2 : z.At (fun k => w.heap.size + 2 ≤ k) w3 := Sl.mono HZA.out fun k hk => by simp only [World.size_alloc] at hk; have : W.drew.heap.size = W.heap.size := rfl; omega
  exact Sl.mono (Sl.fr h2 hf) fun k hk => by omega
end Go.Proofs.YtcohdfkdhdhegaaGreatDoor
namespace Go.Proofs.YtcohdfkdhdhegaaGreatDoor
open Go.RowKit

theorem sortT_rises (l : List ByteArray) : (sortT l).Pairwise fun a b => ltS a b = true := (sort_all l [] List.Pairwise.nil).1
theorem sortT_nodup (l : List ByteArray) : (sortT l).Nodup := (sortT_rises l).imp fun {a b} h e => by subst e; rw [ltS_irrefl] at h; cases h
end Go.Proofs.YtcohdfkdhdhegaaGreatDoor
namespace Go.Proofs.YtcohdfkdhdhegaaGreatDoor
open Go.RowKit

/-- The header of the fixed fact. -/
def awkH : Hdr := ⟨1, 0, ⟨#[116]⟩, 1, 2, [rootID], 0⟩
theorem gen_byte : ((hdrID genH).1.data.toList.headD 0).toNat = 23 := by decide +kernel
theorem awk_byte : ((hdrID awkH).1.data.toList.headD 0).toNat = 223 := by decide +kernel
theorem awk_ne : hdrID genH ≠ hdrID awkH := fun h => by
  have h1 := gen_byte
  rw [h, awk_byte] at h1
  cases h1
theorem awk_ok : awkH.Ok := ⟨⟨by decide, by decide⟩, ⟨by decide, by decide⟩, ⟨by decide, by decide⟩, ⟨by decide, by decide⟩, by decide, by decide, by show (1 : Nat) ≤ 1048576; omega, by show (1 : Nat) ≤ 1048576; omega⟩
theorem awk_check : checkH awkH = 0 := by
  unfold checkH
  rw [if_neg (by show ¬ (1 : Nat) > 5; omega), if_pos]
  exact ⟨⟨by decide, by decide⟩, ⟨by decide, by decide⟩, ⟨by decide, by decide⟩, ⟨by decide, by decide⟩, ⟨by decide, by decide⟩, ⟨by decide, by decide⟩, by decide, rfl⟩
theorem awk_first : checkG [genH] awkH = 0 := by
  have hg : hasG [genH] (hdrID awkH) = false := by
    simp only [hasG, List.any_cons, List.any_nil, Bool.or_false, decide_eq_false_iff_not]
    exact awk_ne
  have ht : tipG [genH] [rootID] = (0, [blkG genH]) := by
    have h1 : hasG [genH] rootID = true := by simp [hasG, rootID]
    have h2 : getG [genH] rootID = some genH := by simp [getG, rootID]
    unfold tipG
    rw [if_pos (by simp [h1])]
    simp only [List.filterMap_cons, h2, Option.map_some, List.filterMap_nil]
    rw [if_pos (tipB_one _)]
  unfold checkG
  rw [awk_check, if_neg (by decide), hg, if_neg (by decide)]
  show (if (tipG [genH] [rootID]).1 = 15 then (10 : Int) else if (tipG [genH] [rootID]).1 ≠ 0 then (tipG [genH] [rootID]).1 else if heightV (tipG [genH] [rootID]).2 ≥ 1 then 11 else 0) = 0
  rw [ht]
  rfl
theorem awk_second : checkG [genH, awkH] awkH = 9 := by
  have hg : hasG [genH, awkH] (hdrID awkH) = true := by simp [hasG]
  unfold checkG
  rw [awk_check, if_neg (by decide), hg, if_pos rfl]

section
variable {P : Program} {ops : Array Oper} {rest : List Oper} {o : Oper} {a : Act} {w : World} {Q : Exit → Act → World → Prop}
end
set_option maxRecDepth 100000 in
set_option maxHeartbeats 2000000 in
theorem awake13_any (w : World) (ht : Tab w) : Calls Tryz.prog 13 #[] w fun e w' => e = .returned (.bool true) ∧ Below w.heap.size w w' := by
  have HT := Lib.hid ht
  clear ht
  go_enter Tryz.func13, Tryz.ntmps13
  go_upto_region 2 with (go_at_call 14; refine (dnew_any w HT.out).mono ?_; rintro e w1 ⟨p, b1, b2, D, rfl, hb1, hd1, hf1, hh1, hl1⟩; have HB1 := Lib.hid hb1; have HD1 := Lib.hid hd1; have HF1 := Lib.hid hf1; have HH1 := Lib.hid hh1; have HL1 := Lib.hid hl1; clear hb1 hd1 hf1 hh1 hl1)
  have hroot : hasB D rootID = true := by
    rw [hasB_G HD1.out.ids]
    show hasG (hdrs D) rootID = true
    rw [HH1.out]
    simp [hasG, rootID]
  have HRT := Lib.hid hroot
  clear hroot
  obtain ⟨ri, hri⟩ : ∃ r, rootID = r := ⟨_, rfl⟩
  have HROOT := Lib.hid (root_any)
  rw [hri] at HRT HROOT
  have HRI := Lib.hid hri
  clear hri
  go_upto_region 4 with (first
    | (go_at_call 22; refine (dlen_any _ _ _ _ _ _ HD1.out).mono ?_; rintro e w2 ⟨rfl, rfl⟩; rw [HL1.out])
    | (go_at_call 35; refine (HROOT.out _ (HT.out.below HB1.out)).mono ?_; rintro e w3 ⟨rfl, hb3⟩; have HB3 := Lib.hid (HB1.out.trans (hb3.mono HB1.out.size)); have HD3 := Lib.hid (HD1.out.below hb3); clear hb3)
    | (go_at_call 36; refine (dhas_any _ p b1 b2 D _ HD3.out ri).mono ?_; rintro e w4 ⟨rfl, hb4⟩; rw [HRT.out]; have HB4 := Lib.hid (HB3.out.trans (hb4.mono HB3.out.size)); have HD4 := Lib.hid (HD3.out.below hb4); clear hb4))
  go_upto_region 5 with (first
    | (go_at_call 35; refine (HROOT.out _ (HT.out.below HB4.out)).mono ?_; rintro e w5 ⟨rfl, hb5⟩; have HB5 := Lib.hid (HB4.out.trans (hb5.mono HB4.out.size)); have HD5 := Lib.hid (HD4.out.below hb5); clear hb5)
    | (refine wpl_slice1 rfl 39 66 (.tmp 17) rfl (idc ri).toArray rfl _ 32 32 Tryz.underlying39 id_info idZ_cells (by rw [List.size_toArray, idc_length]) (by decide) (by decide) ?_)
    | (refine wpl_store_new rfl 41 _ _ rfl rfl (LH.cells ⟨⟨1, 0, ⟨#[116]⟩, 1, 2, [ri], 0⟩, some ⟨w5.heap.size, 0, none⟩, 1⟩) rfl _ _ rfl (LH.cells_one _) hdr_size ?_))
  obtain ⟨x, hx⟩ : ∃ x : LH, x = ⟨⟨1, 0, ⟨#[116]⟩, 1, 2, [ri], 0⟩, some ⟨w5.heap.size, 0, none⟩, 1⟩ := ⟨_, rfl⟩
  have hxh : x.h = awkH := by rw [hx, ← HRI.out]; rfl
  have hat : x.At (fun _ => True) ((w5.alloc (.cells (idc ri).toArray 66)).alloc (.cells x.cells.toArray 41)) := by
    have h1 : Sl idE (fun k => k = w5.heap.size) ((w5.alloc (.cells (idc ri).toArray 66)).alloc (.cells x.cells.toArray 41)) (.slice (some ⟨w5.heap.size, 0, none⟩) 1 1) [ri] :=
      Sl.of_block (E := idE) (ys := [ri]) (T := 66) (fr := (0, 0)) ((heap_alloc_old (w5.alloc (.cells (idc ri).toArray 66)) _ (by simp)).trans (heap_alloc_new w5 _)) (by rw [idE.flat_one]; rfl) rfl (Nat.le_refl _) (by omega)
    have hv : x.v = .slice (some ⟨w5.heap.size, 0, none⟩) 1 1 := by rw [hx]; rfl
    have hp : x.h.parents = [ri] := by rw [hx]
    show Sl idE _ _ x.v x.h.parents
    rw [hv, hp]
    exact Sl.mono h1 fun _ _ => trivial
  have hb6 : Below w5.heap.size w5 ((w5.alloc (.cells (idc ri).toArray 66)).alloc (.cells x.cells.toArray 41)) := ((Below.refl _ _).alloc (Nat.le_refl _) _).alloc (by simp) _
  have hg6 : ((w5.alloc (.cells (idc ri).toArray 66)).alloc (.cells x.cells.toArray 41)).heap[w5.heap.size + 1]? = some (.cells x.cells.toArray 41 (0, 0)) := by
    have := heap_alloc_new (w5.alloc (.cells (idc ri).toArray 66)) (.cells x.cells.toArray 41)
    rwa [World.size_alloc] at this
  change Code.wp _ _ _ _ ((w5.alloc (.cells (idc ri).toArray 66)).alloc (.cells (LH.cells ⟨⟨1, 0, ⟨#[116]⟩, 1, 2, [ri], 0⟩, some ⟨w5.heap.size, 0, none⟩, 1⟩).toArray 41))
  rw [← hx]
  have HAT := Lib.hid hat
  have HD6 := Lib.hid (HD5.out.below hb6)
  have HB6 := Lib.hid (HB5.out.trans (hb6.mono HB5.out.size))
  have HG6 := Lib.hid hg6
  have HXH := Lib.hid hxh
  clear hat hb6 hg6 hxh hx
  generalize (w5.alloc (.cells (idc ri).toArray 66)).alloc (.cells x.cells.toArray 41) = W6 at HAT HD6 HB6 HG6 ⊢
  generalize w5.heap.size + 1 = gx at HG6 ⊢
  have hadd1 := dadd_any W6 p b1 b2 D _ HD6.out HF1.out x _ HAT.out (by rw [HXH.out]; exact awk_ok.wide) (HT.out.below HB6.out) (by rw [HL1.out]; omega)
  rw [HXH.out, HH1.out, awk_first] at hadd1
  have HA1 := Lib.hid hadd1
  clear hadd1
  go_wp2_with (first
    | (refine wpl_load rfl 41 (.tmp 2) rfl gx 0 rfl x.cells _ (fun j u hu => by rw [Nat.zero_add]; first | exact cell_block HG6.out (by simpa using hu) | exact cell_block HG7.out (by simpa using hu)) Tryz.underlying41 rfl hdr_size ?_)
    | (refine wpl_load_on rfl 41 (.tmp 2) rfl gx 0 rfl x.cells _ (fun j u hu => by rw [Nat.zero_add]; exact cell_block HG7.out (by simpa using hu)) Tryz.underlying41 rfl hdr_size ?_)
    | (go_at_call 21; refine HA1.out.mono ?_; rintro e w7 ⟨rfl, hc7, D7, hd7, hf7, hh7, hl7⟩; have HG7 : Hid (w7.heap[gx]? = some (.cells x.cells.toArray 41 (0, 0))) := Lib.hid ((hc7.block gx (Array.getElem?_eq_some_iff.1 HG6.out).1 fun hs => HD6.out.no_row gx hs _ _ _ HG6.out).trans HG6.out); have HAT7 : Hid (x.At (fun _ => True) w7) := Lib.hid (Sl.chg HAT.out hc7 HD6.out.no_row); have HT7 := Lib.hid ((HT.out.below HB6.out).chg hc7 HD6.out.no_row); have HD7 := Lib.hid hd7; have HF7 := Lib.hid hf7; have HH7 : Hid (hdrs D7 = [genH, awkH]) := Lib.hid (by rw [hh7]; unfold addG; rw [awk_first]; rfl); have HL7 : Hid (D7.length = 2) := Lib.hid (by have := congrArg List.length hh7; unfold addG at this; rw [awk_first] at this; simpa [hdrs] using this); have HC7 : Hid (Below w.heap.size w w7) := Lib.hid (HB6.out.trans (hc7.below HB6.out.size fun k hk => by rcases hk with rfl | rfl; exact HD6.out.here.2.1; exact HD6.out.here.2.2)); have HA2 : Hid (Calls Tryz.prog 21 #[.pointer (some ⟨p, 0, none⟩), .agg x.cells.toArray] w7 fun e w' => e = .returned (.int .i64 9) ∧ ∃ D8 ok8, DagAt ok8 w' p b1 b2 D8 ∧ D8.length = 2 ∧ Chg (two b1 b2) w7 w') := Lib.hid ((dadd_any w7 p b1 b2 D7 _ HD7.out HF7.out x _ HAT7.out (by rw [HXH.out]; exact awk_ok.wide) HT7.out (by rw [HL7.out]; omega)).mono fun e w' ⟨he, hc, D8, hd8, _, hh8, _⟩ => by (rw [HXH.out, HH7.out, awk_second] at he; rw [HXH.out, HH7.out] at hh8; unfold addG at hh8; rw [awk_second] at hh8; exact ⟨he, D8, _, hd8, by simpa [hdrs] using congrArg List.length hh8, hc⟩)); clear hc7 hd7 hf7 hh7 hl7)
    | (go_at_call 21; refine HA2.out.mono ?_; rintro e w8 ⟨rfl, D8, ok8, hd8, hl8, hc8⟩; have HD8 := Lib.hid hd8; have HL8 := Lib.hid hl8; have HB8 : Hid (Below w.heap.size w w8) := Lib.hid (HC7.out.trans (hc8.below HC7.out.size fun k hk => by rcases hk with rfl | rfl; exact HD6.out.here.2.1; exact HD6.out.here.2.2)); clear hd8 hl8 hc8)
    | (go_at_call 22; refine (dlen_any _ _ _ _ _ _ HD8.out).mono ?_; rintro e w9 ⟨rfl, rfl⟩; rw [HL8.out]))
  go_ret
  exact ⟨rfl, HB8.out⟩
end Go.Proofs.YtcohdfkdhdhegaaGreatDoor
namespace Go.Proofs.YtcohdfkdhdhegaaGreatDoor
open Go.RowKit Go.Maps

/-- A block that is there. -/
theorem dblock_has (w : World) (p b1 b2 : Nat) (D : List LB) (ok : Nat → Prop) (h : DagAt ok w p b1 b2 D) (hf : FineD D) (i : ID) (hh : hasB D i = true) :
    Calls Tryz.prog 39 #[.pointer (some ⟨p, 0, none⟩), .agg (idc i).toArray] w fun e w' => ∃ y : LH, e = .returned (.tuple #[.agg (LB.cells ⟨i, y⟩).toArray, .bool true]) ∧ y.h = (getB D i).x.h ∧ y.h.Ok ∧ y.h.parents.Nodup ∧ hdrID y.h = i ∧ y.At (fun k => w.heap.size ≤ k) w' ∧ Below w.heap.size w w' := by
  obtain ⟨hm, hi⟩ := getB_mem hh
  have hfx := hf _ hm
  refine (dblock_any w p b1 b2 D ok h i (Nat.le_trans hfx.1.parents (by decide)) (h.at_ _ hm)).mono ?_
  rintro e w' ⟨y, hy, rfl, ha, hb⟩
  refine ⟨y, by rw [hh, hi], hy, by rw [hy]; exact hfx.1, by rw [hy]; exact hfx.2, by rw [hy, ← h.ids _ hm, hi], ha, hb⟩
theorem id_is (w : World) (y : LH) (ok : Nat → Prop) (hx : y.At ok w) (hok : y.h.Ok) (ht : Tab w) (i : ID) (hi : hdrID y.h = i) :
    Calls Tryz.prog 37 #[.agg y.cells.toArray] w fun e w' => e = .returned (.agg (idc i).toArray) ∧ Below w.heap.size w w' := by
  rw [← hi]; exact id_any w y ok hx hok ht
section
variable {w W W' : World} {p b1 b2 : Nat} {D D' : List LB} {vh vn v1 : Value} {hs : List LRH} {ns : List ID}
end
end Go.Proofs.YtcohdfkdhdhegaaGreatDoor
namespace Go.Proofs.YtcohdfkdhdhegaaGreatDoor
open Go Go.RowKit Go.Maps Go.Shelf
attribute [local go_sem] Oper.semAt_some

/-! ### a key that reads as one of names is a name -/
def toB : Value → UInt8
  | .int _ n => UInt8.ofNat n.toNat
  | _ => 0
theorem mapM_at {α β : Type} {f : α → Option β} : ∀ {l : List α} {bs : List β}, l.mapM f = some bs → ∀ x ∈ l, ∃ a, f x = some a
  | [], _, _, _, hx => by cases hx
  | y :: l, bs0, h, x, hx => by
    rw [List.mapM_cons] at h
    cases hy : f y with
    | none => rw [hy] at h; cases h
    | some a =>
      rw [hy] at h
      cases hl : l.mapM f with
      | none => rw [hl] at h; cases h
      | some bs =>
        rcases List.mem_cons.1 hx with rfl | hx
        · exact ⟨a, hy⟩
        · exact mapM_at hl x hx
set_option maxRecDepth 100000 in
theorem keyOf_id_inv {key : Value} {kl : Lit} (h : keyOf Tryz.prog 66 key = some kl) : ∃ x : ID, key = .agg (idc x).toArray ∧ kl = idK x := by
  have h0 := h
  obtain ⟨xs, L, rfl, hL, -⟩ := Go.keyOf_top (k := 66) (by rw [Tryz.underlying66]) h
  obtain ⟨m, hm⟩ : ∃ m, Tryz.prog.types.size + 1 = m + 2 := ⟨Tryz.prog.types.size - 1, by have : 0 < Tryz.prog.types.size := of_decide_eq_true (by kernel_rfl); omega⟩
  rw [hm] at hL
  unfold Program.keyLits at hL
  rw [Tryz.underlying66] at hL
  simp only at hL
  have hc : Tryz.prog.cellsOf 66 = 32 := by kernel_rfl
  have h1 : Tryz.prog.cellsOf 5 = 1 := by kernel_rfl
  rw [hc, h1] at hL
  by_cases hl : xs.toList.length = 32
  · rw [if_pos hl] at hL
    obtain ⟨bs, ha, -⟩ := Option.map_eq_some_iff.1 hL
    have hat : ∀ v ∈ xs.toList, v = .int .u8 ((toB v).toNat : Int) := fun v hv => by
      obtain ⟨i, hi, rfl⟩ := List.mem_iff_getElem.1 hv
      obtain ⟨a, ha⟩ := mapM_at ha i (by simp only [List.mem_range]; omega)
      rw [Nat.mul_one, List.drop_eq_getElem_cons hi, List.take_succ_cons, List.take_zero] at ha
      unfold Program.keyLits at ha
      rw [Tryz.underlying5] at ha
      generalize xs.toList[i] = v at ha
      cases v with
      | int q n =>
        simp only at ha
        by_cases hq : q = .u8 ∧ (Lit.int .u8 n).wf = true
        · obtain ⟨rfl, hw⟩ := hq
          simp [Lit.wf, IntKind.min, IntKind.max, IntKind.bits, IntKind.signed] at hw
          have h2 : (UInt8.ofNat n.toNat).toNat = n.toNat := by simp; omega
          show Value.int .u8 n = .int .u8 ((UInt8.ofNat n.toNat).toNat : Int)
          rw [h2, Int.toNat_of_nonneg hw.1]
        · rw [if_neg hq] at ha; cases ha
      | _ => simp at ha
    have hx : (xs.toList.map toB).length = 32 := by rw [List.length_map]; exact hl
    have he : (⟨⟨(xs.toList.map toB).toArray⟩, by show (xs.toList.map toB).toArray.size = 32; rw [List.size_toArray]; exact hx⟩ : ID) = ⟨⟨(xs.toList.map toB).toArray⟩, by show (xs.toList.map toB).toArray.size = 32; rw [List.size_toArray]; exact hx⟩ := rfl
    refine ⟨⟨⟨(xs.toList.map toB).toArray⟩, by show (xs.toList.map toB).toArray.size = 32; rw [List.size_toArray]; exact hx⟩, ?_⟩
    have hk : Value.agg xs = .agg (idc ⟨⟨(xs.toList.map toB).toArray⟩, by show (xs.toList.map toB).toArray.size = 32; rw [List.size_toArray]; exact hx⟩).toArray := by
      congr 1
      refine Array.toList_inj.1 ?_
      show xs.toList = (xs.toList.map toB).map fun b => Value.int .u8 (b.toNat : Int)
      rw [List.map_map]
      conv => lhs; rw [← List.map_id xs.toList]
      exact List.map_congr_left fun v hv => hat v hv
    refine ⟨hk, ?_⟩
    rw [hk, keyOf_id] at h0
    exact (Option.some.inj h0).symm
  · rw [if_neg hl] at hL; cases hL

theorem sameK {x y : ID} : (idK y).sameKey (idK x) = true ↔ y = x := by
  constructor
  · intro h
    refine idK_iff.1 ?_
    unfold idK at h ⊢
    unfold Lit.sameKey at h
    exact congrArg Lit.string (beq_iff_eq.1 h)
  · rintro rfl
    unfold idK Lit.sameKey
    exact beq_self_eq_true _
/-- Which names have come. -/
def CollK (D0 : DataW Value) (left : Lit → Bool) (ss : List ID) : Prop := ss.Nodup ∧ ∀ x, x ∈ ss ↔ (has D0 (idK x) = true ∧ left (idK x) = false)
section
variable {D0 : DataW Value} {left : Lit → Bool} {ss : List ID}
theorem CollK.start (D0 : DataW Value) : CollK D0 (has D0) [] := ⟨List.nodup_nil, fun x => by cases has D0 (idK x) <;> simp⟩
theorem CollK.step (h : CollK D0 left ss) {x : ID} {y : DataW Value} (hlk : left (idK x) = true) (hat : ∀ zd, D0.atKey (idK x) zd = y) : CollK D0 (fun z => left z && !z.sameKey (idK x)) (ss ++ [x]) := by
  have hhas : has D0 (idK x) = true := has_true_of_atKey hat
  have hnew : x ∉ ss := fun hx => by have := ((h.2 x).1 hx).2; rw [hlk] at this; cases this
  refine ⟨List.nodup_append.2 ⟨h.1, by simp, fun a ha b hb => by simp at hb; subst hb; exact fun e => hnew (e ▸ ha)⟩, fun y => ?_⟩
  by_cases hy : y = x
  · subst hy
    simp [hhas, sameK.2 rfl]
  · have hs : (idK y).sameKey (idK x) = false := Bool.eq_false_iff.2 fun e => hy (sameK.1 e)
    simp [h.2 y, hy, hs]
end
theorem grown_none {W W' : World} (hb : Below W.heap.size W W') : W.grownBy W' none := ⟨hb.os, hb.tape, hb.output, hb.size, fun k hk _ => hb.block k hk⟩

section
variable {F : Fence} {n : Nat} {P : Program} {ops : Array Oper} {Q : Exit → Act → World → Prop} {a : Act} {w : World} {rest : List Oper} {o : Oper}
theorem wplIn_store_box (hgd : o.guard = none) (ty : TypeId) (x y : Operand) (ho : o.op = .store ty x y) (g : Nat)
    (hx : a.eval x = .pointer (some ⟨g, 0, none⟩)) (cs : List Value) (hy : a.eval y = .agg cs.toArray) (cur : Array Value) (T : TypeId) (hg : w.heap[g]? = some (.cells cur T (0, 0))) (hl : cs.length = cur.size) (h1 : ∀ u ∈ cs, u.oneCell' = true) (hi : (P.info? ty).map (·.size) = some cs.length)
    (h : ∀ w', w' = w.setRow g cs.toArray → wpListIn F n P ops Q rest (a.put o.dst undef) w') : wpListIn F n P ops Q (o :: rest) a w :=
  wplIn_store_row hgd ty x y ho g hx cs hy cur T hg hl h1 hi (h _ rfl)
end

set_option maxRecDepth 100000 in
set_option maxHeartbeats 2000000 in
/-- The iterator of maps.Keys, of a map of names: each name that is a key comes once, in some order. -/
theorem keysI_gives (n : Nat) (hn : 1 ≤ n) (Bm b nn : Nat) (f : Lit → Option Value) (w : World) (hBm : Bm < w.heap.size) (hm : w.cell? ⟨Bm, 0, none⟩ = some (.map (some b))) (hown : MapV Tryz.prog 66 w b nn f) :
    SeqGives Fence.wide n Tryz.prog 161 #[.pointer (some ⟨Bm, 0, none⟩)] (fun x : ID => .agg (idc x).toArray) (fun ss => ss.Nodup ∧ ∀ x, x ∈ ss ↔ (f (idK x)).isSome = true) nn w := by
  intro l J W hW hJ hY h0
  obtain ⟨D0, hD, hs, hf⟩ := hown.below hW
  have hcm : W.cell? ⟨Bm, 0, none⟩ = some (.map (some b)) := (hW.cell (p := ⟨Bm, 0, none⟩) hBm).trans hm
  have HY := Lib.hid hY
  have HS := Lib.hid hs
  have HJ := Lib.hid hJ
  clear hW hm hBm hown hY hs hJ
  refine callsIn_of_wp Tryz.func161 rfl trivial ?_ rfl
  simp only [Tryz.ntmps161, List.size_toArray, List.length_cons, List.length_nil, Nat.reduceAdd, Nat.reduceSub, Array.replicate_succ, Array.replicate_zero, List.push_toArray, List.append_toArray, List.nil_append, List.cons_append]
  gi_wp2_with (first
    | (gi_at_range; refine wpListIn_range_own _ rfl _ 129 rfl 66 71 lawID Tryz.underlying129 heldR b nn D0 rfl hD ?_; intro w0 hrg0 hg0 hs0)
    | gi_in)
  (try go_frame)
  gi_loopw [3] (fun _ wr => ∃ (left : Lit → Bool) (cnt : Nat) (ss : List ID), wr.ranges Tryz.prog 66 heldR b W.heap.size nn D0 left cnt ∧ ss.length + cnt ≤ nn ∧ CollK D0 left ss ∧ J ss wr)
    (fun _ wr => wr.rangeLeft b W.heap.size)
  case atStart =>
    exact ⟨_, _, [], hrg0, by simp [HS.out], CollK.start D0, HJ.out [] W w0 none h0 hg0 (fun r e => by cases e)⟩
  case round =>
    obtain ⟨left, cnt, ss, hrg, hcs, hC, hJs⟩ := hrel
    gi_wp2_with (first
      | (gi_at_next; refine wpListIn_next_ranges _ rfl _ rfl 66 lawID heldR (fun x : ID => Value.agg (idc x).toArray) id (fun key kl hk => by obtain ⟨x, hx, _⟩ := keyOf_id_inv hk; exact ⟨x, hx⟩) (fun v _ _ => ⟨v, rfl⟩) b W.heap.size nn _ _ _ rfl hrg ?_ ?_)
      | gi_in)
    · intro hc0 hl0
      gi_wp2
      go_end0
      exact ⟨⟨_, rfl⟩, ss, ⟨hC.1, fun x => by rw [hC.2 x, hl0, hf.has]; simp⟩, hJs⟩
    · intro xv hxv c kl yd yp w2 cnt2 hkey hlk hv hat hrg2 hlt hg2 hs2 hen
      generalize (⟨xv, hxv⟩ : ID) = x at hkey hen ⊢
      obtain ⟨x', ex, rfl⟩ := keyOf_id_inv hkey
      obtain rfl : x = x' := idc_inj (by simpa using ex)
      have hJ2 : J ss w2 := HJ.out ss wr w2 (some W.heap.size) hJs hg2 (fun r e => by cases e; exact ⟨Nat.le_refl _, hrg.iter_walk⟩)
      have HY3 : Hid (∀ W3, Below w2.heap.size w2 W3 → YieldAt Fence.wide (n - 1) Tryz.prog l #[.agg (idc x).toArray] W3 fun e W' => e = .returned (.bool true) ∧ J (ss ++ [x]) W' ∧ KeepsWalks W3 W') := Lib.hid fun W3 hb => HY.out ss x W3 (HJ.out ss w2 W3 none hJ2 (grown_none hb) (fun r e => by cases e)) (by omega)
      have HR2 := Lib.hid hrg2
      have HC2 := Lib.hid (hC.step hlk hat)
      have HLT := Lib.hid hlt
      have HCN := Lib.hid (And.intro hcs hrg.left_eq)
      clear hs2 hJ2 hrg2 hC hlt hcs hrg hJs hlk hat hv hkey ex hg2
      gi_wp2_with (first
        | (refine wplIn_store_box rfl 66 (.tmp 3) (.tmp 9) rfl w2.heap.size rfl (idc x) rfl _ 66 (heap_alloc_new w2 _) (by rw [idc_length]; rfl) (bytesC_one x.1) (by rw [idc_length]; exact id_size) ?_; intro w3 hw3; have HB3 : Hid (Below w2.heap.size w2 w3) := Lib.hid (by rw [hw3]; exact below_setRow ((Below.refl _ w2).alloc (Nat.le_refl _) _) (Nat.le_refl _) _); have HX3 : Hid (w3.heap[w2.heap.size]? = some (.cells (idc x).toArray 66 (0, 0))) := Lib.hid (by rw [hw3]; exact setRow_heap _ _ _ _ _ _ (heap_alloc_new w2 _)); obtain ⟨fn, tmps, assign, body, hy, hR⟩ := HY3.out w3 HB3.out; clear hw3)
        | (refine wplIn_load (by kernel_rfl) 66 (.tmp 3) rfl w2.heap.size 0 rfl (idc x) _ (fun j u hu => by rw [Nat.zero_add]; exact cell_block HX3.out (by simpa using hu)) Tryz.underlying66 rfl (by rw [idc_length]; exact id_size) ?_)
        | gi_in)
      trace_state
      refine hR.mono ?_
      rintro e W3 ⟨rfl, hJ3, hk3⟩
      gi_wp2
      have hrg3 := (HR2.out.kept (grown_none HB3.out) (by simp) (by simp)).of_walks hk3
      go_roundw
      case rel => exact ⟨_, cnt2, ss ++ [x], hrg3, by have := HLT.out; have := HCN.out.1; simp; omega, HC2.out, hJ3⟩
      case measure => rw [hrg3.left_eq, HCN.out.2]; exact HLT.out
end Go.Proofs.YtcohdfkdhdhegaaGreatDoor
