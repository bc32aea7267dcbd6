/- Blocks compared, cloned, sorted; tipset.fits. -/
import Derived.Test.YthpcedficlhanaaGreatDoorBlk
import Derived.Test.YthpcedficlhanaaGreatDoorLayB
namespace Go.Proofs.YthpcedficlhanaaGreatDoor
open Go.RowKit

theorem LB.cells_id (b : LB) (j : Nat) (u : Value) (h : (bytesC b.id.1)[j]? = some u) : b.cells[j]? = some u := by
  rw [LB.cells, idc, List.getElem?_append_left (List.getElem?_eq_some_iff.1 h).1]
  exact h
theorem compare_blocks (w : World) (x y : LB) (n : Nat) : Calls Tryz.prog 95 #[.slice (some ⟨w.heap.size, 0, none⟩) 32 32, .slice (some ⟨w.heap.size + 1, 0, none⟩) 32 32] (((w.alloc (.cells x.cells.toArray 40)).alloc (.cells y.cells.toArray 40)).drewN n) fun e w' => e = .returned (.int .i64 (cmpI x.id y.id)) ∧ ((w.alloc (.cells x.cells.toArray 40)).alloc (.cells y.cells.toArray 40)).drewN n = w' := by
  have hx : BytesAt (((w.alloc (.cells x.cells.toArray 40)).alloc (.cells y.cells.toArray 40)).drewN n) w.heap.size 0 x.id.1 := fun j u hu => by
    rw [Nat.zero_add]
    exact cell_block (fr := (0, 0)) (T := 40) (by show ((w.alloc _).alloc _).heap[w.heap.size]? = _; rw [heap_alloc_if, if_neg (by simp), heap_alloc_if, if_pos rfl]) (by simpa using x.cells_id j u hu)
  have hy : BytesAt (((w.alloc (.cells x.cells.toArray 40)).alloc (.cells y.cells.toArray 40)).drewN n) (w.heap.size + 1) 0 y.id.1 := fun j u hu => by
    rw [Nat.zero_add]
    exact cell_block (fr := (0, 0)) (T := 40) (by show ((w.alloc _).alloc _).heap[w.heap.size + 1]? = _; rw [heap_alloc_if, if_pos (by simp)]) (by simpa using y.cells_id j u hu)
  have hc := bytesCompare_any _ w.heap.size 0 32 (w.heap.size + 1) 0 32 x.id.1 y.id.1 hx hy
  rw [x.id.2, y.id.2] at hc
  exact hc

def cmpL (x y : LB) : Int := cmpI x.id y.id
theorem swo_cmpL : Sort.SWO (ltOf cmpL) := ⟨fun x => swo_cmpI.irrefl x.id, fun x y z => swo_cmpI.trans x.id y.id z.id, fun x y z => swo_cmpI.ntrans x.id y.id z.id⟩

set_option maxRecDepth 100000 in
set_option maxHeartbeats 1000000 in
theorem blockCompare_any (w : World) (x y : LB) :
    Calls Tryz.prog 94 #[.agg x.cells.toArray, .agg y.cells.toArray] w fun e w' => e = .returned (.int .i64 (cmpL x y)) ∧ More w w' := by
  go_enter Tryz.func94, Tryz.ntmps94
  go_wp2
  have HC := Lib.hid (fun n => compare_blocks w x y n)
  go_quiet ((go_at_call 95; exact quiet_left (HC.out _)))
  go_wp2
  go_ret
  exact ⟨rfl, More.two _ _ _ _⟩

theorem block_info : (Tryz.prog.info? 40).map (fun i => (i.zero, i.size, i.bytes)) = some (some (.agg (LB.cells ⟨⟨⟨(List.replicate 32 0).toArray⟩, by rfl⟩, ⟨⟨0, 0, ⟨#[]⟩, 0, 0, [], 0⟩, none, 0⟩⟩).toArray), lbE.k, 112) := by kernel_rfl
theorem clone_blocks (w : World) (v : Value) (l : List LB) (ok : Nat → Prop) (hl : Sl lbE ok w v l) (hlen : l.length ≤ 4294967296) :
    Calls Tryz.prog 92 #[v] w fun e w' => ∃ v', e = .returned v' ∧ w'.ownsRow w.heap.size 40 39 v' l.length (lbE.flat l) ∧ Below w.heap.size w w' :=
  clone_gen lcB _ 112 block_info (by simp only [Value.cells, List.size_toArray, LB.cells_length]; rfl) Tryz.sizeOf40 hl (by omega) (by omega)
theorem sort_blocks (w : World) (v : Value) (l : List LB) (base : Nat) (T : TypeId) (h : w.ownsRow base T 39 v l.length (lbE.flat l)) (hlen : l.length ≤ 4294967296) :
    Calls Tryz.prog 93 #[v, .func (.func 94) #[] #[]] w fun e w' => e = .returned (.tuple #[]) ∧ ∃ zs, zs.Perm l ∧ Risen cmpL zs ∧ w'.ownsRow base T 39 v l.length (lbE.flat zs) ∧ w.grownBy w' v.ownBlock :=
  sort_gen (E := lbE) lsB Tryz.isAgg40 Tryz.sizeOf40 cmpL swo_cmpL 94 #[] (enters_of Tryz.func94 (by kernel_rfl) rfl) blockCompare_any h (by omega)
end Go.Proofs.YthpcedficlhanaaGreatDoor
