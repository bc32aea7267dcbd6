/- header.ID, Genesis, Root. -/
import Derived.Test.YthpcedficlhanaaGreatDoorOf
namespace Go.Proofs.YthpcedficlhanaaGreatDoor
open Go.RowKit

/-- A header's name. -/
def hdrID (h : Hdr) : ID := shaF (hdrB h)
theorem hdr_size : (Tryz.prog.info? 38).map (·.size) = some 7 := by kernel_rfl
theorem LH.cells_length (x : LH) : x.cells.length = 7 := rfl
theorem LH.cells_one (x : LH) : ∀ u ∈ x.cells, u.oneCell' = true := by
  intro u hu
  simp only [LH.cells, LH.v, List.mem_cons, List.not_mem_nil, or_false] at hu
  rcases hu with rfl | rfl | rfl | rfl | rfl | rfl | rfl <;> rfl
theorem hdrB_length (h : Hdr) (hok : h.Ok) : (hdrB h).length ≤ 1099511627776 := by
  have h1 := numB_length h.height.toNat
  have h2 := numB_length h.miner.toNat
  have h3 := numB_length h.ticket.size
  have h4 := numB_length h.wins.toNat
  have h5 := numB_length h.power.toNat
  have h6 := numB_length h.parents.length
  have h7 := numB_length h.salt.toNat
  have h8 := hok.ticket
  have h9 := hok.parents
  simp only [hdrB, textB, List.length_append, joinI_length]
  have h10 : h.ticket.data.toList.length = h.ticket.size := by simp
  omega

set_option maxRecDepth 100000 in
set_option maxHeartbeats 2000000 in
theorem id_any (w : World) (x : LH) (ok : Nat → Prop) (hx : x.At ok w) (hok : x.h.Ok) (ht : Tab w) :
    Calls Tryz.prog 40 #[.agg x.cells.toArray] w fun e w' => e = .returned (.agg (idc (hdrID x.h)).toArray) ∧ Below w.heap.size w w' := by
  have HX := Lib.hid hx
  have HOK := Lib.hid hok
  have HT := Lib.hid ht
  clear hx hok ht
  have hB0 : Below w.heap.size w ((w.alloc (.cells x.cells.toArray 38)).alloc (.cells (idc default).toArray 34)) := ((Below.refl _ w).alloc (Nat.le_refl _) _).alloc (by simp) _
  have hg0 : ((w.alloc (.cells x.cells.toArray 38)).alloc (.cells (idc default).toArray 34)).heap[w.heap.size]? = some (.cells x.cells.toArray 38 (0, 0)) := by
    rw [heap_alloc_if, if_neg (by simp), heap_alloc_if, if_pos rfl]
  have hg1 : ((w.alloc (.cells x.cells.toArray 38)).alloc (.cells (idc default).toArray 34)).heap[w.heap.size + 1]? = some (.cells (idc default).toArray 34 (0, 0)) := by
    rw [heap_alloc_if, if_pos (by simp)]
  have HB0 := Lib.hid hB0
  have HG0 := Lib.hid hg0
  have HG1 := Lib.hid hg1
  clear hB0 hg0 hg1
  go_enter Tryz.func40, Tryz.ntmps40
  go_wp2_with (first
    | (refine wpList_load_row rfl 38 (.tmp 1) rfl w.heap.size rfl 38 _ (0, 0) _ HG0.out Tryz.underlying38 rfl hdr_size ?_)
    | (go_at_call 111; refine (hdrBytes_any _ x ok (HX.out.below HB0.out) HOK.out).mono ?_; rintro e w1 ⟨rfl, hb1⟩; have HB1 : Hid (Below w.heap.size w w1) := HB0.out.trans (hb1.mono HB0.out.size); have HK1 : Hid (w1.heap[w.heap.size + 1]? = some (.cells (idc default).toArray 34 (0, 0))) := (hb1.block _ (by simp only [World.size_alloc]; omega)).trans HG1.out; have hz1 : w.heap.size + 1 < w1.heap.size := (Array.getElem?_eq_some_iff.1 HK1.out).1; clear hb1)
    | (go_at_call 110; (refine (of_any _ w1.heap.size 1 ⟨(hdrB x.h).toArray⟩ (by show (hdrB x.h).toArray.size ≤ _; rw [List.size_toArray]; exact hdrB_length _ HOK.out) (cell_block (heap_alloc_new w1 _) rfl) (HT.out.below (HB1.out.alloc HB1.out.size _))).mono ?_); rintro e w2 ⟨rfl, hb2⟩; have HB2 : Hid (Below w.heap.size w w2) := (HB1.out.alloc HB1.out.size _).trans (hb2.mono (by simp only [World.size_alloc]; omega)); have HK2 : Hid (w2.heap[w.heap.size + 1]? = some (.cells (idc default).toArray 34 (0, 0))) := (hb2.block _ (by simp only [World.size_alloc]; omega)).trans ((heap_alloc_old w1 _ hz1).trans HK1.out); clear hb2)
    | (refine wpl_store_row rfl 34 (.tmp 2) (.tmp 6) rfl (w.heap.size + 1) rfl (idc (hdrID x.h)) rfl _ 34 HK2.out (by rw [idc_length, List.size_toArray, idc_length]) (idE.one (hdrID x.h)) (by rw [idc_length]; exact id_size) ?_))
  (try simp only [Exit.inBlock, Exit.then])
  refine bodyPost_ret (results_cell_row rfl _ _ (w.heap.size + 1) 34 (idc (hdrID x.h)).toArray (0, 0) _ rfl (setRow_heap w2 (w.heap.size + 1) _ _ _ _ HK2.out) Tryz.underlying34 rfl (by rw [List.size_toArray, idc_length]; exact id_size)) rfl ?_
  exact ⟨rfl, below_setRow HB2.out (Nat.le_succ _) _⟩

/-- The first header. -/
def genH : Hdr := ⟨0, 0, ⟨#[]⟩, 0, 2, [], 0⟩
def genL : LH := ⟨genH, none, 0⟩
theorem genH_ok : genH.Ok := ⟨⟨by decide, by decide⟩, ⟨by decide, by decide⟩, ⟨by decide, by decide⟩, ⟨by decide, by decide⟩, by decide, by decide, by show (0 : Nat) ≤ 1048576; omega, by show (0 : Nat) ≤ 1048576; omega⟩
theorem genL_at (ok : Nat → Prop) (w : World) : genL.At ok w := Sl.nil _ _ _

set_option maxRecDepth 100000 in
set_option maxHeartbeats 2000000 in
theorem genesis_any (w : World) :
    Calls Tryz.prog 107 #[] w fun e w' => e = .returned (.agg genL.cells.toArray) ∧ Below w.heap.size w w' := by
  go_enter Tryz.func107, Tryz.ntmps107
  go_wp2
  (try simp only [Exit.inBlock, Exit.then])
  refine bodyPost_ret (results_cell_row rfl _ _ w.heap.size 38 genL.cells.toArray (0, 0) _ rfl (heap_alloc_new w _) Tryz.underlying38 rfl hdr_size) rfl ?_
  exact ⟨rfl, (Below.refl _ w).alloc (Nat.le_refl _) _⟩

/-- The first name. -/
def rootID : ID := hdrID genH
set_option maxRecDepth 100000 in
set_option maxHeartbeats 2000000 in
theorem root_any (w : World) (ht : Tab w) :
    Calls Tryz.prog 60 #[] w fun e w' => e = .returned (.agg (idc rootID).toArray) ∧ Below w.heap.size w w' := by
  have HT := Lib.hid ht
  clear ht
  go_enter Tryz.func60, Tryz.ntmps60
  go_wp2_with (first
    | (go_at_call 107; refine (genesis_any _).mono ?_; rintro e w1 ⟨rfl, hb1⟩; have HB1 : Hid (Below w.heap.size w w1) := ((Below.refl _ w).alloc (Nat.le_refl _) _).trans (hb1.mono (by simp)); have HK1 : Hid (w1.heap[w.heap.size]? = some (.cells (idc default).toArray 34 (0, 0))) := (hb1.block _ (by simp)).trans (heap_alloc_new w _); clear hb1)
    | (go_at_call 40; refine (id_any _ genL (fun _ => True) (genL_at _ _) genH_ok (HT.out.below HB1.out)).mono ?_; rintro e w2 ⟨rfl, hb2⟩; have HB2 : Hid (Below w.heap.size w w2) := HB1.out.trans (hb2.mono HB1.out.size); have HK2 : Hid (w2.heap[w.heap.size]? = some (.cells (idc default).toArray 34 (0, 0))) := (hb2.block _ (Array.getElem?_eq_some_iff.1 HK1.out).1).trans HK1.out; clear hb2)
    | (refine wpl_store_row rfl 34 (.tmp 0) (.tmp 2) rfl w.heap.size rfl (idc rootID) rfl _ 34 HK2.out (by rw [idc_length, List.size_toArray, idc_length]) (idE.one rootID) (by rw [idc_length]; exact id_size) ?_))
  (try simp only [Exit.inBlock, Exit.then])
  refine bodyPost_ret (results_cell_row rfl _ _ w.heap.size 34 (idc rootID).toArray (0, 0) _ rfl (setRow_heap w2 w.heap.size _ _ _ _ HK2.out) Tryz.underlying34 rfl (by rw [List.size_toArray, idc_length]; exact id_size)) rfl ?_
  exact ⟨rfl, below_setRow HB2.out (Nat.le_refl _) _⟩
end Go.Proofs.YthpcedficlhanaaGreatDoor
