/- tipset.fits. Which blocks are a tipset, in plain words. No program in sight. A map from int to int of the call's own, told by what it answers; two results, the first in a cell. -/
import Derived.Test.YthpcedficlhanaaGreatDoorOvAF
import Derived.Maps.OwnOps
import Derived.Maps.Views
namespace Go.Proofs.YthpcedficlhanaaGreatDoor
open Go.RowKit

/-- A family, as a text. -/
def famS (h : Hdr) : ByteArray := ⟨(famB h).toArray⟩
def fitsB (x y : LB) : Bool := !decide (x.id = y.id) && decide (famS x.x.h = famS y.x.h)

theorem LB.cells_hdr (b : LB) (j : Nat) (u : Value) (h : b.x.cells[j]? = some u) : b.cells[32 + j]? = some u := by
  rw [LB.cells, List.getElem?_append_right (by rw [idc_length]; omega), idc_length, show 32 + j - 32 = j by omega]
  exact h

/-- A block lies whole at the head of memory block b. -/
def HoldB (w : World) (b : Nat) (x : LB) : Prop := ∀ j u, x.cells[j]? = some u → w.cell? ⟨b, j, none⟩ = some u
theorem HoldB.id {w : World} {b : Nat} {x : LB} (h : HoldB w b x) : ∀ j u, (idc x.id)[j]? = some u → w.cell? ⟨b, 0 + j, none⟩ = some u := fun j u hu => by rw [Nat.zero_add]; exact h j u (x.cells_id j u hu)
theorem HoldB.hdr {w : World} {b : Nat} {x : LB} (h : HoldB w b x) : ∀ j u, x.x.cells[j]? = some u → w.cell? ⟨b, 32 + j, none⟩ = some u := fun j u hu => h _ u (x.cells_hdr j u hu)
theorem HoldB.below {w w' : World} {b B : Nat} {x : LB} (h : HoldB w b x) (hb : Below B w w') (hlt : b < B) : HoldB w' b x := fun j u hu => (hb.cell (p := ⟨b, j, none⟩) hlt).trans (h j u hu)

set_option maxRecDepth 100000 in
set_option maxHeartbeats 1000000 in
theorem fits_any (w : World) (x y : LB) (ok : Nat → Prop) (hx : x.x.At ok w) (hy : y.x.At ok w) (okx : x.x.h.Ok) (oky : y.x.h.Ok) (ndx : x.x.h.parents.Nodup) (ndy : y.x.h.parents.Nodup) :
    Calls Tryz.prog 96 #[.agg x.cells.toArray, .agg y.cells.toArray] w fun e w' => e = .returned (.bool (fitsB x y)) ∧ Below w.heap.size w w' := by
  have hB0 : Below w.heap.size w ((w.alloc (.cells x.cells.toArray 40)).alloc (.cells y.cells.toArray 40)) := ((Below.refl _ w).alloc (Nat.le_refl _) _).alloc (by simp) _
  have hcx : HoldB ((w.alloc (.cells x.cells.toArray 40)).alloc (.cells y.cells.toArray 40)) w.heap.size x := fun j u hu => cell_block (fr := (0, 0)) (T := 40) (by rw [heap_alloc_if, if_neg (by simp), heap_alloc_if, if_pos rfl]) (by simpa using hu)
  have hcy : HoldB ((w.alloc (.cells x.cells.toArray 40)).alloc (.cells y.cells.toArray 40)) (w.heap.size + 1) y := fun j u hu => cell_block (fr := (0, 0)) (T := 40) (by rw [heap_alloc_if, if_pos (by simp)]) (by simpa using hu)
  have HB0 := Lib.hid hB0
  have HX := Lib.hid hx
  have HY := Lib.hid hy
  have HCX := Lib.hid hcx
  have HCY := Lib.hid hcy
  clear hB0 hx hy hcx hcy
  go_enter Tryz.func96, Tryz.ntmps96
  go_wp2
  generalize (w.alloc (.cells x.cells.toArray 40)).alloc (.cells y.cells.toArray 40) = W at HB0 HCX HCY
  by_cases hne : x.id = y.id
  · have hf : fitsB x y = false := by simp [fitsB, hne]
    have HF := Lib.hid hf
    have HNE := Lib.hid hne
    clear hf hne
    have hSX : HoldB W.drew w.heap.size x ∧ HoldB W.drew (w.heap.size + 1) y := ⟨HCX.out, HCY.out⟩
    have HSX := Lib.hid hSX
    clear hSX
    refine st_ (S := (fun w' => HoldB w' w.heap.size x ∧ HoldB w' (w.heap.size + 1) y)) 15 #[false, false, false, false, false, false, false, false, false, false, false, false, false, false, false] (by kernel_rfl) rfl (by rfl) HSX.out (fun hHeld => ?_)
    refine tk_ 0 (some 5) #[true, false, false, false, false, false, false, false, false, false, false, false, false, false, false] (v := ?_) (a' := ?_) rfl rfl (by kernel_rfl) (fun _ _ _ h => h) (yieldsIf_run rfl ?_) hHeld ?_ ?_
    rotate_left
    · intro w'
      go_simp
      with_reducible rfl
    rotate_left
    · simp only [Act.put, List.setIfInBounds_toArray, List.set_cons_zero, List.set_cons_succ]
      rfl
    refine tk_ 1 (some 6) #[true, true, false, false, false, false, false, false, false, false, false, false, false, false, false] rfl rfl (by kernel_rfl) (fun _ _ _ h => h) (yieldsIf_load rfl 34 (.tmp 5) rfl w.heap.size 0 rfl (idc x.id) _ (fun w' h => h.1.id) Tryz.underlying34 rfl (by rw [idc_length]; exact id_size)) hHeld (a' := ?_) ?_ ?_
    rotate_left
    · simp only [Act.put, List.setIfInBounds_toArray, List.set_cons_zero, List.set_cons_succ]
      rfl
    refine tk_ 2 (some 7) #[true, true, true, false, false, false, false, false, false, false, false, false, false, false, false] (v := ?_) (a' := ?_) rfl rfl (by kernel_rfl) (fun _ _ _ h => h) (yieldsIf_run rfl ?_) hHeld ?_ ?_
    rotate_left
    · intro w'
      go_simp
      with_reducible rfl
    rotate_left
    · simp only [Act.put, List.setIfInBounds_toArray, List.set_cons_zero, List.set_cons_succ]
      rfl
    refine tk_ 3 (some 8) #[true, true, true, true, false, false, false, false, false, false, false, false, false, false, false] rfl rfl (by kernel_rfl) (fun _ _ _ h => h) (yieldsIf_load rfl 34 (.tmp 7) rfl (w.heap.size + 1) 0 rfl (idc y.id) _ (fun w' h => h.2.id) Tryz.underlying34 rfl (by rw [idc_length]; exact id_size)) hHeld (a' := ?_) ?_ ?_
    rotate_left
    · simp only [Act.put, List.setIfInBounds_toArray, List.set_cons_zero, List.set_cons_succ]
      rfl
    refine tk_ 4 (some 9) #[true, true, true, true, true, false, false, false, false, false, false, false, false, false, false] rfl rfl (by kernel_rfl) (fun _ _ _ h => h) (yieldsIf_run (v := .bool false) rfl fun _ => (exec_neq_id rfl (.tmp 6) (.tmp 8) _ rfl x.id y.id rfl rfl).trans (by rw [decide_eq_true HNE.out]; rfl)) hHeld (a' := ?_) ?_ ?_
    rotate_left
    · simp only [Act.put, List.setIfInBounds_toArray, List.set_cons_zero, List.set_cons_succ]
      rfl
    refine tk_ 5 (some 10) #[true, true, true, true, true, true, false, false, false, false, false, false, false, false, false] (v := ?_) (a' := ?_) rfl rfl (by kernel_rfl) (fun _ _ _ h => h) (yieldsIf_run rfl ?_) hHeld ?_ ?_
    rotate_left
    · intro w'
      go_simp
      with_reducible rfl
    rotate_left
    · simp only [Act.put, List.setIfInBounds_toArray, List.set_cons_zero, List.set_cons_succ]
      rfl
    refine tk_ 6 (some 11) #[true, true, true, true, true, true, true, false, false, false, false, false, false, false, false] rfl rfl (by kernel_rfl) (fun _ _ _ h => h) (yieldsIf_off rfl) hHeld (a' := ?_) ?_ ?_
    rotate_left
    · simp only [Act.put, List.setIfInBounds_toArray, List.set_cons_zero, List.set_cons_succ]
      rfl
    refine tk_ 7 (some 12) #[true, true, true, true, true, true, true, true, false, false, false, false, false, false, false] rfl rfl (by kernel_rfl) (fun _ _ _ h => h) (yieldsIf_off rfl) hHeld (a' := ?_) ?_ ?_
    rotate_left
    · simp only [Act.put, List.setIfInBounds_toArray, List.set_cons_zero, List.set_cons_succ]
      rfl
    refine tk_ 8 (some 13) #[true, true, true, true, true, true, true, true, true, false, false, false, false, false, false] rfl rfl (by kernel_rfl) (fun _ _ _ h => h) (yieldsIf_off rfl) hHeld (a' := ?_) ?_ ?_
    rotate_left
    · simp only [Act.put, List.setIfInBounds_toArray, List.set_cons_zero, List.set_cons_succ]
      rfl
    refine tk_ 9 (some 14) #[true, true, true, true, true, true, true, true, true, true, false, false, false, false, false] rfl rfl (by kernel_rfl) (fun _ _ _ h => h) (yieldsIf_off rfl) hHeld (a' := ?_) ?_ ?_
    rotate_left
    · simp only [Act.put, List.setIfInBounds_toArray, List.set_cons_zero, List.set_cons_succ]
      rfl
    refine tk_ 10 (some 15) #[true, true, true, true, true, true, true, true, true, true, true, false, false, false, false] rfl rfl (by kernel_rfl) (fun _ _ _ h => h) (yieldsIf_off rfl) hHeld (a' := ?_) ?_ ?_
    rotate_left
    · simp only [Act.put, List.setIfInBounds_toArray, List.set_cons_zero, List.set_cons_succ]
      rfl
    refine tk_ 11 (some 16) #[true, true, true, true, true, true, true, true, true, true, true, true, false, false, false] rfl rfl (by kernel_rfl) (fun _ _ _ h => h) (yieldsIf_off rfl) hHeld (a' := ?_) ?_ ?_
    rotate_left
    · simp only [Act.put, List.setIfInBounds_toArray, List.set_cons_zero, List.set_cons_succ]
      rfl
    refine tk_ 12 (some 17) #[true, true, true, true, true, true, true, true, true, true, true, true, true, false, false] rfl rfl (by kernel_rfl) (fun _ _ _ h => h) (yieldsIf_off rfl) hHeld (a' := ?_) ?_ ?_
    rotate_left
    · simp only [Act.put, List.setIfInBounds_toArray, List.set_cons_zero, List.set_cons_succ]
      rfl
    refine tk_ 13 (some 18) #[true, true, true, true, true, true, true, true, true, true, true, true, true, true, false] (v := ?_) (a' := ?_) rfl rfl (by kernel_rfl) (fun _ _ _ h => h) (yieldsIf_run rfl ?_) hHeld ?_ ?_
    rotate_left
    · intro w'
      go_simp
      with_reducible rfl
    rotate_left
    · simp only [Act.put, List.setIfInBounds_toArray, List.set_cons_zero, List.set_cons_succ]
      rfl
    refine tk_ 14 (some 4) #[true, true, true, true, true, true, true, true, true, true, true, true, true, true, true] (v := ?_) (a' := ?_) rfl rfl (by kernel_rfl) (fun _ _ _ h => h) (yieldsIf_run rfl ?_) hHeld ?_ ?_
    rotate_left
    · intro w'
      go_simp
      with_reducible rfl
    rotate_left
    · simp only [Act.put, List.setIfInBounds_toArray, List.set_cons_zero, List.set_cons_succ]
      rfl
    refine wpAnyH_done (by kernel_rfl) ?_ _
    change Exit.then _ _ _ _ W.drew
    have HBd : Hid (Below w.heap.size w W.drew) := HB0.out.drew
    generalize W.drew = wd at HBd
    go_wp2
    go_ret
    exact ⟨by rw [HF.out]; rfl, HBd.out⟩
  · have hf : decide (x.id = y.id) = false := decide_eq_false hne
    have hff : fitsB x y = ((famS x.x.h).toList == (famS y.x.h).toList) := by
      rw [fitsB, hf]
      show decide (famS x.x.h = famS y.x.h) = _
      rw [Bool.eq_iff_iff]
      simp only [decide_eq_true_eq, beq_iff_eq]
      exact ⟨fun h => by rw [h], fun h => by
        have h2 : (famS x.x.h).data = (famS y.x.h).data := Array.toList_inj.1 (by simpa [ByteArray.toList_eq] using h)
        exact congrArg ByteArray.mk h2⟩
    have HF := Lib.hid hff
    have HNE := Lib.hid hf
    clear hff hf hne
    have hSX : HoldB W.drew w.heap.size x ∧ HoldB W.drew (w.heap.size + 1) y := ⟨HCX.out, HCY.out⟩
    have HXd : Hid (x.x.At ok W.drew) := Lib.hid (HX.out.below HB0.out.drew)
    have HYd : Hid (y.x.At ok W.drew) := Lib.hid (HY.out.below HB0.out.drew)
    have hz : w.heap.size + 1 < W.drew.heap.size := (World.block_lt_of_cell? W _ (HCY.out 0 _ (List.getElem?_eq_getElem (by rw [LB.cells_length]; decide))))
    have HSX := Lib.hid hSX
    clear hSX
    refine st_ (S := (fun w' => HoldB w' w.heap.size x ∧ HoldB w' (w.heap.size + 1) y)) 15 #[false, false, false, false, false, false, false, false, false, false, false, false, false, false, false] (by kernel_rfl) rfl (by rfl) HSX.out (fun hHeld => ?_)
    refine tk_ 0 (some 5) #[true, false, false, false, false, false, false, false, false, false, false, false, false, false, false] (v := ?_) (a' := ?_) rfl rfl (by kernel_rfl) (fun _ _ _ h => h) (yieldsIf_run rfl ?_) hHeld ?_ ?_
    rotate_left
    · intro w'
      go_simp
      with_reducible rfl
    rotate_left
    · simp only [Act.put, List.setIfInBounds_toArray, List.set_cons_zero, List.set_cons_succ]
      rfl
    refine tk_ 1 (some 6) #[true, true, false, false, false, false, false, false, false, false, false, false, false, false, false] rfl rfl (by kernel_rfl) (fun _ _ _ h => h) (yieldsIf_load rfl 34 (.tmp 5) rfl w.heap.size 0 rfl (idc x.id) _ (fun w' h => h.1.id) Tryz.underlying34 rfl (by rw [idc_length]; exact id_size)) hHeld (a' := ?_) ?_ ?_
    rotate_left
    · simp only [Act.put, List.setIfInBounds_toArray, List.set_cons_zero, List.set_cons_succ]
      rfl
    refine tk_ 2 (some 7) #[true, true, true, false, false, false, false, false, false, false, false, false, false, false, false] (v := ?_) (a' := ?_) rfl rfl (by kernel_rfl) (fun _ _ _ h => h) (yieldsIf_run rfl ?_) hHeld ?_ ?_
    rotate_left
    · intro w'
      go_simp
      with_reducible rfl
    rotate_left
    · simp only [Act.put, List.setIfInBounds_toArray, List.set_cons_zero, List.set_cons_succ]
      rfl
    refine tk_ 3 (some 8) #[true, true, true, true, false, false, false, false, false, false, false, false, false, false, false] rfl rfl (by kernel_rfl) (fun _ _ _ h => h) (yieldsIf_load rfl 34 (.tmp 7) rfl (w.heap.size + 1) 0 rfl (idc y.id) _ (fun w' h => h.2.id) Tryz.underlying34 rfl (by rw [idc_length]; exact id_size)) hHeld (a' := ?_) ?_ ?_
    rotate_left
    · simp only [Act.put, List.setIfInBounds_toArray, List.set_cons_zero, List.set_cons_succ]
      rfl
    refine tk_ 4 (some 9) #[true, true, true, true, true, false, false, false, false, false, false, false, false, false, false] rfl rfl (by kernel_rfl) (fun _ _ _ h => h) (yieldsIf_run (v := .bool true) rfl fun _ => (exec_neq_id rfl (.tmp 6) (.tmp 8) _ rfl x.id y.id rfl rfl).trans (by rw [HNE.out]; rfl)) hHeld (a' := ?_) ?_ ?_
    rotate_left
    · simp only [Act.put, List.setIfInBounds_toArray, List.set_cons_zero, List.set_cons_succ]
      rfl
    refine tk_ 5 (some 10) #[true, true, true, true, true, true, false, false, false, false, false, false, false, false, false] (v := ?_) (a' := ?_) rfl rfl (by kernel_rfl) (fun _ _ _ h => h) (yieldsIf_run rfl ?_) hHeld ?_ ?_
    rotate_left
    · intro w'
      go_simp
      with_reducible rfl
    rotate_left
    · simp only [Act.put, List.setIfInBounds_toArray, List.set_cons_zero, List.set_cons_succ]
      rfl
    refine tk_ 6 (some 11) #[true, true, true, true, true, true, true, false, false, false, false, false, false, false, false] (v := ?_) (a' := ?_) rfl rfl (by kernel_rfl) (fun _ _ _ h => h) (yieldsIf_run rfl ?_) hHeld ?_ ?_
    rotate_left
    · intro w'
      go_simp
      with_reducible rfl
    rotate_left
    · simp only [Act.put, List.setIfInBounds_toArray, List.set_cons_zero, List.set_cons_succ]
      rfl
    refine tk_ 7 (some 12) #[true, true, true, true, true, true, true, true, false, false, false, false, false, false, false] rfl rfl (by kernel_rfl) (fun _ _ _ h => h) (yieldsIf_load rfl 38 (.tmp 11) rfl w.heap.size 32 rfl x.x.cells _ (fun w' h => h.1.hdr) Tryz.underlying38 rfl hdr_size) hHeld (a' := ?_) ?_ ?_
    rotate_left
    · simp only [Act.put, List.setIfInBounds_toArray, List.set_cons_zero, List.set_cons_succ]
      rfl
    refine tk_ 9 (some 14) #[true, true, true, true, true, true, true, true, false, true, false, false, false, false, false] (v := ?_) (a' := ?_) rfl rfl (by kernel_rfl) (fun _ _ _ h => h) (yieldsIf_run rfl ?_) hHeld ?_ ?_
    rotate_left
    · intro w'
      go_simp
      with_reducible rfl
    rotate_left
    · simp only [Act.put, List.setIfInBounds_toArray, List.set_cons_zero, List.set_cons_succ]
      rfl
    refine tk_ 10 (some 15) #[true, true, true, true, true, true, true, true, false, true, true, false, false, false, false] rfl rfl (by kernel_rfl) (fun _ _ _ h => h) (yieldsIf_load rfl 38 (.tmp 14) rfl (w.heap.size + 1) 32 rfl y.x.cells _ (fun w' h => h.2.hdr) Tryz.underlying38 rfl hdr_size) hHeld (a' := ?_) ?_ ?_
    rotate_left
    · simp only [Act.put, List.setIfInBounds_toArray, List.set_cons_zero, List.set_cons_succ]
      rfl
    refine call_ 8 (some 13) #[true, true, true, true, true, true, true, true, true, true, true, false, false, false, false] rfl rfl (by kernel_rfl) rfl 151 _ (by kernel_rfl) (family_any _ x.x ok HXd.out okx ndx) ?_
    rintro e w1 ⟨rfl, hb1⟩
    have hB1 : Below w.heap.size w w1 := HB0.out.drew.trans (hb1.mono HB0.out.size)
    have hz1 : w.heap.size + 1 < w1.heap.size := Nat.lt_of_lt_of_le hz hb1.size
    refine ⟨_, rfl, ⟨hHeld.1.below hb1 (Nat.lt_of_succ_lt hz), hHeld.2.below hb1 hz⟩, fun hHeld => ⟨?_, ?_, ?_⟩⟩
    rotate_left
    · simp only [Act.put, List.setIfInBounds_toArray, List.set_cons_zero, List.set_cons_succ]
      rfl
    refine call_ 11 (some 16) #[true, true, true, true, true, true, true, true, true, true, true, true, false, false, false] rfl rfl (by kernel_rfl) rfl 151 _ (by kernel_rfl) (family_any _ y.x ok (HY.out.below hB1) oky ndy) ?_
    rintro e w2 ⟨rfl, hb2⟩
    have hB2 : Below w.heap.size w w2 := hB1.trans (hb2.mono hB1.size)
    refine ⟨_, rfl, ⟨hHeld.1.below hb2 (Nat.lt_of_succ_lt hz1), hHeld.2.below hb2 hz1⟩, fun hHeld => ⟨?_, ?_, ?_⟩⟩
    rotate_left
    · simp only [Act.put, List.setIfInBounds_toArray, List.set_cons_zero, List.set_cons_succ]
      rfl
    refine tk_ 12 (some 17) #[true, true, true, true, true, true, true, true, true, true, true, true, true, false, false] rfl rfl (by kernel_rfl) (fun _ _ _ h => h) (yieldsIf_run (v := .bool ((famS x.x.h).toList == (famS y.x.h).toList)) rfl fun _ => rfl) hHeld (a' := ?_) ?_ ?_
    rotate_left
    · simp only [Act.put, List.setIfInBounds_toArray, List.set_cons_zero, List.set_cons_succ]
      rfl
    refine tk_ 13 (some 18) #[true, true, true, true, true, true, true, true, true, true, true, true, true, true, false] (v := ?_) (a' := ?_) rfl rfl (by kernel_rfl) (fun _ _ _ h => h) (yieldsIf_run rfl ?_) hHeld ?_ ?_
    rotate_left
    · intro w'
      go_simp
      with_reducible rfl
    rotate_left
    · simp only [Act.put, List.setIfInBounds_toArray, List.set_cons_zero, List.set_cons_succ]
      rfl
    refine tk_ 14 (some 4) #[true, true, true, true, true, true, true, true, true, true, true, true, true, true, true] (v := ?_) (a' := ?_) rfl rfl (by kernel_rfl) (fun _ _ _ h => h) (yieldsIf_run rfl ?_) hHeld ?_ ?_
    rotate_left
    · intro w'
      go_simp
      with_reducible rfl
    rotate_left
    · simp only [Act.put, List.setIfInBounds_toArray, List.set_cons_zero, List.set_cons_succ]
      rfl
    refine wpAnyH_done (by kernel_rfl) ?_ _
    change Exit.then _ _ _ _ _
    go_wp2
    go_ret
    exact ⟨by rw [HF.out]; rfl, hB2⟩
end Go.Proofs.YthpcedficlhanaaGreatDoor
namespace Go.Proofs.YthpcedficlhanaaGreatDoor

/-- How many of the first i have a miner. -/
def minerC (zs : List LB) (i : Nat) (m : Int) : Nat := ((zs.take i).filter fun b => decide (b.x.h.miner = m)).length
theorem minerC_le (zs : List LB) (i : Nat) (m : Int) : minerC zs i m ≤ i := by
  unfold minerC
  exact Nat.le_trans (List.length_filter_le _ _) (List.length_take_le _ _)
theorem minerC_succ (zs : List LB) (i : Nat) (x : LB) (hx : zs[i]? = some x) (m : Int) : minerC zs (i + 1) m = if m = x.x.h.miner then minerC zs i m + 1 else minerC zs i m := by
  unfold minerC
  rw [List.take_add_one, hx, List.filter_append]
  by_cases h : m = x.x.h.miner
  · subst h; simp
  · rw [if_neg h]; simp; exact fun e => h (Eq.symm e)
def fits? (a b : Option LB) : Bool := match a, b with | some a, some b => fitsB a b | _, _ => false
/-- The first i are good. -/
def goodN (zs : List LB) : Nat → Bool
  | 0 => decide (0 < zs.length)
  | i + 1 => goodN zs i && (match zs[i]? with | some x => decide (minerC zs (i + 1) x.x.h.miner = 1) | none => false) && (decide (i = 0) || fits? zs[i - 1]? zs[i]?)
theorem goodN_off {zs : List LB} {i : Nat} (h : goodN zs i = false) : goodN zs (i + 1) = false := by simp [goodN, h]
theorem goodN_twice {zs : List LB} {i : Nat} {x : LB} (hx : zs[i]? = some x) (h : minerC zs (i + 1) x.x.h.miner ≠ 1) : goodN zs (i + 1) = false := by simp [goodN, hx, h]
theorem goodN_first {zs : List LB} {x : LB} (hg : goodN zs 0 = true) (hx : zs[0]? = some x) (h : minerC zs (0 + 1) x.x.h.miner = 1) : goodN zs (0 + 1) = true := by
  rw [goodN, hg, hx]
  simp only [Bool.true_and, decide_true, Bool.true_or, Bool.and_true, decide_eq_true_eq]
  exact h
theorem goodN_next {zs : List LB} {p : Nat} {x y : LB} (hg : goodN zs (p + 1) = true) (hx : zs[p + 1]? = some x) (hy : zs[p]? = some y) (h : minerC zs (p + 1 + 1) x.x.h.miner = 1) : goodN zs (p + 1 + 1) = fitsB y x := by
  rw [goodN, hg, hx]
  simp [h, hy, fits?]
def goodB (zs : List LB) : Bool := goodN zs zs.length
end Go.Proofs.YthpcedficlhanaaGreatDoor
namespace Go.Proofs.YthpcedficlhanaaGreatDoor
open Go.RowKit Go.Maps

theorem lawInt : Keyed Tryz.prog 3 := int_keyed Tryz.underlying3
theorem zeroInt (w : World) : (zeroValue 3).run Tryz.prog w = .ok (.int .i64 0) w := by kernel_rfl
theorem i64_wf {x : Int} (h0 : -9223372036854775808 ≤ x) (h1 : x ≤ 9223372036854775807) : (Lit.int .i64 x).wf = true := WalkArith.wf_i64 ⟨h0, h1⟩

/-- A map that answers f. -/
def MapI (w : World) (b n : Nat) (f : Int → Int) : Prop :=
  ∃ D : DataW Unit, w.ownsMap Tryz.prog 3 (plainElem Tryz.prog 3) b n D ∧ ∀ x, D.atKey (.int .i64 x) (.lit (.int .i64 0)) = .lit (.int .i64 (f x))
section
variable {w w' : World} {b n : Nat} {f : Int → Int}
theorem MapI.made (w : World) : MapI (w.alloc (.map #[] 0)) w.heap.size 0 fun _ => 0 := ⟨.map [], World.ownsMap_made _ _ _ _, fun _ => rfl⟩
theorem MapI.lt (h : MapI w b n f) : b < w.heap.size := h.elim fun _ h => h.1.lt
theorem MapI.kept {row : Option Nat} (h : MapI w b n f) (hg : w.grownBy w' row) (hne : some b ≠ row) : MapI w' b n f := h.elim fun D h => ⟨D, h.1.kept hg hne, h.2⟩
theorem MapI.below (h : MapI w b n f) (hb : Below w.heap.size w w') : MapI w' b n f := h.kept (row := none) ⟨hb.os, hb.tape, hb.output, hb.size, fun i hi _ => hb.block i hi⟩ (by simp)
theorem MapI.alloc (h : MapI w b n f) (o : Obj) : MapI (w.alloc o) b n f := h.elim fun D h => ⟨D, h.1.alloc o, h.2⟩
theorem MapI.drew (h : MapI w b n f) : MapI w.drew b n f := h
theorem MapI.lookup (h : MapI w b n f) (x : Int) (h0 : -9223372036854775808 ≤ x) (h1 : x ≤ 9223372036854775807) : (Instr.lookup 140 (.map (some b)) (.int .i64 x) false).run Tryz.prog w = .ok (.int .i64 (f x)) w := by
  obtain ⟨D, hD, hf⟩ := h
  obtain ⟨c, hr, hc, -⟩ := hD.lookup_int lawInt Tryz.underlying140 Tryz.underlying3 (zeroInt w) (keyOf_int_mk Tryz.underlying3 (i64_wf h0 h1))
  have he := (hf x).symm.trans hc
  have hc : c = f x := by
    have h2 := DataW.lit.inj he
    exact (Lit.int.inj h2).2.symm
  rw [hc] at hr
  exact hr
theorem MapI.update (h : MapI w b n f) (x v : Int) (h0 : -9223372036854775808 ≤ x) (h1 : x ≤ 9223372036854775807) (hv0 : -9223372036854775808 ≤ v) (hv1 : v ≤ 9223372036854775807) (hn : n < 1099511627776) :
    ∃ w', (Instr.mapUpdate 140 (.map (some b)) (.int .i64 x) (.int .i64 v)).run Tryz.prog w = .ok () w' ∧ MapI w' b (n + 1) (fun y => if y = x then v else f y) ∧ w.grownBy w' (some b) := by
  obtain ⟨D, hD, hf⟩ := h
  obtain ⟨w', hr, ho, hg⟩ := hD.update lawInt Tryz.underlying140 (by unfold maxLen; omega) (keyOf_int_mk Tryz.underlying3 (i64_wf h0 h1)) (plainElem_int Tryz.underlying3 (i64_wf hv0 hv1))
  have hM : IsMap D := by obtain ⟨es, clock, _, _, _, rfl⟩ := hD; exact ⟨_, rfl⟩
  refine ⟨w', hr, ⟨_, ho, fun y => ?_⟩, hg⟩
  show _ = DataW.lit (.int .i64 (if y = x then v else f y))
  by_cases e : y = x
  · subst e
    rw [if_pos rfl, atKey_put_same hM (by trivial)]
  · rw [if_neg e, atKey_put_other (by intro h; injection h with _ h; exact e h)]
    exact hf y
variable {ops : Array Oper} {rest : List Oper} {o : Oper} {a : Act} {Q : Exit → Act → World → Prop}
theorem wpl_lookupI (h : MapI w b n f) (hg : o.guard = none) (m x : Operand) (ho : o.op = .lookup 140 m x false) (hm : a.eval m = .map (some b)) (k : Int) (hx : a.eval x = .int .i64 k) (h0 : -9223372036854775808 ≤ k) (h1 : k ≤ 9223372036854775807)
    (hK : wpList Tryz.prog ops Q rest (a.put o.dst (.int .i64 (f k))) w) : wpList Tryz.prog ops Q (o :: rest) a w :=
  wpList_plain hg fun K' hK' => by
    unfold Oper.wp execOp
    simp only [ho, hm, hx, Sem.run_bind, h.lookup k h0 h1, Result.andThen_ok, Sem.run_pure]
    exact hK' _ _ hK
theorem wpl_updateI (h : MapI w b n f) (hg : o.guard = none) (m x v : Operand) (ho : o.op = .mapUpdate 140 m x v) (hm : a.eval m = .map (some b)) (k c : Int) (hx : a.eval x = .int .i64 k) (hv : a.eval v = .int .i64 c) (h0 : -9223372036854775808 ≤ k) (h1 : k ≤ 9223372036854775807) (hv0 : -9223372036854775808 ≤ c) (hv1 : c ≤ 9223372036854775807) (hn : n < 1099511627776)
    (hK : ∀ w', MapI w' b (n + 1) (fun y => if y = k then c else f y) → w.grownBy w' (some b) → wpList Tryz.prog ops Q rest (a.put o.dst undef) w') : wpList Tryz.prog ops Q (o :: rest) a w :=
  wpList_plain hg fun K' hK' => by
    obtain ⟨w', hr, r1, r2⟩ := h.update k c h0 h1 hv0 hv1 hn
    unfold Oper.wp execOp
    simp only [ho, hm, hx, hv, Sem.run_bind, hr, Result.andThen_ok, Sem.run_pure]
    exact hK' _ _ (hK w' r1 r2)
/-- The same where orders are drawn. -/
theorem exec_lookupI (h : MapI w b n f) (m x : Operand) (ho : o.op = .lookup 140 m x false) (hm : a.eval m = .map (some b)) (k : Int) (hx : a.eval x = .int .i64 k) (h0 : -9223372036854775808 ≤ k) (h1 : k ≤ 9223372036854775807) :
    (execOp a.eval o).run Tryz.prog w = .ok (.value (.int .i64 (f k))) w := by
  unfold execOp
  simp only [ho, hm, hx, Sem.run_bind, h.lookup k h0 h1, Result.andThen_ok, Sem.run_pure]
end

section
variable {P : Program}
theorem results_row_tmp {fn : Func} {p u : Tmp} {ty : TypeId} (h : fn.results = #[.cell p ty, .tmp u]) (tmps : Array Value) (w : World) (g : Nat) (t : TypeId) (cs : Array Value) (fr : Nat × Nat) (d : TypeDesc)
    (hp : tmps.getD p undef = .pointer (some ⟨g, 0, none⟩)) (hg : w.heap[g]? = some (.cells cs t fr))
    (hu : P.underlying ty = some d) (hd : (match d with | .struct _ | .array _ _ => true | _ => false) = true) (hi : (P.info? ty).map (·.size) = some cs.size) (v : Value) (hv : tmps.getD u undef = v) :
    (results fn tmps).run P w = .ok (.tuple #[.agg cs, v]) w := by
  have hp' : tmps[p]?.getD undef = .pointer (some ⟨g, 0, none⟩) := by simpa using hp
  have hv' : tmps[u]?.getD undef = v := by simpa using hv
  simp [results, h, hp', hv', asAddr, run_loadVar_row w g t ty cs fr d hg hu hd hi]
end
end Go.Proofs.YthpcedficlhanaaGreatDoor
