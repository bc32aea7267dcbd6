/- tipset.fits. -/
import Derived.Test.YthpcedficlhanaaGreatDoorFit
import Derived.Test.YthpcedficlhanaaGreatDoorReg
namespace Go.Proofs.YthpcedficlhanaaGreatDoor
open Go.RowKit

/-- A family, as a text. -/
def famS (h : Hdr) : ByteArray := ⟨(famB h).toArray⟩
def fitsB (x y : LB) : Bool := !decide (x.id = y.id) && decide (famS x.x.h = famS y.x.h)

theorem LB.cells_hdr (b : LB) (j : Nat) (u : Value) (h : b.x.cells[j]? = some u) : b.cells[32 + j]? = some u := by
  rw [LB.cells, List.getElem?_append_right (by rw [idc_length]; omega), idc_length, show 32 + j - 32 = j by omega]
  exact h

/-- A block lies whole at the head of memory block b. -/
def HoldB (w : World) (b : Nat) (x : LB) : Prop := ∀ j u, x.cells[j]? = some u → w.cell? ⟨b, j, none⟩ = some u
theorem HoldB.id {w : World} {b : Nat} {x : LB} (h : HoldB w b x) : ∀ j u, (idc x.id)[j]? = some u → w.cell? ⟨b, 0 + j, none⟩ = some u := fun j u hu => by rw [Nat.zero_add]; exact h j u (x.cells_id j u hu)
theorem HoldB.hdr {w : World} {b : Nat} {x : LB} (h : HoldB w b x) : ∀ j u, x.x.cells[j]? = some u → w.cell? ⟨b, 32 + j, none⟩ = some u := fun j u hu => h _ u (x.cells_hdr j u hu)
theorem HoldB.below {w w' : World} {b B : Nat} {x : LB} (h : HoldB w b x) (hb : Below B w w') (hlt : b < B) : HoldB w' b x := fun j u hu => (hb.cell (p := ⟨b, j, none⟩) hlt).trans (h j u hu)

set_option maxRecDepth 100000 in
set_option maxHeartbeats 1000000 in
theorem fits_any (w : World) (x y : LB) (ok : Nat → Prop) (hx : x.x.At ok w) (hy : y.x.At ok w) (okx : x.x.h.Ok) (oky : y.x.h.Ok) (ndx : x.x.h.parents.Nodup) (ndy : y.x.h.parents.Nodup) :
    Calls Tryz.prog 96 #[.agg x.cells.toArray, .agg y.cells.toArray] w fun e w' => e = .returned (.bool (fitsB x y)) ∧ Below w.heap.size w w' := by
  have hB0 : Below w.heap.size w ((w.alloc (.cells x.cells.toArray 40)).alloc (.cells y.cells.toArray 40)) := ((Below.refl _ w).alloc (Nat.le_refl _) _).alloc (by simp) _
  have hcx : HoldB ((w.alloc (.cells x.cells.toArray 40)).alloc (.cells y.cells.toArray 40)) w.heap.size x := fun j u hu => cell_block (fr := (0, 0)) (T := 40) (by rw [heap_alloc_if, if_neg (by simp), heap_alloc_if, if_pos rfl]) (by simpa using hu)
  have hcy : HoldB ((w.alloc (.cells x.cells.toArray 40)).alloc (.cells y.cells.toArray 40)) (w.heap.size + 1) y := fun j u hu => cell_block (fr := (0, 0)) (T := 40) (by rw [heap_alloc_if, if_pos (by simp)]) (by simpa using hu)
  have HB0 := Lib.hid hB0
  have HX := Lib.hid hx
  have HY := Lib.hid hy
  have HCX := Lib.hid hcx
  have HCY := Lib.hid hcy
  clear hB0 hx hy hcx hcy
  go_enter Tryz.func96, Tryz.ntmps96
  go_wp2
  generalize (w.alloc (.cells x.cells.toArray 40)).alloc (.cells y.cells.toArray 40) = W at HB0 HCX HCY
  by_cases hne : x.id = y.id
  · have hf : fitsB x y = false := by simp [fitsB, hne]
    have HF := Lib.hid hf
    have HNE := Lib.hid hne
    clear hf hne
    have hSX : HoldB W.drew w.heap.size x ∧ HoldB W.drew (w.heap.size + 1) y := ⟨HCX.out, HCY.out⟩
    have HSX := Lib.hid hSX
    clear hSX
    refine st_ (S := (fun w' => HoldB w' w.heap.size x ∧ HoldB w' (w.heap.size + 1) y)) 15 #[false, false, false, false, false, false, false, false, false, false, false, false, false, false, false] (by kernel_rfl) rfl (by rfl) HSX.out (fun hHeld => ?_)
    refine tk_ 0 (some 5) #[true, false, false, false, false, false, false, false, false, false, false, false, false, false, false] (v := ?_) (a' := ?_) rfl rfl (by kernel_rfl) (fun _ _ _ h => h) (yieldsIf_run rfl ?_) hHeld ?_ ?_
    rotate_left
    · intro w'
      go_simp
      with_reducible rfl
    rotate_left
    · simp only [Act.put, List.setIfInBounds_toArray, List.set_cons_zero, List.set_cons_succ]
      rfl
    refine tk_ 1 (some 6) #[true, true, false, false, false, false, false, false, false, false, false, false, false, false, false] rfl rfl (by kernel_rfl) (fun _ _ _ h => h) (yieldsIf_load rfl 34 (.tmp 5) rfl w.heap.size 0 rfl (idc x.id) _ (fun w' h => h.1.id) Tryz.underlying34 rfl (by rw [idc_length]; exact id_size)) hHeld (a' := ?_) ?_ ?_
    rotate_left
    · simp only [Act.put, List.setIfInBounds_toArray, List.set_cons_zero, List.set_cons_succ]
      rfl
    refine tk_ 2 (some 7) #[true, true, true, false, false, false, false, false, false, false, false, false, false, false, false] (v := ?_) (a' := ?_) rfl rfl (by kernel_rfl) (fun _ _ _ h => h) (yieldsIf_run rfl ?_) hHeld ?_ ?_
    rotate_left
    · intro w'
      go_simp
      with_reducible rfl
    rotate_left
    · simp only [Act.put, List.setIfInBounds_toArray, List.set_cons_zero, List.set_cons_succ]
      rfl
    refine tk_ 3 (some 8) #[true, true, true, true, false, false, false, false, false, false, false, false, false, false, false] rfl rfl (by kernel_rfl) (fun _ _ _ h => h) (yieldsIf_load rfl 34 (.tmp 7) rfl (w.heap.size + 1) 0 rfl (idc y.id) _ (fun w' h => h.2.id) Tryz.underlying34 rfl (by rw [idc_length]; exact id_size)) hHeld (a' := ?_) ?_ ?_
    rotate_left
    · simp only [Act.put, List.setIfInBounds_toArray, List.set_cons_zero, List.set_cons_succ]
      rfl
    refine tk_ 4 (some 9) #[true, true, true, true, true, false, false, false, false, false, false, false, false, false, false] rfl rfl (by kernel_rfl) (fun _ _ _ h => h) (yieldsIf_run (v := .bool false) rfl fun _ => (exec_neq_id rfl (.tmp 6) (.tmp 8) _ rfl x.id y.id rfl rfl).trans (by rw [decide_eq_true HNE.out]; rfl)) hHeld (a' := ?_) ?_ ?_
    rotate_left
    · simp only [Act.put, List.setIfInBounds_toArray, List.set_cons_zero, List.set_cons_succ]
      rfl
    refine tk_ 5 (some 10) #[true, true, true, true, true, true, false, false, false, false, false, false, false, false, false] (v := ?_) (a' := ?_) rfl rfl (by kernel_rfl) (fun _ _ _ h => h) (yieldsIf_run rfl ?_) hHeld ?_ ?_
    rotate_left
    · intro w'
      go_simp
      with_reducible rfl
    rotate_left
    · simp only [Act.put, List.setIfInBounds_toArray, List.set_cons_zero, List.set_cons_succ]
      rfl
    refine tk_ 6 (some 11) #[true, true, true, true, true, true, true, false, false, false, false, false, false, false, false] rfl rfl (by kernel_rfl) (fun _ _ _ h => h) (yieldsIf_off rfl) hHeld (a' := ?_) ?_ ?_
    rotate_left
    · simp only [Act.put, List.setIfInBounds_toArray, List.set_cons_zero, List.set_cons_succ]
      rfl
    refine tk_ 7 (some 12) #[true, true, true, true, true, true, true, true, false, false, false, false, false, false, false] rfl rfl (by kernel_rfl) (fun _ _ _ h => h) (yieldsIf_off rfl) hHeld (a' := ?_) ?_ ?_
    rotate_left
    · simp only [Act.put, List.setIfInBounds_toArray, List.set_cons_zero, List.set_cons_succ]
      rfl
    refine tk_ 8 (some 13) #[true, true, true, true, true, true, true, true, true, false, false, false, false, false, false] rfl rfl (by kernel_rfl) (fun _ _ _ h => h) (yieldsIf_off rfl) hHeld (a' := ?_) ?_ ?_
    rotate_left
    · simp only [Act.put, List.setIfInBounds_toArray, List.set_cons_zero, List.set_cons_succ]
      rfl
    refine tk_ 9 (some 14) #[true, true, true, true, true, true, true, true, true, true, false, false, false, false, false] rfl rfl (by kernel_rfl) (fun _ _ _ h => h) (yieldsIf_off rfl) hHeld (a' := ?_) ?_ ?_
    rotate_left
    · simp only [Act.put, List.setIfInBounds_toArray, List.set_cons_zero, List.set_cons_succ]
      rfl
    refine tk_ 10 (some 15) #[true, true, true, true, true, true, true, true, true, true, true, false, false, false, false] rfl rfl (by kernel_rfl) (fun _ _ _ h => h) (yieldsIf_off rfl) hHeld (a' := ?_) ?_ ?_
    rotate_left
    · simp only [Act.put, List.setIfInBounds_toArray, List.set_cons_zero, List.set_cons_succ]
      rfl
    refine tk_ 11 (some 16) #[true, true, true, true, true, true, true, true, true, true, true, true, false, false, false] rfl rfl (by kernel_rfl) (fun _ _ _ h => h) (yieldsIf_off rfl) hHeld (a' := ?_) ?_ ?_
    rotate_left
    · simp only [Act.put, List.setIfInBounds_toArray, List.set_cons_zero, List.set_cons_succ]
      rfl
    refine tk_ 12 (some 17) #[true, true, true, true, true, true, true, true, true, true, true, true, true, false, false] rfl rfl (by kernel_rfl) (fun _ _ _ h => h) (yieldsIf_off rfl) hHeld (a' := ?_) ?_ ?_
    rotate_left
    · simp only [Act.put, List.setIfInBounds_toArray, List.set_cons_zero, List.set_cons_succ]
      rfl
    refine tk_ 13 (some 18) #[true, true, true, true, true, true, true, true, true, true, true, true, true, true, false] (v := ?_) (a' := ?_) rfl rfl (by kernel_rfl) (fun _ _ _ h => h) (yieldsIf_run rfl ?_) hHeld ?_ ?_
    rotate_left
    · intro w'
      go_simp
      with_reducible rfl
    rotate_left
    · simp only [Act.put, List.setIfInBounds_toArray, List.set_cons_zero, List.set_cons_succ]
      rfl
    refine tk_ 14 (some 4) #[true, true, true, true, true, true, true, true, true, true, true, true, true, true, true] (v := ?_) (a' := ?_) rfl rfl (by kernel_rfl) (fun _ _ _ h => h) (yieldsIf_run rfl ?_) hHeld ?_ ?_
    rotate_left
    · intro w'
      go_simp
      with_reducible rfl
    rotate_left
    · simp only [Act.put, List.setIfInBounds_toArray, List.set_cons_zero, List.set_cons_succ]
      rfl
    refine wpAnyH_done (by kernel_rfl) ?_ _
    change Exit.then _ _ _ _ W.drew
    have HBd : Hid (Below w.heap.size w W.drew) := HB0.out.drew
    generalize W.drew = wd at HBd
    go_wp2
    go_ret
    exact ⟨by rw [HF.out]; rfl, HBd.out⟩
  · have hf : decide (x.id = y.id) = false := decide_eq_false hne
    have hff : fitsB x y = ((famS x.x.h).toList == (famS y.x.h).toList) := by
      rw [fitsB, hf]
      show decide (famS x.x.h = famS y.x.h) = _
      rw [Bool.eq_iff_iff]
      simp only [decide_eq_true_eq, beq_iff_eq]
      exact ⟨fun h => by rw [h], fun h => by
        have h2 : (famS x.x.h).data = (famS y.x.h).data := Array.toList_inj.1 (by simpa [ByteArray.toList_eq] using h)
        exact congrArg ByteArray.mk h2⟩
    have HF := Lib.hid hff
    have HNE := Lib.hid hf
    clear hff hf hne
    have hSX : HoldB W.drew w.heap.size x ∧ HoldB W.drew (w.heap.size + 1) y := ⟨HCX.out, HCY.out⟩
    have HXd : Hid (x.x.At ok W.drew) := Lib.hid (HX.out.below HB0.out.drew)
    have HYd : Hid (y.x.At ok W.drew) := Lib.hid (HY.out.below HB0.out.drew)
    have hz : w.heap.size + 1 < W.drew.heap.size := (World.block_lt_of_cell? W _ (HCY.out 0 _ (List.getElem?_eq_getElem (by rw [LB.cells_length]; decide))))
    have HSX := Lib.hid hSX
    clear hSX
    refine st_ (S := (fun w' => HoldB w' w.heap.size x ∧ HoldB w' (w.heap.size + 1) y)) 15 #[false, false, false, false, false, false, false, false, false, false, false, false, false, false, false] (by kernel_rfl) rfl (by rfl) HSX.out (fun hHeld => ?_)
    refine tk_ 0 (some 5) #[true, false, false, false, false, false, false, false, false, false, false, false, false, false, false] (v := ?_) (a' := ?_) rfl rfl (by kernel_rfl) (fun _ _ _ h => h) (yieldsIf_run rfl ?_) hHeld ?_ ?_
    rotate_left
    · intro w'
      go_simp
      with_reducible rfl
    rotate_left
    · simp only [Act.put, List.setIfInBounds_toArray, List.set_cons_zero, List.set_cons_succ]
      rfl
    refine tk_ 1 (some 6) #[true, true, false, false, false, false, false, false, false, false, false, false, false, false, false] rfl rfl (by kernel_rfl) (fun _ _ _ h => h) (yieldsIf_load rfl 34 (.tmp 5) rfl w.heap.size 0 rfl (idc x.id) _ (fun w' h => h.1.id) Tryz.underlying34 rfl (by rw [idc_length]; exact id_size)) hHeld (a' := ?_) ?_ ?_
    rotate_left
    · simp only [Act.put, List.setIfInBounds_toArray, List.set_cons_zero, List.set_cons_succ]
      rfl
    refine tk_ 2 (some 7) #[true, true, true, false, false, false, false, false, false, false, false, false, false, false, false] (v := ?_) (a' := ?_) rfl rfl (by kernel_rfl) (fun _ _ _ h => h) (yieldsIf_run rfl ?_) hHeld ?_ ?_
    rotate_left
    · intro w'
      go_simp
      with_reducible rfl
    rotate_left
    · simp only [Act.put, List.setIfInBounds_toArray, List.set_cons_zero, List.set_cons_succ]
      rfl
    refine tk_ 3 (some 8) #[true, true, true, true, false, false, false, false, false, false, false, false, false, false, false] rfl rfl (by kernel_rfl) (fun _ _ _ h => h) (yieldsIf_load rfl 34 (.tmp 7) rfl (w.heap.size + 1) 0 rfl (idc y.id) _ (fun w' h => h.2.id) Tryz.underlying34 rfl (by rw [idc_length]; exact id_size)) hHeld (a' := ?_) ?_ ?_
    rotate_left
    · simp only [Act.put, List.setIfInBounds_toArray, List.set_cons_zero, List.set_cons_succ]
      rfl
    refine tk_ 4 (some 9) #[true, true, true, true, true, false, false, false, false, false, false, false, false, false, false] rfl rfl (by kernel_rfl) (fun _ _ _ h => h) (yieldsIf_run (v := .bool true) rfl fun _ => (exec_neq_id rfl (.tmp 6) (.tmp 8) _ rfl x.id y.id rfl rfl).trans (by rw [HNE.out]; rfl)) hHeld (a' := ?_) ?_ ?_
    rotate_left
    · simp only [Act.put, List.setIfInBounds_toArray, List.set_cons_zero, List.set_cons_succ]
      rfl
    refine tk_ 5 (some 10) #[true, true, true, true, true, true, false, false, false, false, false, false, false, false, false] (v := ?_) (a' := ?_) rfl rfl (by kernel_rfl) (fun _ _ _ h => h) (yieldsIf_run rfl ?_) hHeld ?_ ?_
    rotate_left
    · intro w'
      go_simp
      with_reducible rfl
    rotate_left
    · simp only [Act.put, List.setIfInBounds_toArray, List.set_cons_zero, List.set_cons_succ]
      rfl
    refine tk_ 6 (some 11) #[true, true, true, true, true, true, true, false, false, false, false, false, false, false, false] (v := ?_) (a' := ?_) rfl rfl (by kernel_rfl) (fun _ _ _ h => h) (yieldsIf_run rfl ?_) hHeld ?_ ?_
    rotate_left
    · intro w'
      go_simp
      with_reducible rfl
    rotate_left
    · simp only [Act.put, List.setIfInBounds_toArray, List.set_cons_zero, List.set_cons_succ]
      rfl
    refine tk_ 7 (some 12) #[true, true, true, true, true, true, true, true, false, false, false, false, false, false, false] rfl rfl (by kernel_rfl) (fun _ _ _ h => h) (yieldsIf_load rfl 38 (.tmp 11) rfl w.heap.size 32 rfl x.x.cells _ (fun w' h => h.1.hdr) Tryz.underlying38 rfl hdr_size) hHeld (a' := ?_) ?_ ?_
    rotate_left
    · simp only [Act.put, List.setIfInBounds_toArray, List.set_cons_zero, List.set_cons_succ]
      rfl
    refine tk_ 9 (some 14) #[true, true, true, true, true, true, true, true, false, true, false, false, false, false, false] (v := ?_) (a' := ?_) rfl rfl (by kernel_rfl) (fun _ _ _ h => h) (yieldsIf_run rfl ?_) hHeld ?_ ?_
    rotate_left
    · intro w'
      go_simp
      with_reducible rfl
    rotate_left
    · simp only [Act.put, List.setIfInBounds_toArray, List.set_cons_zero, List.set_cons_succ]
      rfl
    refine tk_ 10 (some 15) #[true, true, true, true, true, true, true, true, false, true, true, false, false, false, false] rfl rfl (by kernel_rfl) (fun _ _ _ h => h) (yieldsIf_load rfl 38 (.tmp 14) rfl (w.heap.size + 1) 32 rfl y.x.cells _ (fun w' h => h.2.hdr) Tryz.underlying38 rfl hdr_size) hHeld (a' := ?_) ?_ ?_
    rotate_left
    · simp only [Act.put, List.setIfInBounds_toArray, List.set_cons_zero, List.set_cons_succ]
      rfl
    refine call_ 8 (some 13) #[true, true, true, true, true, true, true, true, true, true, true, false, false, false, false] rfl rfl (by kernel_rfl) rfl 151 _ (by kernel_rfl) (family_any _ x.x ok HXd.out okx ndx) ?_
    rintro e w1 ⟨rfl, hb1⟩
    have hB1 : Below w.heap.size w w1 := HB0.out.drew.trans (hb1.mono HB0.out.size)
    have hz1 : w.heap.size + 1 < w1.heap.size := Nat.lt_of_lt_of_le hz hb1.size
    refine ⟨_, rfl, ⟨hHeld.1.below hb1 (Nat.lt_of_succ_lt hz), hHeld.2.below hb1 hz⟩, fun hHeld => ⟨?_, ?_, ?_⟩⟩
    rotate_left
    · simp only [Act.put, List.setIfInBounds_toArray, List.set_cons_zero, List.set_cons_succ]
      rfl
    refine call_ 11 (some 16) #[true, true, true, true, true, true, true, true, true, true, true, true, false, false, false] rfl rfl (by kernel_rfl) rfl 151 _ (by kernel_rfl) (family_any _ y.x ok (HY.out.below hB1) oky ndy) ?_
    rintro e w2 ⟨rfl, hb2⟩
    have hB2 : Below w.heap.size w w2 := hB1.trans (hb2.mono hB1.size)
    refine ⟨_, rfl, ⟨hHeld.1.below hb2 (Nat.lt_of_succ_lt hz1), hHeld.2.below hb2 hz1⟩, fun hHeld => ⟨?_, ?_, ?_⟩⟩
    rotate_left
    · simp only [Act.put, List.setIfInBounds_toArray, List.set_cons_zero, List.set_cons_succ]
      rfl
    refine tk_ 12 (some 17) #[true, true, true, true, true, true, true, true, true, true, true, true, true, false, false] rfl rfl (by kernel_rfl) (fun _ _ _ h => h) (yieldsIf_run (v := .bool ((famS x.x.h).toList == (famS y.x.h).toList)) rfl fun _ => rfl) hHeld (a' := ?_) ?_ ?_
    rotate_left
    · simp only [Act.put, List.setIfInBounds_toArray, List.set_cons_zero, List.set_cons_succ]
      rfl
    refine tk_ 13 (some 18) #[true, true, true, true, true, true, true, true, true, true, true, true, true, true, false] (v := ?_) (a' := ?_) rfl rfl (by kernel_rfl) (fun _ _ _ h => h) (yieldsIf_run rfl ?_) hHeld ?_ ?_
    rotate_left
    · intro w'
      go_simp
      with_reducible rfl
    rotate_left
    · simp only [Act.put, List.setIfInBounds_toArray, List.set_cons_zero, List.set_cons_succ]
      rfl
    refine tk_ 14 (some 4) #[true, true, true, true, true, true, true, true, true, true, true, true, true, true, true] (v := ?_) (a' := ?_) rfl rfl (by kernel_rfl) (fun _ _ _ h => h) (yieldsIf_run rfl ?_) hHeld ?_ ?_
    rotate_left
    · intro w'
      go_simp
      with_reducible rfl
    rotate_left
    · simp only [Act.put, List.setIfInBounds_toArray, List.set_cons_zero, List.set_cons_succ]
      rfl
    refine wpAnyH_done (by kernel_rfl) ?_ _
    change Exit.then _ _ _ _ _
    go_wp2
    go_ret
    exact ⟨by rw [HF.out]; rfl, hB2⟩
end Go.Proofs.YthpcedficlhanaaGreatDoor
