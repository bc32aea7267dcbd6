/- What a tipset tells. -/
import Derived.Test.YthpcedficlhanaaGreatDoorNew
namespace Go.Proofs.YthpcedficlhanaaGreatDoor
open Go.RowKit

/-- A tipset's value, and the blocks that it leads to. -/
def TipAt (ok : Nat → Prop) (w : World) (t : Value) (l : List LB) : Prop := Sl lbE ok w t l ∧ l.length ≤ 5
theorem TipAt.below {ok : Nat → Prop} {w w' : World} {t : Value} {l : List LB} (h : TipAt ok w t l) (hb : Below w.heap.size w w') : TipAt ok w' t l := ⟨h.1.below hb, h.2⟩

set_option maxRecDepth 100000 in
set_option maxHeartbeats 1000000 in
theorem zero_any (w : World) (t : Value) (l : List LB) (ok : Nat → Prop) (h : TipAt ok w t l) :
    Calls Tryz.prog 55 #[tipV t] w fun e w' => e = .returned (.bool (decide (l.length = 0))) ∧ Below w.heap.size w w' := by
  obtain ⟨A, c, rfl, hc, hm⟩ := h.1.form
  have hl5 := h.2
  clear h
  go_enter Tryz.func55, Tryz.ntmps55
  go_wp2
  go_ret
  refine ⟨?_, (Below.refl _ w).alloc (Nat.le_refl _) _⟩
  have : ((l.length : Int) == 0) = decide (l.length = 0) := by rw [Bool.eq_iff_iff]; simp
  rw [this]
  rfl

theorem zero_no (w : World) (t : Value) (l : List LB) (ok : Nat → Prop) (h : TipAt ok w t l) (hp : 0 < l.length) :
    Calls Tryz.prog 55 #[tipV t] w fun e w' => e = .returned (.bool false) ∧ Below w.heap.size w w' :=
  (zero_any w t l ok h).mono fun _ _ ⟨he, hb⟩ => ⟨by rw [decide_eq_false (by omega)] at he; exact he, hb⟩

def firstL (l : List LB) : LB := l.headD lbZ
set_option maxRecDepth 100000 in
set_option maxHeartbeats 1000000 in
theorem first_any (w : World) (t : Value) (l : List LB) (ok : Nat → Prop) (h : TipAt ok w t l) :
    Calls Tryz.prog 101 #[tipV t] w fun e w' => e = .returned (.agg (firstL l).cells.toArray) ∧ Below w.heap.size w w' := by
  obtain ⟨A, c, rfl, hc, hm⟩ := h.1.form
  have HT := Lib.hid h
  have hl5 := h.2
  clear h
  have hB0 : Below w.heap.size w ((w.alloc (.cells #[.slice A l.length c] 28)).alloc (.cells lbZ.cells.toArray 40)) := ((Below.refl _ w).alloc (Nat.le_refl _) _).alloc (by simp) _
  have hz0 : ((w.alloc (.cells #[.slice A l.length c] 28)).alloc (.cells lbZ.cells.toArray 40)).heap[w.heap.size + 1]? = some (.cells lbZ.cells.toArray 40 (0, 0)) := by rw [heap_alloc_if, if_pos (by simp)]
  have hc0 : ((w.alloc (.cells #[.slice A l.length c] 28)).alloc (.cells lbZ.cells.toArray 40)).cell? ⟨w.heap.size, 0, none⟩ = some (.slice A l.length c) := cell_block (fr := (0, 0)) (T := 28) (by rw [heap_alloc_if, if_neg (by simp), heap_alloc_if, if_pos rfl]) rfl
  have hsz : w.heap.size + 1 < ((w.alloc (.cells #[.slice A l.length c] 28)).alloc (.cells lbZ.cells.toArray 40)).heap.size := by simp
  have HB0 := Lib.hid hB0
  have HZ0 := Lib.hid hz0
  have HC0 := Lib.hid hc0
  have HS0 := Lib.hid hsz
  clear hB0 hz0 hc0 hsz
  go_enter Tryz.func101, Tryz.ntmps101
  rcases Nat.eq_zero_or_pos l.length with h0 | hp
  · have hl : l = [] := List.eq_nil_of_length_eq_zero h0
    subst hl
    go_wp2_with (first
      | (go_at_call 55; refine (zero_any _ _ [] ok (HT.out.below HB0.out)).mono ?_; rintro e w1 ⟨rfl, hb1⟩; have HB1 : Hid (Below w.heap.size w w1) := HB0.out.trans (hb1.mono HB0.out.size); have HZ1 : Hid (w1.heap[w.heap.size + 1]? = some (.cells lbZ.cells.toArray 40 (0, 0))) := (hb1.block _ HS0.out).trans HZ0.out; clear hb1)
      | (refine wpl_store_row rfl 40 (.tmp 2) (.tmp 5) rfl (w.heap.size + 1) rfl lbZ.cells rfl _ 40 HZ1.out (by simp) lbZ.cells_one (by rw [LB.cells_length]; exact block_size) ?_))
    (try simp only [Exit.inBlock, Exit.then])
    refine bodyPost_ret (results_cell_row rfl _ _ (w.heap.size + 1) 40 lbZ.cells.toArray (0, 0) _ rfl (setRow_heap w1 (w.heap.size + 1) _ _ _ _ HZ1.out) Tryz.underlying40 rfl (by rw [List.size_toArray, LB.cells_length]; exact block_size)) rfl ?_
    exact ⟨rfl, below_setRow HB1.out (Nat.le_succ _) _⟩
  · obtain ⟨x, hx⟩ : ∃ x, l[0]? = some x := ⟨_, List.getElem?_eq_getElem hp⟩
    have hf : firstL l = x := by cases l with | nil => cases hx | cons y l => simpa [firstL] using hx
    rw [hf]
    clear hf
    obtain ⟨b, off, rfl, -, -, -⟩ := HT.out.1.at_ 0 x hx
    have HX := Lib.hid hx
    clear hx
    go_wp2_with (first
      | (go_at_call 55; refine (zero_no _ _ l ok (HT.out.below HB0.out) hp).mono ?_; rintro e w1 ⟨rfl, hb1⟩; have HB1 : Hid (Below w.heap.size w w1) := HB0.out.trans (hb1.mono HB0.out.size); have HZ1 : Hid (w1.heap[w.heap.size + 1]? = some (.cells lbZ.cells.toArray 40 (0, 0))) := (hb1.block _ HS0.out).trans HZ0.out; have hc1 : w1.cell? ⟨w.heap.size, 0, none⟩ = some (.slice (some ⟨b, off, none⟩) l.length c) := (hb1.cell (p := ⟨w.heap.size, 0, none⟩) (Nat.lt_of_succ_lt HS0.out)).trans HC0.out; have HX1 : Hid (∀ j u, x.cells[j]? = some u → w1.cell? ⟨b, off + j, none⟩ = some u) := (fun j u hu => by obtain ⟨b', off', he, -, -, hcx⟩ := (HT.out.1.below HB1.out).at_ 0 x HX.out; injection he with he; injection he with e1 e2; subst e1; subst e2; simpa using hcx j u hu); clear hb1)
      | (refine wpl_load rfl 40 (.tmp 8) rfl b _ rfl x.cells _ HX1.out Tryz.underlying40 rfl (by rw [LB.cells_length]; exact block_size) ?_)
      | (refine wpl_store_row rfl 40 (.tmp 2) (.tmp 9) rfl (w.heap.size + 1) rfl x.cells rfl _ 40 HZ1.out (by rw [List.size_toArray, LB.cells_length, LB.cells_length]) x.cells_one (by rw [LB.cells_length]; exact block_size) ?_))
    (try simp only [Exit.inBlock, Exit.then])
    refine bodyPost_ret (results_cell_row rfl _ _ (w.heap.size + 1) 40 x.cells.toArray (0, 0) _ rfl (setRow_heap w1 (w.heap.size + 1) _ _ _ _ HZ1.out) Tryz.underlying40 rfl (by rw [List.size_toArray, LB.cells_length]; exact block_size)) rfl ?_
    exact ⟨rfl, below_setRow HB1.out (Nat.le_succ _) _⟩
end Go.Proofs.YthpcedficlhanaaGreatDoor
