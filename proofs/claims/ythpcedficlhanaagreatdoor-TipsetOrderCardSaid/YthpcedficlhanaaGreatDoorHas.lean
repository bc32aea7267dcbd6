/- tipset.Has, Blocks, Genesis. -/
import Derived.Test.YthpcedficlhanaaGreatDoorCmp
namespace Go.Proofs.YthpcedficlhanaaGreatDoor
open Go.RowKit

set_option maxRecDepth 100000 in
set_option maxHeartbeats 1000000 in
theorem has1_any (w : World) (x : LB) (g : Nat) (i : ID) (h : ∀ j u, (idc i)[j]? = some u → w.cell? ⟨g, 0 + j, none⟩ = some u) :
    Calls Tryz.prog 103 #[.agg x.cells.toArray, .pointer (some ⟨g, 0, none⟩)] w fun e w' => e = .returned (.bool (decide (x.id = i))) ∧ Below w.heap.size w w' := by
  have hB0 : Below w.heap.size w (w.alloc (.cells x.cells.toArray 40)) := (Below.refl _ w).alloc (Nat.le_refl _) _
  have hcx : HoldB (w.alloc (.cells x.cells.toArray 40)) w.heap.size x := fun j u hu => cell_block (fr := (0, 0)) (T := 40) (heap_alloc_new w _) (by simpa using hu)
  have hi : ∀ j u, (idc i)[j]? = some u → (w.alloc (.cells x.cells.toArray 40)).cell? ⟨g, 0 + j, none⟩ = some u := fun j u hu => (hB0.cell (p := ⟨g, 0 + j, none⟩) (World.block_lt_of_cell? w _ (h j u hu))).trans (h j u hu)
  have HB0 := Lib.hid hB0
  have HCX := Lib.hid hcx
  have HI := Lib.hid hi
  clear hB0 hcx hi h
  go_enter Tryz.func103, Tryz.ntmps103
  go_wp2_with (first
    | (refine wpl_load rfl 34 (.tmp 4) rfl w.heap.size 0 rfl (idc x.id) _ HCX.out.id Tryz.underlying34 rfl (by rw [idc_length]; exact id_size) ?_)
    | (refine wpl_load rfl 34 (.tmp 1) rfl g 0 rfl (idc i) _ HI.out Tryz.underlying34 rfl (by rw [idc_length]; exact id_size) ?_)
    | (refine wpl_eql rfl (.tmp 5) (.tmp 6) _ rfl x.id i rfl rfl ?_))
  go_ret
  exact ⟨rfl, HB0.out⟩

/-- Is a block of a name among them? -/
def hasB (l : List LB) (i : ID) : Bool := l.any fun x => decide (x.id = i)
theorem has1_yes (w : World) (x : LB) (g : Nat) (i : ID) (h : ∀ j u, (idc i)[j]? = some u → w.cell? ⟨g, 0 + j, none⟩ = some u) (he : x.id = i) :
    Calls Tryz.prog 103 #[.agg x.cells.toArray, .pointer (some ⟨g, 0, none⟩)] w fun e w' => e = .returned (.bool true) ∧ Below w.heap.size w w' :=
  (has1_any w x g i h).mono fun e w' ⟨h1, h2⟩ => ⟨by rw [decide_eq_true he] at h1; exact h1, h2⟩
theorem has1_no (w : World) (x : LB) (g : Nat) (i : ID) (h : ∀ j u, (idc i)[j]? = some u → w.cell? ⟨g, 0 + j, none⟩ = some u) (he : ¬ x.id = i) :
    Calls Tryz.prog 103 #[.agg x.cells.toArray, .pointer (some ⟨g, 0, none⟩)] w fun e w' => e = .returned (.bool false) ∧ Below w.heap.size w w' :=
  (has1_any w x g i h).mono fun e w' ⟨h1, h2⟩ => ⟨by rw [decide_eq_false he] at h1; exact h1, h2⟩
set_option maxRecDepth 100000 in
set_option maxHeartbeats 1000000 in
theorem indexFunc_any (w : World) (t : Value) (l : List LB) (ok : Nat → Prop) (h : TipAt ok w t l) (g : Nat) (i : ID) (hi : ∀ j u, (idc i)[j]? = some u → w.cell? ⟨g, 0 + j, none⟩ = some u) :
    Calls Tryz.prog 154 #[t, .func (.func 103) #[] #[.pointer (some ⟨g, 0, none⟩)]] w fun e w' => Below w.heap.size w w' ∧ ((e = .returned (.int .i64 (-1)) ∧ ∀ x ∈ l, x.id ≠ i) ∨ ∃ n : Nat, n < l.length ∧ e = .returned (.int .i64 n) ∧ ∃ x ∈ l, x.id = i) := by
  obtain ⟨A, c, rfl, hc, hm⟩ := h.1.form
  have HT := Lib.hid h
  have HI := Lib.hid hi
  have hl5 := h.2
  clear h hi
  go_enter Tryz.func154, Tryz.ntmps154
  go_wp2
  go_loopw [8] (fun ci wr => ∃ n : Nat, n ≤ l.length ∧ ci = .int .i64 n ∧ Below w.heap.size w wr ∧ ∀ x ∈ l.take n, x.id ≠ i) (fun ci _ => l.length - (intOf ci).toNat)
  case atStart => exact ⟨0, Nat.zero_le _, rfl, Below.refl _ _, by simp⟩
  case round =>
    obtain ⟨n, hn, rfl, hB, hne⟩ := hrel
    have HB := Lib.hid hB
    have HNE := Lib.hid hne
    clear hB hne
    by_cases hlt : n < l.length
    · obtain ⟨x, hx⟩ : ∃ x, l[n]? = some x := ⟨_, List.getElem?_eq_getElem hlt⟩
      obtain ⟨b, off, rfl, hbl, -, hcx⟩ := (HT.out.below HB.out).1.at_ n x hx
      have HX := Lib.hid hcx
      have HXI := Lib.hid hx
      have HIr : Hid (∀ j u, (idc i)[j]? = some u → wr.cell? ⟨g, 0 + j, none⟩ = some u) := Lib.hid fun j u hu => (HB.out.cell (p := ⟨g, 0 + j, none⟩) (World.block_lt_of_cell? w _ (HI.out j u hu))).trans (HI.out j u hu)
      clear hcx hx
      by_cases he : x.id = i
      · have HE := Lib.hid he
        clear he
        go_wp2_with (first
          | (refine wpl_load rfl 40 (.tmp 14) rfl b _ rfl x.cells _ HX.out Tryz.underlying40 rfl (by rw [LB.cells_length]; exact block_size) ?_)
          | (go_at_call 103; refine (has1_yes _ x g i HIr.out HE.out).mono ?_; rintro e w2 ⟨rfl, hb2⟩))
        go_ret
        exact ⟨HB.out.trans (hb2.mono HB.out.size), .inr ⟨n, hlt, rfl, x, List.mem_of_getElem? HXI.out, HE.out⟩⟩
      · have HE := Lib.hid he
        clear he
        go_wp2_with (first
          | (refine wpl_load rfl 40 (.tmp 14) rfl b _ rfl x.cells _ HX.out Tryz.underlying40 rfl (by rw [LB.cells_length]; exact block_size) ?_)
          | (go_at_call 103; refine (has1_no _ x g i HIr.out HE.out).mono ?_; rintro e w2 ⟨rfl, hb2⟩))
        go_roundw
        case rel => exact ⟨n + 1, by omega, by go_num, HB.out.trans (hb2.mono HB.out.size), by rw [List.take_add_one, HXI.out]; intro y hy; rcases List.mem_append.1 hy with hy | hy; exact HNE.out y hy; simp at hy; subst hy; exact HE.out⟩
        case measure => simp [intOf]; omega
    · have hin : n = l.length := by omega
      subst hin
      go_wp2
      go_ret
      exact ⟨HB.out, .inl ⟨rfl, by have := HNE.out; rwa [List.take_length] at this⟩⟩
set_option maxRecDepth 100000 in
set_option maxHeartbeats 1000000 in
theorem contains_any (w : World) (t : Value) (l : List LB) (ok : Nat → Prop) (h : TipAt ok w t l) (g : Nat) (i : ID) (hi : ∀ j u, (idc i)[j]? = some u → w.cell? ⟨g, 0 + j, none⟩ = some u) :
    Calls Tryz.prog 102 #[t, .func (.func 103) #[] #[.pointer (some ⟨g, 0, none⟩)]] w fun e w' => e = .returned (.bool (hasB l i)) ∧ Below w.heap.size w w' := by
  have HC := Lib.hid (indexFunc_any w t l ok h g i hi)
  have hl5 := h.2
  obtain ⟨A, c, rfl, -, -⟩ := h.1.form
  clear h hi
  go_enter Tryz.func102, Tryz.ntmps102
  go_wp2_with (go_at_call 154; refine HC.out.mono ?_; rintro e w1 ⟨hb1, ⟨rfl, hne⟩ | ⟨n, hn, rfl, x, hx, hxi⟩⟩)
  · go_ret
    have hb : hasB l i = false := by rw [hasB, List.any_eq_false]; intro x hx; simpa using hne x hx
    exact ⟨by rw [hb]; rfl, hb1⟩
  · go_ret
    have hb : hasB l i = true := by rw [hasB, List.any_eq_true]; exact ⟨x, hx, by simpa using hxi⟩
    refine ⟨?_, hb1⟩
    rw [hb]
    simp
set_option maxRecDepth 100000 in
set_option maxHeartbeats 1000000 in
theorem thas_any (w : World) (t : Value) (l : List LB) (ok : Nat → Prop) (h : TipAt ok w t l) (i : ID) :
    Calls Tryz.prog 28 #[tipV t, .agg (idc i).toArray] w fun e w' => e = .returned (.bool (hasB l i)) ∧ Below w.heap.size w w' := by
  have hB0 : Below w.heap.size w ((w.alloc (.cells #[t] 28)).alloc (.cells (idc i).toArray 34)) := ((Below.refl _ w).alloc (Nat.le_refl _) _).alloc (by simp) _
  have hi : ∀ j u, (idc i)[j]? = some u → ((w.alloc (.cells #[t] 28)).alloc (.cells (idc i).toArray 34)).cell? ⟨w.heap.size + 1, 0 + j, none⟩ = some u := fun j u hu => by
    rw [Nat.zero_add]
    exact cell_block (fr := (0, 0)) (T := 34) (by rw [heap_alloc_if, if_pos (by simp)]) (by simpa using hu)
  have hc := contains_any _ t l ok (h.below hB0) (w.heap.size + 1) i hi
  have HC := Lib.hid hc
  have HB0 := Lib.hid hB0
  obtain ⟨A, c, rfl, -, -⟩ := h.1.form
  clear h hi hc hB0
  go_enter Tryz.func28, Tryz.ntmps28
  go_wp2_with (go_at_call 102; refine HC.out.mono ?_; rintro e w1 ⟨rfl, hb1⟩)
  go_ret
  exact ⟨rfl, HB0.out.trans (hb1.mono HB0.out.size)⟩
end Go.Proofs.YthpcedficlhanaaGreatDoor
