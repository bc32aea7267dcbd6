/- mark.Above, Floor, May, Fits; path.New. cache.New (of weights), path.New. -/
import Derived.Test.YthpcedficlhanaaGreatDoorFlBD
namespace Go.Proofs.YthpcedficlhanaaGreatDoor
open Go.RowKit Go.Maps

set_option maxRecDepth 100000 in
set_option maxHeartbeats 2000000 in
theorem mabove_any (w : World) (pp p b1 b2 : Nat) (D : List LB) (okx ok ok2 : Nat → Prop) (h : PathAt okx w pp p b1 b2 D) (fv : Value) (F : List ID) (hF : TipOf (hdrs D) F) (hv : TipIs ok2 w (hdrs D) fv F) (tv : Value) (T : List ID) (hT : TipOf (hdrs D) T) (hw : TipIs ok w (hdrs D) tv T) :
    Calls Tryz.prog 69 #[.pointer (some ⟨pp, 0, none⟩), tipV fv, tipV tv] w fun e w' => e = .returned (.bool (descG (hdrs D) T F)) ∧ Below w.heap.size w w' := by
  have H1 : Hid (∀ W, Below w.heap.size w W → Calls Tryz.prog 70 #[.pointer (some ⟨pp, 0, none⟩), tipV tv, tipV fv] W fun e w' => e = .returned (.bool (descG (hdrs D) T F)) ∧ Below W.heap.size W w') := Lib.hid fun W hb => descends_any W pp p b1 b2 D okx ok ok2 (h.below hb) tv T hT (hw.below hb) fv F hF (hv.below hb)
  have HB0 := Lib.hid (Box2.mk2 w fv tv)
  clear h hw hv
  generalize descG (hdrs D) T F = d at H1 ⊢
  go_enter Tryz.func69, Tryz.ntmps69
  go_upto_region 1 with fail
  generalize (w.alloc (.cells #[fv] 28)).alloc (.cells #[tv] 28) = W0 at HB0 ⊢
  go_wp2_with (first
    | (refine wpl_tip rfl _ rfl _ rfl _ HB0.out.b0 ?_)
    | (refine wpl_tip rfl _ rfl _ rfl _ HB0.out.b1 ?_)
    | (go_at_call 70; refine (H1.out _ HB0.out.below).mono ?_; rintro e w1 ⟨rfl, hb1⟩; have HB1 := Lib.hid (HB0.out.next hb1); clear hb1))
  go_ret
  exact ⟨rfl, HB1.out.below⟩

set_option maxRecDepth 100000 in
set_option maxHeartbeats 2000000 in
/-- The floor: the marked one, if it is there and descends from what is final. -/
theorem mfloor_any (w : World) (pp p b1 b2 : Nat) (D : List LB) (okx ok ok2 : Nat → Prop) (h : PathAt okx w pp p b1 b2 D) (fv : Value) (F : List ID) (hF : TipOf (hdrs D) F) (hv : TipIs ok w (hdrs D) fv F) (mv : Value) (M : List ID) (hM : M = [] ∨ TipOf (hdrs D) M) (hw : TipIs ok2 w (hdrs D) mv M) :
    Calls Tryz.prog 68 #[.pointer (some ⟨pp, 0, none⟩), tipV fv, tipV mv] w fun e w' => e = .returned (tipV (if M ≠ [] ∧ descG (hdrs D) M F = true then mv else fv)) ∧ Below w.heap.size w w' := by
  have HZ : Hid (∀ W, Below w.heap.size w W → Calls Tryz.prog 55 #[tipV mv] W fun e w' => e = .returned (.bool M.isEmpty) ∧ Below W.heap.size W w') := Lib.hid fun W hb => zero_is (hw.below hb)
  have H1 : Hid (M ≠ [] → ∀ W, Below w.heap.size w W → Calls Tryz.prog 70 #[.pointer (some ⟨pp, 0, none⟩), tipV mv, tipV fv] W fun e w' => e = .returned (.bool (descG (hdrs D) M F)) ∧ Below W.heap.size W w') := Lib.hid fun hne W hb => descends_any W pp p b1 b2 D okx ok2 ok (h.below hb) mv M (hM.resolve_left hne) (hw.below hb) fv F hF (hv.below hb)
  have HO1 := Lib.hid hv.one
  have HO2 := Lib.hid hw.one
  have HB0 := Lib.hid (Box2.mk2 w fv mv)
  clear h hw hv
  generalize descG (hdrs D) M F = d at H1 ⊢
  generalize hr : (if M ≠ [] ∧ d = true then mv else fv) = r
  have HR := Lib.hid hr
  clear hr
  obtain ⟨z, hz⟩ : ∃ z, M.isEmpty = z := ⟨_, rfl⟩
  rw [hz] at HZ
  have HM : Hid (M ≠ [] ↔ z = false) := Lib.hid (by rw [← hz]; cases M <;> simp)
  clear hz hM
  go_enter Tryz.func68, Tryz.ntmps68
  go_upto_region 1 with fail
  have HG0 : Hid ((((w.alloc (.cells #[fv] 28)).alloc (.cells #[mv] 28)).alloc (.cells #[.slice none 0 0] 28)).heap[w.heap.size + 2]? = some (.cells #[.slice none 0 0] 28 (0, 0))) := Lib.hid (by have := heap_alloc_new ((w.alloc (.cells #[fv] 28)).alloc (.cells #[mv] 28)) (.cells #[.slice none 0 0] 28); rw [World.size_alloc, World.size_alloc] at this; exact this)
  replace HB0 := Lib.hid (HB0.out.next ((Below.refl _ _).alloc (Nat.le_refl _) (.cells #[.slice none 0 0] 28)))
  generalize ((w.alloc (.cells #[fv] 28)).alloc (.cells #[mv] 28)).alloc (.cells #[.slice none 0 0] 28) = W0 at HB0 HG0 ⊢
  have HLT : Hid (w.heap.size + 2 < W0.heap.size) := Lib.hid (Array.getElem?_eq_some_iff.1 HG0.out).1
  cases z with
  | true =>
    have hne : ¬(M ≠ [] ∧ d = true) := fun hh => by have := HM.out.1 hh.1; cases this
    have HNE := Lib.hid hne
    clear hne
    go_wp2_with (first
      | (refine wpl_tip rfl _ rfl _ rfl _ HB1.out.b0 ?_)
      | (refine wpl_tip rfl _ rfl _ rfl _ HB0.out.b1 ?_)
      | (refine wpl_tip_set rfl _ _ rfl (w.heap.size + 2) rfl _ _ rfl HG1.out HO1.out ?_)
      | (go_at_call 55; refine (HZ.out _ HB0.out.below).mono ?_; rintro e w1 ⟨rfl, hb1⟩; have HB1 := Lib.hid (HB0.out.next hb1); have HG1 := Lib.hid ((hb1.block _ HLT.out).trans HG0.out); clear hb1))
    (try simp only [Exit.inBlock, Exit.then])
    refine bodyPost_ret (results_cell_row rfl _ _ (w.heap.size + 2) 28 #[fv] (0, 0) _ rfl (setRow_heap _ _ _ _ _ _ HG1.out) Tryz.underlying28 rfl tip_size) rfl ?_
    exact ⟨by rw [← HR.out, if_neg HNE.out], below_setRow HB1.out.below (by omega) _⟩
  | false =>
    have HD := Lib.hid (H1.out (HM.out.2 rfl))
    cases d with
    | true =>
      have HNE : Hid (M ≠ [] ∧ true = true) := Lib.hid ⟨HM.out.2 rfl, rfl⟩
      go_wp2_with (first
        | (refine wpl_tip rfl _ rfl _ rfl _ HB2.out.b1 ?_)
        | (refine wpl_tip (by kernel_rfl) _ rfl _ rfl _ HB1.out.b0 ?_)
        | (refine wpl_tip (by kernel_rfl) _ rfl _ rfl _ HB1.out.b1 ?_)
        | (refine wpl_tip rfl _ rfl _ rfl _ HB0.out.b1 ?_)
        | (refine wpl_tip_set rfl _ _ rfl (w.heap.size + 2) rfl _ _ rfl HG2.out HO2.out ?_)
        | (go_at_call 55; refine (HZ.out _ HB0.out.below).mono ?_; rintro e w1 ⟨rfl, hb1⟩; have HB1 := Lib.hid (HB0.out.next hb1); have HG1 := Lib.hid ((hb1.block _ HLT.out).trans HG0.out); have HL1 := Lib.hid (Nat.lt_of_lt_of_le HLT.out hb1.size); clear hb1)
        | (go_at_call 70; refine (HD.out _ HB1.out.below).mono ?_; rintro e w2 ⟨rfl, hb2⟩; have HB2 := Lib.hid (HB1.out.next hb2); have HG2 := Lib.hid ((hb2.block _ HL1.out).trans HG1.out); clear hb2))
      (try simp only [Exit.inBlock, Exit.then])
      refine bodyPost_ret (results_cell_row rfl _ _ (w.heap.size + 2) 28 #[mv] (0, 0) _ rfl (setRow_heap _ _ _ _ _ _ HG2.out) Tryz.underlying28 rfl tip_size) rfl ?_
      exact ⟨by rw [← HR.out, if_pos HNE.out], below_setRow HB2.out.below (by omega) _⟩
    | false =>
      have HNE : Hid (¬(M ≠ [] ∧ false = true)) := Lib.hid fun hh => by cases hh.2
      go_wp2_with (first
        | (refine wpl_tip rfl _ rfl _ rfl _ HB2.out.b0 ?_)
        | (refine wpl_tip (by kernel_rfl) _ rfl _ rfl _ HB1.out.b0 ?_)
        | (refine wpl_tip (by kernel_rfl) _ rfl _ rfl _ HB1.out.b1 ?_)
        | (refine wpl_tip rfl _ rfl _ rfl _ HB0.out.b1 ?_)
        | (refine wpl_tip_set rfl _ _ rfl (w.heap.size + 2) rfl _ _ rfl HG2.out HO1.out ?_)
        | (go_at_call 55; refine (HZ.out _ HB0.out.below).mono ?_; rintro e w1 ⟨rfl, hb1⟩; have HB1 := Lib.hid (HB0.out.next hb1); have HG1 := Lib.hid ((hb1.block _ HLT.out).trans HG0.out); have HL1 := Lib.hid (Nat.lt_of_lt_of_le HLT.out hb1.size); clear hb1)
        | (go_at_call 70; refine (HD.out _ HB1.out.below).mono ?_; rintro e w2 ⟨rfl, hb2⟩; have HB2 := Lib.hid (HB1.out.next hb2); have HG2 := Lib.hid ((hb2.block _ HL1.out).trans HG1.out); clear hb2))
      (try simp only [Exit.inBlock, Exit.then])
      refine bodyPost_ret (results_cell_row rfl _ _ (w.heap.size + 2) 28 #[fv] (0, 0) _ rfl (setRow_heap _ _ _ _ _ _ HG2.out) Tryz.underlying28 rfl tip_size) rfl ?_
      exact ⟨by rw [← HR.out, if_neg HNE.out], below_setRow HB2.out.below (by omega) _⟩

set_option maxRecDepth 100000 in
set_option maxHeartbeats 2000000 in
theorem may_any (w : World) (pp p b1 b2 : Nat) (D : List LB) (okx ok ok2 : Nat → Prop) (h : PathAt okx w pp p b1 b2 D) (fv : Value) (F : List ID) (hF : TipOf (hdrs D) F) (hv : TipIs ok w (hdrs D) fv F) (mv : Value) (M : List ID) (hM : M = [] ∨ TipOf (hdrs D) M) (hw : TipIs ok2 w (hdrs D) mv M) :
    Calls Tryz.prog 66 #[.pointer (some ⟨pp, 0, none⟩), tipV fv, tipV mv] w fun e w' => e = .returned (.int .i64 (if M = [] then 7 else if (descG (hdrs D) F M || descG (hdrs D) M F) = true then 0 else 16)) ∧ Below w.heap.size w w' := by
  have HZ : Hid (∀ W, Below w.heap.size w W → Calls Tryz.prog 55 #[tipV mv] W fun e w' => e = .returned (.bool M.isEmpty) ∧ Below W.heap.size W w') := Lib.hid fun W hb => zero_is (hw.below hb)
  have H1 : Hid (M ≠ [] → ∀ W, Below w.heap.size w W → Calls Tryz.prog 67 #[.pointer (some ⟨pp, 0, none⟩), tipV fv, tipV mv] W fun e w' => e = .returned (.bool (descG (hdrs D) F M || descG (hdrs D) M F)) ∧ Below W.heap.size W w') := Lib.hid fun hne W hb => onechain_any W pp p b1 b2 D okx ok ok2 (h.below hb) fv F hF (hv.below hb) mv M (hM.resolve_left hne) (hw.below hb)
  have HB0 := Lib.hid (Box2.mk2 w fv mv)
  clear h hw hv
  generalize (descG (hdrs D) F M || descG (hdrs D) M F) = d at H1 ⊢
  generalize hr : (if M = [] then (7 : Int) else if d = true then 0 else 16) = r
  have HR := Lib.hid hr
  clear hr
  obtain ⟨z, hz⟩ : ∃ z, M.isEmpty = z := ⟨_, rfl⟩
  rw [hz] at HZ
  have HM : Hid (M ≠ [] ↔ z = false) := Lib.hid (by rw [← hz]; cases M <;> simp)
  clear hz hM
  go_enter Tryz.func66, Tryz.ntmps66
  go_upto_region 1 with fail
  generalize (w.alloc (.cells #[fv] 28)).alloc (.cells #[mv] 28) = W0 at HB0 ⊢
  cases z with
  | true =>
    have he : M = [] := Classical.byContradiction fun hh => by have := HM.out.1 hh; cases this
    have HNE := Lib.hid he
    clear he
    go_wp2_with (first
      | (refine wpl_tip rfl _ rfl _ rfl _ HB0.out.b1 ?_)
      | (go_at_call 55; refine (HZ.out _ HB0.out.below).mono ?_; rintro e w1 ⟨rfl, hb1⟩; have HB1 := Lib.hid (HB0.out.next hb1); clear hb1))
    go_ret
    exact ⟨by rw [← HR.out, if_pos HNE.out]; rfl, HB1.out.below⟩
  | false =>
    have HD := Lib.hid (H1.out (HM.out.2 rfl))
    have HNE := Lib.hid (HM.out.2 rfl)
    cases d with
    | true =>
      go_wp2_with (first
        | (refine wpl_tip rfl _ rfl _ rfl _ HB1.out.b0 ?_)
        | (refine wpl_tip rfl _ rfl _ rfl _ HB1.out.b1 ?_)
        | (refine wpl_tip rfl _ rfl _ rfl _ HB0.out.b1 ?_)
        | (go_at_call 55; refine (HZ.out _ HB0.out.below).mono ?_; rintro e w1 ⟨rfl, hb1⟩; have HB1 := Lib.hid (HB0.out.next hb1); clear hb1)
        | (go_at_call 67; refine (HD.out _ HB1.out.below).mono ?_; rintro e w2 ⟨rfl, hb2⟩; have HB2 := Lib.hid (HB1.out.next hb2); clear hb2))
      go_ret
      exact ⟨by rw [← HR.out, if_neg HNE.out, if_pos trivial]; rfl, HB2.out.below⟩
    | false =>
      go_wp2_with (first
        | (refine wpl_tip rfl _ rfl _ rfl _ HB1.out.b0 ?_)
        | (refine wpl_tip rfl _ rfl _ rfl _ HB1.out.b1 ?_)
        | (refine wpl_tip rfl _ rfl _ rfl _ HB0.out.b1 ?_)
        | (go_at_call 55; refine (HZ.out _ HB0.out.below).mono ?_; rintro e w1 ⟨rfl, hb1⟩; have HB1 := Lib.hid (HB0.out.next hb1); clear hb1)
        | (go_at_call 67; refine (HD.out _ HB1.out.below).mono ?_; rintro e w2 ⟨rfl, hb2⟩; have HB2 := Lib.hid (HB1.out.next hb2); clear hb2))
      go_ret
      exact ⟨by rw [← HR.out, if_neg HNE.out, if_neg (by decide)]; rfl, HB2.out.below⟩
end Go.Proofs.YthpcedficlhanaaGreatDoor
namespace Go.Proofs.YthpcedficlhanaaGreatDoor
open Go.RowKit Go.Maps

set_option maxRecDepth 100000 in
set_option maxHeartbeats 2000000 in
theorem cnew_any (w : World) (n : Int) :
    Calls Tryz.prog 132 #[.int .i64 n] w fun e w' => ∃ pc, e = .returned (.pointer (some ⟨pc, 0, none⟩)) ∧ Below w.heap.size w w' := by
  have hmm := @run_makeMap Tryz.prog
  go_enter Tryz.func132, Tryz.ntmps132
  go_wp2
  go_ret
  exact ⟨_, rfl, (((Below.refl _ w).alloc (Nat.le_refl _) _).alloc (by simp) _).alloc (by simp; omega) _⟩

set_option maxRecDepth 100000 in
set_option maxHeartbeats 2000000 in
theorem pnew_any (w : World) (p b1 b2 : Nat) (D : List LB) (okx : Nat → Prop) (h : DagAt okx w p b1 b2 D) (hf : FineD D) (g : GoodG (hdrs D)) (n : Int) :
    Calls Tryz.prog 63 #[.pointer (some ⟨p, 0, none⟩), .int .i64 n] w fun e w' => ∃ pp, e = .returned (.pointer (some ⟨pp, 0, none⟩)) ∧ w.heap.size ≤ pp ∧ PathAt okx w' pp p b1 b2 D ∧ Below w.heap.size w w' := by
  have HD := Lib.hid h
  clear h
  go_enter Tryz.func63, Tryz.ntmps63
  go_wp2_with (go_at_call 132; refine (cnew_any w n).mono ?_; rintro e w1 ⟨pc, rfl, hb1⟩; have HB1 := Lib.hid hb1; clear hb1)
  go_ret
  have hb2 : Below w.heap.size w (w1.alloc (.cells #[.pointer (some ⟨p, 0, none⟩), .pointer (some ⟨pc, 0, none⟩)] 191)) := HB1.out.alloc HB1.out.size _
  exact ⟨_, rfl, HB1.out.size, ⟨cell_block (heap_alloc_new w1 _) rfl, HD.out.below hb2, hf, g⟩, hb2⟩
end Go.Proofs.YthpcedficlhanaaGreatDoor
