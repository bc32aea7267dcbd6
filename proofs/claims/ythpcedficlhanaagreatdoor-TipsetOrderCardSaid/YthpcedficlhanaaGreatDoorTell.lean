/- Height, Power, Parents of a tipset. -/
import Derived.Test.YthpcedficlhanaaGreatDoorTip
namespace Go.Proofs.YthpcedficlhanaaGreatDoor
open Go.RowKit

section
variable {P : Program} {ops : Array Oper} {rest : List Oper} {o : Oper} {a : Act} {w : World} {Q : Exit → Act → World → Prop}
theorem wpl_field (hgd : o.guard = none) (ty : TypeId) (k : Nat) (x : Operand) (ho : o.op = .field ty x k) (v r : Value) (hx : a.eval x = v) (hr : (Instr.field ty v k).run P w = .ok r w)
    (h : wpList P ops Q rest (a.put o.dst r) w) : wpList P ops Q (o :: rest) a w :=
  wpList_plain hgd fun K hK => by
    unfold Oper.wp execOp
    simp only [ho, hx, Sem.run_bind, hr, Result.andThen_ok, Sem.run_pure]
    exact hK _ _ h
end
set_option maxRecDepth 100000 in
theorem part_header (x : LB) (w : World) : (part 38 x.cells.toArray 32).run Tryz.prog w = .ok (.agg x.x.cells.toArray) w := by
  have ha : (isAgg 38).run Tryz.prog w = .ok true w := by kernel_rfl
  have hs : (sizeOf 38).run Tryz.prog w = .ok 7 w := by kernel_rfl
  have he : x.cells.toArray.extract 32 (32 + 7) = x.x.cells.toArray := by
    apply Array.toList_inj.1
    simp only [Array.toList_extract, List.extract_eq_take_drop]
    rw [show x.cells = idc x.id ++ x.x.cells from rfl, List.drop_left' (idc_length x.id)]
    rfl
  simp only [part, Sem.run_bind, ha, hs, Result.andThen_ok, if_true, Sem.run_pure, he]
set_option maxRecDepth 100000 in
theorem field_header (x : LB) (w : World) : (Instr.field 40 (.agg x.cells.toArray) 1).run Tryz.prog w = .ok (.agg x.x.cells.toArray) w := by
  have hp := part_header x w
  unfold Instr.field
  rw [Sem.run_bind, run_underlying Tryz.underlying40 w]
  exact hp

set_option maxRecDepth 100000 in
set_option maxHeartbeats 1000000 in
theorem height_any (w : World) (t : Value) (l : List LB) (ok : Nat → Prop) (h : TipAt ok w t l) :
    Calls Tryz.prog 25 #[tipV t] w fun e w' => e = .returned (.int .i64 (firstL l).x.h.height) ∧ Below w.heap.size w w' := by
  have HT := Lib.hid h
  clear h
  go_enter Tryz.func25, Tryz.ntmps25
  go_wp2_with (first
    | (go_at_call 101; refine (first_any _ _ l ok (HT.out.below ((Below.refl _ w).alloc (Nat.le_refl _) _))).mono ?_; rintro e w1 ⟨rfl, hb1⟩; have HB1 : Hid (Below w.heap.size w w1) := ((Below.refl _ w).alloc (Nat.le_refl _) _).trans (hb1.mono (by simp)); clear hb1)
    | (refine wpl_field rfl 40 1 (.tmp 4) rfl _ _ rfl (field_header _ _) ?_)
    | (refine wpl_field rfl 38 0 (.tmp 5) rfl _ (.int .i64 (firstL l).x.h.height) rfl (by kernel_rfl) ?_))
  go_ret
  exact ⟨rfl, HB1.out⟩
set_option maxRecDepth 100000 in
set_option maxHeartbeats 1000000 in
theorem power_any (w : World) (t : Value) (l : List LB) (ok : Nat → Prop) (h : TipAt ok w t l) :
    Calls Tryz.prog 26 #[tipV t] w fun e w' => e = .returned (.int .u64 (firstL l).x.h.power) ∧ Below w.heap.size w w' := by
  have HT := Lib.hid h
  clear h
  go_enter Tryz.func26, Tryz.ntmps26
  go_wp2_with (first
    | (go_at_call 101; refine (first_any _ _ l ok (HT.out.below ((Below.refl _ w).alloc (Nat.le_refl _) _))).mono ?_; rintro e w1 ⟨rfl, hb1⟩; have HB1 : Hid (Below w.heap.size w w1) := ((Below.refl _ w).alloc (Nat.le_refl _) _).trans (hb1.mono (by simp)); clear hb1)
    | (refine wpl_field rfl 40 1 (.tmp 4) rfl _ _ rfl (field_header _ _) ?_)
    | (refine wpl_field rfl 38 4 (.tmp 5) rfl _ (.int .u64 (firstL l).x.h.power) rfl (by kernel_rfl) ?_))
  go_ret
  exact ⟨rfl, HB1.out⟩
theorem firstL_ok {ok : Nat → Prop} {w : World} {l : List LB} (h : Okay ok w l) : (firstL l).x.At ok w ∧ (firstL l).x.h.Ok ∧ (firstL l).x.h.parents.Nodup := by
  cases l with
  | nil => exact ⟨Sl.nil _ _ _, ⟨⟨by decide, by decide⟩, ⟨by decide, by decide⟩, ⟨by decide, by decide⟩, ⟨by decide, by decide⟩, by decide, by decide, by show (0 : Nat) ≤ 1048576; omega, by show (0 : Nat) ≤ 1048576; omega⟩, List.nodup_nil⟩
  | cons x l => exact h x (by simp)
set_option maxRecDepth 100000 in
set_option maxHeartbeats 1000000 in
theorem parents_any (w : World) (t : Value) (l : List LB) (ok ok' : Nat → Prop) (h : TipAt ok w t l) (hk : Okay ok' w l) :
    Calls Tryz.prog 27 #[tipV t] w fun e w' => e = .returned (.string (keyB (firstL l).x.h.parents)) ∧ Below w.heap.size w w' := by
  obtain ⟨hx, hok, hn⟩ := firstL_ok hk
  have HT := Lib.hid h
  have HX := Lib.hid hx
  have hpl : (firstL l).x.h.parents.length ≤ 4294967296 := by have h : _ ≤ 1048576 := hok.parents; omega
  have HN := Lib.hid hn
  clear h hk hx hok hn
  go_enter Tryz.func27, Tryz.ntmps27
  go_wp2_with (first
    | (go_at_call 101; refine (first_any _ _ l ok (HT.out.below ((Below.refl _ w).alloc (Nat.le_refl _) _))).mono ?_; rintro e w1 ⟨rfl, hb1⟩; have HB1 : Hid (Below w.heap.size w w1) := ((Below.refl _ w).alloc (Nat.le_refl _) _).trans (hb1.mono (by simp)); clear hb1)
    | (refine wpl_field rfl 40 1 (.tmp 4) rfl _ _ rfl (field_header _ _) ?_)
    | (refine wpl_field rfl 38 5 (.tmp 5) rfl _ (firstL l).x.v rfl (by kernel_rfl) ?_)
    | (go_at_call 44; refine (key_any _ _ _ _ (HX.out.below HB1.out) hpl HN.out).mono ?_; rintro e w2 ⟨rfl, hb2⟩; have HB2 : Hid (Below w.heap.size w w2) := HB1.out.trans (hb2.mono HB1.out.size); clear hb2))
  go_ret
  exact ⟨rfl, HB2.out⟩
end Go.Proofs.YthpcedficlhanaaGreatDoor
