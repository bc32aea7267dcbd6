/- tipset.Compare; what it stands on. -/
import Derived.Test.YthpcedficlhanaaGreatDoorList
namespace Go.Proofs.YthpcedficlhanaaGreatDoor
open Go.RowKit

set_option maxRecDepth 100000 in
set_option maxHeartbeats 1000000 in
theorem isNaN_any (w : World) (s : ByteArray) : Calls Tryz.prog 155 #[.string s] w fun e w' => e = .returned (.bool false) ∧ w = w' := by
  go_enter Tryz.func155, Tryz.ntmps155
  go_wp2
  go_ret
  exact ⟨by simp, rfl⟩
/-- Which text is the greater. -/
def cmpS (s t : ByteArray) : Int := if Op.bytesLess s.toList t.toList then -1 else if s.toList == t.toList then 0 else 1
set_option maxRecDepth 100000 in
set_option maxHeartbeats 1000000 in
theorem cmpCompare_any (w : World) (s t : ByteArray) : Calls Tryz.prog 105 #[.string s, .string t] w fun e w' => e = .returned (.int .i64 (cmpS s t)) ∧ w = w' := by
  rcases h1 : Op.bytesLess s.toList t.toList with _ | _
  · rcases h2 : (s.toList == t.toList) with _ | _
    · have hc : cmpS s t = 1 := by simp only [cmpS, h1, h2]; rfl
      have HC := Lib.hid hc
      clear hc
      go_enter Tryz.func105, Tryz.ntmps105
      go_wp2_with (go_at_call 155; refine (isNaN_any _ _).mono ?_; rintro e w1 ⟨rfl, rfl⟩)
      go_ret
      exact ⟨by rw [HC.out]; rfl, rfl⟩
    · have hc : cmpS s t = 0 := by simp only [cmpS, h1, h2]; rfl
      have HC := Lib.hid hc
      clear hc
      go_enter Tryz.func105, Tryz.ntmps105
      go_wp2_with (go_at_call 155; refine (isNaN_any _ _).mono ?_; rintro e w1 ⟨rfl, rfl⟩)
      go_ret
      exact ⟨by rw [HC.out]; rfl, rfl⟩
  · have hc : cmpS s t = -1 := by simp [cmpS, h1]
    have HC := Lib.hid hc
    clear hc
    go_enter Tryz.func105, Tryz.ntmps105
    go_wp2_with (go_at_call 155; refine (isNaN_any _ _).mono ?_; rintro e w1 ⟨rfl, rfl⟩)
    go_ret
    exact ⟨by rw [HC.out]; rfl, rfl⟩

def orI (x y : Int) : Int := if x = 0 then y else x
set_option maxRecDepth 100000 in
set_option maxHeartbeats 1000000 in
theorem cmpOr_any (w : World) (b : Nat) (x y : Int) (h0 : w.cell? ⟨b, 0, none⟩ = some (.int .i64 x)) (h1 : w.cell? ⟨b, 1, none⟩ = some (.int .i64 y)) :
    Calls Tryz.prog 104 #[.slice (some ⟨b, 0, none⟩) 2 2] w fun e w' => e = .returned (.int .i64 (orI x y)) ∧ w = w' := by
  rcases hx : (x != 0) with _ | _
  · have hx0 : x = 0 := by simpa using hx
    have hr : orI x y = y := by rw [orI, if_pos hx0]
    have HR := Lib.hid hr
    clear hr hx0
    rcases hy : (y != 0) with _ | _
    · have hy0 : y = 0 := by simpa using hy
      have HY := Lib.hid hy0
      clear hy0
      go_enter Tryz.func104, Tryz.ntmps104
      go_wp2
      refine wp_loop_rounds 3 ?_
      rw [rounds_succ]
      go_wp2
      rw [rounds_succ]
      go_wp2
      rw [rounds_succ]
      go_wp2
      go_ret
      exact ⟨by rw [HR.out, HY.out]; rfl, rfl⟩
    · go_enter Tryz.func104, Tryz.ntmps104
      go_wp2
      refine wp_loop_rounds 3 ?_
      rw [rounds_succ]
      go_wp2
      rw [rounds_succ]
      go_wp2
      go_ret
      exact ⟨by rw [HR.out]; rfl, rfl⟩
  · have hx0 : ¬ x = 0 := by simpa using hx
    have hr : orI x y = x := by rw [orI, if_neg hx0]
    have HR := Lib.hid hr
    clear hr hx0
    go_enter Tryz.func104, Tryz.ntmps104
    go_wp2
    refine wp_loop_rounds 3 ?_
    rw [rounds_succ]
    go_wp2
    go_ret
    exact ⟨by rw [HR.out]; rfl, rfl⟩

section
variable {ops : Array Oper} {S : World → Prop}
/-- A load of a tipset's variable. -/
theorem yieldsIf_tip {o : Oper} {a : Act} (hw : Region.wanted o (yielded ops a.tmps) = true) (x : Operand) (ho : o.op = .load 28 x) (b : Nat) (hx : a.eval x = .pointer (some ⟨b, 0, none⟩)) (t : Value) (hc : ∀ w, S w → w.cell? ⟨b, 0, none⟩ = some t) : YieldsIf Tryz.prog ops S o (tipV t) a :=
  yieldsIf_load hw 28 x ho b 0 hx [t] _ (fun w hS j u hu => by cases j with | zero => injection hu with hu; subst hu; exact hc w hS | succ j => cases hu) Tryz.underlying28 rfl tip_size
end
theorem int2_info : (Tryz.prog.info? 3).map (fun i => (i.zero, i.size, i.bytes)) = some (some (.int .i64 0), 1, 8) := by kernel_rfl
theorem run_two (w : World) (x y : Int) : (Instr.buildSlice 67 2 #[(0, .int .i64 x), (1, .int .i64 y)]).run Tryz.prog w = .ok (.slice (some ⟨w.heap.size, 0, none⟩) 2 2) (w.alloc (.cells #[.int .i64 x, .int .i64 y] 3)) := by
  obtain ⟨ie, hie, hzz⟩ := Option.map_eq_some_iff.1 int2_info
  simp only [Prod.mk.injEq] at hzz
  obtain ⟨h1, h2, -⟩ := hzz
  have hf := Great.fill_flat [.int .i64 x, .int .i64 y] ((Array.range (2 * ie.size)).map ((Value.int .i64 0).cells[· % (Value.int .i64 0).cells.size]!)) (fun v hv => by simp only [List.mem_cons, List.not_mem_nil, or_false] at hv; rcases hv with rfl | rfl <;> rfl) (by simp [h2])
  refine run_buildSlice w _ 3 2 _ _ ie _ Tryz.underlying67 hie h1 (by omega) (by omega) ?_
  rw [h2] at hf ⊢
  exact hf

theorem exec_two {o : Oper} {a : Act} {w : World} (_h : o.op = o.op) (p q : Operand) (ho : o.op = .buildSlice 67 2 #[(0, p), (1, q)]) (x y : Int) (hp : a.eval p = .int .i64 x) (hq : a.eval q = .int .i64 y) : (execOp a.eval o).run Tryz.prog w = .ok (.value (.slice (some ⟨w.heap.size, 0, none⟩) 2 2)) (w.alloc (.cells #[.int .i64 x, .int .i64 y] 3)) := by
  unfold execOp
  simp only [ho, List.map_toArray, List.map_cons, List.map_nil, hp, hq, Sem.run_bind, run_two, Result.andThen_ok, Sem.run_pure]

set_option maxRecDepth 100000 in
set_option maxHeartbeats 2000000 in
theorem tcompare_any (w : World) (t u : Value) (l m : List LB) (ok ok' : Nat → Prop) (ht : TipAt ok w t l) (hu : TipAt ok' w u m) (hnl : (l.map LB.id).Nodup) (hnm : (m.map LB.id).Nodup) :
    Calls Tryz.prog 33 #[tipV t, tipV u] w fun e w' => e = .returned (.int .i64 (orI (cmpS (ticketN l l.length) (ticketN m m.length)) (cmpS (keyB (l.map LB.id)) (keyB (m.map LB.id))))) ∧ Below w.heap.size w w' := by
  have hB0 : Below w.heap.size w ((w.alloc (.cells #[t] 28)).alloc (.cells #[u] 28)).drew := (((Below.refl _ w).alloc (Nat.le_refl _) _).alloc (by simp) _).drew
  have hH0 : ((fun w' => w'.cell? ⟨w.heap.size, 0, none⟩ = some t ∧ w'.cell? ⟨w.heap.size + 1, 0, none⟩ = some u ∧ TipAt ok w' t l ∧ TipAt ok' w' u m ∧ Below w.heap.size w w' ∧ w.heap.size + 1 < w'.heap.size) : World → Prop) ((w.alloc (.cells #[t] 28)).alloc (.cells #[u] 28)).drew :=
    ⟨cell_block (fr := (0, 0)) (T := 28) (by show ((w.alloc _).alloc _).heap[_]? = _; rw [heap_alloc_if, if_neg (by simp), heap_alloc_if, if_pos rfl]) rfl, cell_block (fr := (0, 0)) (T := 28) (by show ((w.alloc _).alloc _).heap[_]? = _; rw [heap_alloc_if, if_pos (by simp)]) rfl, ht.below hB0, hu.below hB0, hB0, by show w.heap.size + 1 < ((w.alloc _).alloc _).heap.size; simp⟩
  have HH0 := Lib.hid hH0
  have HNL := Lib.hid hnl
  have HNM := Lib.hid hnm
  clear hB0 hH0 ht hu hnl hnm
  go_enter Tryz.func33, Tryz.ntmps33
  go_wp2
  refine st_ (S := (fun w' => w'.cell? ⟨w.heap.size, 0, none⟩ = some t ∧ w'.cell? ⟨w.heap.size + 1, 0, none⟩ = some u ∧ TipAt ok w' t l ∧ TipAt ok' w' u m ∧ Below w.heap.size w w' ∧ w.heap.size + 1 < w'.heap.size)) 13 #[false, false, false, false, false, false, false, false, false, false, false, false, false] (by kernel_rfl) rfl (by rfl) HH0.out (fun hHeld => ?_)
  refine tk_ 0 (some 5) #[true, false, false, false, false, false, false, false, false, false, false, false, false] rfl rfl (by kernel_rfl) (fun _ _ _ h => h) (yieldsIf_tip rfl (.tmp 2) rfl (w.heap.size) rfl t (fun w' h => h.1)) hHeld (a' := ?_) ?_ ?_
  rotate_left
  · simp only [Act.put, List.setIfInBounds_toArray, List.set_cons_zero, List.set_cons_succ]
    rfl
  refine tk_ 2 (some 7) #[true, false, true, false, false, false, false, false, false, false, false, false, false] rfl rfl (by kernel_rfl) (fun _ _ _ h => h) (yieldsIf_tip rfl (.tmp 3) rfl (w.heap.size + 1) rfl u (fun w' h => h.2.1)) hHeld (a' := ?_) ?_ ?_
  rotate_left
  · simp only [Act.put, List.setIfInBounds_toArray, List.set_cons_zero, List.set_cons_succ]
    rfl
  refine tk_ 5 (some 10) #[true, false, true, false, false, true, false, false, false, false, false, false, false] rfl rfl (by kernel_rfl) (fun _ _ _ h => h) (yieldsIf_tip rfl (.tmp 2) rfl (w.heap.size) rfl t (fun w' h => h.1)) hHeld (a' := ?_) ?_ ?_
  rotate_left
  · simp only [Act.put, List.setIfInBounds_toArray, List.set_cons_zero, List.set_cons_succ]
    rfl
  refine tk_ 7 (some 12) #[true, false, true, false, false, true, false, true, false, false, false, false, false] rfl rfl (by kernel_rfl) (fun _ _ _ h => h) (yieldsIf_tip rfl (.tmp 3) rfl (w.heap.size + 1) rfl u (fun w' h => h.2.1)) hHeld (a' := ?_) ?_ ?_
  rotate_left
  · simp only [Act.put, List.setIfInBounds_toArray, List.set_cons_zero, List.set_cons_succ]
    rfl
  refine call_ 1 (some 6) #[true, true, true, false, false, true, false, true, false, false, false, false, false] rfl rfl (by kernel_rfl) rfl 30 _ (by kernel_rfl) (ticket_any _ t l ok hHeld.2.2.1) ?_
  rintro e w1 ⟨rfl, hb1⟩
  refine ⟨_, rfl, ⟨(hb1.cell (p := ⟨w.heap.size, 0, none⟩) (Nat.lt_of_succ_lt hHeld.2.2.2.2.2)).trans hHeld.1, (hb1.cell (p := ⟨w.heap.size + 1, 0, none⟩) hHeld.2.2.2.2.2).trans hHeld.2.1, hHeld.2.2.1.below hb1, hHeld.2.2.2.1.below hb1, hHeld.2.2.2.2.1.trans (hb1.mono hHeld.2.2.2.2.1.size), Nat.lt_of_lt_of_le hHeld.2.2.2.2.2 hb1.size⟩, fun hHeld => ⟨?_, ?_, ?_⟩⟩
  rotate_left
  · simp only [Act.put, List.setIfInBounds_toArray, List.set_cons_zero, List.set_cons_succ]
    rfl
  refine call_ 3 (some 8) #[true, true, true, true, false, true, false, true, false, false, false, false, false] rfl rfl (by kernel_rfl) rfl 30 _ (by kernel_rfl) (ticket_any _ u m ok' hHeld.2.2.2.1) ?_
  rintro e w2 ⟨rfl, hb2⟩
  refine ⟨_, rfl, ⟨(hb2.cell (p := ⟨w.heap.size, 0, none⟩) (Nat.lt_of_succ_lt hHeld.2.2.2.2.2)).trans hHeld.1, (hb2.cell (p := ⟨w.heap.size + 1, 0, none⟩) hHeld.2.2.2.2.2).trans hHeld.2.1, hHeld.2.2.1.below hb2, hHeld.2.2.2.1.below hb2, hHeld.2.2.2.2.1.trans (hb2.mono hHeld.2.2.2.2.1.size), Nat.lt_of_lt_of_le hHeld.2.2.2.2.2 hb2.size⟩, fun hHeld => ⟨?_, ?_, ?_⟩⟩
  rotate_left
  · simp only [Act.put, List.setIfInBounds_toArray, List.set_cons_zero, List.set_cons_succ]
    rfl
  refine call_ 4 (some 9) #[true, true, true, true, true, true, false, true, false, false, false, false, false] rfl rfl (by kernel_rfl) rfl 105 _ (by kernel_rfl) (cmpCompare_any _ (ticketN l l.length) (ticketN m m.length)) ?_
  rintro e w3 ⟨rfl, rfl⟩
  refine ⟨_, rfl, hHeld, fun hHeld => ⟨?_, ?_, ?_⟩⟩
  rotate_left
  · simp only [Act.put, List.setIfInBounds_toArray, List.set_cons_zero, List.set_cons_succ]
    rfl
  refine call_ 6 (some 11) #[true, true, true, true, true, true, true, true, false, false, false, false, false] rfl rfl (by kernel_rfl) rfl 34 _ (by kernel_rfl) (tkey_any _ t l ok hHeld.2.2.1 HNL.out) ?_
  rintro e w4 ⟨rfl, hb4⟩
  refine ⟨_, rfl, ⟨(hb4.cell (p := ⟨w.heap.size, 0, none⟩) (Nat.lt_of_succ_lt hHeld.2.2.2.2.2)).trans hHeld.1, (hb4.cell (p := ⟨w.heap.size + 1, 0, none⟩) hHeld.2.2.2.2.2).trans hHeld.2.1, hHeld.2.2.1.below hb4, hHeld.2.2.2.1.below hb4, hHeld.2.2.2.2.1.trans (hb4.mono hHeld.2.2.2.2.1.size), Nat.lt_of_lt_of_le hHeld.2.2.2.2.2 hb4.size⟩, fun hHeld => ⟨?_, ?_, ?_⟩⟩
  rotate_left
  · simp only [Act.put, List.setIfInBounds_toArray, List.set_cons_zero, List.set_cons_succ]
    rfl
  refine call_ 8 (some 13) #[true, true, true, true, true, true, true, true, true, false, false, false, false] rfl rfl (by kernel_rfl) rfl 34 _ (by kernel_rfl) (tkey_any _ u m ok' hHeld.2.2.2.1 HNM.out) ?_
  rintro e w5 ⟨rfl, hb5⟩
  refine ⟨_, rfl, ⟨(hb5.cell (p := ⟨w.heap.size, 0, none⟩) (Nat.lt_of_succ_lt hHeld.2.2.2.2.2)).trans hHeld.1, (hb5.cell (p := ⟨w.heap.size + 1, 0, none⟩) hHeld.2.2.2.2.2).trans hHeld.2.1, hHeld.2.2.1.below hb5, hHeld.2.2.2.1.below hb5, hHeld.2.2.2.2.1.trans (hb5.mono hHeld.2.2.2.2.1.size), Nat.lt_of_lt_of_le hHeld.2.2.2.2.2 hb5.size⟩, fun hHeld => ⟨?_, ?_, ?_⟩⟩
  rotate_left
  · simp only [Act.put, List.setIfInBounds_toArray, List.set_cons_zero, List.set_cons_succ]
    rfl
  refine call_ 9 (some 14) #[true, true, true, true, true, true, true, true, true, true, false, false, false] rfl rfl (by kernel_rfl) rfl 105 _ (by kernel_rfl) (cmpCompare_any _ (keyB (l.map LB.id)) (keyB (m.map LB.id))) ?_
  rintro e w6 ⟨rfl, rfl⟩
  refine ⟨_, rfl, hHeld, fun hHeld => ⟨?_, ?_, ?_⟩⟩
  rotate_left
  · simp only [Act.put, List.setIfInBounds_toArray, List.set_cons_zero, List.set_cons_succ]
    rfl
  have hb7 : Below w5.heap.size w5 (w5.alloc (.cells #[.int .i64 (cmpS (ticketN l l.length) (ticketN m m.length)), .int .i64 (cmpS (keyB (l.map LB.id)) (keyB (m.map LB.id)))] 3)) := (Below.refl _ w5).alloc (Nat.le_refl _) _
  have hHeld : (fun w' => w'.cell? ⟨w.heap.size, 0, none⟩ = some t ∧ w'.cell? ⟨w.heap.size + 1, 0, none⟩ = some u ∧ TipAt ok w' t l ∧ TipAt ok' w' u m ∧ Below w.heap.size w w' ∧ w.heap.size + 1 < w'.heap.size) _ := ⟨(hb7.cell (p := ⟨w.heap.size, 0, none⟩) (Nat.lt_of_succ_lt hHeld.2.2.2.2.2)).trans hHeld.1, (hb7.cell (p := ⟨w.heap.size + 1, 0, none⟩) hHeld.2.2.2.2.2).trans hHeld.2.1, hHeld.2.2.1.below hb7, hHeld.2.2.2.1.below hb7, hHeld.2.2.2.2.1.trans (hb7.mono hHeld.2.2.2.2.1.size), Nat.lt_of_lt_of_le hHeld.2.2.2.2.2 hb7.size⟩
  refine val_ 10 (some 15) #[true, true, true, true, true, true, true, true, true, true, true, false, false] rfl rfl (by kernel_rfl) rfl (.slice (some ⟨w5.heap.size, 0, none⟩) 2 2) (w5.alloc (.cells #[.int .i64 (cmpS (ticketN l l.length) (ticketN m m.length)), .int .i64 (cmpS (keyB (l.map LB.id)) (keyB (m.map LB.id)))] 3)) (exec_two rfl (.tmp 9) (.tmp 14) rfl _ _ rfl rfl) hHeld (a' := ?_) ?_ ?_
  rotate_left
  · simp only [Act.put, List.setIfInBounds_toArray, List.set_cons_zero, List.set_cons_succ]
    rfl
  refine call_ 11 (some 16) #[true, true, true, true, true, true, true, true, true, true, true, true, false] rfl rfl (by kernel_rfl) rfl 104 _ (by kernel_rfl) (cmpOr_any _ w5.heap.size (cmpS (ticketN l l.length) (ticketN m m.length)) (cmpS (keyB (l.map LB.id)) (keyB (m.map LB.id))) (cell_block (heap_alloc_new w5 _) rfl) (cell_block (heap_alloc_new w5 _) rfl)) ?_
  rintro e w8 ⟨rfl, rfl⟩
  refine ⟨_, rfl, hHeld, fun hHeld => ⟨?_, ?_, ?_⟩⟩
  rotate_left
  · simp only [Act.put, List.setIfInBounds_toArray, List.set_cons_zero, List.set_cons_succ]
    rfl
  refine tk_ 12 (some 4) #[true, true, true, true, true, true, true, true, true, true, true, true, true] (v := ?_) (a' := ?_) rfl rfl (by kernel_rfl) (fun _ _ _ h => h) (yieldsIf_run rfl ?_) hHeld ?_ ?_
  rotate_left
  · intro w'
    go_simp
    with_reducible rfl
  rotate_left
  · simp only [Act.put, List.setIfInBounds_toArray, List.set_cons_zero, List.set_cons_succ]
    rfl
  refine wpAnyH_done (by kernel_rfl) ?_ _
  change Exit.then _ _ _ _ _
  go_wp2
  go_ret
  exact ⟨rfl, hHeld.2.2.2.2.1⟩
end Go.Proofs.YthpcedficlhanaaGreatDoor
