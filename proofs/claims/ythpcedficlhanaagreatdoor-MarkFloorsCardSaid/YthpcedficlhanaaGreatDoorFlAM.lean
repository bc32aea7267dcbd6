/- coxswainlaw08.awake. The document's headers: how they lie; coxswainlaw05.IDOf, Name, coxswainlaw01.Cut. -/
import Derived.Test.YthpcedficlhanaaGreatDoorFlAL
import Derived.Laws.CopyRow
namespace Go.Proofs.YthpcedficlhanaaGreatDoor
open Go.RowKit

theorem calls_eq {P : Program} {f : FuncId} {args : Array Value} {w : World} {B : Nat} {w0 : World} {v v' : Value} (h : Calls P f args w fun e w' => e = .returned v ∧ Below B w0 w') (he : v = v') : Calls P f args w fun e w' => e = .returned v' ∧ Below B w0 w' := he ▸ h
theorem exec_conv_id {o : Oper} {a : Act} {w : World} (x : Operand) (ho : o.op = .convert 133 9 x) (b off : Nat) (i : ID) (hx : a.eval x = .slice (some ⟨b, off, none⟩) 32 32) (h : BytesAt w b off i.1) : (execOp a.eval o).run Tryz.prog w = .ok (.value (.string i.1)) w := by
  unfold execOp
  simp only [ho, hx, Sem.run_bind, conv_id w b off i h, Result.andThen_ok, Sem.run_pure]

structure Aw (B : Nat) (w0 w' : World) (b1 b2 : Nat) (t : Value) (y : LH) : Prop where
  c1 : w'.cell? ⟨b1, 0, none⟩ = some t
  c2 : ∀ j u, (idc rootID)[j]? = some u → w'.cell? ⟨b2, 0 + j, none⟩ = some u
  tip : TipAt (fun k => B ≤ k) w' t [⟨rootID, y⟩]
  okay : Okay (fun k => B ≤ k) w' [⟨rootID, y⟩]
  below : Below B w0 w'
  l1 : b1 < w'.heap.size
  l2 : b2 < w'.heap.size
theorem Aw.under {B : Nat} {w0 w' w'' : World} {b1 b2 : Nat} {t : Value} {y : LH} (h : Aw B w0 w' b1 b2 t y) (hB : B ≤ w'.heap.size) (hb : Below w'.heap.size w' w'') : Aw B w0 w'' b1 b2 t y where
  c1 := (hb.cell (p := ⟨b1, 0, none⟩) h.l1).trans h.c1
  c2 := fun j u hu => (hb.cell (p := ⟨b2, 0 + j, none⟩) h.l2).trans (h.c2 j u hu)
  tip := h.tip.below hb
  okay := h.okay.below hb
  below := h.below.trans (hb.mono hB)
  l1 := Nat.lt_of_lt_of_le h.l1 hb.size
  l2 := Nat.lt_of_lt_of_le h.l2 hb.size
theorem keyB_one (i : ID) : keyB [i] = i.1 := by
  show (⟨((i.1.data.toList ++ []) : List UInt8).toArray⟩ : ByteArray) = i.1
  simp

set_option maxRecDepth 100000 in
set_option maxHeartbeats 4000000 in
theorem awake8_any (w : World) (ht : Tab w) :
    Calls Tryz.prog 18 #[] w fun e w' => e = .returned (.bool true) ∧ Below w.heap.size w w' := by
  have HT := Lib.hid ht
  clear ht
  go_enter Tryz.func18, Tryz.ntmps18
  go_wp2_with (first
    | (go_at_call 71; refine (tgenesis_any _ HT.out).mono ?_; rintro e w1 ⟨t, y, hyh, rfl, hs1, hy1, hb1⟩; have HYH := Lib.hid hyh; have HS1 := Lib.hid hs1; have HY1 := Lib.hid hy1; have HB1 := Lib.hid hb1; clear hyh hs1 hy1 hb1)
    | (refine wpl_store_new rfl 28 _ _ rfl rfl [t] rfl _ _ rfl (by obtain ⟨A, c, rfl, -⟩ := HS1.out.form; simp [Value.oneCell']) tip_size ?_)
    | (go_at_call 60; refine (root_any _ (HT.out.below (HB1.out.alloc HB1.out.size _))).mono ?_; rintro e w2 ⟨rfl, hb2⟩; have HB2 := Lib.hid hb2; clear hb2)
    | (refine wpl_store_new rfl 34 _ _ rfl rfl (idc rootID) rfl _ _ (by rw [idc_length]; rfl) (idE.one rootID) (by rw [idc_length]; exact id_size) ?_))
  have hb1a : Below w1.heap.size w1 ((w2.alloc (.cells (idc rootID).toArray 34)).drew) := (((Below.refl _ w1).alloc (Nat.le_refl _) _).trans ((HB2.out.mono (by simp)).alloc (by have := HB2.out.size; simp only [World.size_alloc] at this; omega) _)).drew
  have hsz : w1.heap.size < w2.heap.size := by have := HB2.out.size; simp only [World.size_alloc] at this; omega
  have hA : Aw w.heap.size w ((w2.alloc (.cells (idc rootID).toArray 34)).drew) w1.heap.size w2.heap.size t y :=
    { c1 := ((((Below.refl w2.heap.size w2).alloc (Nat.le_refl _) (.cells (idc rootID).toArray 34)).cell (p := ⟨w1.heap.size, 0, none⟩) hsz).trans (HB2.out.cell (p := ⟨w1.heap.size, 0, none⟩) (by simp))).trans (cell_block (heap_alloc_new w1 _) rfl)
      c2 := fun j u hu => by rw [Nat.zero_add]; exact cell_block (fr := (0, 0)) (T := 34) (heap_alloc_new w2 _) (by simpa using hu)
      tip := ⟨HS1.out.below hb1a, by simp⟩
      okay := fun x hx => by
        rw [List.mem_singleton] at hx
        subst hx
        exact ⟨Sl.below HY1.out hb1a, by show y.h.Ok; rw [HYH.out]; exact genH_ok, by show y.h.parents.Nodup; rw [HYH.out]; exact List.nodup_nil⟩
      below := HB1.out.trans (hb1a.mono HB1.out.size)
      l1 := by show w1.heap.size < (w2.alloc _).heap.size; simp; omega
      l2 := by show w2.heap.size < (w2.alloc _).heap.size; simp }
  have HA := Lib.hid hA
  have hBw : w.heap.size ≤ w1.heap.size := HB1.out.size
  clear hA hb1a
  refine st_ (S := (fun w' => Aw w.heap.size w w' w1.heap.size w2.heap.size t y)) 37 #[false, false, false, false, false, false, false, false, false, false, false, false, false, false, false, false, false, false, false, false, false, false, false, false, false, false, false, false, false, false, false, false, false, false, false, false, false] (by kernel_rfl) rfl (by rfl) HA.out (fun hHeld => ?_)
  refine tk_ 0 (some 5) #[true, false, false, false, false, false, false, false, false, false, false, false, false, false, false, false, false, false, false, false, false, false, false, false, false, false, false, false, false, false, false, false, false, false, false, false, false] rfl rfl (by kernel_rfl) (fun _ _ _ h => h) (yieldsIf_tip rfl (.tmp 1) rfl w1.heap.size rfl t (fun w' h => h.c1)) hHeld (a' := ?_) ?_ ?_
  rotate_left
  · simp only [Act.put, List.setIfInBounds_toArray, List.set_cons_zero, List.set_cons_succ]
    rfl
  refine call_ 1 (some 6) #[true, true, false, false, false, false, false, false, false, false, false, false, false, false, false, false, false, false, false, false, false, false, false, false, false, false, false, false, false, false, false, false, false, false, false, false, false] rfl rfl (by kernel_rfl) rfl 25 _ (by kernel_rfl) (calls_eq (v' := .int .i64 0) (height_any _ t [⟨rootID, y⟩] _ hHeld.tip) (by show Value.int .i64 y.h.height = _; rw [HYH.out]; rfl)) ?_
  rintro e w3 ⟨rfl, hb3⟩
  refine ⟨_, rfl, hHeld.under (Nat.le_trans hBw (Nat.le_of_lt hHeld.l1)) hb3, fun hHeld => ⟨?_, ?_, ?_⟩⟩
  rotate_left
  · simp only [Act.put, List.setIfInBounds_toArray, List.set_cons_zero, List.set_cons_succ]
    rfl
  refine tk_ 2 (some 7) #[true, true, true, false, false, false, false, false, false, false, false, false, false, false, false, false, false, false, false, false, false, false, false, false, false, false, false, false, false, false, false, false, false, false, false, false, false] (v := ?_) (a' := ?_) rfl rfl (by kernel_rfl) (fun _ _ _ h => h) (yieldsIf_run rfl ?_) hHeld ?_ ?_
  rotate_left
  · intro w'
    go_simp
    with_reducible rfl
  rotate_left
  · simp only [Act.put, List.setIfInBounds_toArray, List.set_cons_zero, List.set_cons_succ]
    rfl
  refine tk_ 3 (some 8) #[true, true, true, true, false, false, false, false, false, false, false, false, false, false, false, false, false, false, false, false, false, false, false, false, false, false, false, false, false, false, false, false, false, false, false, false, false] (v := ?_) (a' := ?_) rfl rfl (by kernel_rfl) (fun _ _ _ h => h) (yieldsIf_run rfl ?_) hHeld ?_ ?_
  rotate_left
  · intro w'
    go_simp
    with_reducible rfl
  rotate_left
  · simp only [Act.put, List.setIfInBounds_toArray, List.set_cons_zero, List.set_cons_succ]
    rfl
  refine tk_ 4 (some 9) #[true, true, true, true, true, false, false, false, false, false, false, false, false, false, false, false, false, false, false, false, false, false, false, false, false, false, false, false, false, false, false, false, false, false, false, false, false] rfl rfl (by kernel_rfl) (fun _ _ _ h => h) (yieldsIf_tip rfl (.tmp 1) rfl w1.heap.size rfl t (fun w' h => h.c1)) hHeld (a' := ?_) ?_ ?_
  rotate_left
  · simp only [Act.put, List.setIfInBounds_toArray, List.set_cons_zero, List.set_cons_succ]
    rfl
  refine call_ 5 (some 10) #[true, true, true, true, true, true, false, false, false, false, false, false, false, false, false, false, false, false, false, false, false, false, false, false, false, false, false, false, false, false, false, false, false, false, false, false, false] rfl rfl (by kernel_rfl) rfl 26 _ (by kernel_rfl) (calls_eq (v' := .int .u64 2) (power_any _ t [⟨rootID, y⟩] _ hHeld.tip) (by show Value.int .u64 y.h.power = _; rw [HYH.out]; rfl)) ?_
  rintro e w4 ⟨rfl, hb4⟩
  refine ⟨_, rfl, hHeld.under (Nat.le_trans hBw (Nat.le_of_lt hHeld.l1)) hb4, fun hHeld => ⟨?_, ?_, ?_⟩⟩
  rotate_left
  · simp only [Act.put, List.setIfInBounds_toArray, List.set_cons_zero, List.set_cons_succ]
    rfl
  refine tk_ 6 (some 11) #[true, true, true, true, true, true, true, false, false, false, false, false, false, false, false, false, false, false, false, false, false, false, false, false, false, false, false, false, false, false, false, false, false, false, false, false, false] (v := ?_) (a' := ?_) rfl rfl (by kernel_rfl) (fun _ _ _ h => h) (yieldsIf_run rfl ?_) hHeld ?_ ?_
  rotate_left
  · intro w'
    go_simp
    with_reducible rfl
  rotate_left
  · simp only [Act.put, List.setIfInBounds_toArray, List.set_cons_zero, List.set_cons_succ]
    rfl
  refine tk_ 7 (some 12) #[true, true, true, true, true, true, true, true, false, false, false, false, false, false, false, false, false, false, false, false, false, false, false, false, false, false, false, false, false, false, false, false, false, false, false, false, false] (v := ?_) (a' := ?_) rfl rfl (by kernel_rfl) (fun _ _ _ h => h) (yieldsIf_run rfl ?_) hHeld ?_ ?_
  rotate_left
  · intro w'
    go_simp
    with_reducible rfl
  rotate_left
  · simp only [Act.put, List.setIfInBounds_toArray, List.set_cons_zero, List.set_cons_succ]
    rfl
  refine tk_ 8 (some 13) #[true, true, true, true, true, true, true, true, true, false, false, false, false, false, false, false, false, false, false, false, false, false, false, false, false, false, false, false, false, false, false, false, false, false, false, false, false] (v := ?_) (a' := ?_) rfl rfl (by kernel_rfl) (fun _ _ _ h => h) (yieldsIf_run rfl ?_) hHeld ?_ ?_
  rotate_left
  · intro w'
    go_simp
    with_reducible rfl
  rotate_left
  · simp only [Act.put, List.setIfInBounds_toArray, List.set_cons_zero, List.set_cons_succ]
    rfl
  refine tk_ 9 (some 14) #[true, true, true, true, true, true, true, true, true, true, false, false, false, false, false, false, false, false, false, false, false, false, false, false, false, false, false, false, false, false, false, false, false, false, false, false, false] rfl rfl (by kernel_rfl) (fun _ _ _ h => h) (yieldsIf_tip rfl (.tmp 1) rfl w1.heap.size rfl t (fun w' h => h.c1)) hHeld (a' := ?_) ?_ ?_
  rotate_left
  · simp only [Act.put, List.setIfInBounds_toArray, List.set_cons_zero, List.set_cons_succ]
    rfl
  refine call_ 10 (some 15) #[true, true, true, true, true, true, true, true, true, true, true, false, false, false, false, false, false, false, false, false, false, false, false, false, false, false, false, false, false, false, false, false, false, false, false, false, false] rfl rfl (by kernel_rfl) rfl 27 _ (by kernel_rfl) (calls_eq (v' := .string ⟨#[]⟩) (parents_any _ t [⟨rootID, y⟩] _ _ hHeld.tip hHeld.okay) (by show Value.string (keyB y.h.parents) = _; rw [HYH.out]; rfl)) ?_
  rintro e w5 ⟨rfl, hb5⟩
  refine ⟨_, rfl, hHeld.under (Nat.le_trans hBw (Nat.le_of_lt hHeld.l1)) hb5, fun hHeld => ⟨?_, ?_, ?_⟩⟩
  rotate_left
  · simp only [Act.put, List.setIfInBounds_toArray, List.set_cons_zero, List.set_cons_succ]
    rfl
  refine tk_ 11 (some 16) #[true, true, true, true, true, true, true, true, true, true, true, true, false, false, false, false, false, false, false, false, false, false, false, false, false, false, false, false, false, false, false, false, false, false, false, false, false] (v := ?_) (a' := ?_) rfl rfl (by kernel_rfl) (fun _ _ _ h => h) (yieldsIf_run rfl ?_) hHeld ?_ ?_
  rotate_left
  · intro w'
    go_simp
    with_reducible rfl
  rotate_left
  · simp only [Act.put, List.setIfInBounds_toArray, List.set_cons_zero, List.set_cons_succ]
    rfl
  refine tk_ 12 (some 17) #[true, true, true, true, true, true, true, true, true, true, true, true, true, false, false, false, false, false, false, false, false, false, false, false, false, false, false, false, false, false, false, false, false, false, false, false, false] (v := ?_) (a' := ?_) rfl rfl (by kernel_rfl) (fun _ _ _ h => h) (yieldsIf_run rfl ?_) hHeld ?_ ?_
  rotate_left
  · intro w'
    go_simp
    with_reducible rfl
  rotate_left
  · simp only [Act.put, List.setIfInBounds_toArray, List.set_cons_zero, List.set_cons_succ]
    rfl
  refine tk_ 13 (some 18) #[true, true, true, true, true, true, true, true, true, true, true, true, true, true, false, false, false, false, false, false, false, false, false, false, false, false, false, false, false, false, false, false, false, false, false, false, false] (v := ?_) (a' := ?_) rfl rfl (by kernel_rfl) (fun _ _ _ h => h) (yieldsIf_run rfl ?_) hHeld ?_ ?_
  rotate_left
  · intro w'
    go_simp
    with_reducible rfl
  rotate_left
  · simp only [Act.put, List.setIfInBounds_toArray, List.set_cons_zero, List.set_cons_succ]
    rfl
  refine tk_ 14 (some 19) #[true, true, true, true, true, true, true, true, true, true, true, true, true, true, true, false, false, false, false, false, false, false, false, false, false, false, false, false, false, false, false, false, false, false, false, false, false] rfl rfl (by kernel_rfl) (fun _ _ _ h => h) (yieldsIf_tip rfl (.tmp 1) rfl w1.heap.size rfl t (fun w' h => h.c1)) hHeld (a' := ?_) ?_ ?_
  rotate_left
  · simp only [Act.put, List.setIfInBounds_toArray, List.set_cons_zero, List.set_cons_succ]
    rfl
  refine tk_ 16 (some 21) #[true, true, true, true, true, true, true, true, true, true, true, true, true, true, true, false, true, false, false, false, false, false, false, false, false, false, false, false, false, false, false, false, false, false, false, false, false] (v := ?_) (a' := ?_) rfl rfl (by kernel_rfl) (fun _ _ _ h => h) (yieldsIf_run rfl ?_) hHeld ?_ ?_
  rotate_left
  · intro w'
    go_simp
    with_reducible rfl
  rotate_left
  · simp only [Act.put, List.setIfInBounds_toArray, List.set_cons_zero, List.set_cons_succ]
    rfl
  refine tk_ 17 (some 22) #[true, true, true, true, true, true, true, true, true, true, true, true, true, true, true, false, true, true, false, false, false, false, false, false, false, false, false, false, false, false, false, false, false, false, false, false, false] rfl rfl (by kernel_rfl) (fun _ _ _ h => h) (yieldsIf_of (v := .string rootID.1) rfl fun w' h => exec_conv_id (.tmp 21) rfl w2.heap.size 0 rootID rfl h.c2) hHeld (a' := ?_) ?_ ?_
  rotate_left
  · simp only [Act.put, List.setIfInBounds_toArray, List.set_cons_zero, List.set_cons_succ]
    rfl
  refine call_ 15 (some 20) #[true, true, true, true, true, true, true, true, true, true, true, true, true, true, true, true, true, true, false, false, false, false, false, false, false, false, false, false, false, false, false, false, false, false, false, false, false] rfl rfl (by kernel_rfl) rfl 34 _ (by kernel_rfl) (calls_eq (v' := .string rootID.1) (tkey_any _ t [⟨rootID, y⟩] _ hHeld.tip (by simp)) (by show Value.string (keyB [rootID]) = _; rw [keyB_one])) ?_
  rintro e w6 ⟨rfl, hb6⟩
  refine ⟨_, rfl, hHeld.under (Nat.le_trans hBw (Nat.le_of_lt hHeld.l1)) hb6, fun hHeld => ⟨?_, ?_, ?_⟩⟩
  rotate_left
  · simp only [Act.put, List.setIfInBounds_toArray, List.set_cons_zero, List.set_cons_succ]
    rfl
  refine tk_ 18 (some 23) #[true, true, true, true, true, true, true, true, true, true, true, true, true, true, true, true, true, true, true, false, false, false, false, false, false, false, false, false, false, false, false, false, false, false, false, false, false] rfl rfl (by kernel_rfl) (fun _ _ _ h => h) (yieldsIf_run (v := .bool true) rfl fun w' => (show _ = Result.ok (Next.value (.bool (rootID.1.toList == rootID.1.toList))) w' from rfl).trans (by rw [beq_self_eq_true])) hHeld (a' := ?_) ?_ ?_
  rotate_left
  · simp only [Act.put, List.setIfInBounds_toArray, List.set_cons_zero, List.set_cons_succ]
    rfl
  refine tk_ 19 (some 24) #[true, true, true, true, true, true, true, true, true, true, true, true, true, true, true, true, true, true, true, true, false, false, false, false, false, false, false, false, false, false, false, false, false, false, false, false, false] (v := ?_) (a' := ?_) rfl rfl (by kernel_rfl) (fun _ _ _ h => h) (yieldsIf_run rfl ?_) hHeld ?_ ?_
  rotate_left
  · intro w'
    go_simp
    with_reducible rfl
  rotate_left
  · simp only [Act.put, List.setIfInBounds_toArray, List.set_cons_zero, List.set_cons_succ]
    rfl
  refine tk_ 20 (some 25) #[true, true, true, true, true, true, true, true, true, true, true, true, true, true, true, true, true, true, true, true, true, false, false, false, false, false, false, false, false, false, false, false, false, false, false, false, false] (v := ?_) (a' := ?_) rfl rfl (by kernel_rfl) (fun _ _ _ h => h) (yieldsIf_run rfl ?_) hHeld ?_ ?_
  rotate_left
  · intro w'
    go_simp
    with_reducible rfl
  rotate_left
  · simp only [Act.put, List.setIfInBounds_toArray, List.set_cons_zero, List.set_cons_succ]
    rfl
  refine tk_ 21 (some 26) #[true, true, true, true, true, true, true, true, true, true, true, true, true, true, true, true, true, true, true, true, true, true, false, false, false, false, false, false, false, false, false, false, false, false, false, false, false] rfl rfl (by kernel_rfl) (fun _ _ _ h => h) (yieldsIf_tip rfl (.tmp 1) rfl w1.heap.size rfl t (fun w' h => h.c1)) hHeld (a' := ?_) ?_ ?_
  rotate_left
  · simp only [Act.put, List.setIfInBounds_toArray, List.set_cons_zero, List.set_cons_succ]
    rfl
  refine call_ 22 (some 27) #[true, true, true, true, true, true, true, true, true, true, true, true, true, true, true, true, true, true, true, true, true, true, true, false, false, false, false, false, false, false, false, false, false, false, false, false, false] rfl rfl (by kernel_rfl) rfl 23 _ (by kernel_rfl) (tblocks_any _ t [⟨rootID, y⟩] _ _ hHeld.tip hHeld.okay) ?_
  rintro e w7 ⟨v7, ys7, rfl, hC7⟩
  obtain ⟨A7, c7, rfl, -⟩ := own_slice hC7.own
  have hb7 := hC7.below
  refine ⟨_, rfl, hHeld.under (Nat.le_trans hBw (Nat.le_of_lt hHeld.l1)) hb7, fun hHeld => ⟨?_, ?_, ?_⟩⟩
  rotate_left
  · simp only [Act.put, List.setIfInBounds_toArray, List.set_cons_zero, List.set_cons_succ]
    rfl
  refine tk_ 23 (some 28) #[true, true, true, true, true, true, true, true, true, true, true, true, true, true, true, true, true, true, true, true, true, true, true, true, false, false, false, false, false, false, false, false, false, false, false, false, false] (v := ?_) (a' := ?_) rfl rfl (by kernel_rfl) (fun _ _ _ h => h) (yieldsIf_run rfl ?_) hHeld ?_ ?_
  rotate_left
  · intro w'
    go_simp
    with_reducible rfl
  rotate_left
  · simp only [Act.put, List.setIfInBounds_toArray, List.set_cons_zero, List.set_cons_succ]
    rfl
  refine tk_ 24 (some 29) #[true, true, true, true, true, true, true, true, true, true, true, true, true, true, true, true, true, true, true, true, true, true, true, true, true, false, false, false, false, false, false, false, false, false, false, false, false] (v := ?_) (a' := ?_) rfl rfl (by kernel_rfl) (fun _ _ _ h => h) (yieldsIf_run rfl ?_) hHeld ?_ ?_
  rotate_left
  · intro w'
    go_simp
    with_reducible rfl
  rotate_left
  · simp only [Act.put, List.setIfInBounds_toArray, List.set_cons_zero, List.set_cons_succ]
    rfl
  refine tk_ 25 (some 30) #[true, true, true, true, true, true, true, true, true, true, true, true, true, true, true, true, true, true, true, true, true, true, true, true, true, true, false, false, false, false, false, false, false, false, false, false, false] (v := ?_) (a' := ?_) rfl rfl (by kernel_rfl) (fun _ _ _ h => h) (yieldsIf_run rfl ?_) hHeld ?_ ?_
  rotate_left
  · intro w'
    go_simp
    with_reducible rfl
  rotate_left
  · simp only [Act.put, List.setIfInBounds_toArray, List.set_cons_zero, List.set_cons_succ]
    rfl
  refine tk_ 26 (some 31) #[true, true, true, true, true, true, true, true, true, true, true, true, true, true, true, true, true, true, true, true, true, true, true, true, true, true, true, false, false, false, false, false, false, false, false, false, false] (v := ?_) (a' := ?_) rfl rfl (by kernel_rfl) (fun _ _ _ h => h) (yieldsIf_run rfl ?_) hHeld ?_ ?_
  rotate_left
  · intro w'
    go_simp
    with_reducible rfl
  rotate_left
  · simp only [Act.put, List.setIfInBounds_toArray, List.set_cons_zero, List.set_cons_succ]
    rfl
  refine tk_ 27 (some 32) #[true, true, true, true, true, true, true, true, true, true, true, true, true, true, true, true, true, true, true, true, true, true, true, true, true, true, true, true, false, false, false, false, false, false, false, false, false] rfl rfl (by kernel_rfl) (fun _ _ _ h => h) (yieldsIf_tip rfl (.tmp 1) rfl w1.heap.size rfl t (fun w' h => h.c1)) hHeld (a' := ?_) ?_ ?_
  rotate_left
  · simp only [Act.put, List.setIfInBounds_toArray, List.set_cons_zero, List.set_cons_succ]
    rfl
  refine call_ 28 (some 33) #[true, true, true, true, true, true, true, true, true, true, true, true, true, true, true, true, true, true, true, true, true, true, true, true, true, true, true, true, true, false, false, false, false, false, false, false, false] rfl rfl (by kernel_rfl) rfl 55 _ (by kernel_rfl) (calls_eq (v' := .bool false) (zero_any _ t [⟨rootID, y⟩] _ hHeld.tip) (by rfl)) ?_
  rintro e w8 ⟨rfl, hb8⟩
  refine ⟨_, rfl, hHeld.under (Nat.le_trans hBw (Nat.le_of_lt hHeld.l1)) hb8, fun hHeld => ⟨?_, ?_, ?_⟩⟩
  rotate_left
  · simp only [Act.put, List.setIfInBounds_toArray, List.set_cons_zero, List.set_cons_succ]
    rfl
  refine tk_ 29 (some 34) #[true, true, true, true, true, true, true, true, true, true, true, true, true, true, true, true, true, true, true, true, true, true, true, true, true, true, true, true, true, true, false, false, false, false, false, false, false] (v := ?_) (a' := ?_) rfl rfl (by kernel_rfl) (fun _ _ _ h => h) (yieldsIf_run rfl ?_) hHeld ?_ ?_
  rotate_left
  · intro w'
    go_simp
    with_reducible rfl
  rotate_left
  · simp only [Act.put, List.setIfInBounds_toArray, List.set_cons_zero, List.set_cons_succ]
    rfl
  refine tk_ 30 (some 35) #[true, true, true, true, true, true, true, true, true, true, true, true, true, true, true, true, true, true, true, true, true, true, true, true, true, true, true, true, true, true, true, false, false, false, false, false, false] (v := ?_) (a' := ?_) rfl rfl (by kernel_rfl) (fun _ _ _ h => h) (yieldsIf_run rfl ?_) hHeld ?_ ?_
  rotate_left
  · intro w'
    go_simp
    with_reducible rfl
  rotate_left
  · simp only [Act.put, List.setIfInBounds_toArray, List.set_cons_zero, List.set_cons_succ]
    rfl
  refine tk_ 31 (some 36) #[true, true, true, true, true, true, true, true, true, true, true, true, true, true, true, true, true, true, true, true, true, true, true, true, true, true, true, true, true, true, true, true, false, false, false, false, false] (v := ?_) (a' := ?_) rfl rfl (by kernel_rfl) (fun _ _ _ h => h) (yieldsIf_run rfl ?_) hHeld ?_ ?_
  rotate_left
  · intro w'
    go_simp
    with_reducible rfl
  rotate_left
  · simp only [Act.put, List.setIfInBounds_toArray, List.set_cons_zero, List.set_cons_succ]
    rfl
  refine tk_ 32 (some 37) #[true, true, true, true, true, true, true, true, true, true, true, true, true, true, true, true, true, true, true, true, true, true, true, true, true, true, true, true, true, true, true, true, true, false, false, false, false] rfl rfl (by kernel_rfl) (fun _ _ _ h => h) (yieldsIf_tip rfl (.tmp 1) rfl w1.heap.size rfl t (fun w' h => h.c1)) hHeld (a' := ?_) ?_ ?_
  rotate_left
  · simp only [Act.put, List.setIfInBounds_toArray, List.set_cons_zero, List.set_cons_succ]
    rfl
  refine tk_ 33 (some 38) #[true, true, true, true, true, true, true, true, true, true, true, true, true, true, true, true, true, true, true, true, true, true, true, true, true, true, true, true, true, true, true, true, true, true, false, false, false] rfl rfl (by kernel_rfl) (fun _ _ _ h => h) (yieldsIf_load rfl 34 (.tmp 2) rfl w2.heap.size 0 rfl (idc rootID) _ (fun w' h => h.c2) Tryz.underlying34 rfl (by rw [idc_length]; exact id_size)) hHeld (a' := ?_) ?_ ?_
  rotate_left
  · simp only [Act.put, List.setIfInBounds_toArray, List.set_cons_zero, List.set_cons_succ]
    rfl
  refine call_ 34 (some 39) #[true, true, true, true, true, true, true, true, true, true, true, true, true, true, true, true, true, true, true, true, true, true, true, true, true, true, true, true, true, true, true, true, true, true, true, false, false] rfl rfl (by kernel_rfl) rfl 28 _ (by kernel_rfl) (calls_eq (v' := .bool true) (thas_any _ t [⟨rootID, y⟩] _ hHeld.tip rootID) (by simp [hasB])) ?_
  rintro e w9 ⟨rfl, hb9⟩
  refine ⟨_, rfl, hHeld.under (Nat.le_trans hBw (Nat.le_of_lt hHeld.l1)) hb9, fun hHeld => ⟨?_, ?_, ?_⟩⟩
  rotate_left
  · simp only [Act.put, List.setIfInBounds_toArray, List.set_cons_zero, List.set_cons_succ]
    rfl
  refine tk_ 35 (some 40) #[true, true, true, true, true, true, true, true, true, true, true, true, true, true, true, true, true, true, true, true, true, true, true, true, true, true, true, true, true, true, true, true, true, true, true, true, false] (v := ?_) (a' := ?_) rfl rfl (by kernel_rfl) (fun _ _ _ h => h) (yieldsIf_run rfl ?_) hHeld ?_ ?_
  rotate_left
  · intro w'
    go_simp
    with_reducible rfl
  rotate_left
  · simp only [Act.put, List.setIfInBounds_toArray, List.set_cons_zero, List.set_cons_succ]
    rfl
  refine tk_ 36 (some 0) #[true, true, true, true, true, true, true, true, true, true, true, true, true, true, true, true, true, true, true, true, true, true, true, true, true, true, true, true, true, true, true, true, true, true, true, true, true] (v := ?_) (a' := ?_) rfl rfl (by kernel_rfl) (fun _ _ _ h => h) (yieldsIf_run rfl ?_) hHeld ?_ ?_
  rotate_left
  · intro w'
    go_simp
    with_reducible rfl
  rotate_left
  · simp only [Act.put, List.setIfInBounds_toArray, List.set_cons_zero, List.set_cons_succ]
    rfl
  refine wpAnyH_done (by kernel_rfl) ?_ _
  change Exit.then _ _ _ _ _
  go_wp2
  go_ret
  exact ⟨rfl, hHeld.below⟩
end Go.Proofs.YthpcedficlhanaaGreatDoor
namespace Go.Proofs.YthpcedficlhanaaGreatDoor
open Go.RowKit

structure RH where
  height : Int
  miner : Int
  ticket : ByteArray
  wins : Int
  power : Int
  parents : List ByteArray
  salt : Int
structure LRH where
  h : RH
  A : Option Addr
  c : Nat
def strE : Enc ByteArray := { enc := fun s => [.string s], k := 1, hk := fun _ => rfl, one := fun _ u hu => by rw [List.mem_singleton] at hu; subst hu; rfl, k0 := by decide }
def LRH.v (x : LRH) : Value := .slice x.A x.h.parents.length x.c
def LRH.cells (x : LRH) : List Value := [.int .i64 x.h.height, .int .i64 x.h.miner, .string x.h.ticket, .int .i64 x.h.wins, .int .u64 x.h.power, x.v, .int .i64 x.h.salt]
def LRH.At (ok : Nat → Prop) (w : World) (x : LRH) : Prop := Sl strE ok w x.v x.h.parents
def lrhE : Enc LRH := { enc := LRH.cells, k := 7, hk := fun _ => rfl, one := fun x u hu => by simp only [LRH.cells, List.mem_cons, List.not_mem_nil, or_false] at hu; rcases hu with rfl | rfl | rfl | rfl | rfl | rfl | rfl <;> rfl, k0 := by decide }
theorem rh_size : (Tryz.prog.info? 53).map (·.size) = some 7 := by kernel_rfl
theorem strE_flat (l : List ByteArray) : strE.flat l = l.map Value.string := by
  induction l with
  | nil => rfl
  | cons s l ih => rw [Enc.flat, List.flatMap_cons, List.map_cons, ← ih]; rfl

/-- A name of a text: its first 32 bytes, filled up. -/
def idB (s : ByteArray) : List UInt8 := s.data.toList.take 32 ++ List.replicate (32 - (s.data.toList.take 32).length) 0
theorem idB_length (s : ByteArray) : (idB s).length = 32 := by simp [idB]; omega
def idOf (s : ByteArray) : ID := ⟨⟨(idB s).toArray⟩, by simp [ByteArray.size, idB_length]⟩
theorem idOf_self (s : ByteArray) (h : s.size = 32) : (idOf s).1 = s := by
  have hl : s.data.toList.length = 32 := by simpa using h
  have : idB s = s.data.toList := by
    unfold idB
    rw [List.take_of_length_le (by omega), hl]
    simp
  show (⟨(idB s).toArray⟩ : ByteArray) = s
  rw [this]

theorem run_copy_id (w : World) (dT sT ty elem : TypeId) (g : Nat) (s : ByteArray) (t : TypeId) {P : Program}
    (hu : P.underlying dT = some (.slice elem)) (hs : (P.info? elem).map (·.size) = some 1) (hg : w.heap[g]? = some (.cells (idc default).toArray t (0, 0))) :
    (Builtin.copy_ #[dT, sT] ty #[.slice (some ⟨g, 0, none⟩) 32 32, .string s]).run P w = .ok (goInt (min s.size 32)) (w.setRow g (idc (idOf s)).toArray) := by
  have hst := run_storeCells_at P g 0 t (bytesC (s.extract 0 (min s.size 32))) 0 _ w hg (by rw [bytesC_length, List.size_toArray, idc_length]; simp [ByteArray.size_extract]; omega) (bytesC_one _)
  have hrow : ((idc default).toArray.toList.take (0 + 0) ++ bytesC (s.extract 0 (min s.size 32)) ++ (idc default).toArray.toList.drop (0 + 0 + (bytesC (s.extract 0 (min s.size 32))).length)).toArray = (idc (idOf s)).toArray := by
    have hz : (idc default : List Value) = List.replicate 32 (.int .u8 0) := by rfl
    have he : bytesC (s.extract 0 (min s.size 32)) = (s.data.toList.take 32).map fun b => Value.int .u8 (b.toNat : Int) := by
      unfold bytesC
      congr 1
      rw [ByteArray.data_extract, Array.toList_extract, List.extract_eq_take_drop, List.drop_zero, Nat.sub_zero]
      rcases Nat.le_total s.size 32 with h | h
      · rw [Nat.min_eq_left h, List.take_of_length_le (by simp), List.take_of_length_le (by simpa using h)]
      · rw [Nat.min_eq_right h]
    rw [he, hz]
    simp only [Nat.zero_add, List.take_zero, List.nil_append, List.drop_replicate, List.length_map]
    rw [idc, bytesC]
    show _ = (List.map _ (idB s)).toArray
    rw [idB, List.map_append, List.map_replicate]
    rfl
  rw [hrow] at hst
  have htk : List.take (min s.size 32) (List.map (fun b : UInt8 => Value.int .u8 (b.toNat : Int)) s.data.toList) = bytesC (s.extract 0 (min s.size 32)) := by
    unfold bytesC
    rw [ByteArray.data_extract, Array.toList_extract, List.extract_eq_take_drop, List.drop_zero, Nat.sub_zero, List.map_take]
  cases hq : P.info? elem with
  | none => simp [hq] at hs
  | some i =>
    have hmin : Nat.min s.size 32 = min s.size 32 := rfl
    simp [Builtin.copy_, run_underlying hu, Builtin.lenOf, Builtin.firstCells, sizeOf, typeInfo, hq, hmin]
    rw [htk, hst]
    have : ((min s.size 32 : Nat) : Int) = min (s.size : Int) 32 := by omega
    simp [Result.andThen, this]
section
variable {ops : Array Oper} {rest : List Oper} {o : Oper} {a : Act} {w : World} {Q : Exit → Act → World → Prop}
theorem byte_size1 : (Tryz.prog.info? 5).map (·.size) = some 1 := by kernel_rfl
theorem wpl_copy_id (hgd : o.guard = none) (x y : Operand) (ho : o.op = .call { callee := .builtin .copy, args := #[x, y], argTypes := #[133, 9] }) (g : Nat) (hx : a.eval x = .slice (some ⟨g, 0, none⟩) 32 32) (s : ByteArray) (hy : a.eval y = .string s) (t : TypeId) (hg : w.heap[g]? = some (.cells (idc default).toArray t (0, 0)))
    (h : ∀ W2, W2 = w.setRow g (idc (idOf s)).toArray → wpList Tryz.prog ops Q rest (a.put o.dst (goInt (min s.size 32))) W2) : wpList Tryz.prog ops Q (o :: rest) a w :=
  wpList_plain hgd fun K hK => by
    have hrun := run_copy_id (P := Tryz.prog) w 133 9 o.type 5 g s t Tryz.underlying133 byte_size1 hg
    unfold Oper.wp
    simp [execOp, ho, resolve, invoke, builtin, hx, hy, hrun, Result.andThen]
    exact hK _ _ (by simpa using h _ rfl)
end
set_option maxRecDepth 100000 in
set_option maxHeartbeats 1000000 in
theorem idOf_any (w : World) (s : ByteArray) : Calls Tryz.prog 109 #[.string s] w fun e w' => e = .returned (.agg (idc (idOf s)).toArray) ∧ Below w.heap.size w w' := by
  have hB0 : Below w.heap.size w ((w.alloc (.cells (idc default).toArray 34)).alloc (.cells (idc default).toArray 34)) := ((Below.refl _ w).alloc (Nat.le_refl _) _).alloc (by simp) _
  have hg0 : ((w.alloc (.cells (idc default).toArray 34)).alloc (.cells (idc default).toArray 34)).heap[w.heap.size]? = some (.cells (idc default).toArray 34 (0, 0)) := by rw [heap_alloc_if, if_neg (by simp), heap_alloc_if, if_pos rfl]
  have hg1 : ((w.alloc (.cells (idc default).toArray 34)).alloc (.cells (idc default).toArray 34)).heap[w.heap.size + 1]? = some (.cells (idc default).toArray 34 (0, 0)) := by rw [heap_alloc_if, if_pos (by simp)]
  have HB0 := Lib.hid hB0
  have HG0 := Lib.hid hg0
  have HG1 := Lib.hid hg1
  clear hB0 hg0 hg1
  go_enter Tryz.func109, Tryz.ntmps109
  go_wp2_with (first
    | (refine wpl_copy_id rfl (.tmp 4) (.tmp 5) rfl (w.heap.size + 1) rfl s rfl _ HG1.out ?_; intro W2 hW2; have HB2 : Hid (Below w.heap.size w W2) := Lib.hid (by subst hW2; exact below_setRow HB0.out (Nat.le_succ w.heap.size) _); have HK2 : Hid (W2.heap[w.heap.size + 1]? = some (.cells (idc (idOf s)).toArray 34 (0, 0))) := Lib.hid (by subst hW2; exact setRow_heap _ _ _ _ _ _ HG1.out); have HK0 : Hid (W2.heap[w.heap.size]? = some (.cells (idc default).toArray 34 (0, 0))) := Lib.hid (by subst hW2; exact (heap_setRow_ne _ _ _ _ (by omega)).trans HG0.out); clear hW2)
    | (refine wpl_load rfl 34 (.tmp 3) rfl (w.heap.size + 1) 0 rfl (idc (idOf s)) _ (fun j u hu => by rw [Nat.zero_add]; exact cell_block HK2.out (by simpa using hu)) Tryz.underlying34 rfl (by rw [idc_length]; exact id_size) ?_)
    | (refine wpl_store_row rfl 34 (.tmp 2) (.tmp 7) rfl w.heap.size rfl (idc (idOf s)) rfl _ 34 HK0.out (by rw [List.size_toArray, idc_length, idc_length]) (idE.one (idOf s)) (by rw [idc_length]; exact id_size) ?_))
  (try simp only [Exit.inBlock, Exit.then])
  refine bodyPost_ret (results_cell_row rfl _ _ w.heap.size 34 (idc (idOf s)).toArray (0, 0) _ rfl (setRow_heap W2 w.heap.size _ _ _ _ HK0.out) Tryz.underlying34 rfl (by rw [List.size_toArray, idc_length]; exact id_size)) rfl ?_
  exact ⟨rfl, below_setRow HB2.out (Nat.le_refl _) _⟩

/-- At most n bytes. -/
def cutS (s : ByteArray) (n : Nat) : ByteArray := if n < s.size then s.extract 0 n else s
theorem cutS_size (s : ByteArray) (n : Nat) : (cutS s n).size ≤ n ∨ (cutS s n).size ≤ s.size ∧ s.size ≤ n := by
  unfold cutS
  split
  · exact .inl (by rw [ByteArray.size_extract]; omega)
  · exact .inr ⟨Nat.le_refl _, by omega⟩
theorem cutS_le (s : ByteArray) (n : Nat) : (cutS s n).size ≤ n := by
  rcases cutS_size s n with h | h
  · exact h
  · omega
set_option maxRecDepth 100000 in
set_option maxHeartbeats 1000000 in
theorem cut_any (w : World) (s : ByteArray) (n : Nat) (hn : n ≤ 1000) (hs : s.size ≤ 140737488351232) : Calls Tryz.prog 56 #[.string s, .int .i64 n] w fun e w' => e = .returned (.string (cutS s n)) ∧ w = w' := by
  by_cases hlt : n < s.size
  · have he : cutS s n = s.extract 0 n := by rw [cutS, if_pos hlt]
    have HE := Lib.hid he
    clear he
    go_enter Tryz.func56, Tryz.ntmps56
    go_wp2
    go_ret
    exact ⟨by rw [HE.out]; rfl, rfl⟩
  · have he : cutS s n = s := by rw [cutS, if_neg hlt]
    have HE := Lib.hid he
    clear he
    go_enter Tryz.func56, Tryz.ntmps56
    go_wp2
    go_ret
    exact ⟨by rw [HE.out]; rfl, rfl⟩
end Go.Proofs.YthpcedficlhanaaGreatDoor
