/- coxswainlaw08.awake. -/
import Derived.Test.YthpcedficlhanaaGreatDoorGen
namespace Go.Proofs.YthpcedficlhanaaGreatDoor
open Go.RowKit

theorem calls_eq {P : Program} {f : FuncId} {args : Array Value} {w : World} {B : Nat} {w0 : World} {v v' : Value} (h : Calls P f args w fun e w' => e = .returned v ∧ Below B w0 w') (he : v = v') : Calls P f args w fun e w' => e = .returned v' ∧ Below B w0 w' := he ▸ h
theorem exec_conv_id {o : Oper} {a : Act} {w : World} (x : Operand) (ho : o.op = .convert 133 9 x) (b off : Nat) (i : ID) (hx : a.eval x = .slice (some ⟨b, off, none⟩) 32 32) (h : BytesAt w b off i.1) : (execOp a.eval o).run Tryz.prog w = .ok (.value (.string i.1)) w := by
  unfold execOp
  simp only [ho, hx, Sem.run_bind, conv_id w b off i h, Result.andThen_ok, Sem.run_pure]

structure Aw (B : Nat) (w0 w' : World) (b1 b2 : Nat) (t : Value) (y : LH) : Prop where
  c1 : w'.cell? ⟨b1, 0, none⟩ = some t
  c2 : ∀ j u, (idc rootID)[j]? = some u → w'.cell? ⟨b2, 0 + j, none⟩ = some u
  tip : TipAt (fun k => B ≤ k) w' t [⟨rootID, y⟩]
  okay : Okay (fun k => B ≤ k) w' [⟨rootID, y⟩]
  below : Below B w0 w'
  l1 : b1 < w'.heap.size
  l2 : b2 < w'.heap.size
theorem Aw.under {B : Nat} {w0 w' w'' : World} {b1 b2 : Nat} {t : Value} {y : LH} (h : Aw B w0 w' b1 b2 t y) (hB : B ≤ w'.heap.size) (hb : Below w'.heap.size w' w'') : Aw B w0 w'' b1 b2 t y where
  c1 := (hb.cell (p := ⟨b1, 0, none⟩) h.l1).trans h.c1
  c2 := fun j u hu => (hb.cell (p := ⟨b2, 0 + j, none⟩) h.l2).trans (h.c2 j u hu)
  tip := h.tip.below hb
  okay := h.okay.below hb
  below := h.below.trans (hb.mono hB)
  l1 := Nat.lt_of_lt_of_le h.l1 hb.size
  l2 := Nat.lt_of_lt_of_le h.l2 hb.size
theorem keyB_one (i : ID) : keyB [i] = i.1 := by
  show (⟨((i.1.data.toList ++ []) : List UInt8).toArray⟩ : ByteArray) = i.1
  simp

set_option maxRecDepth 100000 in
set_option maxHeartbeats 4000000 in
theorem awake8_any (w : World) (ht : Tab w) :
    Calls Tryz.prog 18 #[] w fun e w' => e = .returned (.bool true) ∧ Below w.heap.size w w' := by
  have HT := Lib.hid ht
  clear ht
  go_enter Tryz.func18, Tryz.ntmps18
  go_wp2_with (first
    | (go_at_call 71; refine (tgenesis_any _ HT.out).mono ?_; rintro e w1 ⟨t, y, hyh, rfl, hs1, hy1, hb1⟩; have HYH := Lib.hid hyh; have HS1 := Lib.hid hs1; have HY1 := Lib.hid hy1; have HB1 := Lib.hid hb1; clear hyh hs1 hy1 hb1)
    | (refine wpl_store_new rfl 28 _ _ rfl rfl [t] rfl _ _ rfl (by obtain ⟨A, c, rfl, -⟩ := HS1.out.form; simp [Value.oneCell']) tip_size ?_)
    | (go_at_call 60; refine (root_any _ (HT.out.below (HB1.out.alloc HB1.out.size _))).mono ?_; rintro e w2 ⟨rfl, hb2⟩; have HB2 := Lib.hid hb2; clear hb2)
    | (refine wpl_store_new rfl 34 _ _ rfl rfl (idc rootID) rfl _ _ (by rw [idc_length]; rfl) (idE.one rootID) (by rw [idc_length]; exact id_size) ?_))
  have hb1a : Below w1.heap.size w1 ((w2.alloc (.cells (idc rootID).toArray 34)).drew) := (((Below.refl _ w1).alloc (Nat.le_refl _) _).trans ((HB2.out.mono (by simp)).alloc (by have := HB2.out.size; simp only [World.size_alloc] at this; omega) _)).drew
  have hsz : w1.heap.size < w2.heap.size := by have := HB2.out.size; simp only [World.size_alloc] at this; omega
  have hA : Aw w.heap.size w ((w2.alloc (.cells (idc rootID).toArray 34)).drew) w1.heap.size w2.heap.size t y :=
    { c1 := ((((Below.refl w2.heap.size w2).alloc (Nat.le_refl _) (.cells (idc rootID).toArray 34)).cell (p := ⟨w1.heap.size, 0, none⟩) hsz).trans (HB2.out.cell (p := ⟨w1.heap.size, 0, none⟩) (by simp))).trans (cell_block (heap_alloc_new w1 _) rfl)
      c2 := fun j u hu => by rw [Nat.zero_add]; exact cell_block (fr := (0, 0)) (T := 34) (heap_alloc_new w2 _) (by simpa using hu)
      tip := ⟨HS1.out.below hb1a, by simp⟩
      okay := fun x hx => by
        rw [List.mem_singleton] at hx
        subst hx
        exact ⟨Sl.below HY1.out hb1a, by show y.h.Ok; rw [HYH.out]; exact genH_ok, by show y.h.parents.Nodup; rw [HYH.out]; exact List.nodup_nil⟩
      below := HB1.out.trans (hb1a.mono HB1.out.size)
      l1 := by show w1.heap.size < (w2.alloc _).heap.size; simp; omega
      l2 := by show w2.heap.size < (w2.alloc _).heap.size; simp }
  have HA := Lib.hid hA
  have hBw : w.heap.size ≤ w1.heap.size := HB1.out.size
  clear hA hb1a
  refine st_ (S := (fun w' => Aw w.heap.size w w' w1.heap.size w2.heap.size t y)) 37 #[false, false, false, false, false, false, false, false, false, false, false, false, false, false, false, false, false, false, false, false, false, false, false, false, false, false, false, false, false, false, false, false, false, false, false, false, false] (by kernel_rfl) rfl (by rfl) HA.out (fun hHeld => ?_)
  refine tk_ 0 (some 5) #[true, false, false, false, false, false, false, false, false, false, false, false, false, false, false, false, false, false, false, false, false, false, false, false, false, false, false, false, false, false, false, false, false, false, false, false, false] rfl rfl (by kernel_rfl) (fun _ _ _ h => h) (yieldsIf_tip rfl (.tmp 1) rfl w1.heap.size rfl t (fun w' h => h.c1)) hHeld (a' := ?_) ?_ ?_
  rotate_left
  · simp only [Act.put, List.setIfInBounds_toArray, List.set_cons_zero, List.set_cons_succ]
    rfl
  refine call_ 1 (some 6) #[true, true, false, false, false, false, false, false, false, false, false, false, false, false, false, false, false, false, false, false, false, false, false, false, false, false, false, false, false, false, false, false, false, false, false, false, false] rfl rfl (by kernel_rfl) rfl 25 _ (by kernel_rfl) (calls_eq (v' := .int .i64 0) (height_any _ t [⟨rootID, y⟩] _ hHeld.tip) (by show Value.int .i64 y.h.height = _; rw [HYH.out]; rfl)) ?_
  rintro e w3 ⟨rfl, hb3⟩
  refine ⟨_, rfl, hHeld.under (Nat.le_trans hBw (Nat.le_of_lt hHeld.l1)) hb3, fun hHeld => ⟨?_, ?_, ?_⟩⟩
  rotate_left
  · simp only [Act.put, List.setIfInBounds_toArray, List.set_cons_zero, List.set_cons_succ]
    rfl
  refine tk_ 2 (some 7) #[true, true, true, false, false, false, false, false, false, false, false, false, false, false, false, false, false, false, false, false, false, false, false, false, false, false, false, false, false, false, false, false, false, false, false, false, false] (v := ?_) (a' := ?_) rfl rfl (by kernel_rfl) (fun _ _ _ h => h) (yieldsIf_run rfl ?_) hHeld ?_ ?_
  rotate_left
  · intro w'
    go_simp
    with_reducible rfl
  rotate_left
  · simp only [Act.put, List.setIfInBounds_toArray, List.set_cons_zero, List.set_cons_succ]
    rfl
  refine tk_ 3 (some 8) #[true, true, true, true, false, false, false, false, false, false, false, false, false, false, false, false, false, false, false, false, false, false, false, false, false, false, false, false, false, false, false, false, false, false, false, false, false] (v := ?_) (a' := ?_) rfl rfl (by kernel_rfl) (fun _ _ _ h => h) (yieldsIf_run rfl ?_) hHeld ?_ ?_
  rotate_left
  · intro w'
    go_simp
    with_reducible rfl
  rotate_left
  · simp only [Act.put, List.setIfInBounds_toArray, List.set_cons_zero, List.set_cons_succ]
    rfl
  refine tk_ 4 (some 9) #[true, true, true, true, true, false, false, false, false, false, false, false, false, false, false, false, false, false, false, false, false, false, false, false, false, false, false, false, false, false, false, false, false, false, false, false, false] rfl rfl (by kernel_rfl) (fun _ _ _ h => h) (yieldsIf_tip rfl (.tmp 1) rfl w1.heap.size rfl t (fun w' h => h.c1)) hHeld (a' := ?_) ?_ ?_
  rotate_left
  · simp only [Act.put, List.setIfInBounds_toArray, List.set_cons_zero, List.set_cons_succ]
    rfl
  refine call_ 5 (some 10) #[true, true, true, true, true, true, false, false, false, false, false, false, false, false, false, false, false, false, false, false, false, false, false, false, false, false, false, false, false, false, false, false, false, false, false, false, false] rfl rfl (by kernel_rfl) rfl 26 _ (by kernel_rfl) (calls_eq (v' := .int .u64 2) (power_any _ t [⟨rootID, y⟩] _ hHeld.tip) (by show Value.int .u64 y.h.power = _; rw [HYH.out]; rfl)) ?_
  rintro e w4 ⟨rfl, hb4⟩
  refine ⟨_, rfl, hHeld.under (Nat.le_trans hBw (Nat.le_of_lt hHeld.l1)) hb4, fun hHeld => ⟨?_, ?_, ?_⟩⟩
  rotate_left
  · simp only [Act.put, List.setIfInBounds_toArray, List.set_cons_zero, List.set_cons_succ]
    rfl
  refine tk_ 6 (some 11) #[true, true, true, true, true, true, true, false, false, false, false, false, false, false, false, false, false, false, false, false, false, false, false, false, false, false, false, false, false, false, false, false, false, false, false, false, false] (v := ?_) (a' := ?_) rfl rfl (by kernel_rfl) (fun _ _ _ h => h) (yieldsIf_run rfl ?_) hHeld ?_ ?_
  rotate_left
  · intro w'
    go_simp
    with_reducible rfl
  rotate_left
  · simp only [Act.put, List.setIfInBounds_toArray, List.set_cons_zero, List.set_cons_succ]
    rfl
  refine tk_ 7 (some 12) #[true, true, true, true, true, true, true, true, false, false, false, false, false, false, false, false, false, false, false, false, false, false, false, false, false, false, false, false, false, false, false, false, false, false, false, false, false] (v := ?_) (a' := ?_) rfl rfl (by kernel_rfl) (fun _ _ _ h => h) (yieldsIf_run rfl ?_) hHeld ?_ ?_
  rotate_left
  · intro w'
    go_simp
    with_reducible rfl
  rotate_left
  · simp only [Act.put, List.setIfInBounds_toArray, List.set_cons_zero, List.set_cons_succ]
    rfl
  refine tk_ 8 (some 13) #[true, true, true, true, true, true, true, true, true, false, false, false, false, false, false, false, false, false, false, false, false, false, false, false, false, false, false, false, false, false, false, false, false, false, false, false, false] (v := ?_) (a' := ?_) rfl rfl (by kernel_rfl) (fun _ _ _ h => h) (yieldsIf_run rfl ?_) hHeld ?_ ?_
  rotate_left
  · intro w'
    go_simp
    with_reducible rfl
  rotate_left
  · simp only [Act.put, List.setIfInBounds_toArray, List.set_cons_zero, List.set_cons_succ]
    rfl
  refine tk_ 9 (some 14) #[true, true, true, true, true, true, true, true, true, true, false, false, false, false, false, false, false, false, false, false, false, false, false, false, false, false, false, false, false, false, false, false, false, false, false, false, false] rfl rfl (by kernel_rfl) (fun _ _ _ h => h) (yieldsIf_tip rfl (.tmp 1) rfl w1.heap.size rfl t (fun w' h => h.c1)) hHeld (a' := ?_) ?_ ?_
  rotate_left
  · simp only [Act.put, List.setIfInBounds_toArray, List.set_cons_zero, List.set_cons_succ]
    rfl
  refine call_ 10 (some 15) #[true, true, true, true, true, true, true, true, true, true, true, false, false, false, false, false, false, false, false, false, false, false, false, false, false, false, false, false, false, false, false, false, false, false, false, false, false] rfl rfl (by kernel_rfl) rfl 27 _ (by kernel_rfl) (calls_eq (v' := .string ⟨#[]⟩) (parents_any _ t [⟨rootID, y⟩] _ _ hHeld.tip hHeld.okay) (by show Value.string (keyB y.h.parents) = _; rw [HYH.out]; rfl)) ?_
  rintro e w5 ⟨rfl, hb5⟩
  refine ⟨_, rfl, hHeld.under (Nat.le_trans hBw (Nat.le_of_lt hHeld.l1)) hb5, fun hHeld => ⟨?_, ?_, ?_⟩⟩
  rotate_left
  · simp only [Act.put, List.setIfInBounds_toArray, List.set_cons_zero, List.set_cons_succ]
    rfl
  refine tk_ 11 (some 16) #[true, true, true, true, true, true, true, true, true, true, true, true, false, false, false, false, false, false, false, false, false, false, false, false, false, false, false, false, false, false, false, false, false, false, false, false, false] (v := ?_) (a' := ?_) rfl rfl (by kernel_rfl) (fun _ _ _ h => h) (yieldsIf_run rfl ?_) hHeld ?_ ?_
  rotate_left
  · intro w'
    go_simp
    with_reducible rfl
  rotate_left
  · simp only [Act.put, List.setIfInBounds_toArray, List.set_cons_zero, List.set_cons_succ]
    rfl
  refine tk_ 12 (some 17) #[true, true, true, true, true, true, true, true, true, true, true, true, true, false, false, false, false, false, false, false, false, false, false, false, false, false, false, false, false, false, false, false, false, false, false, false, false] (v := ?_) (a' := ?_) rfl rfl (by kernel_rfl) (fun _ _ _ h => h) (yieldsIf_run rfl ?_) hHeld ?_ ?_
  rotate_left
  · intro w'
    go_simp
    with_reducible rfl
  rotate_left
  · simp only [Act.put, List.setIfInBounds_toArray, List.set_cons_zero, List.set_cons_succ]
    rfl
  refine tk_ 13 (some 18) #[true, true, true, true, true, true, true, true, true, true, true, true, true, true, false, false, false, false, false, false, false, false, false, false, false, false, false, false, false, false, false, false, false, false, false, false, false] (v := ?_) (a' := ?_) rfl rfl (by kernel_rfl) (fun _ _ _ h => h) (yieldsIf_run rfl ?_) hHeld ?_ ?_
  rotate_left
  · intro w'
    go_simp
    with_reducible rfl
  rotate_left
  · simp only [Act.put, List.setIfInBounds_toArray, List.set_cons_zero, List.set_cons_succ]
    rfl
  refine tk_ 14 (some 19) #[true, true, true, true, true, true, true, true, true, true, true, true, true, true, true, false, false, false, false, false, false, false, false, false, false, false, false, false, false, false, false, false, false, false, false, false, false] rfl rfl (by kernel_rfl) (fun _ _ _ h => h) (yieldsIf_tip rfl (.tmp 1) rfl w1.heap.size rfl t (fun w' h => h.c1)) hHeld (a' := ?_) ?_ ?_
  rotate_left
  · simp only [Act.put, List.setIfInBounds_toArray, List.set_cons_zero, List.set_cons_succ]
    rfl
  refine tk_ 16 (some 21) #[true, true, true, true, true, true, true, true, true, true, true, true, true, true, true, false, true, false, false, false, false, false, false, false, false, false, false, false, false, false, false, false, false, false, false, false, false] (v := ?_) (a' := ?_) rfl rfl (by kernel_rfl) (fun _ _ _ h => h) (yieldsIf_run rfl ?_) hHeld ?_ ?_
  rotate_left
  · intro w'
    go_simp
    with_reducible rfl
  rotate_left
  · simp only [Act.put, List.setIfInBounds_toArray, List.set_cons_zero, List.set_cons_succ]
    rfl
  refine tk_ 17 (some 22) #[true, true, true, true, true, true, true, true, true, true, true, true, true, true, true, false, true, true, false, false, false, false, false, false, false, false, false, false, false, false, false, false, false, false, false, false, false] rfl rfl (by kernel_rfl) (fun _ _ _ h => h) (yieldsIf_of (v := .string rootID.1) rfl fun w' h => exec_conv_id (.tmp 21) rfl w2.heap.size 0 rootID rfl h.c2) hHeld (a' := ?_) ?_ ?_
  rotate_left
  · simp only [Act.put, List.setIfInBounds_toArray, List.set_cons_zero, List.set_cons_succ]
    rfl
  refine call_ 15 (some 20) #[true, true, true, true, true, true, true, true, true, true, true, true, true, true, true, true, true, true, false, false, false, false, false, false, false, false, false, false, false, false, false, false, false, false, false, false, false] rfl rfl (by kernel_rfl) rfl 34 _ (by kernel_rfl) (calls_eq (v' := .string rootID.1) (tkey_any _ t [⟨rootID, y⟩] _ hHeld.tip (by simp)) (by show Value.string (keyB [rootID]) = _; rw [keyB_one])) ?_
  rintro e w6 ⟨rfl, hb6⟩
  refine ⟨_, rfl, hHeld.under (Nat.le_trans hBw (Nat.le_of_lt hHeld.l1)) hb6, fun hHeld => ⟨?_, ?_, ?_⟩⟩
  rotate_left
  · simp only [Act.put, List.setIfInBounds_toArray, List.set_cons_zero, List.set_cons_succ]
    rfl
  refine tk_ 18 (some 23) #[true, true, true, true, true, true, true, true, true, true, true, true, true, true, true, true, true, true, true, false, false, false, false, false, false, false, false, false, false, false, false, false, false, false, false, false, false] rfl rfl (by kernel_rfl) (fun _ _ _ h => h) (yieldsIf_run (v := .bool true) rfl fun w' => (show _ = Result.ok (Next.value (.bool (rootID.1.toList == rootID.1.toList))) w' from rfl).trans (by rw [beq_self_eq_true])) hHeld (a' := ?_) ?_ ?_
  rotate_left
  · simp only [Act.put, List.setIfInBounds_toArray, List.set_cons_zero, List.set_cons_succ]
    rfl
  refine tk_ 19 (some 24) #[true, true, true, true, true, true, true, true, true, true, true, true, true, true, true, true, true, true, true, true, false, false, false, false, false, false, false, false, false, false, false, false, false, false, false, false, false] (v := ?_) (a' := ?_) rfl rfl (by kernel_rfl) (fun _ _ _ h => h) (yieldsIf_run rfl ?_) hHeld ?_ ?_
  rotate_left
  · intro w'
    go_simp
    with_reducible rfl
  rotate_left
  · simp only [Act.put, List.setIfInBounds_toArray, List.set_cons_zero, List.set_cons_succ]
    rfl
  refine tk_ 20 (some 25) #[true, true, true, true, true, true, true, true, true, true, true, true, true, true, true, true, true, true, true, true, true, false, false, false, false, false, false, false, false, false, false, false, false, false, false, false, false] (v := ?_) (a' := ?_) rfl rfl (by kernel_rfl) (fun _ _ _ h => h) (yieldsIf_run rfl ?_) hHeld ?_ ?_
  rotate_left
  · intro w'
    go_simp
    with_reducible rfl
  rotate_left
  · simp only [Act.put, List.setIfInBounds_toArray, List.set_cons_zero, List.set_cons_succ]
    rfl
  refine tk_ 21 (some 26) #[true, true, true, true, true, true, true, true, true, true, true, true, true, true, true, true, true, true, true, true, true, true, false, false, false, false, false, false, false, false, false, false, false, false, false, false, false] rfl rfl (by kernel_rfl) (fun _ _ _ h => h) (yieldsIf_tip rfl (.tmp 1) rfl w1.heap.size rfl t (fun w' h => h.c1)) hHeld (a' := ?_) ?_ ?_
  rotate_left
  · simp only [Act.put, List.setIfInBounds_toArray, List.set_cons_zero, List.set_cons_succ]
    rfl
  refine call_ 22 (some 27) #[true, true, true, true, true, true, true, true, true, true, true, true, true, true, true, true, true, true, true, true, true, true, true, false, false, false, false, false, false, false, false, false, false, false, false, false, false] rfl rfl (by kernel_rfl) rfl 23 _ (by kernel_rfl) (tblocks_any _ t [⟨rootID, y⟩] _ _ hHeld.tip hHeld.okay) ?_
  rintro e w7 ⟨v7, ys7, rfl, hC7⟩
  obtain ⟨A7, c7, rfl, -⟩ := own_slice hC7.own
  have hb7 := hC7.below
  refine ⟨_, rfl, hHeld.under (Nat.le_trans hBw (Nat.le_of_lt hHeld.l1)) hb7, fun hHeld => ⟨?_, ?_, ?_⟩⟩
  rotate_left
  · simp only [Act.put, List.setIfInBounds_toArray, List.set_cons_zero, List.set_cons_succ]
    rfl
  refine tk_ 23 (some 28) #[true, true, true, true, true, true, true, true, true, true, true, true, true, true, true, true, true, true, true, true, true, true, true, true, false, false, false, false, false, false, false, false, false, false, false, false, false] (v := ?_) (a' := ?_) rfl rfl (by kernel_rfl) (fun _ _ _ h => h) (yieldsIf_run rfl ?_) hHeld ?_ ?_
  rotate_left
  · intro w'
    go_simp
    with_reducible rfl
  rotate_left
  · simp only [Act.put, List.setIfInBounds_toArray, List.set_cons_zero, List.set_cons_succ]
    rfl
  refine tk_ 24 (some 29) #[true, true, true, true, true, true, true, true, true, true, true, true, true, true, true, true, true, true, true, true, true, true, true, true, true, false, false, false, false, false, false, false, false, false, false, false, false] (v := ?_) (a' := ?_) rfl rfl (by kernel_rfl) (fun _ _ _ h => h) (yieldsIf_run rfl ?_) hHeld ?_ ?_
  rotate_left
  · intro w'
    go_simp
    with_reducible rfl
  rotate_left
  · simp only [Act.put, List.setIfInBounds_toArray, List.set_cons_zero, List.set_cons_succ]
    rfl
  refine tk_ 25 (some 30) #[true, true, true, true, true, true, true, true, true, true, true, true, true, true, true, true, true, true, true, true, true, true, true, true, true, true, false, false, false, false, false, false, false, false, false, false, false] (v := ?_) (a' := ?_) rfl rfl (by kernel_rfl) (fun _ _ _ h => h) (yieldsIf_run rfl ?_) hHeld ?_ ?_
  rotate_left
  · intro w'
    go_simp
    with_reducible rfl
  rotate_left
  · simp only [Act.put, List.setIfInBounds_toArray, List.set_cons_zero, List.set_cons_succ]
    rfl
  refine tk_ 26 (some 31) #[true, true, true, true, true, true, true, true, true, true, true, true, true, true, true, true, true, true, true, true, true, true, true, true, true, true, true, false, false, false, false, false, false, false, false, false, false] (v := ?_) (a' := ?_) rfl rfl (by kernel_rfl) (fun _ _ _ h => h) (yieldsIf_run rfl ?_) hHeld ?_ ?_
  rotate_left
  · intro w'
    go_simp
    with_reducible rfl
  rotate_left
  · simp only [Act.put, List.setIfInBounds_toArray, List.set_cons_zero, List.set_cons_succ]
    rfl
  refine tk_ 27 (some 32) #[true, true, true, true, true, true, true, true, true, true, true, true, true, true, true, true, true, true, true, true, true, true, true, true, true, true, true, true, false, false, false, false, false, false, false, false, false] rfl rfl (by kernel_rfl) (fun _ _ _ h => h) (yieldsIf_tip rfl (.tmp 1) rfl w1.heap.size rfl t (fun w' h => h.c1)) hHeld (a' := ?_) ?_ ?_
  rotate_left
  · simp only [Act.put, List.setIfInBounds_toArray, List.set_cons_zero, List.set_cons_succ]
    rfl
  refine call_ 28 (some 33) #[true, true, true, true, true, true, true, true, true, true, true, true, true, true, true, true, true, true, true, true, true, true, true, true, true, true, true, true, true, false, false, false, false, false, false, false, false] rfl rfl (by kernel_rfl) rfl 55 _ (by kernel_rfl) (calls_eq (v' := .bool false) (zero_any _ t [⟨rootID, y⟩] _ hHeld.tip) (by rfl)) ?_
  rintro e w8 ⟨rfl, hb8⟩
  refine ⟨_, rfl, hHeld.under (Nat.le_trans hBw (Nat.le_of_lt hHeld.l1)) hb8, fun hHeld => ⟨?_, ?_, ?_⟩⟩
  rotate_left
  · simp only [Act.put, List.setIfInBounds_toArray, List.set_cons_zero, List.set_cons_succ]
    rfl
  refine tk_ 29 (some 34) #[true, true, true, true, true, true, true, true, true, true, true, true, true, true, true, true, true, true, true, true, true, true, true, true, true, true, true, true, true, true, false, false, false, false, false, false, false] (v := ?_) (a' := ?_) rfl rfl (by kernel_rfl) (fun _ _ _ h => h) (yieldsIf_run rfl ?_) hHeld ?_ ?_
  rotate_left
  · intro w'
    go_simp
    with_reducible rfl
  rotate_left
  · simp only [Act.put, List.setIfInBounds_toArray, List.set_cons_zero, List.set_cons_succ]
    rfl
  refine tk_ 30 (some 35) #[true, true, true, true, true, true, true, true, true, true, true, true, true, true, true, true, true, true, true, true, true, true, true, true, true, true, true, true, true, true, true, false, false, false, false, false, false] (v := ?_) (a' := ?_) rfl rfl (by kernel_rfl) (fun _ _ _ h => h) (yieldsIf_run rfl ?_) hHeld ?_ ?_
  rotate_left
  · intro w'
    go_simp
    with_reducible rfl
  rotate_left
  · simp only [Act.put, List.setIfInBounds_toArray, List.set_cons_zero, List.set_cons_succ]
    rfl
  refine tk_ 31 (some 36) #[true, true, true, true, true, true, true, true, true, true, true, true, true, true, true, true, true, true, true, true, true, true, true, true, true, true, true, true, true, true, true, true, false, false, false, false, false] (v := ?_) (a' := ?_) rfl rfl (by kernel_rfl) (fun _ _ _ h => h) (yieldsIf_run rfl ?_) hHeld ?_ ?_
  rotate_left
  · intro w'
    go_simp
    with_reducible rfl
  rotate_left
  · simp only [Act.put, List.setIfInBounds_toArray, List.set_cons_zero, List.set_cons_succ]
    rfl
  refine tk_ 32 (some 37) #[true, true, true, true, true, true, true, true, true, true, true, true, true, true, true, true, true, true, true, true, true, true, true, true, true, true, true, true, true, true, true, true, true, false, false, false, false] rfl rfl (by kernel_rfl) (fun _ _ _ h => h) (yieldsIf_tip rfl (.tmp 1) rfl w1.heap.size rfl t (fun w' h => h.c1)) hHeld (a' := ?_) ?_ ?_
  rotate_left
  · simp only [Act.put, List.setIfInBounds_toArray, List.set_cons_zero, List.set_cons_succ]
    rfl
  refine tk_ 33 (some 38) #[true, true, true, true, true, true, true, true, true, true, true, true, true, true, true, true, true, true, true, true, true, true, true, true, true, true, true, true, true, true, true, true, true, true, false, false, false] rfl rfl (by kernel_rfl) (fun _ _ _ h => h) (yieldsIf_load rfl 34 (.tmp 2) rfl w2.heap.size 0 rfl (idc rootID) _ (fun w' h => h.c2) Tryz.underlying34 rfl (by rw [idc_length]; exact id_size)) hHeld (a' := ?_) ?_ ?_
  rotate_left
  · simp only [Act.put, List.setIfInBounds_toArray, List.set_cons_zero, List.set_cons_succ]
    rfl
  refine call_ 34 (some 39) #[true, true, true, true, true, true, true, true, true, true, true, true, true, true, true, true, true, true, true, true, true, true, true, true, true, true, true, true, true, true, true, true, true, true, true, false, false] rfl rfl (by kernel_rfl) rfl 28 _ (by kernel_rfl) (calls_eq (v' := .bool true) (thas_any _ t [⟨rootID, y⟩] _ hHeld.tip rootID) (by simp [hasB])) ?_
  rintro e w9 ⟨rfl, hb9⟩
  refine ⟨_, rfl, hHeld.under (Nat.le_trans hBw (Nat.le_of_lt hHeld.l1)) hb9, fun hHeld => ⟨?_, ?_, ?_⟩⟩
  rotate_left
  · simp only [Act.put, List.setIfInBounds_toArray, List.set_cons_zero, List.set_cons_succ]
    rfl
  refine tk_ 35 (some 40) #[true, true, true, true, true, true, true, true, true, true, true, true, true, true, true, true, true, true, true, true, true, true, true, true, true, true, true, true, true, true, true, true, true, true, true, true, false] (v := ?_) (a' := ?_) rfl rfl (by kernel_rfl) (fun _ _ _ h => h) (yieldsIf_run rfl ?_) hHeld ?_ ?_
  rotate_left
  · intro w'
    go_simp
    with_reducible rfl
  rotate_left
  · simp only [Act.put, List.setIfInBounds_toArray, List.set_cons_zero, List.set_cons_succ]
    rfl
  refine tk_ 36 (some 0) #[true, true, true, true, true, true, true, true, true, true, true, true, true, true, true, true, true, true, true, true, true, true, true, true, true, true, true, true, true, true, true, true, true, true, true, true, true] (v := ?_) (a' := ?_) rfl rfl (by kernel_rfl) (fun _ _ _ h => h) (yieldsIf_run rfl ?_) hHeld ?_ ?_
  rotate_left
  · intro w'
    go_simp
    with_reducible rfl
  rotate_left
  · simp only [Act.put, List.setIfInBounds_toArray, List.set_cons_zero, List.set_cons_succ]
    rfl
  refine wpAnyH_done (by kernel_rfl) ?_ _
  change Exit.then _ _ _ _ _
  go_wp2
  go_ret
  exact ⟨rfl, hHeld.below⟩
end Go.Proofs.YthpcedficlhanaaGreatDoor
