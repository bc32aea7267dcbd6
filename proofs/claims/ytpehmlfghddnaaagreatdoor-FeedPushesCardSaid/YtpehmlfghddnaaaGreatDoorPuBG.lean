/- feed: of, New, Len, Start. -/
import Derived.Test.YtpehmlfghddnaaaGreatDoorPuBF
namespace Go.Proofs.YtpehmlfghddnaaaGreatDoor
open Go.RowKit Go.Maps

/-- An event. -/
structure Ev where
  kind : Int
  key : ByteArray
  h : Int
def Ev.cells (x : Ev) : List Value := [.int .i64 x.kind, .string x.key, .int .i64 x.h]
def evE : Enc Ev := { enc := Ev.cells, k := 3, hk := fun _ => rfl, one := fun x u hu => by simp only [Ev.cells, List.mem_cons, List.not_mem_nil, or_false] at hu; rcases hu with rfl | rfl | rfl <;> rfl, k0 := by decide }
def evOf (G : List Hdr) (k : Int) (T : List ID) : Ev := ⟨k, keyB T, hgtG G T⟩
theorem ev_size : (Tryz.prog.info? 117).map (·.size) = some 3 := by kernel_rfl
theorem ev_info : (Tryz.prog.info? 117).map (fun i => (i.zero, i.size, i.bytes)) = some (some (.agg #[.int .i64 0, .string ⟨#[]⟩, .int .i64 0]), 3, 32) := by kernel_rfl
theorem evs_size : (Tryz.prog.info? 109).map (·.size) = some 1 := by kernel_rfl
set_option maxRecDepth 100000 in
set_option maxHeartbeats 2000000 in
theorem fof_any (w : World) (k : Int) (tv : Value) (T : List ID) (G : List Hdr) (ok : Nat → Prop) (hT : TipOf G T) (hw : TipIs ok w G tv T) :
    Calls Tryz.prog 170 #[.int .i64 k, tipV tv] w fun e w' => e = .returned (.agg (evOf G k T).cells.toArray) ∧ Below w.heap.size w w' := by
  obtain ⟨kt, hkt⟩ : ∃ kt, keyB T = kt := ⟨_, rfl⟩
  obtain ⟨ht, hht⟩ : ∃ ht, hgtG G T = ht := ⟨_, rfl⟩
  have hev : evOf G k T = ⟨k, kt, ht⟩ := by unfold evOf; rw [hkt, hht]
  rw [hev]
  have HK : Hid (∀ W, Below w.heap.size w W → Calls Tryz.prog 28 #[tipV tv] W fun e w' => e = .returned (.string kt) ∧ Below W.heap.size W w') := Lib.hid fun W hb => by rw [← hkt]; exact key_is (hw.below hb) (.inr hT)
  have HH : Hid (∀ W, Below w.heap.size w W → Calls Tryz.prog 62 #[tipV tv] W fun e w' => e = .returned (.int .i64 ht) ∧ Below W.heap.size W w') := Lib.hid fun W hb => by rw [← hht]; exact height_is (hw.below hb) hT
  have hb0 : Below w.heap.size w ((w.alloc (.cells #[tv] 27)).alloc (.cells #[.int .i64 0, .string ⟨#[]⟩, .int .i64 0] 117)) := ((Below.refl _ w).alloc (Nat.le_refl _) _).alloc (by simp) _
  have HB0 : Hid (Box1 w ((w.alloc (.cells #[tv] 27)).alloc (.cells #[.int .i64 0, .string ⟨#[]⟩, .int .i64 0] 117)) w.heap.size tv) := Lib.hid ⟨hb0, (heap_alloc_old _ _ (by simp)).trans (heap_alloc_new w _)⟩
  have HR0 : Hid (((w.alloc (.cells #[tv] 27)).alloc (.cells #[.int .i64 0, .string ⟨#[]⟩, .int .i64 0] 117)).heap[w.heap.size + 1]? = some (.cells #[.int .i64 0, .string ⟨#[]⟩, .int .i64 0] 117 (0, 0))) := Lib.hid (by have := heap_alloc_new (w.alloc (.cells #[tv] 27)) (.cells #[.int .i64 0, .string ⟨#[]⟩, .int .i64 0] 117); rw [World.size_alloc] at this; exact this)
  clear hkt hht hev hw hb0
  go_enter Tryz.func170, Tryz.ntmps170
  go_upto_region 1 with fail
  generalize (w.alloc (.cells #[tv] 27)).alloc (.cells #[.int .i64 0, .string ⟨#[]⟩, .int .i64 0] 117) = W0 at HB0 HR0 ⊢
  refine stD_ (S := (fun W' => Box1 w W' w.heap.size tv ∧ W'.heap[w.heap.size + 1]? = some (.cells #[.int .i64 0, .string ⟨#[]⟩, .int .i64 0] 117 (0, 0)))) [6] 7 #[false, false, false, false, false, false, false] (by kernel_rfl) rfl (by rfl) ⟨HB0.out.next (Below.refl _ W0).drew, HR0.out⟩ (fun hHeld => ?_)
  refine tkD_ 0 (some 5) #[true, false, false, false, false, false, false] (v := ?_) (a' := ?_) rfl rfl (by kernel_rfl) (fun _ _ _ h => h) (yieldsIf_run rfl ?_) hHeld ?_ ?_
  rotate_left
  · intro w'
    go_simp
    with_reducible rfl
  rotate_left
  · simp only [Act.put, List.setIfInBounds_toArray, List.set_cons_zero, List.set_cons_succ]
    rfl
  refine tkD_ 1 (some 6) #[true, true, false, false, false, false, false] rfl rfl (by kernel_rfl) (fun _ _ _ h => h) (yieldsIf_tipb rfl (.tmp 3) rfl w.heap.size rfl tv (fun W' h => h.1.b0)) hHeld (a' := ?_) ?_ ?_
  rotate_left
  · simp only [Act.put, List.setIfInBounds_toArray, List.set_cons_zero, List.set_cons_succ]
    rfl
  refine tkD_ 3 (some 8) #[true, true, false, true, false, false, false] rfl rfl (by kernel_rfl) (fun _ _ _ h => h) (yieldsIf_tipb rfl (.tmp 3) rfl w.heap.size rfl tv (fun W' h => h.1.b0)) hHeld (a' := ?_) ?_ ?_
  rotate_left
  · simp only [Act.put, List.setIfInBounds_toArray, List.set_cons_zero, List.set_cons_succ]
    rfl
  refine callD_ 2 (some 7) #[true, true, true, true, false, false, false] rfl rfl (by kernel_rfl) rfl 28 _ (by kernel_rfl) (HK.out _ hHeld.1.below) ?_
  rintro e w1 ⟨rfl, hb1⟩
  have HS1 := Lib.hid (And.intro (hHeld.1.next hb1) ((hb1.block _ (Array.getElem?_eq_some_iff.1 hHeld.2).1).trans hHeld.2))
  refine ⟨_, rfl, HS1.out, fun hHeld => ⟨?_, ?_, ?_⟩⟩
  rotate_left
  · simp only [Act.put, List.setIfInBounds_toArray, List.set_cons_zero, List.set_cons_succ]
    rfl
  refine callD_ 4 (some 9) #[true, true, true, true, true, false, false] rfl rfl (by kernel_rfl) rfl 62 _ (by kernel_rfl) (HH.out _ hHeld.1.below) ?_
  rintro e w2 ⟨rfl, hb2⟩
  have HS2 := Lib.hid (And.intro (hHeld.1.next hb2) ((hb2.block _ (Array.getElem?_eq_some_iff.1 hHeld.2).1).trans hHeld.2))
  refine ⟨_, rfl, HS2.out, fun hHeld => ⟨?_, ?_, ?_⟩⟩
  rotate_left
  · simp only [Act.put, List.setIfInBounds_toArray, List.set_cons_zero, List.set_cons_succ]
    rfl
  refine tkD_ 5 (some 10) #[true, true, true, true, true, true, false] rfl rfl (by kernel_rfl) (fun _ _ _ h => h) (yieldsIf_run (v := .agg #[.int .i64 k, .string kt, .int .i64 ht]) rfl fun W' => by kernel_rfl) hHeld (a' := ?_) ?_ ?_
  rotate_left
  · simp only [Act.put, List.setIfInBounds_toArray, List.set_cons_zero, List.set_cons_succ]
    rfl
  refine skD_ 6 #[true, true, true, true, true, true, true] rfl rfl (by kernel_rfl) rfl ((w2.setRow (w.heap.size + 1) #[.int .i64 k, .string kt, .int .i64 ht])) (exec_store 117 (.tmp 4) (.tmp 10) rfl (w.heap.size + 1) 0 rfl _ rfl (run_storeVar_block w2 (w.heap.size + 1) 117 117 [.int .i64 k, .string kt, .int .i64 ht] #[.int .i64 0, .string ⟨#[]⟩, .int .i64 0] HS2.out.2 rfl (evE.one ⟨k, kt, ht⟩) ev_size)) (fun h => absurd (by decide) h) ?_
  refine doneD_ (by kernel_rfl) ?_ _
  change Exit.then _ _ _ _ _
  go_wp2
  refine bodyPost_ret (results_cell_row rfl _ _ (w.heap.size + 1) 117 #[.int .i64 k, .string kt, .int .i64 ht] (0, 0) _ rfl (setRow_heap _ _ _ _ _ _ HS2.out.2) Tryz.underlying117 rfl ev_size) rfl ?_
  exact ⟨rfl, below_setRow HS2.out.1.below (by omega) _⟩

/-- A feed: its events lie in a row of its own. -/
structure FeedAt (base : Nat) (w : World) (f : Nat) (v : Value) (evs : List Ev) (most : Int) (st : Value) : Prop where
  blk : w.heap[f]? = some (.cells #[v, .int .i64 most, st] 226 (0, 0))
  row : w.ownsRow base 117 3 v evs.length (evE.flat evs)
  ne : v.ownBlock ≠ some f
  len : evs.length ≤ 100000000
section
variable {base : Nat} {w w' : World} {f : Nat} {v st : Value} {evs : List Ev} {most : Int}
theorem FeedAt.lt (h : FeedAt base w f v evs most st) : f < w.heap.size := (Array.getElem?_eq_some_iff.1 h.blk).1
theorem FeedAt.below (h : FeedAt base w f v evs most st) (hb : Below w.heap.size w w') : FeedAt base w' f v evs most st := ⟨(hb.block _ h.lt).trans h.blk, own_below h.row hb, h.ne, h.len⟩
end
set_option maxRecDepth 100000 in
set_option maxHeartbeats 2000000 in
theorem fnew_any (w : World) (n : Int) (tv : Value) (_h1 : tv.oneCell' = true) (base : Nat) :
    Calls Tryz.prog 80 #[.int .i64 n, tipV tv] w fun e w' => ∃ f, e = .returned (.pointer (some ⟨f, 0, none⟩)) ∧ w.heap.size ≤ f ∧ FeedAt base w' f (.slice none 0 0) [] (max 1 (min n 64)) tv ∧ Below w.heap.size w w' := by
  have HG0 : Hid ((w.alloc (.cells #[tv] 27)).heap[w.heap.size]? = some (.cells #[tv] 27 (0, 0))) := Lib.hid (heap_alloc_new w _)
  go_enter Tryz.func80, Tryz.ntmps80
  go_wp2_with (refine wpl_tip rfl _ rfl _ rfl _ HG0.out ?_)
  go_ret
  exact ⟨_, rfl, by omega, ⟨by have := heap_alloc_new (w.alloc (.cells #[tv] 27)) (.cells #[.slice none 0 0, .int .i64 (max 1 (min n 64)), tv] 226); rw [World.size_alloc] at this; exact this, ⟨rfl, .inl ⟨rfl, rfl⟩⟩, fun e => (by cases e), by simp⟩, ((Below.refl _ w).alloc (Nat.le_refl _) _).alloc (by simp) _⟩
set_option maxRecDepth 100000 in
set_option maxHeartbeats 2000000 in
theorem flen_any (w : World) (base f : Nat) (v : Value) (evs : List Ev) (most : Int) (st : Value) (h : FeedAt base w f v evs most st) :
    Calls Tryz.prog 87 #[.pointer (some ⟨f, 0, none⟩)] w fun e w' => e = .returned (.int .i64 (evs.length : Int)) ∧ w = w' := by
  obtain ⟨A, c, rfl, -⟩ := own_slice h.row
  have hc : w.cell? ⟨f, 0, none⟩ = some (.slice A evs.length c) := cell_block h.blk rfl
  go_enter Tryz.func87, Tryz.ntmps87
  go_wp2
  go_ret
  exact ⟨rfl, rfl⟩
end Go.Proofs.YtpehmlfghddnaaaGreatDoor
