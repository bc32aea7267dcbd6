/- PathThree's own function: one of all tipsets, by a number. -/
import Derived.Test.YtcohdfkdhdhegaaGreatDoorPbBI
namespace Go.Proofs.YtcohdfkdhdhegaaGreatDoor
open Go.RowKit Go.Maps

set_option maxRecDepth 100000 in
set_option maxHeartbeats 2000000 in
theorem of3_any (w : World) (gd ga p b1 b2 : Nat) (D : List LB) (L : List LRH) (ok : Nat → Prop) (va : Value) (all : List LNS) (hd : w.cell? ⟨gd, 0, none⟩ = some (.pointer (some ⟨p, 0, none⟩))) (ha : w.cell? ⟨ga, 0, none⟩ = some va) (h : AllAt ok w p b1 b2 D L va all) (x : Int) :
    Calls Tryz.prog 65 #[.int .i64 x, .pointer (some ⟨gd, 0, none⟩), .pointer (some ⟨ga, 0, none⟩)] w fun e w' => ∃ t T, e = .returned (tipV t) ∧ TipOf (hdrs D) T ∧ TipIs (fun k => w.heap.size ≤ k ∨ ok k) w' (hdrs D) t T ∧ Below w.heap.size w w' := by
  obtain ⟨r, hr, r1, r2, j, hj, hidx⟩ := pick_ix2 x all.length h.pos h.len
  obtain ⟨z, hz⟩ : ∃ z, all[j]? = some z := ⟨_, List.getElem?_eq_getElem hj⟩
  have hzm := List.mem_of_getElem? hz
  obtain ⟨A, c, rfl, hc, hm⟩ := h.row.form
  obtain ⟨bz, oz, rfl, hbz, -, hcz⟩ := h.row.at_ j z hz
  have HOF : Hid (∀ W, Below w.heap.size w W → ∃ T : List ID, TipOf (hdrs D) T ∧ Calls Tryz.prog 46 #[.pointer (some ⟨p, 0, none⟩), z.v] W fun e w' => ∃ t, e = .returned (tipV t) ∧ TipIs (fun k => W.heap.size ≤ k ∨ (ok k ∧ k < w.heap.size)) w' (hdrs D) t T ∧ Below W.heap.size W w') := Lib.hid fun W hb => by
    have h2 := h.old.below hb
    obtain ⟨T, h3, -, h4⟩ := of_is W p b1 b2 D _ _ L h2.dag h2.fine h2.both z (h2.at_ z hzm).1 (h2.at_ z hzm).2
    exact ⟨T, h3, h4⟩
  have hcell : w.cell? ⟨bz, oz + j, none⟩ = some z.v := by have := hcz 0 _ rfl; rwa [Nat.add_zero, show nsE.k = 1 from rfl, Nat.mul_one] at this
  have hpos := h.pos
  have hlen := h.len
  obtain ⟨n, hn⟩ : ∃ n, all.length = n := ⟨_, rfl⟩
  rw [hn] at hr r1 r2 hj hidx ha hpos hlen
  have hb0 : Below w.heap.size w (w.alloc (.cells #[.slice none 0 0] 52)) := (Below.refl _ w).alloc (Nat.le_refl _) _
  have HD := Lib.hid ((hb0.cell (cell_lt hd)).trans hd)
  have HA := Lib.hid ((hb0.cell (cell_lt ha)).trans ha)
  have HC := Lib.hid ((hb0.cell (cell_lt hcell)).trans hcell)
  have HB0 := Lib.hid hb0
  have HG0 : Hid ((w.alloc (.cells #[.slice none 0 0] 52)).heap[w.heap.size]? = some (.cells #[.slice none 0 0] 52 (0, 0))) := Lib.hid (heap_alloc_new w _)
  clear h hz hzm hcz hcell hd ha hb0 hc hm hbz hn
  go_enter Tryz.func65, Tryz.ntmps65
  go_upto_region 1 with fail
  generalize w.alloc (.cells #[.slice none 0 0] 52) = W0 at HD HA HC HB0 HG0 ⊢
  have HLT : Hid (w.heap.size < W0.heap.size) := Lib.hid (Array.getElem?_eq_some_iff.1 HG0.out).1
  refine stD_ (S := (fun W' => Below W0.heap.size W0 W')) [15] 16 (bt 0 16) (by kernel_rfl) rfl (by rfl) (Below.refl _ W0).drew (fun hHeld => ?_)
  refine tkD_ 0 (some 5) (bt 1 15) rfl rfl (by kernel_rfl) (fun _ _ _ h => h) (yieldsIf_cell rfl 24 (.tmp 1) rfl ⟨gd, 0, none⟩ rfl (.pointer (some ⟨p, 0, none⟩)) _ (fun W' h => (h.cell (cell_lt HD.out)).trans HD.out) Tryz.underlying24 rfl) hHeld (a' := ?_) ?_ ?_
  rotate_left
  · simp only [Act.put, List.setIfInBounds_toArray, List.set_cons_zero, List.set_cons_succ]
    rfl
  refine tkD_ 1 (some 6) (bt 2 14) rfl rfl (by kernel_rfl) (fun _ _ _ h => h) (yieldsIf_cell rfl 77 (.tmp 2) rfl ⟨ga, 0, none⟩ rfl (.slice (some ⟨bz, oz, none⟩) n c) _ (fun W' h => (h.cell (cell_lt HA.out)).trans HA.out) Tryz.underlying77 rfl) hHeld (a' := ?_) ?_ ?_
  rotate_left
  · simp only [Act.put, List.setIfInBounds_toArray, List.set_cons_zero, List.set_cons_succ]
    rfl
  refine tkD_ 2 (some 7) (bt 3 13) (v := ?_) (a' := ?_) rfl rfl (by kernel_rfl) (fun _ _ _ h => h) (yieldsIf_run rfl ?_) hHeld ?_ ?_
  rotate_left
  · intro w'
    go_simp
    with_reducible rfl
  rotate_left
  · simp only [Act.put, List.setIfInBounds_toArray, List.set_cons_zero, List.set_cons_succ]
    rfl
  refine tkD_ 3 (some 8) (bt 4 12) rfl rfl (by kernel_rfl) (fun _ _ _ h => h) (yieldsIf_cell rfl 77 (.tmp 2) rfl ⟨ga, 0, none⟩ rfl (.slice (some ⟨bz, oz, none⟩) n c) _ (fun W' h => (h.cell (cell_lt HA.out)).trans HA.out) Tryz.underlying77 rfl) hHeld (a' := ?_) ?_ ?_
  rotate_left
  · simp only [Act.put, List.setIfInBounds_toArray, List.set_cons_zero, List.set_cons_succ]
    rfl
  refine tkD_ 4 (some 9) (bt 5 11) (v := ?_) (a' := ?_) rfl rfl (by kernel_rfl) (fun _ _ _ h => h) (yieldsIf_run rfl ?_) hHeld ?_ ?_
  rotate_left
  · intro w'
    go_simp
    with_reducible rfl
  rotate_left
  · simp only [Act.put, List.setIfInBounds_toArray, List.set_cons_zero, List.set_cons_succ]
    rfl
  refine tkD_ 5 (some 10) (bt 6 10) rfl rfl (by kernel_rfl) (fun _ _ _ h => h) (yieldsIf_rem rfl 3 3 (.tmp 7) (.tmp 9) rfl x n r rfl rfl (by omega) hr (by constructor <;> omega)) hHeld (a' := ?_) ?_ ?_
  rotate_left
  · simp only [Act.put, List.setIfInBounds_toArray, List.set_cons_zero, List.set_cons_succ]
    rfl
  refine tkD_ 6 (some 11) (bt 7 9) rfl rfl (by kernel_rfl) (fun _ _ _ h => h) (yieldsIf_cell rfl 77 (.tmp 2) rfl ⟨ga, 0, none⟩ rfl (.slice (some ⟨bz, oz, none⟩) n c) _ (fun W' h => (h.cell (cell_lt HA.out)).trans HA.out) Tryz.underlying77 rfl) hHeld (a' := ?_) ?_ ?_
  rotate_left
  · simp only [Act.put, List.setIfInBounds_toArray, List.set_cons_zero, List.set_cons_succ]
    rfl
  refine tkD_ 7 (some 12) (bt 8 8) (v := ?_) (a' := ?_) rfl rfl (by kernel_rfl) (fun _ _ _ h => h) (yieldsIf_run rfl ?_) hHeld ?_ ?_
  rotate_left
  · intro w'
    go_simp
    with_reducible rfl
  rotate_left
  · simp only [Act.put, List.setIfInBounds_toArray, List.set_cons_zero, List.set_cons_succ]
    rfl
  refine tkD_ 8 (some 13) (bt 9 7) rfl rfl (by kernel_rfl) (fun _ _ _ h => h) (yieldsIf_run (v := .int .i64 (r + n)) rfl fun W' => (show _ = Result.ok (Next.value (.int .i64 (IntKind.i64.wrap (r + n)))) W' from rfl).trans (by rw [IntWalk.i64_in _ (by omega)])) hHeld (a' := ?_) ?_ ?_
  rotate_left
  · simp only [Act.put, List.setIfInBounds_toArray, List.set_cons_zero, List.set_cons_succ]
    rfl
  refine tkD_ 9 (some 14) (bt 10 6) rfl rfl (by kernel_rfl) (fun _ _ _ h => h) (yieldsIf_cell rfl 77 (.tmp 2) rfl ⟨ga, 0, none⟩ rfl (.slice (some ⟨bz, oz, none⟩) n c) _ (fun W' h => (h.cell (cell_lt HA.out)).trans HA.out) Tryz.underlying77 rfl) hHeld (a' := ?_) ?_ ?_
  rotate_left
  · simp only [Act.put, List.setIfInBounds_toArray, List.set_cons_zero, List.set_cons_succ]
    rfl
  refine tkD_ 10 (some 15) (bt 11 5) (v := ?_) (a' := ?_) rfl rfl (by kernel_rfl) (fun _ _ _ h => h) (yieldsIf_run rfl ?_) hHeld ?_ ?_
  rotate_left
  · intro w'
    go_simp
    with_reducible rfl
  rotate_left
  · simp only [Act.put, List.setIfInBounds_toArray, List.set_cons_zero, List.set_cons_succ]
    rfl
  refine tkD_ 11 (some 16) (bt 12 4) rfl rfl (by kernel_rfl) (fun _ _ _ h => h) (yieldsIf_rem rfl 3 3 (.tmp 13) (.tmp 15) rfl (r + n) n j rfl rfl (by omega) hidx (by constructor <;> omega)) hHeld (a' := ?_) ?_ ?_
  rotate_left
  · simp only [Act.put, List.setIfInBounds_toArray, List.set_cons_zero, List.set_cons_succ]
    rfl
  refine tkD_ 12 (some 17) (bt 13 3) (v := ?_) (a' := ?_) rfl rfl (by kernel_rfl) (fun _ _ _ h => h) (yieldsIf_run rfl ?_) hHeld ?_ ?_
  rotate_left
  · intro w'
    go_simp
    with_reducible rfl
  rotate_left
  · simp only [Act.put, List.setIfInBounds_toArray, List.set_cons_zero, List.set_cons_succ]
    rfl
  refine tkD_ 13 (some 18) (bt 14 2) rfl rfl (by kernel_rfl) (fun _ _ _ h => h) (yieldsIf_cell rfl 27 (.tmp 17) rfl ⟨bz, oz + j, none⟩ rfl z.v _ (fun W' h => (h.cell (cell_lt HC.out)).trans HC.out) Tryz.underlying27 rfl) hHeld (a' := ?_) ?_ ?_
  rotate_left
  · simp only [Act.put, List.setIfInBounds_toArray, List.set_cons_zero, List.set_cons_succ]
    rfl
  refine callD_ 14 (some 19) (bt 15 1) rfl rfl (by kernel_rfl) rfl 46 _ (by kernel_rfl) ((HOF.out _ (HB0.out.trans (hHeld.mono HB0.out.size))).choose_spec.2) ?_
  rintro e w1 ⟨t, rfl, ht, hb1⟩
  have HT := Lib.hid ht
  have HB1 := Lib.hid (hHeld.trans (hb1.mono hHeld.size))
  have HTO := Lib.hid (HOF.out _ (HB0.out.trans (hHeld.mono HB0.out.size))).choose_spec.1
  have HSZ := Lib.hid hHeld.size
  have HG1 : Hid (w1.heap[w.heap.size]? = some (.cells #[.slice none 0 0] 52 (0, 0))) := Lib.hid ((HB1.out.block _ HLT.out).trans HG0.out)
  refine ⟨_, rfl, HB1.out, fun hHeld => ⟨?_, ?_, ?_⟩⟩
  rotate_left
  · simp only [Act.put, List.setIfInBounds_toArray, List.set_cons_zero, List.set_cons_succ]
    rfl
  refine skD_ 15 (bt 16 0) rfl rfl (by kernel_rfl) rfl ((w1.setRow w.heap.size #[t])) (exec_store 52 (.tmp 4) (.tmp 19) rfl w.heap.size 0 rfl _ rfl (run_storeVar_block w1 w.heap.size 52 52 [t] #[.slice none 0 0] HG1.out rfl HT.out.one tip_size)) (fun h => absurd (by decide) h) ?_
  refine doneD_ (by kernel_rfl) ?_ _
  change Exit.then _ _ _ _ _
  go_wp2
  refine bodyPost_ret (results_cell_row rfl _ _ w.heap.size 52 #[t] (0, 0) _ rfl (setRow_heap _ w.heap.size _ _ _ _ HG1.out) Tryz.underlying52 rfl tip_size) rfl ?_
  have hlt : w.heap.size < W0.drew.heap.size := Nat.lt_of_lt_of_le HLT.out HSZ.out
  refine ⟨t, _, rfl, HTO.out, (HT.out.set (fun k hk => ?_) _).mono fun k hk => ?_, below_setRow (HB0.out.trans (HB1.out.mono HB0.out.size)) (Nat.le_refl _) _⟩
  · rcases hk with hk | hk <;> omega
  · rcases hk with hk | hk
    · exact .inl (by omega)
    · exact .inr hk.1
end Go.Proofs.YtcohdfkdhdhegaaGreatDoor
