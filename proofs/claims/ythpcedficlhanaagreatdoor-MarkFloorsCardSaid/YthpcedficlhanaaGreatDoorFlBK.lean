/- coxswainlaw18.MarkFloors. -/
import Derived.Test.YthpcedficlhanaaGreatDoorFlBJ
namespace Go.Proofs.YthpcedficlhanaaGreatDoor
open Go.RowKit Go.Maps

theorem ptr_size : (Tryz.prog.info? 56).map (·.size) = some 1 := by kernel_rfl
theorem nss_size : (Tryz.prog.info? 89).map (·.size) = some 1 := by kernel_rfl
def fl10B : List BoxE := [⟨12, 15, 28, #[.slice none 0 0], [3], fun vs => aggC (vs 3)⟩, ⟨13, 16, 28, #[.slice none 0 0], [7], fun vs => aggC (vs 7)⟩, ⟨14, 17, 28, #[.slice none 0 0], [11], fun vs => aggC (vs 11)⟩]
def fl10R (G : List Hdr) : List RowE := [(3, [], fun vs => tipK G (vs 3)), (7, [], fun vs => tipK G (vs 7)), (11, [], fun vs => tipK G (vs 11))]
/-- Three tipsets in variables, and the ways between them. -/
structure FlS (w W : World) (pp p b1 b2 : Nat) (D : List LB) (g0 g1 g2 : Nat) (t0 t1 t2 : Value) (T0 T1 T2 : List ID) : Prop where
  path : PathAt (fun _ => True) W pp p b1 b2 D
  k0 : W.heap[g0]? = some (.cells #[t0] 28 (0, 0))
  k1 : W.heap[g1]? = some (.cells #[t1] 28 (0, 0))
  k2 : W.heap[g2]? = some (.cells #[t2] 28 (0, 0))
  is0 : TipIs (fun _ => True) W (hdrs D) t0 T0
  is1 : TipIs (fun _ => True) W (hdrs D) t1 T1
  is2 : TipIs (fun _ => True) W (hdrs D) t2 T2
  tip0 : TipOf (hdrs D) T0
  tip1 : TipOf (hdrs D) T1
  tip2 : TipOf (hdrs D) T2
  below : Below w.heap.size w W
theorem FlS.next {w W W' : World} {pp p b1 b2 : Nat} {D : List LB} {g0 g1 g2 : Nat} {t0 t1 t2 : Value} {T0 T1 T2 : List ID} (h : FlS w W pp p b1 b2 D g0 g1 g2 t0 t1 t2 T0 T1 T2) (hb : Below W.heap.size W W') : FlS w W' pp p b1 b2 D g0 g1 g2 t0 t1 t2 T0 T1 T2 :=
  ⟨h.path.below hb, (hb.block _ (Array.getElem?_eq_some_iff.1 h.k0).1).trans h.k0, (hb.block _ (Array.getElem?_eq_some_iff.1 h.k1).1).trans h.k1, (hb.block _ (Array.getElem?_eq_some_iff.1 h.k2).1).trans h.k2, h.is0.below hb, h.is1.below hb, h.is2.below hb, h.tip0, h.tip1, h.tip2, h.below.trans (hb.mono h.below.size)⟩

set_option maxRecDepth 100000 in
set_option maxHeartbeats 4000000 in
theorem floors_any (w : World) (t : Value) (l : List LSD) (ok ok' : Nat → Prop) (hl : Sl sdE ok w t l) (hf : ∀ y ∈ l, y.At ok' w ∧ SeedOk y.s) (ht : Tab w) (xi xj xk : Int) :
    Calls Tryz.prog 12 #[.agg #[t, .int .i64 xi, .int .i64 xj, .int .i64 xk]] w fun e w' => e = .returned (.bool true) ∧ Below w.heap.size w w' := by
  obtain ⟨A, c, rfl, hc, hm⟩ := hl.form
  have hb0 : Below w.heap.size w (w.alloc (.cells #[.slice A l.length c, .int .i64 xi, .int .i64 xj, .int .i64 xk] 88)) := (Below.refl _ w).alloc (Nat.le_refl _) _
  have HL := Lib.hid hl
  have HF := Lib.hid hf
  have HT := Lib.hid ht
  have HB0 := Lib.hid hb0
  have HG0 : Hid ((w.alloc (.cells #[.slice A l.length c, .int .i64 xi, .int .i64 xj, .int .i64 xk] 88)).heap[w.heap.size]? = some (.cells #[.slice A l.length c, .int .i64 xi, .int .i64 xj, .int .i64 xk] 88 (0, 0))) := Lib.hid (heap_alloc_new w _)
  clear hl hf ht hb0 hc hm
  go_enter Tryz.func12, Tryz.ntmps12
  go_upto_region 1 with fail
  generalize w.alloc (.cells #[.slice A l.length c, .int .i64 xi, .int .i64 xj, .int .i64 xk] 88) = W0 at HB0 HG0 ⊢
  go_upto_region 3 with (go_at_call 61; refine (awake18_any _ (HT.out.below HB0.out)).mono ?_; rintro e w1 ⟨rfl, hb1⟩; have HB1 := Lib.hid (HB0.out.trans (hb1.mono HB0.out.size)); have HG1 := Lib.hid ((hb1.block _ (Array.getElem?_eq_some_iff.1 HG0.out).1).trans HG0.out); clear hb1)
  have HMADE : Hid (∀ W, Below w1.heap.size w1 W → Calls Tryz.prog 62 #[.slice A l.length c, .int .i64 14] W fun e w' => ∃ v, e = .returned v ∧ Below W.heap.size W w' ∧ (madeK v).K (fun k => W.heap.size ≤ k) w') := Lib.hid fun W hb => by
    have hbw := HB1.out.trans (hb.mono HB1.out.size)
    exact made_is W _ l ok ok' (HL.out.below hbw) (fun y hy => ⟨(HF.out y hy).1.below hbw, (HF.out y hy).2⟩) 14 (by decide) (HT.out.below hbw)
  have HC0 : Hid (w1.cell? ⟨w.heap.size, 0, none⟩ = some (.slice A l.length c)) := Lib.hid (cell_block HG1.out rfl)
  have hc0 := HC0.out
  go_upto_region 4 with (go_at_call 62; refine (HMADE.out _ (Below.refl _ _)).mono ?_; rintro e w2 ⟨v, rfl, hb2, hk2⟩; obtain ⟨⟨p, b1, b2, D, L, vl, va, all⟩, rfl, hall, hlst⟩ := madeK_iff.1 hk2; dsimp only at hall hlst; obtain ⟨Aa, ca, rfl, -⟩ := hall.row.form; have HB2 := Lib.hid (HB1.out.trans (hb2.mono HB1.out.size)); have HG2 := Lib.hid ((hb2.block _ (Array.getElem?_eq_some_iff.1 HG1.out).1).trans HG1.out); have HALL := Lib.hid hall; clear hb2 hk2 hall hlst)
  have hb3 : Below w2.heap.size w2 ((w2.alloc (.cells #[.pointer (some ⟨p, 0, none⟩)] 56)).alloc (.cells #[.slice Aa all.length ca] 89)) := ((Below.refl _ _).alloc (Nat.le_refl _) _).alloc (by simp) _
  have HALL3 := Lib.hid (HALL.out.old.below hb3)
  have HB3 := Lib.hid (HB2.out.trans (hb3.mono HB2.out.size))
  have HG3 := Lib.hid ((hb3.block _ (Array.getElem?_eq_some_iff.1 HG2.out).1).trans HG2.out)
  have HKD : Hid (((w2.alloc (.cells #[.pointer (some ⟨p, 0, none⟩)] 56)).alloc (.cells #[.slice Aa all.length ca] 89)).heap[w2.heap.size]? = some (.cells #[.pointer (some ⟨p, 0, none⟩)] 56 (0, 0))) := Lib.hid ((heap_alloc_old _ _ (by simp)).trans (heap_alloc_new w2 _))
  have HKA : Hid (((w2.alloc (.cells #[.pointer (some ⟨p, 0, none⟩)] 56)).alloc (.cells #[.slice Aa all.length ca] 89)).heap[w2.heap.size + 1]? = some (.cells #[.slice Aa all.length ca] 89 (0, 0))) := Lib.hid (by have := heap_alloc_new (w2.alloc (.cells #[.pointer (some ⟨p, 0, none⟩)] 56)) (.cells #[.slice Aa all.length ca] 89); rw [World.size_alloc] at this; exact this)
  clear hb3 hc0 HC0 HALL
  generalize (w2.alloc (.cells #[.pointer (some ⟨p, 0, none⟩)] 56)).alloc (.cells #[.slice Aa all.length ca] 89) = W3 at HALL3 HB3 HG3 HKD HKA ⊢
  generalize w2.heap.size = gd at HALL3 HKD HKA ⊢
  have hcd : W3.cell? ⟨gd, 0, none⟩ = some (.pointer (some ⟨p, 0, none⟩)) := cell_block HKD.out rfl
  have hca : W3.cell? ⟨gd + 1, 0, none⟩ = some (.slice Aa all.length ca) := cell_block HKA.out rfl
  go_upto_region 10 with (go_at_call 63; refine (pnew_any W3 p b1 b2 D _ HALL3.out.dag HALL3.out.fine HALL3.out.both.good 8).mono ?_; rintro e w4 ⟨pp, rfl, -, hpa, hb4⟩; have HPA := Lib.hid hpa; have HALL4 := Lib.hid (HALL3.out.below hb4); have HB4 := Lib.hid (HB3.out.trans (hb4.mono HB3.out.size)); have HG4 := Lib.hid ((hb4.block _ (Array.getElem?_eq_some_iff.1 HG3.out).1).trans HG3.out); have HCD := Lib.hid ((hb4.cell (cell_lt hcd)).trans hcd); have HCA := Lib.hid ((hb4.cell (cell_lt hca)).trans hca); clear hb4 hpa)
  clear hca hcd HALL3 HB3 HG3 HKD HKA
  go_cut [8, 9, 10] from 28 to 39 (fun c8 c9 c10 W => ∃ (g0 g1 g2 : Nat) (t0 t1 t2 : Value) (T0 T1 T2 : List ID), c8 = .pointer (some ⟨g0, 0, none⟩) ∧ c9 = .pointer (some ⟨g1, 0, none⟩) ∧ c10 = .pointer (some ⟨g2, 0, none⟩) ∧ FlS w W pp p b1 b2 D g0 g1 g2 t0 t1 t2 T0 T1 T2)
  case first =>
    have HOF : Hid (∀ (W : World) (x : Int), Below w4.heap.size w4 W → Calls Tryz.prog 64 #[.int .i64 x, .pointer (some ⟨gd, 0, none⟩), .pointer (some ⟨gd + 1, 0, none⟩)] W fun e w' => ∃ v, e = .returned v ∧ Below W.heap.size W w' ∧ (tipK (hdrs D) v).K (fun k => k < w4.heap.size ∨ W.heap.size ≤ k) w') := Lib.hid fun W x hb => by
      refine (of18_any W gd (gd + 1) p b1 b2 D L _ (.slice Aa all.length ca) all ((hb.cell (cell_lt HCD.out)).trans HCD.out) ((hb.cell (cell_lt HCA.out)).trans HCA.out) (HALL4.out.old.below hb) x).mono ?_
      rintro e w' ⟨t, T, rfl, hT, hi, hb'⟩
      exact ⟨_, rfl, hb', tipK_iff.2 ⟨(t, T), ⟨rfl, hT⟩, hi.mono fun k hk => hk.elim .inr fun hk => .inl hk.2⟩⟩
    refine st_ (S := (fun W' => Below w4.heap.size w4 W')) 18 #[false, false, false, false, false, false, false, false, false, false, false, false, false, false, false, false, false, false] (by kernel_rfl) rfl (by rfl) (Below.refl _ w4).drew (fun hHeld => ?_)
    refine tk_ 0 (some 28) #[true, false, false, false, false, false, false, false, false, false, false, false, false, false, false, false, false, false] (v := ?_) (a' := ?_) rfl rfl (by kernel_rfl) (fun _ _ _ h => h) (yieldsIf_run rfl ?_) hHeld ?_ ?_
    rotate_left
    · intro w'
      go_simp
      with_reducible rfl
    rotate_left
    · simp only [Act.put, List.setIfInBounds_toArray, List.set_cons_zero, List.set_cons_succ]
      rfl
    refine tk_ 1 (some 29) #[true, true, false, false, false, false, false, false, false, false, false, false, false, false, false, false, false, false] (v := ?_) (a' := ?_) rfl rfl (by kernel_rfl) (fun _ _ _ h => h) (yieldsIf_run rfl ?_) hHeld ?_ ?_
    rotate_left
    · intro w'
      go_simp
      with_reducible rfl
    rotate_left
    · simp only [Act.put, List.setIfInBounds_toArray, List.set_cons_zero, List.set_cons_succ]
      rfl
    refine tk_ 2 (some 30) #[true, true, true, false, false, false, false, false, false, false, false, false, false, false, false, false, false, false] rfl rfl (by kernel_rfl) (fun _ _ _ h => h) (yieldsIf_cell rfl 3 (.tmp 29) rfl ⟨w.heap.size, 1, none⟩ rfl (.int .i64 xi) _ (fun W' h => (h.cell (Array.getElem?_eq_some_iff.1 HG4.out).1).trans (cell_block HG4.out rfl)) Tryz.underlying3 rfl) hHeld (a' := ?_) ?_ ?_
    rotate_left
    · simp only [Act.put, List.setIfInBounds_toArray, List.set_cons_zero, List.set_cons_succ]
      rfl
    refine tk_ 4 (some 32) #[true, true, true, false, true, false, false, false, false, false, false, false, false, false, false, false, false, false] (v := ?_) (a' := ?_) rfl rfl (by kernel_rfl) (fun _ _ _ h => h) (yieldsIf_run rfl ?_) hHeld ?_ ?_
    rotate_left
    · intro w'
      go_simp
      with_reducible rfl
    rotate_left
    · simp only [Act.put, List.setIfInBounds_toArray, List.set_cons_zero, List.set_cons_succ]
      rfl
    refine tk_ 5 (some 33) #[true, true, true, false, true, true, false, false, false, false, false, false, false, false, false, false, false, false] (v := ?_) (a' := ?_) rfl rfl (by kernel_rfl) (fun _ _ _ h => h) (yieldsIf_run rfl ?_) hHeld ?_ ?_
    rotate_left
    · intro w'
      go_simp
      with_reducible rfl
    rotate_left
    · simp only [Act.put, List.setIfInBounds_toArray, List.set_cons_zero, List.set_cons_succ]
      rfl
    refine tk_ 6 (some 34) #[true, true, true, false, true, true, true, false, false, false, false, false, false, false, false, false, false, false] rfl rfl (by kernel_rfl) (fun _ _ _ h => h) (yieldsIf_cell rfl 3 (.tmp 33) rfl ⟨w.heap.size, 2, none⟩ rfl (.int .i64 xj) _ (fun W' h => (h.cell (Array.getElem?_eq_some_iff.1 HG4.out).1).trans (cell_block HG4.out rfl)) Tryz.underlying3 rfl) hHeld (a' := ?_) ?_ ?_
    rotate_left
    · simp only [Act.put, List.setIfInBounds_toArray, List.set_cons_zero, List.set_cons_succ]
      rfl
    refine tk_ 8 (some 36) #[true, true, true, false, true, true, true, false, true, false, false, false, false, false, false, false, false, false] (v := ?_) (a' := ?_) rfl rfl (by kernel_rfl) (fun _ _ _ h => h) (yieldsIf_run rfl ?_) hHeld ?_ ?_
    rotate_left
    · intro w'
      go_simp
      with_reducible rfl
    rotate_left
    · simp only [Act.put, List.setIfInBounds_toArray, List.set_cons_zero, List.set_cons_succ]
      rfl
    refine tk_ 9 (some 37) #[true, true, true, false, true, true, true, false, true, true, false, false, false, false, false, false, false, false] (v := ?_) (a' := ?_) rfl rfl (by kernel_rfl) (fun _ _ _ h => h) (yieldsIf_run rfl ?_) hHeld ?_ ?_
    rotate_left
    · intro w'
      go_simp
      with_reducible rfl
    rotate_left
    · simp only [Act.put, List.setIfInBounds_toArray, List.set_cons_zero, List.set_cons_succ]
      rfl
    refine tk_ 10 (some 38) #[true, true, true, false, true, true, true, false, true, true, true, false, false, false, false, false, false, false] rfl rfl (by kernel_rfl) (fun _ _ _ h => h) (yieldsIf_cell rfl 3 (.tmp 37) rfl ⟨w.heap.size, 3, none⟩ rfl (.int .i64 xk) _ (fun W' h => (h.cell (Array.getElem?_eq_some_iff.1 HG4.out).1).trans (cell_block HG4.out rfl)) Tryz.underlying3 rfl) hHeld (a' := ?_) ?_ ?_
    rotate_left
    · simp only [Act.put, List.setIfInBounds_toArray, List.set_cons_zero, List.set_cons_succ]
      rfl
    refine boxes2_ [(31, 3), (35, 7), (39, 11), (8, 12), (9, 13), (10, 14)] (fl10R (hdrs D)) fl10B w4 9 ⟨by kernel_rfl, ?_, ?_⟩ (by decide) rfl (by kernel_rfl) (by kernel_rfl) hHeld (fun _ h => h) ?_ ?_
    · intro r hr i v vs h1 _
      simp only [fl10R, List.mem_cons, List.not_mem_nil, or_false] at hr
      rcases hr with rfl | rfl | rfl <;> simp only [upd_ne (Ne.symm h1)]
    · intro q hq i v vs h
      simp only [fl10B, List.mem_cons, List.not_mem_nil, or_false] at hq
      rcases hq with rfl | rfl | rfl <;> (have h2 := fun e => h (List.mem_singleton.2 e); simp only [upd_ne (Ne.symm h2)])
    · intro HX i hi
      have hi' : i ∈ [3, 7, 11, 12, 13, 14, 15, 16, 17] := hi
      simp only [List.mem_cons, List.not_mem_nil, or_false] at hi'
      rcases hi' with rfl | rfl | rfl | rfl | rfl | rfl | rfl | rfl | rfl
      · refine stepB_call 3 rfl HX (by decide) (by kernel_rfl) (by kernel_rfl) rfl 64 (fun _ => #[.int .i64 xi, .pointer (some ⟨gd, 0, none⟩), .pointer (some ⟨gd + 1, 0, none⟩)]) (fun vs w => by kernel_rfl) fun ls vs W hu hI => ?_
        refine (HOF.out W xi hI.below).mono ?_
        rintro e w' ⟨v, rfl, hb, hk⟩
        exact ⟨v, rfl, hb, (show (tipK (hdrs D) v).K _ w' from FP.mono _ (fun k hk => hk.imp (okB_low hI) id) hk)⟩
      · refine stepB_call 7 rfl HX (by decide) (by kernel_rfl) (by kernel_rfl) rfl 64 (fun _ => #[.int .i64 xj, .pointer (some ⟨gd, 0, none⟩), .pointer (some ⟨gd + 1, 0, none⟩)]) (fun vs w => by kernel_rfl) fun ls vs W hu hI => ?_
        refine (HOF.out W xj hI.below).mono ?_
        rintro e w' ⟨v, rfl, hb, hk⟩
        exact ⟨v, rfl, hb, (show (tipK (hdrs D) v).K _ w' from FP.mono _ (fun k hk => hk.imp (okB_low hI) id) hk)⟩
      · refine stepB_call 11 rfl HX (by decide) (by kernel_rfl) (by kernel_rfl) rfl 64 (fun _ => #[.int .i64 xk, .pointer (some ⟨gd, 0, none⟩), .pointer (some ⟨gd + 1, 0, none⟩)]) (fun vs w => by kernel_rfl) fun ls vs W hu hI => ?_
        refine (HOF.out W xk hI.below).mono ?_
        rintro e w' ⟨v, rfl, hb, hk⟩
        exact ⟨v, rfl, hb, (show (tipK (hdrs D) v).K _ w' from FP.mono _ (fun k hk => hk.imp (okB_low hI) id) hk)⟩
      · exact stepB_alloc 12 _ rfl HX (by decide) (by kernel_rfl) (List.mem_cons_self) rfl rfl (fun a w => by kernel_rfl)
      · exact stepB_alloc 13 _ rfl HX (by decide) (by kernel_rfl) (List.mem_cons_of_mem _ List.mem_cons_self) rfl rfl (fun a w => by kernel_rfl)
      · exact stepB_alloc 14 _ rfl HX (by decide) (by kernel_rfl) (List.mem_cons_of_mem _ (List.mem_cons_of_mem _ List.mem_cons_self)) rfl rfl (fun a w => by kernel_rfl)
      · refine stepB_store 15 _ rfl HX (by decide) (by kernel_rfl) (List.mem_cons_self) rfl rfl rfl fun ls vs W g hu hI hg hh => ?_
        obtain ⟨z, ⟨h3, -⟩, h4⟩ := tipK_iff.1 (hI.r 3 (hu 3 (by kernel_rfl)))
        show _ = Result.ok Next.skip (W.setRow g (aggC (vs 3)))
        rw [h3]
        exact exec_store 28 (.tmp 8) (.tmp 31) rfl g 0 hg _ h3 (run_storeVar_block W g 28 28 [z.1] #[.slice none 0 0] hh rfl h4.one tip_size)
      · refine stepB_store 16 _ rfl HX (by decide) (by kernel_rfl) (List.mem_cons_of_mem _ List.mem_cons_self) rfl rfl rfl fun ls vs W g hu hI hg hh => ?_
        obtain ⟨z, ⟨h3, -⟩, h4⟩ := tipK_iff.1 (hI.r 7 (hu 7 (by kernel_rfl)))
        show _ = Result.ok Next.skip (W.setRow g (aggC (vs 7)))
        rw [h3]
        exact exec_store 28 (.tmp 9) (.tmp 35) rfl g 0 hg _ h3 (run_storeVar_block W g 28 28 [z.1] #[.slice none 0 0] hh rfl h4.one tip_size)
      · refine stepB_store 17 _ rfl HX (by decide) (by kernel_rfl) (List.mem_cons_of_mem _ (List.mem_cons_of_mem _ List.mem_cons_self)) rfl rfl rfl fun ls vs W g hu hI hg hh => ?_
        obtain ⟨z, ⟨h3, -⟩, h4⟩ := tipK_iff.1 (hI.r 11 (hu 11 (by kernel_rfl)))
        show _ = Result.ok Next.skip (W.setRow g (aggC (vs 11)))
        rw [h3]
        exact exec_store 28 (.tmp 10) (.tmp 39) rfl g 0 hg _ h3 (run_storeVar_block W g 28 28 [z.1] #[.slice none 0 0] hh rfl h4.one tip_size)
    · intro vs W hI
      obtain ⟨z0, ⟨e0, hT0⟩, hi0⟩ := tipK_iff.1 (hI.r 3 rfl)
      obtain ⟨z1, ⟨e1, hT1⟩, hi1⟩ := tipK_iff.1 (hI.r 7 rfl)
      obtain ⟨z2, ⟨e2, hT2⟩, hi2⟩ := tipK_iff.1 (hI.r 11 rfl)
      obtain ⟨g0, hg0, -, hk0⟩ := hI.box ⟨12, 15, _, _, _, _⟩ List.mem_cons_self rfl
      obtain ⟨g1, hg1, -, hk1⟩ := hI.box ⟨13, 16, _, _, _, _⟩ (List.mem_cons_of_mem _ List.mem_cons_self) rfl
      obtain ⟨g2, hg2, -, hk2⟩ := hI.box ⟨14, 17, _, _, _, _⟩ (List.mem_cons_of_mem _ (List.mem_cons_of_mem _ List.mem_cons_self)) rfl
      have hFL : FlS w W pp p b1 b2 D g0 g1 g2 z0.1 z1.1 z2.1 z0.2 z1.2 z2.2 := by
        have c0 : W.heap[g0]? = some (.cells (aggC (vs 3)) 28 (0, 0)) := hk0
        have c1 : W.heap[g1]? = some (.cells (aggC (vs 7)) 28 (0, 0)) := hk1
        have c2 : W.heap[g2]? = some (.cells (aggC (vs 11)) 28 (0, 0)) := hk2
        rw [e0] at c0
        rw [e1] at c1
        rw [e2] at c2
        exact ⟨⟨(hI.below.cell (cell_lt HPA.out.toD)).trans HPA.out.toD, (HPA.out.dag.below hI.below).mono fun _ _ => trivial, HPA.out.fine, HPA.out.good⟩, c0, c1, c2, hi0.mono fun _ _ => trivial, hi1.mono fun _ _ => trivial, hi2.mono fun _ _ => trivial, hT0, hT1, hT2, HB4.out.trans (hI.below.mono HB4.out.size)⟩
      have HFL := Lib.hid hFL
      clear hI hFL hk0 hk1 hk2 hi0 hi1 hi2 e0 e1 e2
      simp only [putL, Act.put, List.setIfInBounds_toArray, List.set_cons_zero, List.set_cons_succ]
      change Exit.then _ _ _ _ _
      go_wp2
      go_meet
      case rel => exact ⟨g0, g1, g2, _, _, _, _, _, _, by first | rfl | exact hg0, by first | rfl | exact hg1, by first | rfl | exact hg2, HFL.out⟩
  case rest =>
  obtain ⟨g0, g1, g2, tF, tM, tT, F, M, T, rfl, rfl, rfl, hS⟩ := hcut
  rename World => W
  have HS := Lib.hid hS
  have GG := HS.out.path.good
  have HFM : Hid (descG (hdrs D) T (if descG (hdrs D) M F = true then M else F) = (descG (hdrs D) T F && descG (hdrs D) T M) ∨ ¬ (descG (hdrs D) F M || descG (hdrs D) M F) = true) := Lib.hid (by
    by_cases h : (descG (hdrs D) F M || descG (hdrs D) M F) = true
    · exact .inl (GG.floor hS.tip0 hS.tip1 hS.tip2 h)
    · exact .inr h)
  have HMAY : Hid (∀ W', Below W.heap.size W W' → Calls Tryz.prog 66 #[.pointer (some ⟨pp, 0, none⟩), tipV tF, tipV tM] W' fun e w' => e = .returned (.int .i64 (if (descG (hdrs D) F M || descG (hdrs D) M F) = true then 0 else 16)) ∧ Below W'.heap.size W' w') := Lib.hid fun W' hb => by
    have h1 := may_any W' pp p b1 b2 D _ _ _ (hS.path.below hb) tF F hS.tip0 (hS.is0.below hb) tM M (.inr hS.tip1) (hS.is1.below hb)
    rw [if_neg hS.tip1.ne] at h1
    exact h1
  have HONE : Hid (∀ W', Below W.heap.size W W' → Calls Tryz.prog 67 #[.pointer (some ⟨pp, 0, none⟩), tipV tF, tipV tM] W' fun e w' => e = .returned (.bool (descG (hdrs D) F M || descG (hdrs D) M F)) ∧ Below W'.heap.size W' w') := Lib.hid fun W' hb => onechain_any W' pp p b1 b2 D _ _ _ (hS.path.below hb) tF F hS.tip0 (hS.is0.below hb) tM M hS.tip1 (hS.is1.below hb)
  obtain ⟨tL, htL⟩ : ∃ tL, (if descG (hdrs D) M F = true then tM else tF) = tL := ⟨_, rfl⟩
  have HFLO : Hid (∀ W', Below W.heap.size W W' → Calls Tryz.prog 68 #[.pointer (some ⟨pp, 0, none⟩), tipV tF, tipV tM] W' fun e w' => e = .returned (tipV tL) ∧ Below W'.heap.size W' w') := Lib.hid fun W' hb => by
    have h1 := mfloor_any W' pp p b1 b2 D _ _ _ (hS.path.below hb) tF F hS.tip0 (hS.is0.below hb) tM M (.inr hS.tip1) (hS.is1.below hb)
    have h2 : (if M ≠ [] ∧ descG (hdrs D) M F = true then tM else tF) = tL := by
      rw [← htL]
      by_cases h : descG (hdrs D) M F = true
      · rw [if_pos ⟨hS.tip1.ne, h⟩, if_pos h]
      · rw [if_neg fun hh => h hh.2, if_neg h]
    rw [h2] at h1
    exact h1
  have HLO : Hid (∀ u ∈ [tL], u.oneCell' = true) := Lib.hid (by rw [← htL]; split; exact hS.is1.one; exact hS.is0.one)
  obtain ⟨dA, hdA⟩ : ∃ dA, descG (hdrs D) T (if descG (hdrs D) M F = true then M else F) = dA := ⟨_, rfl⟩
  have HAB : Hid (∀ W', Below W.heap.size W W' → Calls Tryz.prog 69 #[.pointer (some ⟨pp, 0, none⟩), tipV tL, tipV tT] W' fun e w' => e = .returned (.bool dA) ∧ Below W'.heap.size W' w') := Lib.hid fun W' hb => by
    rw [← htL, ← hdA]
    by_cases h : descG (hdrs D) M F = true
    · rw [if_pos h, if_pos h]
      exact mabove_any W' pp p b1 b2 D _ _ _ (hS.path.below hb) tM M hS.tip1 (hS.is1.below hb) tT T hS.tip2 (hS.is2.below hb)
    · rw [if_neg h, if_neg h]
      exact mabove_any W' pp p b1 b2 D _ _ _ (hS.path.below hb) tF F hS.tip0 (hS.is0.below hb) tT T hS.tip2 (hS.is2.below hb)
  have HD0 : Hid (∀ W', Below W.heap.size W W' → Calls Tryz.prog 70 #[.pointer (some ⟨pp, 0, none⟩), tipV tT, tipV tF] W' fun e w' => e = .returned (.bool (descG (hdrs D) T F)) ∧ Below W'.heap.size W' w') := Lib.hid fun W' hb => descends_any W' pp p b1 b2 D _ _ _ (hS.path.below hb) tT T hS.tip2 (hS.is2.below hb) tF F hS.tip0 (hS.is0.below hb)
  have HD1 : Hid (∀ W', Below W.heap.size W W' → Calls Tryz.prog 70 #[.pointer (some ⟨pp, 0, none⟩), tipV tT, tipV tM] W' fun e w' => e = .returned (.bool (descG (hdrs D) T M)) ∧ Below W'.heap.size W' w') := Lib.hid fun W' hb => descends_any W' pp p b1 b2 D _ _ _ (hS.path.below hb) tT T hS.tip2 (hS.is2.below hb) tM M hS.tip1 (hS.is1.below hb)
  rw [hdA] at HFM
  clear hS GG htL hdA HPA HALL4 HB4 HG4 HCD HCA HMADE
  generalize (descG (hdrs D) F M || descG (hdrs D) M F) = dO at HFM HMAY HONE ⊢
  generalize descG (hdrs D) T F = d0 at HFM HD0 ⊢
  generalize descG (hdrs D) T M = d1 at HFM HD1 ⊢
  cases dO with
  | false =>
    go_wp2_with (first
      | (refine wpl_tip rfl _ rfl _ rfl _ HS1.out.k0 ?_)
      | (refine wpl_tip rfl _ rfl _ rfl _ HS1.out.k1 ?_)
      | (refine wpl_tip rfl _ rfl _ rfl _ HS.out.k0 ?_)
      | (refine wpl_tip rfl _ rfl _ rfl _ HS.out.k1 ?_)
      | (go_at_call 66; refine (HMAY.out _ (Below.refl _ _)).mono ?_; rintro e w5 ⟨rfl, hb5⟩; have HS1 := Lib.hid (HS.out.next hb5); have HB5 := Lib.hid hb5; clear hb5)
      | (go_at_call 67; refine (HONE.out _ HB5.out).mono ?_; rintro e w6 ⟨rfl, hb6⟩; have HS2 := Lib.hid (HS1.out.next hb6); clear hb6))
    go_ret
    exact ⟨rfl, HS2.out.below⟩
  | true =>
    have HFM2 := Lib.hid (HFM.out.resolve_right fun h => h rfl)
    go_upto_region 14 with (first
      | (refine wpl_tip rfl _ rfl _ rfl _ HS1.out.k0 ?_)
      | (refine wpl_tip rfl _ rfl _ rfl _ HS1.out.k1 ?_)
      | (refine wpl_tip rfl _ rfl _ rfl _ HS.out.k0 ?_)
      | (refine wpl_tip rfl _ rfl _ rfl _ HS.out.k1 ?_)
      | (refine wpl_store_new rfl 28 _ _ rfl rfl [tL] rfl _ _ rfl HLO.out tip_size ?_)
      | (go_at_call 66; refine (HMAY.out _ (Below.refl _ _)).mono ?_; rintro e w5 ⟨rfl, hb5⟩; have HS1 := Lib.hid (HS.out.next hb5); have HB5 := Lib.hid hb5; clear hb5)
      | (go_at_call 68; refine (HFLO.out _ HB5.out).mono ?_; rintro e w6 ⟨rfl, hb6⟩; have HS2 := Lib.hid (HS1.out.next hb6); have HB6 := Lib.hid (HB5.out.trans (hb6.mono HB5.out.size)); clear hb6))
    have HX : Hid (FlS w (w6.alloc (.cells #[tL] 28)) pp p b1 b2 D g0 g1 g2 tF tM tT F M T ∧ Box1 W (w6.alloc (.cells #[tL] 28)) w6.heap.size tL) := Lib.hid ⟨HS2.out.next ((Below.refl _ _).alloc (Nat.le_refl _) _), HB6.out.alloc HB6.out.size _, heap_alloc_new w6 _⟩
    generalize w6.alloc (.cells #[tL] 28) = W7 at HX ⊢
    generalize w6.heap.size = gl at HX ⊢
    obtain rfl : dA = (d0 && d1) := HFM2.out
    clear HFM HFM2 HMAY HONE HFLO HS HS1 HS2 HB5 HB6
    cases d0 with
    | false =>
      rw [Bool.false_and] at HAB
      refine st_ (S := (fun W' => FlS w W' pp p b1 b2 D g0 g1 g2 tF tM tT F M T ∧ Box1 W W' gl tL)) 16 #[false, false, false, false, false, false, false, false, false, false, false, false, false, false, false, false] (by kernel_rfl) rfl (by rfl) ⟨HX.out.1.next (Below.refl _ W7).drew, HX.out.2.next (Below.refl _ W7).drew⟩ (fun hHeld => ?_)
      refine tk_ 0 (some 54) #[true, false, false, false, false, false, false, false, false, false, false, false, false, false, false, false] (v := ?_) (a' := ?_) rfl rfl (by kernel_rfl) (fun _ _ _ h => h) (yieldsIf_run rfl ?_) hHeld ?_ ?_
      rotate_left
      · intro w'
        go_simp
        with_reducible rfl
      rotate_left
      · simp only [Act.put, List.setIfInBounds_toArray, List.set_cons_zero, List.set_cons_succ]
        rfl
      refine tk_ 1 (some 55) #[true, true, false, false, false, false, false, false, false, false, false, false, false, false, false, false] rfl rfl (by kernel_rfl) (fun _ _ _ h => h) (yieldsIf_tipb rfl (.tmp 11) rfl gl rfl tL (fun W' h => h.2.b0)) hHeld (a' := ?_) ?_ ?_
      rotate_left
      · simp only [Act.put, List.setIfInBounds_toArray, List.set_cons_zero, List.set_cons_succ]
        rfl
      refine tk_ 2 (some 56) #[true, true, true, false, false, false, false, false, false, false, false, false, false, false, false, false] rfl rfl (by kernel_rfl) (fun _ _ _ h => h) (yieldsIf_tipb rfl (.tmp 10) rfl g2 rfl tT (fun W' h => h.1.k2)) hHeld (a' := ?_) ?_ ?_
      rotate_left
      · simp only [Act.put, List.setIfInBounds_toArray, List.set_cons_zero, List.set_cons_succ]
        rfl
      refine tk_ 4 (some 58) #[true, true, true, false, true, false, false, false, false, false, false, false, false, false, false, false] (v := ?_) (a' := ?_) rfl rfl (by kernel_rfl) (fun _ _ _ h => h) (yieldsIf_run rfl ?_) hHeld ?_ ?_
      rotate_left
      · intro w'
        go_simp
        with_reducible rfl
      rotate_left
      · simp only [Act.put, List.setIfInBounds_toArray, List.set_cons_zero, List.set_cons_succ]
        rfl
      refine tk_ 5 (some 59) #[true, true, true, false, true, true, false, false, false, false, false, false, false, false, false, false] rfl rfl (by kernel_rfl) (fun _ _ _ h => h) (yieldsIf_tipb rfl (.tmp 10) rfl g2 rfl tT (fun W' h => h.1.k2)) hHeld (a' := ?_) ?_ ?_
      rotate_left
      · simp only [Act.put, List.setIfInBounds_toArray, List.set_cons_zero, List.set_cons_succ]
        rfl
      refine tk_ 6 (some 60) #[true, true, true, false, true, true, true, false, false, false, false, false, false, false, false, false] rfl rfl (by kernel_rfl) (fun _ _ _ h => h) (yieldsIf_tipb rfl (.tmp 8) rfl g0 rfl tF (fun W' h => h.1.k0)) hHeld (a' := ?_) ?_ ?_
      rotate_left
      · simp only [Act.put, List.setIfInBounds_toArray, List.set_cons_zero, List.set_cons_succ]
        rfl
      refine call_ 3 (some 57) #[true, true, true, true, true, true, true, false, false, false, false, false, false, false, false, false] rfl rfl (by kernel_rfl) rfl 69 _ (by kernel_rfl) (HAB.out _ hHeld.2.below) ?_
      rintro e w8 ⟨rfl, hb8⟩
      have HB8 := Lib.hid (And.intro (hHeld.1.next hb8) (hHeld.2.next hb8))
      refine ⟨_, rfl, HB8.out, fun hHeld => ⟨?_, ?_, ?_⟩⟩
      rotate_left
      · simp only [Act.put, List.setIfInBounds_toArray, List.set_cons_zero, List.set_cons_succ]
        rfl
      refine call_ 7 (some 61) #[true, true, true, true, true, true, true, true, false, false, false, false, false, false, false, false] rfl rfl (by kernel_rfl) rfl 70 _ (by kernel_rfl) (HD0.out _ hHeld.2.below) ?_
      rintro e w9 ⟨rfl, hb9⟩
      have HB9 := Lib.hid (And.intro (hHeld.1.next hb9) (hHeld.2.next hb9))
      refine ⟨_, rfl, HB9.out, fun hHeld => ⟨?_, ?_, ?_⟩⟩
      rotate_left
      · simp only [Act.put, List.setIfInBounds_toArray, List.set_cons_zero, List.set_cons_succ]
        rfl
      refine tk_ 8 (some 62) #[true, true, true, true, true, true, true, true, true, false, false, false, false, false, false, false] (v := ?_) (a' := ?_) rfl rfl (by kernel_rfl) (fun _ _ _ h => h) (yieldsIf_run rfl ?_) hHeld ?_ ?_
      rotate_left
      · intro w'
        go_simp
        with_reducible rfl
      rotate_left
      · simp only [Act.put, List.setIfInBounds_toArray, List.set_cons_zero, List.set_cons_succ]
        rfl
      refine tk_ 9 (some 63) #[true, true, true, true, true, true, true, true, true, true, false, false, false, false, false, false] rfl rfl (by kernel_rfl) (fun _ _ _ h => h) (yieldsIf_off rfl) hHeld (a' := ?_) ?_ ?_
      rotate_left
      · simp only [Act.put, List.setIfInBounds_toArray, List.set_cons_zero, List.set_cons_succ]
        rfl
      refine tk_ 10 (some 64) #[true, true, true, true, true, true, true, true, true, true, true, false, false, false, false, false] rfl rfl (by kernel_rfl) (fun _ _ _ h => h) (yieldsIf_off rfl) hHeld (a' := ?_) ?_ ?_
      rotate_left
      · simp only [Act.put, List.setIfInBounds_toArray, List.set_cons_zero, List.set_cons_succ]
        rfl
      refine tk_ 11 (some 65) #[true, true, true, true, true, true, true, true, true, true, true, true, false, false, false, false] rfl rfl (by kernel_rfl) (fun _ _ _ h => h) (yieldsIf_off rfl) hHeld (a' := ?_) ?_ ?_
      rotate_left
      · simp only [Act.put, List.setIfInBounds_toArray, List.set_cons_zero, List.set_cons_succ]
        rfl
      refine tk_ 12 (some 66) #[true, true, true, true, true, true, true, true, true, true, true, true, true, false, false, false] rfl rfl (by kernel_rfl) (fun _ _ _ h => h) (yieldsIf_off rfl) hHeld (a' := ?_) ?_ ?_
      rotate_left
      · simp only [Act.put, List.setIfInBounds_toArray, List.set_cons_zero, List.set_cons_succ]
        rfl
      refine tk_ 13 (some 67) #[true, true, true, true, true, true, true, true, true, true, true, true, true, true, false, false] (v := ?_) (a' := ?_) rfl rfl (by kernel_rfl) (fun _ _ _ h => h) (yieldsIf_run rfl ?_) hHeld ?_ ?_
      rotate_left
      · intro w'
        go_simp
        with_reducible rfl
      rotate_left
      · simp only [Act.put, List.setIfInBounds_toArray, List.set_cons_zero, List.set_cons_succ]
        rfl
      refine tk_ 14 (some 68) #[true, true, true, true, true, true, true, true, true, true, true, true, true, true, true, false] (v := ?_) (a' := ?_) rfl rfl (by kernel_rfl) (fun _ _ _ h => h) (yieldsIf_run rfl ?_) hHeld ?_ ?_
      rotate_left
      · intro w'
        go_simp
        with_reducible rfl
      rotate_left
      · simp only [Act.put, List.setIfInBounds_toArray, List.set_cons_zero, List.set_cons_succ]
        rfl
      refine tk_ 15 (some 2) #[true, true, true, true, true, true, true, true, true, true, true, true, true, true, true, true] (v := ?_) (a' := ?_) rfl rfl (by kernel_rfl) (fun _ _ _ h => h) (yieldsIf_run rfl ?_) hHeld ?_ ?_
      rotate_left
      · intro w'
        go_simp
        with_reducible rfl
      rotate_left
      · simp only [Act.put, List.setIfInBounds_toArray, List.set_cons_zero, List.set_cons_succ]
        rfl
      refine wpAnyH_done (by kernel_rfl) ?_ _
      change Exit.then _ _ _ _ _
      go_wp2
      go_ret
      exact ⟨rfl, HB9.out.1.below⟩
    | true =>
      rw [Bool.true_and] at HAB
      refine st_ (S := (fun W' => FlS w W' pp p b1 b2 D g0 g1 g2 tF tM tT F M T ∧ Box1 W W' gl tL)) 16 #[false, false, false, false, false, false, false, false, false, false, false, false, false, false, false, false] (by kernel_rfl) rfl (by rfl) ⟨HX.out.1.next (Below.refl _ W7).drew, HX.out.2.next (Below.refl _ W7).drew⟩ (fun hHeld => ?_)
      refine tk_ 0 (some 54) #[true, false, false, false, false, false, false, false, false, false, false, false, false, false, false, false] (v := ?_) (a' := ?_) rfl rfl (by kernel_rfl) (fun _ _ _ h => h) (yieldsIf_run rfl ?_) hHeld ?_ ?_
      rotate_left
      · intro w'
        go_simp
        with_reducible rfl
      rotate_left
      · simp only [Act.put, List.setIfInBounds_toArray, List.set_cons_zero, List.set_cons_succ]
        rfl
      refine tk_ 1 (some 55) #[true, true, false, false, false, false, false, false, false, false, false, false, false, false, false, false] rfl rfl (by kernel_rfl) (fun _ _ _ h => h) (yieldsIf_tipb rfl (.tmp 11) rfl gl rfl tL (fun W' h => h.2.b0)) hHeld (a' := ?_) ?_ ?_
      rotate_left
      · simp only [Act.put, List.setIfInBounds_toArray, List.set_cons_zero, List.set_cons_succ]
        rfl
      refine tk_ 2 (some 56) #[true, true, true, false, false, false, false, false, false, false, false, false, false, false, false, false] rfl rfl (by kernel_rfl) (fun _ _ _ h => h) (yieldsIf_tipb rfl (.tmp 10) rfl g2 rfl tT (fun W' h => h.1.k2)) hHeld (a' := ?_) ?_ ?_
      rotate_left
      · simp only [Act.put, List.setIfInBounds_toArray, List.set_cons_zero, List.set_cons_succ]
        rfl
      refine tk_ 4 (some 58) #[true, true, true, false, true, false, false, false, false, false, false, false, false, false, false, false] (v := ?_) (a' := ?_) rfl rfl (by kernel_rfl) (fun _ _ _ h => h) (yieldsIf_run rfl ?_) hHeld ?_ ?_
      rotate_left
      · intro w'
        go_simp
        with_reducible rfl
      rotate_left
      · simp only [Act.put, List.setIfInBounds_toArray, List.set_cons_zero, List.set_cons_succ]
        rfl
      refine tk_ 5 (some 59) #[true, true, true, false, true, true, false, false, false, false, false, false, false, false, false, false] rfl rfl (by kernel_rfl) (fun _ _ _ h => h) (yieldsIf_tipb rfl (.tmp 10) rfl g2 rfl tT (fun W' h => h.1.k2)) hHeld (a' := ?_) ?_ ?_
      rotate_left
      · simp only [Act.put, List.setIfInBounds_toArray, List.set_cons_zero, List.set_cons_succ]
        rfl
      refine tk_ 6 (some 60) #[true, true, true, false, true, true, true, false, false, false, false, false, false, false, false, false] rfl rfl (by kernel_rfl) (fun _ _ _ h => h) (yieldsIf_tipb rfl (.tmp 8) rfl g0 rfl tF (fun W' h => h.1.k0)) hHeld (a' := ?_) ?_ ?_
      rotate_left
      · simp only [Act.put, List.setIfInBounds_toArray, List.set_cons_zero, List.set_cons_succ]
        rfl
      refine call_ 3 (some 57) #[true, true, true, true, true, true, true, false, false, false, false, false, false, false, false, false] rfl rfl (by kernel_rfl) rfl 69 _ (by kernel_rfl) (HAB.out _ hHeld.2.below) ?_
      rintro e w8 ⟨rfl, hb8⟩
      have HB8 := Lib.hid (And.intro (hHeld.1.next hb8) (hHeld.2.next hb8))
      refine ⟨_, rfl, HB8.out, fun hHeld => ⟨?_, ?_, ?_⟩⟩
      rotate_left
      · simp only [Act.put, List.setIfInBounds_toArray, List.set_cons_zero, List.set_cons_succ]
        rfl
      refine call_ 7 (some 61) #[true, true, true, true, true, true, true, true, false, false, false, false, false, false, false, false] rfl rfl (by kernel_rfl) rfl 70 _ (by kernel_rfl) (HD0.out _ hHeld.2.below) ?_
      rintro e w9 ⟨rfl, hb9⟩
      have HB9 := Lib.hid (And.intro (hHeld.1.next hb9) (hHeld.2.next hb9))
      refine ⟨_, rfl, HB9.out, fun hHeld => ⟨?_, ?_, ?_⟩⟩
      rotate_left
      · simp only [Act.put, List.setIfInBounds_toArray, List.set_cons_zero, List.set_cons_succ]
        rfl
      refine tk_ 8 (some 62) #[true, true, true, true, true, true, true, true, true, false, false, false, false, false, false, false] (v := ?_) (a' := ?_) rfl rfl (by kernel_rfl) (fun _ _ _ h => h) (yieldsIf_run rfl ?_) hHeld ?_ ?_
      rotate_left
      · intro w'
        go_simp
        with_reducible rfl
      rotate_left
      · simp only [Act.put, List.setIfInBounds_toArray, List.set_cons_zero, List.set_cons_succ]
        rfl
      refine tk_ 9 (some 63) #[true, true, true, true, true, true, true, true, true, true, false, false, false, false, false, false] (v := ?_) (a' := ?_) rfl rfl (by kernel_rfl) (fun _ _ _ h => h) (yieldsIf_run rfl ?_) hHeld ?_ ?_
      rotate_left
      · intro w'
        go_simp
        with_reducible rfl
      rotate_left
      · simp only [Act.put, List.setIfInBounds_toArray, List.set_cons_zero, List.set_cons_succ]
        rfl
      refine tk_ 10 (some 64) #[true, true, true, true, true, true, true, true, true, true, true, false, false, false, false, false] rfl rfl (by kernel_rfl) (fun _ _ _ h => h) (yieldsIf_tipb rfl (.tmp 10) rfl g2 rfl tT (fun W' h => h.1.k2)) hHeld (a' := ?_) ?_ ?_
      rotate_left
      · simp only [Act.put, List.setIfInBounds_toArray, List.set_cons_zero, List.set_cons_succ]
        rfl
      refine tk_ 11 (some 65) #[true, true, true, true, true, true, true, true, true, true, true, true, false, false, false, false] rfl rfl (by kernel_rfl) (fun _ _ _ h => h) (yieldsIf_tipb rfl (.tmp 9) rfl g1 rfl tM (fun W' h => h.1.k1)) hHeld (a' := ?_) ?_ ?_
      rotate_left
      · simp only [Act.put, List.setIfInBounds_toArray, List.set_cons_zero, List.set_cons_succ]
        rfl
      refine call_ 12 (some 66) #[true, true, true, true, true, true, true, true, true, true, true, true, true, false, false, false] rfl rfl (by kernel_rfl) rfl 70 _ (by kernel_rfl) (HD1.out _ hHeld.2.below) ?_
      rintro e w10 ⟨rfl, hb10⟩
      have HB10 := Lib.hid (And.intro (hHeld.1.next hb10) (hHeld.2.next hb10))
      refine ⟨_, rfl, HB10.out, fun hHeld => ⟨?_, ?_, ?_⟩⟩
      rotate_left
      · simp only [Act.put, List.setIfInBounds_toArray, List.set_cons_zero, List.set_cons_succ]
        rfl
      refine tk_ 13 (some 67) #[true, true, true, true, true, true, true, true, true, true, true, true, true, true, false, false] (v := ?_) (a' := ?_) rfl rfl (by kernel_rfl) (fun _ _ _ h => h) (yieldsIf_run rfl ?_) hHeld ?_ ?_
      rotate_left
      · intro w'
        go_simp
        with_reducible rfl
      rotate_left
      · simp only [Act.put, List.setIfInBounds_toArray, List.set_cons_zero, List.set_cons_succ]
        rfl
      refine tk_ 14 (some 68) #[true, true, true, true, true, true, true, true, true, true, true, true, true, true, true, false] (v := ?_) (a' := ?_) rfl rfl (by kernel_rfl) (fun _ _ _ h => h) (yieldsIf_run rfl ?_) hHeld ?_ ?_
      rotate_left
      · intro w'
        go_simp
        with_reducible rfl
      rotate_left
      · simp only [Act.put, List.setIfInBounds_toArray, List.set_cons_zero, List.set_cons_succ]
        rfl
      refine tk_ 15 (some 2) #[true, true, true, true, true, true, true, true, true, true, true, true, true, true, true, true] (v := ?_) (a' := ?_) rfl rfl (by kernel_rfl) (fun _ _ _ h => h) (yieldsIf_run rfl ?_) hHeld ?_ ?_
      rotate_left
      · intro w'
        go_simp
        with_reducible rfl
      rotate_left
      · simp only [Act.put, List.setIfInBounds_toArray, List.set_cons_zero, List.set_cons_succ]
        rfl
      refine wpAnyH_done (by kernel_rfl) ?_ _
      change Exit.then _ _ _ _ _
      go_wp2
      go_ret
      exact ⟨by first | rfl | simp, HB10.out.1.below⟩
end Go.Proofs.YthpcedficlhanaaGreatDoor
