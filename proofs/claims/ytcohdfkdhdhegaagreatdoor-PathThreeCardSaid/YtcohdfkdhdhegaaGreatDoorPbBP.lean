/- coxswainlaw14.PathThree. -/
import Derived.Test.YtcohdfkdhdhegaaGreatDoorPbBF
import Derived.Test.YtcohdfkdhdhegaaGreatDoorPbBI
import Derived.Test.YtcohdfkdhdhegaaGreatDoorPbBL
import Derived.Test.YtcohdfkdhdhegaaGreatDoorPbBN
import Derived.Test.YtcohdfkdhdhegaaGreatDoorPbBO
namespace Go.Proofs.YtcohdfkdhdhegaaGreatDoor
open Go.RowKit Go.Maps

def th10B : List BoxE := [⟨12, 15, 52, #[.slice none 0 0], [3], fun vs => aggC (vs 3)⟩, ⟨13, 16, 52, #[.slice none 0 0], [7], fun vs => aggC (vs 7)⟩, ⟨14, 17, 52, #[.slice none 0 0], [11], fun vs => aggC (vs 11)⟩]
def th10R (G : List Hdr) : List RowE := [(3, [], fun vs => tipK G (vs 3)), (7, [], fun vs => tipK G (vs 7)), (11, [], fun vs => tipK G (vs 11))]
/-- A tipset that is known by its names. -/
def tipC (G : List Hdr) (T : List ID) (x : Value) : FP := FP.ex fun z : Value => (FP.pure (x = tipV z)).and (FP.tip G z T)
theorem tipC_iff {G : List Hdr} {T : List ID} {x : Value} {ok : Nat → Prop} {w : World} : (tipC G T x).K ok w ↔ ∃ z : Value, x = tipV z ∧ TipIs ok w G z T := Iff.rfl
def th11B : List BoxE := [⟨7, 8, 52, #[.slice none 0 0], [6], fun vs => aggC (vs 6)⟩]
def th11R (G : List Hdr) (A B : List ID) : List RowE := [(4, [], fun vs => tipC G A (vs 4)), (6, [], fun vs => tipC G B (vs 6))]
def th12R (G : List Hdr) (A B : List ID) : List RowE := [(5, [], fun vs => tipC G A (vs 5)), (6, [], fun vs => tipC G B (vs 6))]
/-- Three tipsets in variables, and the ways between them. -/
structure ThS (w W : World) (pp p b1 b2 : Nat) (D : List LB) (g0 g1 g2 : Nat) (t0 t1 t2 : Value) (T0 T1 T2 : List ID) : Prop where
  path : PathAt (fun _ => True) W pp p b1 b2 D
  k0 : W.heap[g0]? = some (.cells #[t0] 52 (0, 0))
  k1 : W.heap[g1]? = some (.cells #[t1] 52 (0, 0))
  k2 : W.heap[g2]? = some (.cells #[t2] 52 (0, 0))
  is0 : TipIs (fun _ => True) W (hdrs D) t0 T0
  is1 : TipIs (fun _ => True) W (hdrs D) t1 T1
  is2 : TipIs (fun _ => True) W (hdrs D) t2 T2
  tip0 : TipOf (hdrs D) T0
  tip1 : TipOf (hdrs D) T1
  tip2 : TipOf (hdrs D) T2
  below : Below w.heap.size w W
theorem ThS.next {w W W' : World} {pp p b1 b2 : Nat} {D : List LB} {g0 g1 g2 : Nat} {t0 t1 t2 : Value} {T0 T1 T2 : List ID} (h : ThS w W pp p b1 b2 D g0 g1 g2 t0 t1 t2 T0 T1 T2) (hb : Below W.heap.size W W') : ThS w W' pp p b1 b2 D g0 g1 g2 t0 t1 t2 T0 T1 T2 :=
  ⟨h.path.below hb, (hb.block _ (Array.getElem?_eq_some_iff.1 h.k0).1).trans h.k0, (hb.block _ (Array.getElem?_eq_some_iff.1 h.k1).1).trans h.k1, (hb.block _ (Array.getElem?_eq_some_iff.1 h.k2).1).trans h.k2, h.is0.below hb, h.is1.below hb, h.is2.below hb, h.tip0, h.tip1, h.tip2, h.below.trans (hb.mono h.below.size)⟩

set_option maxRecDepth 100000 in
set_option maxHeartbeats 4000000 in
theorem three_any (w : World) (t : Value) (l : List LSD) (ok ok' : Nat → Prop) (hl : Sl sdE ok w t l) (hf : ∀ y ∈ l, y.At ok' w ∧ SeedOk y.s) (ht : Tab w) (xi xj xk : Int) :
    Calls Tryz.prog 10 #[.agg #[t, .int .i64 xi, .int .i64 xj, .int .i64 xk]] w fun e w' => e = .returned (.bool true) ∧ Below w.heap.size w w' := by
  obtain ⟨A, c, rfl, hc, hm⟩ := hl.form
  have hb0 : Below w.heap.size w (w.alloc (.cells #[.slice A l.length c, .int .i64 xi, .int .i64 xj, .int .i64 xk] 76)) := (Below.refl _ w).alloc (Nat.le_refl _) _
  have HL := Lib.hid hl
  have HF := Lib.hid hf
  have HT := Lib.hid ht
  have HB0 := Lib.hid hb0
  have HG0 : Hid ((w.alloc (.cells #[.slice A l.length c, .int .i64 xi, .int .i64 xj, .int .i64 xk] 76)).heap[w.heap.size]? = some (.cells #[.slice A l.length c, .int .i64 xi, .int .i64 xj, .int .i64 xk] 76 (0, 0))) := Lib.hid (heap_alloc_new w _)
  clear hl hf ht hb0 hc hm
  go_enter Tryz.func10, Tryz.ntmps10
  go_upto_region 1 with fail
  generalize w.alloc (.cells #[.slice A l.length c, .int .i64 xi, .int .i64 xj, .int .i64 xk] 76) = W0 at HB0 HG0 ⊢
  go_upto_region 3 with (go_at_call 59; refine (awake14_any _ (HT.out.below HB0.out)).mono ?_; rintro e w1 ⟨rfl, hb1⟩; have HB1 := Lib.hid (HB0.out.trans (hb1.mono HB0.out.size)); have HG1 := Lib.hid ((hb1.block _ (Array.getElem?_eq_some_iff.1 HG0.out).1).trans HG0.out); clear hb1)
  have HMADE : Hid (∀ W, Below w1.heap.size w1 W → Calls Tryz.prog 43 #[.slice A l.length c, .int .i64 14] W fun e w' => ∃ v, e = .returned v ∧ Below W.heap.size W w' ∧ (madeK v).K (fun k => W.heap.size ≤ k) w') := Lib.hid fun W hb => by
    have hbw := HB1.out.trans (hb.mono HB1.out.size)
    exact made_is W _ l ok ok' (HL.out.below hbw) (fun y hy => ⟨(HF.out y hy).1.below hbw, (HF.out y hy).2⟩) 14 (by decide) (HT.out.below hbw)
  have HC0 : Hid (w1.cell? ⟨w.heap.size, 0, none⟩ = some (.slice A l.length c)) := Lib.hid (cell_block HG1.out rfl)
  have hc0 := HC0.out
  go_upto_region 4 with (go_at_call 43; refine (HMADE.out _ (Below.refl _ _)).mono ?_; rintro e w2 ⟨v, rfl, hb2, hk2⟩; obtain ⟨⟨p, b1, b2, D, L, vl, va, all⟩, rfl, hall, hlst⟩ := madeK_iff.1 hk2; dsimp only at hall hlst; obtain ⟨Aa, ca, rfl, -⟩ := hall.row.form; have HB2 := Lib.hid (HB1.out.trans (hb2.mono HB1.out.size)); have HG2 := Lib.hid ((hb2.block _ (Array.getElem?_eq_some_iff.1 HG1.out).1).trans HG1.out); have HALL := Lib.hid hall; clear hb2 hk2 hall hlst)
  have hb3 : Below w2.heap.size w2 ((w2.alloc (.cells #[.pointer (some ⟨p, 0, none⟩)] 24)).alloc (.cells #[.slice Aa all.length ca] 77)) := ((Below.refl _ _).alloc (Nat.le_refl _) _).alloc (by simp) _
  have HALL3 := Lib.hid (HALL.out.old.below hb3)
  have HB3 := Lib.hid (HB2.out.trans (hb3.mono HB2.out.size))
  have HG3 := Lib.hid ((hb3.block _ (Array.getElem?_eq_some_iff.1 HG2.out).1).trans HG2.out)
  have HKD : Hid (((w2.alloc (.cells #[.pointer (some ⟨p, 0, none⟩)] 24)).alloc (.cells #[.slice Aa all.length ca] 77)).heap[w2.heap.size]? = some (.cells #[.pointer (some ⟨p, 0, none⟩)] 24 (0, 0))) := Lib.hid ((heap_alloc_old _ _ (by simp)).trans (heap_alloc_new w2 _))
  have HKA : Hid (((w2.alloc (.cells #[.pointer (some ⟨p, 0, none⟩)] 24)).alloc (.cells #[.slice Aa all.length ca] 77)).heap[w2.heap.size + 1]? = some (.cells #[.slice Aa all.length ca] 77 (0, 0))) := Lib.hid (by have := heap_alloc_new (w2.alloc (.cells #[.pointer (some ⟨p, 0, none⟩)] 24)) (.cells #[.slice Aa all.length ca] 77); rw [World.size_alloc] at this; exact this)
  clear hb3 hc0 HC0 HALL
  generalize (w2.alloc (.cells #[.pointer (some ⟨p, 0, none⟩)] 24)).alloc (.cells #[.slice Aa all.length ca] 77) = W3 at HALL3 HB3 HG3 HKD HKA ⊢
  generalize w2.heap.size = gd at HALL3 HKD HKA ⊢
  have hcd : W3.cell? ⟨gd, 0, none⟩ = some (.pointer (some ⟨p, 0, none⟩)) := cell_block HKD.out rfl
  have hca : W3.cell? ⟨gd + 1, 0, none⟩ = some (.slice Aa all.length ca) := cell_block HKA.out rfl
  go_upto_region 10 with (go_at_call 44; refine (pnew_any W3 p b1 b2 D _ HALL3.out.dag HALL3.out.fine HALL3.out.both.good 8).mono ?_; rintro e w4 ⟨pp, rfl, -, hpa, hb4⟩; have HPA := Lib.hid hpa; have HALL4 := Lib.hid (HALL3.out.below hb4); have HB4 := Lib.hid (HB3.out.trans (hb4.mono HB3.out.size)); have HG4 := Lib.hid ((hb4.block _ (Array.getElem?_eq_some_iff.1 HG3.out).1).trans HG3.out); have HCD := Lib.hid ((hb4.cell (cell_lt hcd)).trans hcd); have HCA := Lib.hid ((hb4.cell (cell_lt hca)).trans hca); clear hb4 hpa)
  clear hca hcd HALL3 HB3 HG3 HKD HKA
  go_cut [8, 9, 10] from 29 to 40 (fun c8 c9 c10 W => ∃ (g0 g1 g2 : Nat) (t0 t1 t2 : Value) (T0 T1 T2 : List ID), c8 = .pointer (some ⟨g0, 0, none⟩) ∧ c9 = .pointer (some ⟨g1, 0, none⟩) ∧ c10 = .pointer (some ⟨g2, 0, none⟩) ∧ ThS w W pp p b1 b2 D g0 g1 g2 t0 t1 t2 T0 T1 T2)
  case first =>
    have HOF : Hid (∀ (W : World) (x : Int), Below w4.heap.size w4 W → Calls Tryz.prog 65 #[.int .i64 x, .pointer (some ⟨gd, 0, none⟩), .pointer (some ⟨gd + 1, 0, none⟩)] W fun e w' => ∃ v, e = .returned v ∧ Below W.heap.size W w' ∧ (tipK (hdrs D) v).K (fun k => k < w4.heap.size ∨ W.heap.size ≤ k) w') := Lib.hid fun W x hb => by
      refine (of3_any W gd (gd + 1) p b1 b2 D L _ (.slice Aa all.length ca) all ((hb.cell (cell_lt HCD.out)).trans HCD.out) ((hb.cell (cell_lt HCA.out)).trans HCA.out) (HALL4.out.old.below hb) x).mono ?_
      rintro e w' ⟨t, T, rfl, hT, hi, hb'⟩
      exact ⟨_, rfl, hb', tipK_iff.2 ⟨(t, T), ⟨rfl, hT⟩, hi.mono fun k hk => hk.elim .inr fun hk => .inl hk.2⟩⟩
    refine st_ (S := (fun W' => Below w4.heap.size w4 W')) 18 (bt 0 18) (by kernel_rfl) rfl (by rfl) (Below.refl _ w4).drew (fun hHeld => ?_)
    refine tk_ 0 (some 29) (bt 1 17) (v := ?_) (a' := ?_) rfl rfl (by kernel_rfl) (fun _ _ _ h => h) (yieldsIf_run rfl ?_) hHeld ?_ ?_
    rotate_left
    · intro w'
      go_simp
      with_reducible rfl
    rotate_left
    · simp only [Act.put, List.setIfInBounds_toArray, List.set_cons_zero, List.set_cons_succ]
      rfl
    refine tk_ 1 (some 30) (bt 2 16) (v := ?_) (a' := ?_) rfl rfl (by kernel_rfl) (fun _ _ _ h => h) (yieldsIf_run rfl ?_) hHeld ?_ ?_
    rotate_left
    · intro w'
      go_simp
      with_reducible rfl
    rotate_left
    · simp only [Act.put, List.setIfInBounds_toArray, List.set_cons_zero, List.set_cons_succ]
      rfl
    refine tk_ 2 (some 31) (bt 3 15) rfl rfl (by kernel_rfl) (fun _ _ _ h => h) (yieldsIf_cell rfl 3 (.tmp 30) rfl ⟨w.heap.size, 1, none⟩ rfl (.int .i64 xi) _ (fun W' h => (h.cell (Array.getElem?_eq_some_iff.1 HG4.out).1).trans (cell_block HG4.out rfl)) Tryz.underlying3 rfl) hHeld (a' := ?_) ?_ ?_
    rotate_left
    · simp only [Act.put, List.setIfInBounds_toArray, List.set_cons_zero, List.set_cons_succ]
      rfl
    refine tk_ 4 (some 33) #[true, true, true, false, true, false, false, false, false, false, false, false, false, false, false, false, false, false] (v := ?_) (a' := ?_) rfl rfl (by kernel_rfl) (fun _ _ _ h => h) (yieldsIf_run rfl ?_) hHeld ?_ ?_
    rotate_left
    · intro w'
      go_simp
      with_reducible rfl
    rotate_left
    · simp only [Act.put, List.setIfInBounds_toArray, List.set_cons_zero, List.set_cons_succ]
      rfl
    refine tk_ 5 (some 34) #[true, true, true, false, true, true, false, false, false, false, false, false, false, false, false, false, false, false] (v := ?_) (a' := ?_) rfl rfl (by kernel_rfl) (fun _ _ _ h => h) (yieldsIf_run rfl ?_) hHeld ?_ ?_
    rotate_left
    · intro w'
      go_simp
      with_reducible rfl
    rotate_left
    · simp only [Act.put, List.setIfInBounds_toArray, List.set_cons_zero, List.set_cons_succ]
      rfl
    refine tk_ 6 (some 35) #[true, true, true, false, true, true, true, false, false, false, false, false, false, false, false, false, false, false] rfl rfl (by kernel_rfl) (fun _ _ _ h => h) (yieldsIf_cell rfl 3 (.tmp 34) rfl ⟨w.heap.size, 2, none⟩ rfl (.int .i64 xj) _ (fun W' h => (h.cell (Array.getElem?_eq_some_iff.1 HG4.out).1).trans (cell_block HG4.out rfl)) Tryz.underlying3 rfl) hHeld (a' := ?_) ?_ ?_
    rotate_left
    · simp only [Act.put, List.setIfInBounds_toArray, List.set_cons_zero, List.set_cons_succ]
      rfl
    refine tk_ 8 (some 37) #[true, true, true, false, true, true, true, false, true, false, false, false, false, false, false, false, false, false] (v := ?_) (a' := ?_) rfl rfl (by kernel_rfl) (fun _ _ _ h => h) (yieldsIf_run rfl ?_) hHeld ?_ ?_
    rotate_left
    · intro w'
      go_simp
      with_reducible rfl
    rotate_left
    · simp only [Act.put, List.setIfInBounds_toArray, List.set_cons_zero, List.set_cons_succ]
      rfl
    refine tk_ 9 (some 38) #[true, true, true, false, true, true, true, false, true, true, false, false, false, false, false, false, false, false] (v := ?_) (a' := ?_) rfl rfl (by kernel_rfl) (fun _ _ _ h => h) (yieldsIf_run rfl ?_) hHeld ?_ ?_
    rotate_left
    · intro w'
      go_simp
      with_reducible rfl
    rotate_left
    · simp only [Act.put, List.setIfInBounds_toArray, List.set_cons_zero, List.set_cons_succ]
      rfl
    refine tk_ 10 (some 39) #[true, true, true, false, true, true, true, false, true, true, true, false, false, false, false, false, false, false] rfl rfl (by kernel_rfl) (fun _ _ _ h => h) (yieldsIf_cell rfl 3 (.tmp 38) rfl ⟨w.heap.size, 3, none⟩ rfl (.int .i64 xk) _ (fun W' h => (h.cell (Array.getElem?_eq_some_iff.1 HG4.out).1).trans (cell_block HG4.out rfl)) Tryz.underlying3 rfl) hHeld (a' := ?_) ?_ ?_
    rotate_left
    · simp only [Act.put, List.setIfInBounds_toArray, List.set_cons_zero, List.set_cons_succ]
      rfl
    refine boxes2_ [(32, 3), (36, 7), (40, 11), (8, 12), (9, 13), (10, 14)] (th10R (hdrs D)) th10B w4 9 ⟨by kernel_rfl, ?_, ?_⟩ (by decide) rfl (by kernel_rfl) (by kernel_rfl) hHeld (fun _ h => h) ?_ ?_
    · intro r hr i v vs h1 _
      simp only [th10R, List.mem_cons, List.not_mem_nil, or_false] at hr
      rcases hr with rfl | rfl | rfl <;> simp only [upd_ne (Ne.symm h1)]
    · intro q hq i v vs h
      simp only [th10B, List.mem_cons, List.not_mem_nil, or_false] at hq
      rcases hq with rfl | rfl | rfl <;> (have h2 := fun e => h (List.mem_singleton.2 e); simp only [upd_ne (Ne.symm h2)])
    · intro HX i hi
      have hi' : i ∈ [3, 7, 11, 12, 13, 14, 15, 16, 17] := hi
      simp only [List.mem_cons, List.not_mem_nil, or_false] at hi'
      rcases hi' with rfl | rfl | rfl | rfl | rfl | rfl | rfl | rfl | rfl
      · refine stepB_call 3 rfl HX (by decide) (by kernel_rfl) (by kernel_rfl) rfl 65 (fun _ => #[.int .i64 xi, .pointer (some ⟨gd, 0, none⟩), .pointer (some ⟨gd + 1, 0, none⟩)]) (fun vs w => by kernel_rfl) fun ls vs W hu hI => ?_
        refine (HOF.out W xi hI.below).mono ?_
        rintro e w' ⟨v, rfl, hb, hk⟩
        exact ⟨v, rfl, hb, (show (tipK (hdrs D) v).K _ w' from FP.mono _ (fun k hk => hk.imp (okB_low hI) id) hk)⟩
      · refine stepB_call 7 rfl HX (by decide) (by kernel_rfl) (by kernel_rfl) rfl 65 (fun _ => #[.int .i64 xj, .pointer (some ⟨gd, 0, none⟩), .pointer (some ⟨gd + 1, 0, none⟩)]) (fun vs w => by kernel_rfl) fun ls vs W hu hI => ?_
        refine (HOF.out W xj hI.below).mono ?_
        rintro e w' ⟨v, rfl, hb, hk⟩
        exact ⟨v, rfl, hb, (show (tipK (hdrs D) v).K _ w' from FP.mono _ (fun k hk => hk.imp (okB_low hI) id) hk)⟩
      · refine stepB_call 11 rfl HX (by decide) (by kernel_rfl) (by kernel_rfl) rfl 65 (fun _ => #[.int .i64 xk, .pointer (some ⟨gd, 0, none⟩), .pointer (some ⟨gd + 1, 0, none⟩)]) (fun vs w => by kernel_rfl) fun ls vs W hu hI => ?_
        refine (HOF.out W xk hI.below).mono ?_
        rintro e w' ⟨v, rfl, hb, hk⟩
        exact ⟨v, rfl, hb, (show (tipK (hdrs D) v).K _ w' from FP.mono _ (fun k hk => hk.imp (okB_low hI) id) hk)⟩
      · exact stepB_alloc 12 _ rfl HX (by decide) (by kernel_rfl) (List.mem_cons_self) rfl rfl (fun a w => by kernel_rfl)
      · exact stepB_alloc 13 _ rfl HX (by decide) (by kernel_rfl) (List.mem_cons_of_mem _ List.mem_cons_self) rfl rfl (fun a w => by kernel_rfl)
      · exact stepB_alloc 14 _ rfl HX (by decide) (by kernel_rfl) (List.mem_cons_of_mem _ (List.mem_cons_of_mem _ List.mem_cons_self)) rfl rfl (fun a w => by kernel_rfl)
      · refine stepB_store 15 _ rfl HX (by decide) (by kernel_rfl) (List.mem_cons_self) rfl rfl rfl fun ls vs W g hu hI hg hh => ?_
        obtain ⟨z, ⟨h3, -⟩, h4⟩ := tipK_iff.1 (hI.r 3 (hu 3 (by kernel_rfl)))
        show _ = Result.ok Next.skip (W.setRow g (aggC (vs 3)))
        rw [h3]
        exact exec_store 52 (.tmp 8) (.tmp 32) rfl g 0 hg _ h3 (run_storeVar_block W g 52 52 [z.1] #[.slice none 0 0] hh rfl h4.one tip_size)
      · refine stepB_store 16 _ rfl HX (by decide) (by kernel_rfl) (List.mem_cons_of_mem _ List.mem_cons_self) rfl rfl rfl fun ls vs W g hu hI hg hh => ?_
        obtain ⟨z, ⟨h3, -⟩, h4⟩ := tipK_iff.1 (hI.r 7 (hu 7 (by kernel_rfl)))
        show _ = Result.ok Next.skip (W.setRow g (aggC (vs 7)))
        rw [h3]
        exact exec_store 52 (.tmp 9) (.tmp 36) rfl g 0 hg _ h3 (run_storeVar_block W g 52 52 [z.1] #[.slice none 0 0] hh rfl h4.one tip_size)
      · refine stepB_store 17 _ rfl HX (by decide) (by kernel_rfl) (List.mem_cons_of_mem _ (List.mem_cons_of_mem _ List.mem_cons_self)) rfl rfl rfl fun ls vs W g hu hI hg hh => ?_
        obtain ⟨z, ⟨h3, -⟩, h4⟩ := tipK_iff.1 (hI.r 11 (hu 11 (by kernel_rfl)))
        show _ = Result.ok Next.skip (W.setRow g (aggC (vs 11)))
        rw [h3]
        exact exec_store 52 (.tmp 10) (.tmp 40) rfl g 0 hg _ h3 (run_storeVar_block W g 52 52 [z.1] #[.slice none 0 0] hh rfl h4.one tip_size)
    · intro vs W hI
      obtain ⟨z0, ⟨e0, hT0⟩, hi0⟩ := tipK_iff.1 (hI.r 3 rfl)
      obtain ⟨z1, ⟨e1, hT1⟩, hi1⟩ := tipK_iff.1 (hI.r 7 rfl)
      obtain ⟨z2, ⟨e2, hT2⟩, hi2⟩ := tipK_iff.1 (hI.r 11 rfl)
      obtain ⟨g0, hg0, -, hk0⟩ := hI.box ⟨12, 15, _, _, _, _⟩ List.mem_cons_self rfl
      obtain ⟨g1, hg1, -, hk1⟩ := hI.box ⟨13, 16, _, _, _, _⟩ (List.mem_cons_of_mem _ List.mem_cons_self) rfl
      obtain ⟨g2, hg2, -, hk2⟩ := hI.box ⟨14, 17, _, _, _, _⟩ (List.mem_cons_of_mem _ (List.mem_cons_of_mem _ List.mem_cons_self)) rfl
      have hFL : ThS w W pp p b1 b2 D g0 g1 g2 z0.1 z1.1 z2.1 z0.2 z1.2 z2.2 := by
        have c0 : W.heap[g0]? = some (.cells (aggC (vs 3)) 52 (0, 0)) := hk0
        have c1 : W.heap[g1]? = some (.cells (aggC (vs 7)) 52 (0, 0)) := hk1
        have c2 : W.heap[g2]? = some (.cells (aggC (vs 11)) 52 (0, 0)) := hk2
        rw [e0] at c0
        rw [e1] at c1
        rw [e2] at c2
        exact ⟨⟨(hI.below.cell (cell_lt HPA.out.toD)).trans HPA.out.toD, (HPA.out.dag.below hI.below).mono fun _ _ => trivial, HPA.out.fine, HPA.out.good⟩, c0, c1, c2, hi0.mono fun _ _ => trivial, hi1.mono fun _ _ => trivial, hi2.mono fun _ _ => trivial, hT0, hT1, hT2, HB4.out.trans (hI.below.mono HB4.out.size)⟩
      have HFL := Lib.hid hFL
      clear hI hFL hk0 hk1 hk2 hi0 hi1 hi2 e0 e1 e2
      simp only [putL, Act.put, List.setIfInBounds_toArray, List.set_cons_zero, List.set_cons_succ]
      change Exit.then _ _ _ _ _
      go_wp2
      go_meet
      case rel => exact ⟨g0, g1, g2, _, _, _, _, _, _, by first | rfl | exact hg0, by first | rfl | exact hg1, by first | rfl | exact hg2, HFL.out⟩
  case rest =>
  obtain ⟨g0, g1, g2, tA, tB, tC, A, B, C, rfl, rfl, rfl, hS⟩ := hcut
  rename World => W
  have HS := Lib.hid hS
  have GG := HS.out.path.good
  have TA := hS.tip0
  have TB := hS.tip1
  have TC := hS.tip2
  have hAB := (GG.comm_mem TA TB).1
  have hBC := (GG.comm_mem TB TC).1
  have TAB : TipOf (hdrs D) (commG (hdrs D) A B) := GG.chain_tip A TA _ hAB
  have TBC : TipOf (hdrs D) (commG (hdrs D) B C) := GG.chain_tip B TB _ hBC
  obtain ⟨Y, hY⟩ : ∃ Y, commG (hdrs D) (commG (hdrs D) A B) C = Y := ⟨_, rfl⟩
  have hY2 : commG (hdrs D) A (commG (hdrs D) B C) = Y := by rw [← hY]; exact (GG.comm_three TA TB TC).symm
  have hm1 := GG.comm_mem TAB TC
  have hm2 := GG.comm_mem TA TBC
  rw [hY] at hm1
  rw [hY2] at hm2
  have TY : TipOf (hdrs D) Y := GG.chain_tip A TA _ hm2.1
  have HDY : Hid (descG (hdrs D) A Y = true ∧ descG (hdrs D) B Y = true ∧ descG (hdrs D) C Y = true) := Lib.hid ⟨descG_iff.2 hm2.1, descG_iff.2 (GG.chain_trans TB hBC hm2.2.1), descG_iff.2 hm1.2.1⟩
  clear hS hm1 hm2 hAB hBC HPA HALL4 HB4 HG4 HCD HCA HMADE
  have HCAB : Hid (∀ W', Below W.heap.size W W' → Calls Tryz.prog 64 #[.pointer (some ⟨pp, 0, none⟩), tipV tA, tipV tB] W' fun e w' => ∃ v, e = .returned v ∧ Below W'.heap.size W' w' ∧ (tipC (hdrs D) (commG (hdrs D) A B) v).K (fun k => k < W.heap.size ∨ W'.heap.size ≤ k) w') := Lib.hid fun W' hb => by
    refine (common_any W' pp p b1 b2 D _ _ _ (HS.out.path.old.below hb) tA A TA (HS.out.is0.old.below hb) tB B TB (HS.out.is1.old.below hb)).mono ?_
    rintro e w' ⟨t2, rfl, ht, hb2⟩
    exact ⟨_, rfl, hb2, tipC_iff.2 ⟨t2, rfl, ht.mono fun k hk => by
      rcases hk with h | h | h | h | h
      · exact .inl h.2
      · exact .inl h.2
      · exact .inl h.2
      · exact .inl (by rw [h]; exact cell_lt HS.out.path.toD)
      · exact .inr h⟩⟩
  have HCBC : Hid (∀ W', Below W.heap.size W W' → Calls Tryz.prog 64 #[.pointer (some ⟨pp, 0, none⟩), tipV tB, tipV tC] W' fun e w' => ∃ v, e = .returned v ∧ Below W'.heap.size W' w' ∧ (tipC (hdrs D) (commG (hdrs D) B C) v).K (fun k => k < W.heap.size ∨ W'.heap.size ≤ k) w') := Lib.hid fun W' hb => by
    refine (common_any W' pp p b1 b2 D _ _ _ (HS.out.path.old.below hb) tB B TB (HS.out.is1.old.below hb) tC C TC (HS.out.is2.old.below hb)).mono ?_
    rintro e w' ⟨t2, rfl, ht, hb2⟩
    exact ⟨_, rfl, hb2, tipC_iff.2 ⟨t2, rfl, ht.mono fun k hk => by
      rcases hk with h | h | h | h | h
      · exact .inl h.2
      · exact .inl h.2
      · exact .inl h.2
      · exact .inl (by rw [h]; exact cell_lt HS.out.path.toD)
      · exact .inr h⟩⟩
  go_upto_region 11 with fail
  go_cut [11] from 41 to 47 (fun c11 W' => ∃ (g3 : Nat) (tY : Value), c11 = .pointer (some ⟨g3, 0, none⟩) ∧ Below W.heap.size W W' ∧ W'.heap[g3]? = some (.cells #[tY] 52 (0, 0)) ∧ TipIs (fun _ => True) W' (hdrs D) tY Y)
  case first =>
    refine st_ (S := (fun W' => Below W.heap.size W W')) 9 (bt 0 9) (by kernel_rfl) rfl (by rfl) (Below.refl _ W).drew (fun hHeld => ?_)
    refine tk_ 0 (some 41) (bt 1 8) (v := ?_) (a' := ?_) rfl rfl (by kernel_rfl) (fun _ _ _ h => h) (yieldsIf_run rfl ?_) hHeld ?_ ?_
    rotate_left
    · intro w'
      go_simp
      with_reducible rfl
    rotate_left
    · simp only [Act.put, List.setIfInBounds_toArray, List.set_cons_zero, List.set_cons_succ]
      rfl
    refine tk_ 1 (some 42) (bt 2 7) (v := ?_) (a' := ?_) rfl rfl (by kernel_rfl) (fun _ _ _ h => h) (yieldsIf_run rfl ?_) hHeld ?_ ?_
    rotate_left
    · intro w'
      go_simp
      with_reducible rfl
    rotate_left
    · simp only [Act.put, List.setIfInBounds_toArray, List.set_cons_zero, List.set_cons_succ]
      rfl
    refine tk_ 2 (some 43) (bt 3 6) rfl rfl (by kernel_rfl) (fun _ _ _ h => h) (yieldsIf_tipb rfl (.tmp 8) rfl g0 rfl tA (fun W' h => (h.block _ (Array.getElem?_eq_some_iff.1 HS.out.k0).1).trans HS.out.k0)) hHeld (a' := ?_) ?_ ?_
    rotate_left
    · simp only [Act.put, List.setIfInBounds_toArray, List.set_cons_zero, List.set_cons_succ]
      rfl
    refine tk_ 3 (some 44) (bt 4 5) rfl rfl (by kernel_rfl) (fun _ _ _ h => h) (yieldsIf_tipb rfl (.tmp 9) rfl g1 rfl tB (fun W' h => (h.block _ (Array.getElem?_eq_some_iff.1 HS.out.k1).1).trans HS.out.k1)) hHeld (a' := ?_) ?_ ?_
    rotate_left
    · simp only [Act.put, List.setIfInBounds_toArray, List.set_cons_zero, List.set_cons_succ]
      rfl
    refine tk_ 5 (some 46) #[true, true, true, true, false, true, false, false, false] rfl rfl (by kernel_rfl) (fun _ _ _ h => h) (yieldsIf_tipb rfl (.tmp 10) rfl g2 rfl tC (fun W' h => (h.block _ (Array.getElem?_eq_some_iff.1 HS.out.k2).1).trans HS.out.k2)) hHeld (a' := ?_) ?_ ?_
    rotate_left
    · simp only [Act.put, List.setIfInBounds_toArray, List.set_cons_zero, List.set_cons_succ]
      rfl
    refine boxes2_ [(45, 4), (47, 6), (11, 7)] (th11R (hdrs D) (commG (hdrs D) A B) Y) th11B W 4 ⟨by kernel_rfl, ?_, ?_⟩ (by decide) rfl (by kernel_rfl) (by kernel_rfl) hHeld (fun _ h => h) ?_ ?_
    · intro r hr i v vs h1 _
      simp only [th11R, List.mem_cons, List.not_mem_nil, or_false] at hr
      rcases hr with rfl | rfl <;> simp only [upd_ne (Ne.symm h1)]
    · intro q hq i v vs h
      simp only [th11B, List.mem_cons, List.not_mem_nil, or_false] at hq
      subst hq
      have h2 := fun e => h (List.mem_singleton.2 e)
      simp only [upd_ne (Ne.symm h2)]
    · intro HX i hi
      have hi' : i ∈ [4, 6, 7, 8] := hi
      simp only [List.mem_cons, List.not_mem_nil, or_false] at hi'
      rcases hi' with rfl | rfl | rfl | rfl
      · refine stepB_call 4 rfl HX (by decide) (by kernel_rfl) (by kernel_rfl) rfl 64 (fun _ => #[.pointer (some ⟨pp, 0, none⟩), tipV tA, tipV tB]) (fun vs w => by kernel_rfl) fun ls vs W' hu hI => ?_
        refine (HCAB.out W' hI.below).mono ?_
        rintro e w' ⟨v, rfl, hb, hk⟩
        exact ⟨v, rfl, hb, (show (tipC (hdrs D) (commG (hdrs D) A B) v).K _ w' from FP.mono _ (fun k hk => hk.imp (okB_low hI) id) hk)⟩
      · refine stepB_call 6 rfl HX (by decide) (by kernel_rfl) (by kernel_rfl) rfl 64 (fun vs => #[.pointer (some ⟨pp, 0, none⟩), vs 4, tipV tC]) (fun vs w => by kernel_rfl) fun ls vs W' hu hI => ?_
        obtain ⟨z, h3, h4⟩ := tipC_iff.1 (hI.r 4 (hu 4 (by kernel_rfl)))
        show Calls _ _ #[_, vs 4, _] _ _
        rw [h3]
        refine (common_any W' pp p b1 b2 D _ _ _ (HS.out.path.old.below hI.below) z _ TAB h4 tC C TC (HS.out.is2.old.below hI.below)).mono ?_
        rintro e w' ⟨t2, rfl, ht, hb2⟩
        rw [hY] at ht
        refine ⟨_, rfl, hb2, (show (tipC (hdrs D) Y (tipV t2)).K _ w' from tipC_iff.2 ⟨t2, rfl, ht.mono fun k hk => ?_⟩)⟩
        rcases hk with h | h | h | h | h
        · exact .inl h
        · exact .inl (okB_low hI h.2)
        · exact .inl (okB_low hI h.2)
        · exact .inl (okB_low hI (by rw [h]; exact cell_lt HS.out.path.toD))
        · exact .inr h
      · exact stepB_alloc 7 _ rfl HX (by decide) (by kernel_rfl) (List.mem_cons_self) rfl rfl (fun a w => by kernel_rfl)
      · refine stepB_store 8 _ rfl HX (by decide) (by kernel_rfl) (List.mem_cons_self) rfl rfl rfl fun ls vs W' g hu hI hg hh => ?_
        obtain ⟨z, h3, h4⟩ := tipC_iff.1 (hI.r 6 (hu 6 (by kernel_rfl)))
        show _ = Result.ok Next.skip (W'.setRow g (aggC (vs 6)))
        rw [h3]
        exact exec_store 52 (.tmp 11) (.tmp 47) rfl g 0 hg _ h3 (run_storeVar_block W' g 52 52 [z] #[.slice none 0 0] hh rfl h4.one tip_size)
    · intro vs W' hI
      obtain ⟨z, e0, hi0⟩ := tipC_iff.1 (hI.r 6 rfl)
      obtain ⟨g3, hg3, -, hk3⟩ := hI.box ⟨7, 8, _, _, _, _⟩ List.mem_cons_self rfl
      have c0 : W'.heap[g3]? = some (.cells (aggC (vs 6)) 52 (0, 0)) := hk3
      rw [e0] at c0
      have HFL : Hid (Below W.heap.size W W' ∧ W'.heap[g3]? = some (.cells #[z] 52 (0, 0)) ∧ TipIs (fun _ => True) W' (hdrs D) z Y) := Lib.hid ⟨hI.below, c0, hi0.mono fun _ _ => trivial⟩
      clear hI hk3 hi0 e0 c0
      simp only [putL, Act.put, List.setIfInBounds_toArray, List.set_cons_zero, List.set_cons_succ]
      change Exit.then _ _ _ _ _
      go_wp2
      go_meet
      case rel => exact ⟨g3, z, by first | rfl | exact hg3, HFL.out⟩
  case rest =>
  obtain ⟨g3, tY, rfl, hb11, hk11, ht11⟩ := hcut
  rename World => W1
  have HB1 := Lib.hid hb11
  have HK1 := Lib.hid hk11
  have HT1 := Lib.hid ht11
  clear hb11 hk11 ht11
  go_upto_region 12 with fail
  go_cut [12] from 48 to 54 (fun c12 W' => ∃ (g4 : Nat) (tZ : Value), c12 = .pointer (some ⟨g4, 0, none⟩) ∧ Below W1.heap.size W1 W' ∧ W'.heap[g4]? = some (.cells #[tZ] 52 (0, 0)) ∧ TipIs (fun _ => True) W' (hdrs D) tZ Y)
  case first =>
    refine st_ (S := (fun W' => Below W1.heap.size W1 W')) 9 (bt 0 9) (by kernel_rfl) rfl (by rfl) (Below.refl _ W1).drew (fun hHeld => ?_)
    refine tk_ 0 (some 48) (bt 1 8) (v := ?_) (a' := ?_) rfl rfl (by kernel_rfl) (fun _ _ _ h => h) (yieldsIf_run rfl ?_) hHeld ?_ ?_
    rotate_left
    · intro w'
      go_simp
      with_reducible rfl
    rotate_left
    · simp only [Act.put, List.setIfInBounds_toArray, List.set_cons_zero, List.set_cons_succ]
      rfl
    refine tk_ 1 (some 49) (bt 2 7) rfl rfl (by kernel_rfl) (fun _ _ _ h => h) (yieldsIf_tipb rfl (.tmp 8) rfl g0 rfl tA (fun W' h => ((HB1.out.trans (h.mono HB1.out.size)).block _ (Array.getElem?_eq_some_iff.1 HS.out.k0).1).trans HS.out.k0)) hHeld (a' := ?_) ?_ ?_
    rotate_left
    · simp only [Act.put, List.setIfInBounds_toArray, List.set_cons_zero, List.set_cons_succ]
      rfl
    refine tk_ 2 (some 50) (bt 3 6) (v := ?_) (a' := ?_) rfl rfl (by kernel_rfl) (fun _ _ _ h => h) (yieldsIf_run rfl ?_) hHeld ?_ ?_
    rotate_left
    · intro w'
      go_simp
      with_reducible rfl
    rotate_left
    · simp only [Act.put, List.setIfInBounds_toArray, List.set_cons_zero, List.set_cons_succ]
      rfl
    refine tk_ 3 (some 51) (bt 4 5) rfl rfl (by kernel_rfl) (fun _ _ _ h => h) (yieldsIf_tipb rfl (.tmp 9) rfl g1 rfl tB (fun W' h => ((HB1.out.trans (h.mono HB1.out.size)).block _ (Array.getElem?_eq_some_iff.1 HS.out.k1).1).trans HS.out.k1)) hHeld (a' := ?_) ?_ ?_
    rotate_left
    · simp only [Act.put, List.setIfInBounds_toArray, List.set_cons_zero, List.set_cons_succ]
      rfl
    refine tk_ 4 (some 52) (bt 5 4) rfl rfl (by kernel_rfl) (fun _ _ _ h => h) (yieldsIf_tipb rfl (.tmp 10) rfl g2 rfl tC (fun W' h => ((HB1.out.trans (h.mono HB1.out.size)).block _ (Array.getElem?_eq_some_iff.1 HS.out.k2).1).trans HS.out.k2)) hHeld (a' := ?_) ?_ ?_
    rotate_left
    · simp only [Act.put, List.setIfInBounds_toArray, List.set_cons_zero, List.set_cons_succ]
      rfl
    refine boxes2_ [(53, 5), (54, 6), (12, 7)] (th12R (hdrs D) (commG (hdrs D) B C) Y) th11B W1 4 ⟨by kernel_rfl, ?_, ?_⟩ (by decide) rfl (by kernel_rfl) (by kernel_rfl) hHeld (fun _ h => h) ?_ ?_
    · intro r hr i v vs h1 _
      simp only [th12R, List.mem_cons, List.not_mem_nil, or_false] at hr
      rcases hr with rfl | rfl <;> simp only [upd_ne (Ne.symm h1)]
    · intro q hq i v vs h
      simp only [th11B, List.mem_cons, List.not_mem_nil, or_false] at hq
      subst hq
      have h2 := fun e => h (List.mem_singleton.2 e)
      simp only [upd_ne (Ne.symm h2)]
    · intro HX i hi
      have hi' : i ∈ [5, 6, 7, 8] := hi
      simp only [List.mem_cons, List.not_mem_nil, or_false] at hi'
      rcases hi' with rfl | rfl | rfl | rfl
      · refine stepB_call 5 rfl HX (by decide) (by kernel_rfl) (by kernel_rfl) rfl 64 (fun _ => #[.pointer (some ⟨pp, 0, none⟩), tipV tB, tipV tC]) (fun vs w => by kernel_rfl) fun ls vs W' hu hI => ?_
        refine (HCBC.out W' (HB1.out.trans (hI.below.mono HB1.out.size))).mono ?_
        rintro e w' ⟨v, rfl, hb, hk⟩
        exact ⟨v, rfl, hb, (show (tipC (hdrs D) (commG (hdrs D) B C) v).K _ w' from FP.mono _ (fun k hk => hk.imp (fun h => okB_low hI (Nat.lt_of_lt_of_le h HB1.out.size)) id) hk)⟩
      · refine stepB_call 6 rfl HX (by decide) (by kernel_rfl) (by kernel_rfl) rfl 64 (fun vs => #[.pointer (some ⟨pp, 0, none⟩), tipV tA, vs 5]) (fun vs w => by kernel_rfl) fun ls vs W' hu hI => ?_
        obtain ⟨z, h3, h4⟩ := tipC_iff.1 (hI.r 5 (hu 5 (by kernel_rfl)))
        show Calls _ _ #[_, _, vs 5] _ _
        rw [h3]
        have hbb := HB1.out.trans (hI.below.mono HB1.out.size)
        refine (common_any W' pp p b1 b2 D _ _ _ (HS.out.path.old.below hbb) tA A TA (HS.out.is0.old.below hbb) z _ TBC h4).mono ?_
        rintro e w' ⟨t2, rfl, ht, hb2⟩
        rw [hY2] at ht
        have hlow : ∀ k, k < W.heap.size → okB th11B ls vs k := fun k hk => okB_low hI (Nat.lt_of_lt_of_le hk HB1.out.size)
        refine ⟨_, rfl, hb2, (show (tipC (hdrs D) Y (tipV t2)).K _ w' from tipC_iff.2 ⟨t2, rfl, ht.mono fun k hk => ?_⟩)⟩
        rcases hk with h | h | h | h | h
        · exact .inl (hlow k h.2)
        · exact .inl h
        · exact .inl (hlow k h.2)
        · exact .inl (hlow k (by rw [h]; exact cell_lt HS.out.path.toD))
        · exact .inr h
      · exact stepB_alloc 7 _ rfl HX (by decide) (by kernel_rfl) (List.mem_cons_self) rfl rfl (fun a w => by kernel_rfl)
      · refine stepB_store 8 _ rfl HX (by decide) (by kernel_rfl) (List.mem_cons_self) rfl rfl rfl fun ls vs W' g hu hI hg hh => ?_
        obtain ⟨z, h3, h4⟩ := tipC_iff.1 (hI.r 6 (hu 6 (by kernel_rfl)))
        show _ = Result.ok Next.skip (W'.setRow g (aggC (vs 6)))
        rw [h3]
        exact exec_store 52 (.tmp 12) (.tmp 54) rfl g 0 hg _ h3 (run_storeVar_block W' g 52 52 [z] #[.slice none 0 0] hh rfl h4.one tip_size)
    · intro vs W' hI
      obtain ⟨z, e0, hi0⟩ := tipC_iff.1 (hI.r 6 rfl)
      obtain ⟨g4, hg4, -, hk4⟩ := hI.box ⟨7, 8, _, _, _, _⟩ List.mem_cons_self rfl
      have c0 : W'.heap[g4]? = some (.cells (aggC (vs 6)) 52 (0, 0)) := hk4
      rw [e0] at c0
      have HFL : Hid (Below W1.heap.size W1 W' ∧ W'.heap[g4]? = some (.cells #[z] 52 (0, 0)) ∧ TipIs (fun _ => True) W' (hdrs D) z Y) := Lib.hid ⟨hI.below, c0, hi0.mono fun _ _ => trivial⟩
      clear hI hk4 hi0 e0 c0
      simp only [putL, Act.put, List.setIfInBounds_toArray, List.set_cons_zero, List.set_cons_succ]
      change Exit.then _ _ _ _ _
      go_wp2
      go_meet
      case rel => exact ⟨g4, z, by first | rfl | exact hg4, HFL.out⟩
  case rest =>
  obtain ⟨g4, tZ, rfl, hb12, hk12, ht12⟩ := hcut
  rename World => W2
  have hbw : Below W.heap.size W W2 := HB1.out.trans (hb12.mono HB1.out.size)
  have HX : Hid (ThS w W2 pp p b1 b2 D g0 g1 g2 tA tB tC A B C ∧ (W2.heap[g3]? = some (.cells #[tY] 52 (0, 0)) ∧ TipIs (fun _ => True) W2 (hdrs D) tY Y) ∧ W2.heap[g4]? = some (.cells #[tZ] 52 (0, 0)) ∧ TipIs (fun _ => True) W2 (hdrs D) tZ Y) := Lib.hid ⟨HS.out.next hbw, ⟨(hb12.block _ (Array.getElem?_eq_some_iff.1 HK1.out).1).trans HK1.out, HT1.out.below hb12⟩, hk12, ht12⟩
  clear hb12 hk12 ht12 hbw HB1 HK1 HT1 HS HCAB HCBC
  obtain ⟨ky, hky⟩ : ∃ ky, keyB Y = ky := ⟨_, rfl⟩
  obtain ⟨ka, hka⟩ : ∃ ka, keyB A = ka := ⟨_, rfl⟩
  have HKY : Hid (∀ (W' : World) (t : Value), TipIs (fun _ => True) W' (hdrs D) t Y → Calls Tryz.prog 54 #[tipV t] W' fun e w' => e = .returned (.string ky) ∧ Below W'.heap.size W' w') := Lib.hid fun W' t h => by rw [← hky]; exact key_is h (.inr TY)
  have HKA : Hid (∀ (W' : World) (t : Value) (ok : Nat → Prop), TipIs ok W' (hdrs D) t A → Calls Tryz.prog 54 #[tipV t] W' fun e w' => e = .returned (.string ka) ∧ Below W'.heap.size W' w') := Lib.hid fun W' t ok h => by rw [← hka]; exact key_is h (.inr TA)
  have HD0 : Hid (∀ W', Below W2.heap.size W2 W' → Calls Tryz.prog 51 #[.pointer (some ⟨pp, 0, none⟩), tipV tA, tipV tY] W' fun e w' => e = .returned (.bool true) ∧ Below W'.heap.size W' w') := Lib.hid fun W' hb => by
    have h1 := descends_any W' pp p b1 b2 D _ _ _ (HX.out.1.path.below hb) tA A TA (HX.out.1.is0.below hb) tY Y TY (HX.out.2.1.2.below hb)
    rw [HDY.out.1] at h1; exact h1
  have HD1 : Hid (∀ W', Below W2.heap.size W2 W' → Calls Tryz.prog 51 #[.pointer (some ⟨pp, 0, none⟩), tipV tB, tipV tY] W' fun e w' => e = .returned (.bool true) ∧ Below W'.heap.size W' w') := Lib.hid fun W' hb => by
    have h1 := descends_any W' pp p b1 b2 D _ _ _ (HX.out.1.path.below hb) tB B TB (HX.out.1.is1.below hb) tY Y TY (HX.out.2.1.2.below hb)
    rw [HDY.out.2.1] at h1; exact h1
  have HD2 : Hid (∀ W', Below W2.heap.size W2 W' → Calls Tryz.prog 51 #[.pointer (some ⟨pp, 0, none⟩), tipV tC, tipV tY] W' fun e w' => e = .returned (.bool true) ∧ Below W'.heap.size W' w') := Lib.hid fun W' hb => by
    have h1 := descends_any W' pp p b1 b2 D _ _ _ (HX.out.1.path.below hb) tC C TC (HX.out.1.is2.below hb) tY Y TY (HX.out.2.1.2.below hb)
    rw [HDY.out.2.2] at h1; exact h1
  have HGE : Hid (∀ W', Below W2.heap.size W2 W' → Calls Tryz.prog 52 #[] W' fun e w' => ∃ t, e = .returned (tipV t) ∧ TipIs (fun _ => True) w' (hdrs D) t [rootID] ∧ Below W'.heap.size W' w') := Lib.hid fun W' hb => (gen_is W' (HT.out.below (HX.out.1.below.trans (hb.mono HX.out.1.below.size))) GG).mono fun e w' ⟨t, h1, h2, h3⟩ => ⟨t, h1, h2.mono fun _ _ => trivial, h3⟩
  have hroot : commG (hdrs D) A [rootID] = [rootID] := GG.comm_eq TA GG.root_tip (GG.root_in A TA) (GG.chain_self GG.root_tip) fun F _ hF => GG.chain_low _ GG.root_tip F hF
  have HCG : Hid (∀ (W' : World) (t : Value), Below W2.heap.size W2 W' → TipIs (fun _ => True) W' (hdrs D) t [rootID] → Calls Tryz.prog 64 #[.pointer (some ⟨pp, 0, none⟩), tipV tA, tipV t] W' fun e w' => ∃ t2, e = .returned (tipV t2) ∧ TipIs (fun _ => True) w' (hdrs D) t2 [rootID] ∧ Below W'.heap.size W' w') := Lib.hid fun W' t hb ht => by
    refine (common_any W' pp p b1 b2 D _ _ _ (HX.out.1.path.below hb) tA A TA (HX.out.1.is0.below hb) t [rootID] GG.root_tip ht).mono ?_
    rintro e w' ⟨t2, rfl, h2, hb2⟩
    rw [hroot] at h2
    exact ⟨t2, rfl, h2.mono fun _ _ => trivial, hb2⟩
  have HCS : Hid (∀ (W' : World), Below W2.heap.size W2 W' → Calls Tryz.prog 64 #[.pointer (some ⟨pp, 0, none⟩), tipV tA, tipV tA] W' fun e w' => ∃ t2, e = .returned (tipV t2) ∧ TipIs (fun _ => True) w' (hdrs D) t2 A ∧ Below W'.heap.size W' w') := Lib.hid fun W' hb => by
    refine (common_any W' pp p b1 b2 D _ _ _ (HX.out.1.path.below hb) tA A TA (HX.out.1.is0.below hb) tA A TA (HX.out.1.is0.below hb)).mono ?_
    rintro e w' ⟨t2, rfl, h2, hb2⟩
    rw [GG.comm_self TA] at h2
    exact ⟨t2, rfl, h2.mono fun _ _ => trivial, hb2⟩
  have HHG : Hid (∀ (W' : World) (t : Value), TipIs (fun _ => True) W' (hdrs D) t [rootID] → Calls Tryz.prog 41 #[tipV t] W' fun e w' => e = .returned (.int .i64 0) ∧ Below W'.heap.size W' w') := Lib.hid fun W' t h => by
    have h1 := height_is h GG.root_tip
    rw [GG.root_hgt] at h1; exact h1
  have hqy : (ky.toList == ky.toList) = true := by rw [str_beq]; exact decide_eq_true rfl
  have hqa : (ka.toList == ka.toList) = true := by rw [str_beq]; exact decide_eq_true rfl
  clear hky hka hroot hY hY2 HDY TAB TBC
  go_upto_region 13 with fail
  refine st_ (S := (fun W' => Below W2.heap.size W2 W')) 42 (bt 0 42) (by kernel_rfl) rfl (by rfl) (Below.refl _ W2).drew (fun hHeld => ?_)
  refine tk_ 0 (some 55) (bt 1 41) rfl rfl (by kernel_rfl) (fun _ _ _ h => h) (yieldsIf_tipb rfl (.tmp 11) rfl g3 rfl tY (fun W' h => (h.block _ (Array.getElem?_eq_some_iff.1 HX.out.2.1.1).1).trans HX.out.2.1.1)) hHeld (a' := ?_) ?_ ?_
  rotate_left
  · simp only [Act.put, List.setIfInBounds_toArray, List.set_cons_zero, List.set_cons_succ]
    rfl
  refine tk_ 2 (some 57) #[true, false, true, false, false, false, false, false, false, false, false, false, false, false, false, false, false, false, false, false, false, false, false, false, false, false, false, false, false, false, false, false, false, false, false, false, false, false, false, false, false, false] rfl rfl (by kernel_rfl) (fun _ _ _ h => h) (yieldsIf_tipb rfl (.tmp 12) rfl g4 rfl tZ (fun W' h => (h.block _ (Array.getElem?_eq_some_iff.1 HX.out.2.2.1).1).trans HX.out.2.2.1)) hHeld (a' := ?_) ?_ ?_
  rotate_left
  · simp only [Act.put, List.setIfInBounds_toArray, List.set_cons_zero, List.set_cons_succ]
    rfl
  refine call_ 1 (some 56) (bt 3 39) rfl rfl (by kernel_rfl) rfl 54 _ (by kernel_rfl) (HKY.out _ _ (HX.out.2.1.2.below hHeld)) ?_
  rintro e w5 ⟨rfl, hb5⟩
  have HB5 := Lib.hid (hHeld.trans (hb5.mono hHeld.size))
  refine ⟨_, rfl, HB5.out, fun hHeld => ⟨?_, ?_, ?_⟩⟩
  rotate_left
  · simp only [Act.put, List.setIfInBounds_toArray, List.set_cons_zero, List.set_cons_succ]
    rfl
  refine call_ 3 (some 58) (bt 4 38) rfl rfl (by kernel_rfl) rfl 54 _ (by kernel_rfl) (HKY.out _ _ (HX.out.2.2.2.below hHeld)) ?_
  rintro e w6 ⟨rfl, hb6⟩
  have HB6 := Lib.hid (hHeld.trans (hb6.mono hHeld.size))
  refine ⟨_, rfl, HB6.out, fun hHeld => ⟨?_, ?_, ?_⟩⟩
  rotate_left
  · simp only [Act.put, List.setIfInBounds_toArray, List.set_cons_zero, List.set_cons_succ]
    rfl
  refine tk_ 4 (some 59) (bt 5 37) (v := ?_) (a' := ?_) rfl rfl (by kernel_rfl) (fun _ _ _ h => h) (yieldsIf_run rfl ?_) hHeld ?_ ?_
  rotate_left
  · intro w'
    go_simp
    with_reducible rfl
  rotate_left
  · simp only [Act.put, List.setIfInBounds_toArray, List.set_cons_zero, List.set_cons_succ]
    rfl
  refine tk_ 5 (some 60) (bt 6 36) (v := ?_) (a' := ?_) rfl rfl (by kernel_rfl) (fun _ _ _ h => h) (yieldsIf_run rfl ?_) hHeld ?_ ?_
  rotate_left
  · intro w'
    go_simp
    with_reducible rfl
  rotate_left
  · simp only [Act.put, List.setIfInBounds_toArray, List.set_cons_zero, List.set_cons_succ]
    rfl
  refine tk_ 6 (some 61) (bt 7 35) (v := ?_) (a' := ?_) rfl rfl (by kernel_rfl) (fun _ _ _ h => h) (yieldsIf_run rfl ?_) hHeld ?_ ?_
  rotate_left
  · intro w'
    go_simp
    with_reducible rfl
  rotate_left
  · simp only [Act.put, List.setIfInBounds_toArray, List.set_cons_zero, List.set_cons_succ]
    rfl
  refine tk_ 7 (some 62) (bt 8 34) rfl rfl (by kernel_rfl) (fun _ _ _ h => h) (yieldsIf_tipb rfl (.tmp 8) rfl g0 rfl tA (fun W' h => (h.block _ (Array.getElem?_eq_some_iff.1 HX.out.1.k0).1).trans HX.out.1.k0)) hHeld (a' := ?_) ?_ ?_
  rotate_left
  · simp only [Act.put, List.setIfInBounds_toArray, List.set_cons_zero, List.set_cons_succ]
    rfl
  refine tk_ 8 (some 63) (bt 9 33) rfl rfl (by kernel_rfl) (fun _ _ _ h => h) (yieldsIf_tipb rfl (.tmp 11) rfl g3 rfl tY (fun W' h => (h.block _ (Array.getElem?_eq_some_iff.1 HX.out.2.1.1).1).trans HX.out.2.1.1)) hHeld (a' := ?_) ?_ ?_
  rotate_left
  · simp only [Act.put, List.setIfInBounds_toArray, List.set_cons_zero, List.set_cons_succ]
    rfl
  refine call_ 9 (some 64) (bt 10 32) rfl rfl (by kernel_rfl) rfl 51 _ (by kernel_rfl) (HD0.out _ hHeld) ?_
  rintro e w7 ⟨rfl, hb7⟩
  have HB7 := Lib.hid (hHeld.trans (hb7.mono hHeld.size))
  refine ⟨_, rfl, HB7.out, fun hHeld => ⟨?_, ?_, ?_⟩⟩
  rotate_left
  · simp only [Act.put, List.setIfInBounds_toArray, List.set_cons_zero, List.set_cons_succ]
    rfl
  refine tk_ 10 (some 65) (bt 11 31) (v := ?_) (a' := ?_) rfl rfl (by kernel_rfl) (fun _ _ _ h => h) (yieldsIf_run rfl ?_) hHeld ?_ ?_
  rotate_left
  · intro w'
    go_simp
    with_reducible rfl
  rotate_left
  · simp only [Act.put, List.setIfInBounds_toArray, List.set_cons_zero, List.set_cons_succ]
    rfl
  refine tk_ 11 (some 66) (bt 12 30) (v := ?_) (a' := ?_) rfl rfl (by kernel_rfl) (fun _ _ _ h => h) (yieldsIf_run rfl ?_) hHeld ?_ ?_
  rotate_left
  · intro w'
    go_simp
    with_reducible rfl
  rotate_left
  · simp only [Act.put, List.setIfInBounds_toArray, List.set_cons_zero, List.set_cons_succ]
    rfl
  refine tk_ 12 (some 67) (bt 13 29) (v := ?_) (a' := ?_) rfl rfl (by kernel_rfl) (fun _ _ _ h => h) (yieldsIf_run rfl ?_) hHeld ?_ ?_
  rotate_left
  · intro w'
    go_simp
    with_reducible rfl
  rotate_left
  · simp only [Act.put, List.setIfInBounds_toArray, List.set_cons_zero, List.set_cons_succ]
    rfl
  refine tk_ 13 (some 68) (bt 14 28) rfl rfl (by kernel_rfl) (fun _ _ _ h => h) (yieldsIf_tipb rfl (.tmp 9) rfl g1 rfl tB (fun W' h => (h.block _ (Array.getElem?_eq_some_iff.1 HX.out.1.k1).1).trans HX.out.1.k1)) hHeld (a' := ?_) ?_ ?_
  rotate_left
  · simp only [Act.put, List.setIfInBounds_toArray, List.set_cons_zero, List.set_cons_succ]
    rfl
  refine tk_ 14 (some 69) (bt 15 27) rfl rfl (by kernel_rfl) (fun _ _ _ h => h) (yieldsIf_tipb rfl (.tmp 11) rfl g3 rfl tY (fun W' h => (h.block _ (Array.getElem?_eq_some_iff.1 HX.out.2.1.1).1).trans HX.out.2.1.1)) hHeld (a' := ?_) ?_ ?_
  rotate_left
  · simp only [Act.put, List.setIfInBounds_toArray, List.set_cons_zero, List.set_cons_succ]
    rfl
  refine call_ 15 (some 70) (bt 16 26) rfl rfl (by kernel_rfl) rfl 51 _ (by kernel_rfl) (HD1.out _ hHeld) ?_
  rintro e w8 ⟨rfl, hb8⟩
  have HB8 := Lib.hid (hHeld.trans (hb8.mono hHeld.size))
  refine ⟨_, rfl, HB8.out, fun hHeld => ⟨?_, ?_, ?_⟩⟩
  rotate_left
  · simp only [Act.put, List.setIfInBounds_toArray, List.set_cons_zero, List.set_cons_succ]
    rfl
  refine tk_ 16 (some 71) (bt 17 25) (v := ?_) (a' := ?_) rfl rfl (by kernel_rfl) (fun _ _ _ h => h) (yieldsIf_run rfl ?_) hHeld ?_ ?_
  rotate_left
  · intro w'
    go_simp
    with_reducible rfl
  rotate_left
  · simp only [Act.put, List.setIfInBounds_toArray, List.set_cons_zero, List.set_cons_succ]
    rfl
  refine tk_ 17 (some 72) (bt 18 24) (v := ?_) (a' := ?_) rfl rfl (by kernel_rfl) (fun _ _ _ h => h) (yieldsIf_run rfl ?_) hHeld ?_ ?_
  rotate_left
  · intro w'
    go_simp
    with_reducible rfl
  rotate_left
  · simp only [Act.put, List.setIfInBounds_toArray, List.set_cons_zero, List.set_cons_succ]
    rfl
  refine tk_ 18 (some 73) (bt 19 23) (v := ?_) (a' := ?_) rfl rfl (by kernel_rfl) (fun _ _ _ h => h) (yieldsIf_run rfl ?_) hHeld ?_ ?_
  rotate_left
  · intro w'
    go_simp
    with_reducible rfl
  rotate_left
  · simp only [Act.put, List.setIfInBounds_toArray, List.set_cons_zero, List.set_cons_succ]
    rfl
  refine tk_ 19 (some 74) (bt 20 22) rfl rfl (by kernel_rfl) (fun _ _ _ h => h) (yieldsIf_tipb rfl (.tmp 10) rfl g2 rfl tC (fun W' h => (h.block _ (Array.getElem?_eq_some_iff.1 HX.out.1.k2).1).trans HX.out.1.k2)) hHeld (a' := ?_) ?_ ?_
  rotate_left
  · simp only [Act.put, List.setIfInBounds_toArray, List.set_cons_zero, List.set_cons_succ]
    rfl
  refine tk_ 20 (some 75) (bt 21 21) rfl rfl (by kernel_rfl) (fun _ _ _ h => h) (yieldsIf_tipb rfl (.tmp 11) rfl g3 rfl tY (fun W' h => (h.block _ (Array.getElem?_eq_some_iff.1 HX.out.2.1.1).1).trans HX.out.2.1.1)) hHeld (a' := ?_) ?_ ?_
  rotate_left
  · simp only [Act.put, List.setIfInBounds_toArray, List.set_cons_zero, List.set_cons_succ]
    rfl
  refine call_ 21 (some 76) (bt 22 20) rfl rfl (by kernel_rfl) rfl 51 _ (by kernel_rfl) (HD2.out _ hHeld) ?_
  rintro e w9 ⟨rfl, hb9⟩
  have HB9 := Lib.hid (hHeld.trans (hb9.mono hHeld.size))
  refine ⟨_, rfl, HB9.out, fun hHeld => ⟨?_, ?_, ?_⟩⟩
  rotate_left
  · simp only [Act.put, List.setIfInBounds_toArray, List.set_cons_zero, List.set_cons_succ]
    rfl
  refine tk_ 22 (some 77) (bt 23 19) (v := ?_) (a' := ?_) rfl rfl (by kernel_rfl) (fun _ _ _ h => h) (yieldsIf_run rfl ?_) hHeld ?_ ?_
  rotate_left
  · intro w'
    go_simp
    with_reducible rfl
  rotate_left
  · simp only [Act.put, List.setIfInBounds_toArray, List.set_cons_zero, List.set_cons_succ]
    rfl
  refine tk_ 23 (some 78) (bt 24 18) (v := ?_) (a' := ?_) rfl rfl (by kernel_rfl) (fun _ _ _ h => h) (yieldsIf_run rfl ?_) hHeld ?_ ?_
  rotate_left
  · intro w'
    go_simp
    with_reducible rfl
  rotate_left
  · simp only [Act.put, List.setIfInBounds_toArray, List.set_cons_zero, List.set_cons_succ]
    rfl
  refine tk_ 24 (some 79) (bt 25 17) (v := ?_) (a' := ?_) rfl rfl (by kernel_rfl) (fun _ _ _ h => h) (yieldsIf_run rfl ?_) hHeld ?_ ?_
  rotate_left
  · intro w'
    go_simp
    with_reducible rfl
  rotate_left
  · simp only [Act.put, List.setIfInBounds_toArray, List.set_cons_zero, List.set_cons_succ]
    rfl
  refine tk_ 25 (some 80) (bt 26 16) rfl rfl (by kernel_rfl) (fun _ _ _ h => h) (yieldsIf_tipb rfl (.tmp 8) rfl g0 rfl tA (fun W' h => (h.block _ (Array.getElem?_eq_some_iff.1 HX.out.1.k0).1).trans HX.out.1.k0)) hHeld (a' := ?_) ?_ ?_
  rotate_left
  · simp only [Act.put, List.setIfInBounds_toArray, List.set_cons_zero, List.set_cons_succ]
    rfl
  refine call_ 26 (some 81) (bt 27 15) rfl rfl (by kernel_rfl) rfl 52 _ (by kernel_rfl) (HGE.out _ hHeld) ?_
  rintro e w10 ⟨tg, rfl, htg, hb10⟩
  have HB10 := Lib.hid (hHeld.trans (hb10.mono hHeld.size))
  have HTG := Lib.hid htg
  refine ⟨_, rfl, HB10.out, fun hHeld => ⟨?_, ?_, ?_⟩⟩
  rotate_left
  · simp only [Act.put, List.setIfInBounds_toArray, List.set_cons_zero, List.set_cons_succ]
    rfl
  refine call_ 27 (some 82) (bt 28 14) rfl rfl (by kernel_rfl) rfl 64 _ (by kernel_rfl) (HCG.out _ tg hHeld HTG.out) ?_
  rintro e w11 ⟨t11, rfl, ht11, hb11⟩
  have HB11 := Lib.hid (hHeld.trans (hb11.mono hHeld.size))
  have HT11 := Lib.hid ht11
  refine ⟨_, rfl, HB11.out, fun hHeld => ⟨?_, ?_, ?_⟩⟩
  rotate_left
  · simp only [Act.put, List.setIfInBounds_toArray, List.set_cons_zero, List.set_cons_succ]
    rfl
  refine call_ 28 (some 83) (bt 29 13) rfl rfl (by kernel_rfl) rfl 41 _ (by kernel_rfl) (HHG.out _ _ HT11.out) ?_
  rintro e w12 ⟨rfl, hb12⟩
  have HB12 := Lib.hid (hHeld.trans (hb12.mono hHeld.size))
  refine ⟨_, rfl, HB12.out, fun hHeld => ⟨?_, ?_, ?_⟩⟩
  rotate_left
  · simp only [Act.put, List.setIfInBounds_toArray, List.set_cons_zero, List.set_cons_succ]
    rfl
  refine tk_ 29 (some 84) (bt 30 12) (v := ?_) (a' := ?_) rfl rfl (by kernel_rfl) (fun _ _ _ h => h) (yieldsIf_run rfl ?_) hHeld ?_ ?_
  rotate_left
  · intro w'
    go_simp
    with_reducible rfl
  rotate_left
  · simp only [Act.put, List.setIfInBounds_toArray, List.set_cons_zero, List.set_cons_succ]
    rfl
  refine tk_ 30 (some 85) (bt 31 11) (v := ?_) (a' := ?_) rfl rfl (by kernel_rfl) (fun _ _ _ h => h) (yieldsIf_run rfl ?_) hHeld ?_ ?_
  rotate_left
  · intro w'
    go_simp
    with_reducible rfl
  rotate_left
  · simp only [Act.put, List.setIfInBounds_toArray, List.set_cons_zero, List.set_cons_succ]
    rfl
  refine tk_ 31 (some 86) (bt 32 10) (v := ?_) (a' := ?_) rfl rfl (by kernel_rfl) (fun _ _ _ h => h) (yieldsIf_run rfl ?_) hHeld ?_ ?_
  rotate_left
  · intro w'
    go_simp
    with_reducible rfl
  rotate_left
  · simp only [Act.put, List.setIfInBounds_toArray, List.set_cons_zero, List.set_cons_succ]
    rfl
  refine tk_ 32 (some 87) (bt 33 9) (v := ?_) (a' := ?_) rfl rfl (by kernel_rfl) (fun _ _ _ h => h) (yieldsIf_run rfl ?_) hHeld ?_ ?_
  rotate_left
  · intro w'
    go_simp
    with_reducible rfl
  rotate_left
  · simp only [Act.put, List.setIfInBounds_toArray, List.set_cons_zero, List.set_cons_succ]
    rfl
  refine tk_ 33 (some 88) (bt 34 8) rfl rfl (by kernel_rfl) (fun _ _ _ h => h) (yieldsIf_tipb rfl (.tmp 8) rfl g0 rfl tA (fun W' h => (h.block _ (Array.getElem?_eq_some_iff.1 HX.out.1.k0).1).trans HX.out.1.k0)) hHeld (a' := ?_) ?_ ?_
  rotate_left
  · simp only [Act.put, List.setIfInBounds_toArray, List.set_cons_zero, List.set_cons_succ]
    rfl
  refine tk_ 34 (some 89) (bt 35 7) rfl rfl (by kernel_rfl) (fun _ _ _ h => h) (yieldsIf_tipb rfl (.tmp 8) rfl g0 rfl tA (fun W' h => (h.block _ (Array.getElem?_eq_some_iff.1 HX.out.1.k0).1).trans HX.out.1.k0)) hHeld (a' := ?_) ?_ ?_
  rotate_left
  · simp only [Act.put, List.setIfInBounds_toArray, List.set_cons_zero, List.set_cons_succ]
    rfl
  refine tk_ 37 (some 92) #[true, true, true, true, true, true, true, true, true, true, true, true, true, true, true, true, true, true, true, true, true, true, true, true, true, true, true, true, true, true, true, true, true, true, true, false, false, true, false, false, false, false] rfl rfl (by kernel_rfl) (fun _ _ _ h => h) (yieldsIf_tipb rfl (.tmp 8) rfl g0 rfl tA (fun W' h => (h.block _ (Array.getElem?_eq_some_iff.1 HX.out.1.k0).1).trans HX.out.1.k0)) hHeld (a' := ?_) ?_ ?_
  rotate_left
  · simp only [Act.put, List.setIfInBounds_toArray, List.set_cons_zero, List.set_cons_succ]
    rfl
  refine call_ 35 (some 90) #[true, true, true, true, true, true, true, true, true, true, true, true, true, true, true, true, true, true, true, true, true, true, true, true, true, true, true, true, true, true, true, true, true, true, true, true, false, true, false, false, false, false] rfl rfl (by kernel_rfl) rfl 64 _ (by kernel_rfl) (HCS.out _ hHeld) ?_
  rintro e w13 ⟨t13, rfl, ht13, hb13⟩
  have HB13 := Lib.hid (hHeld.trans (hb13.mono hHeld.size))
  have HT13 := Lib.hid ht13
  refine ⟨_, rfl, HB13.out, fun hHeld => ⟨?_, ?_, ?_⟩⟩
  rotate_left
  · simp only [Act.put, List.setIfInBounds_toArray, List.set_cons_zero, List.set_cons_succ]
    rfl
  refine call_ 36 (some 91) (bt 38 4) rfl rfl (by kernel_rfl) rfl 54 _ (by kernel_rfl) (HKA.out _ _ _ HT13.out) ?_
  rintro e w14 ⟨rfl, hb14⟩
  have HB14 := Lib.hid (hHeld.trans (hb14.mono hHeld.size))
  refine ⟨_, rfl, HB14.out, fun hHeld => ⟨?_, ?_, ?_⟩⟩
  rotate_left
  · simp only [Act.put, List.setIfInBounds_toArray, List.set_cons_zero, List.set_cons_succ]
    rfl
  refine call_ 38 (some 93) (bt 39 3) rfl rfl (by kernel_rfl) rfl 54 _ (by kernel_rfl) (HKA.out _ _ _ (HX.out.1.is0.below hHeld)) ?_
  rintro e w15 ⟨rfl, hb15⟩
  have HB15 := Lib.hid (hHeld.trans (hb15.mono hHeld.size))
  refine ⟨_, rfl, HB15.out, fun hHeld => ⟨?_, ?_, ?_⟩⟩
  rotate_left
  · simp only [Act.put, List.setIfInBounds_toArray, List.set_cons_zero, List.set_cons_succ]
    rfl
  refine tk_ 39 (some 94) (bt 40 2) (v := ?_) (a' := ?_) rfl rfl (by kernel_rfl) (fun _ _ _ h => h) (yieldsIf_run rfl ?_) hHeld ?_ ?_
  rotate_left
  · intro w'
    go_simp
    with_reducible rfl
  rotate_left
  · simp only [Act.put, List.setIfInBounds_toArray, List.set_cons_zero, List.set_cons_succ]
    rfl
  refine tk_ 40 (some 95) (bt 41 1) (v := ?_) (a' := ?_) rfl rfl (by kernel_rfl) (fun _ _ _ h => h) (yieldsIf_run rfl ?_) hHeld ?_ ?_
  rotate_left
  · intro w'
    go_simp
    with_reducible rfl
  rotate_left
  · simp only [Act.put, List.setIfInBounds_toArray, List.set_cons_zero, List.set_cons_succ]
    rfl
  refine tk_ 41 (some 2) (bt 42 0) (v := ?_) (a' := ?_) rfl rfl (by kernel_rfl) (fun _ _ _ h => h) (yieldsIf_run rfl ?_) hHeld ?_ ?_
  rotate_left
  · intro w'
    go_simp
    with_reducible rfl
  rotate_left
  · simp only [Act.put, List.setIfInBounds_toArray, List.set_cons_zero, List.set_cons_succ]
    rfl
  refine wpAnyH_done (by kernel_rfl) ?_ _
  change Exit.then _ _ _ _ _
  go_wp2
  go_ret
  exact ⟨rfl, HX.out.1.below.trans (HB15.out.mono HX.out.1.below.size)⟩
end Go.Proofs.YtcohdfkdhdhegaaGreatDoor
