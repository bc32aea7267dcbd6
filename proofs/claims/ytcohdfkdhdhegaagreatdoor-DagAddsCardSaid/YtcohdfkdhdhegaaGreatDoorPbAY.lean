/- path.Paths.Descends, OneChain. mark.Above, Floor, May, Fits; path.New. cache.New (of weights), path.New. -/
import Derived.Test.YtcohdfkdhdhegaaGreatDoorPbAX
namespace Go.Proofs.YtcohdfkdhdhegaaGreatDoor
open Go.RowKit Go.Maps

/-- The ways through a dag, as they lie. -/
structure PathAt (okx : Nat → Prop) (w : World) (pp p b1 b2 : Nat) (D : List LB) : Prop where
  toD : w.cell? ⟨pp, 0, none⟩ = some (.pointer (some ⟨p, 0, none⟩))
  dag : DagAt okx w p b1 b2 D
  fine : FineD D
  good : GoodG (hdrs D)
theorem PathAt.below {okx : Nat → Prop} {w w' : World} {pp p b1 b2 : Nat} {D : List LB} (h : PathAt okx w pp p b1 b2 D) (hb : Below w.heap.size w w') : PathAt okx w' pp p b1 b2 D :=
  ⟨(hb.cell (cell_lt h.toD)).trans h.toD, h.dag.below hb, h.fine, h.good⟩
theorem key_inj {G : List Hdr} {A B : List ID} (hA : A = [] ∨ TipOf G A) (hB : B = [] ∨ TipOf G B) (h : keyB A = keyB B) : A = B := by
  have hz := congrArg ByteArray.size h
  rw [keyB_size, keyB_size] at hz
  rcases hA with rfl | hA
  · simp only [List.length_nil, Nat.zero_mul] at hz
    exact (List.length_eq_zero_iff.1 (by omega)).symm
  · rcases hB with rfl | hB
    · simp only [List.length_nil, Nat.zero_mul] at hz
      exact List.length_eq_zero_iff.1 (by omega)
    · have h1 := namesF_key hA.rise hA.one hA.five
      have h2 := namesF_key hB.rise hB.one hB.five
      rw [h, h2] at h1
      exact (Option.some.inj h1).symm
theorem key_beq {G : List Hdr} {A B : List ID} (hA : A = [] ∨ TipOf G A) (hB : B = [] ∨ TipOf G B) : ((keyB A).toList == (keyB B).toList) = true ↔ A = B := by
  rw [str_beq, decide_eq_true_eq]
  exact ⟨key_inj hA hB, fun h => by rw [h]⟩

set_option maxRecDepth 100000 in
set_option maxHeartbeats 2000000 in
theorem descends_any (w : World) (pp p b1 b2 : Nat) (D : List LB) (okx ok ok2 : Nat → Prop) (h : PathAt okx w pp p b1 b2 D) (tv : Value) (T : List ID) (hT : TipOf (hdrs D) T) (hw : TipIs ok w (hdrs D) tv T) (fv : Value) (F : List ID) (hF : TipOf (hdrs D) F) (hv : TipIs ok2 w (hdrs D) fv F) :
    Calls Tryz.prog 51 #[.pointer (some ⟨pp, 0, none⟩), tipV tv, tipV fv] w fun e w' => e = .returned (.bool (descG (hdrs D) T F)) ∧ Below w.heap.size w w' := by
  obtain ⟨k, hk⟩ : ∃ k, hgtG (hdrs D) F = k := ⟨_, rfl⟩
  obtain ⟨A, hA⟩ : ∃ A, atG (hdrs D) T k = A := ⟨_, rfl⟩
  have hAt : A = [] ∨ TipOf (hdrs D) A := by rw [← hA]; exact h.good.atG_tip hT k
  have HH : Hid (∀ W, Below w.heap.size w W → Calls Tryz.prog 41 #[tipV fv] W fun e w' => e = .returned (.int .i64 k) ∧ Below W.heap.size W w') := Lib.hid fun W hb => by rw [← hk]; exact height_is (hv.below hb) hF
  have HA : Hid (∀ W, Below w.heap.size w W → Calls Tryz.prog 60 #[.pointer (some ⟨pp, 0, none⟩), tipV tv, .int .i64 k] W fun e w' => ∃ t2, e = .returned (tipV t2) ∧ TipIs (fun _ => True) w' (hdrs D) t2 A ∧ Below W.heap.size W w') := Lib.hid fun W hb => by
    have h1 := h.below hb
    refine (at_any W pp p b1 b2 D okx ok h1.toD h1.dag h1.fine h1.good tv T hT (hw.below hb) k).mono ?_
    rintro e w' ⟨t2, rfl, h2, h3⟩
    exact ⟨t2, rfl, by rw [← hA]; exact h2.mono fun _ _ => trivial, h3⟩
  obtain ⟨ka, hka⟩ : ∃ ka, keyB A = ka := ⟨_, rfl⟩
  obtain ⟨kf, hkf⟩ : ∃ kf, keyB F = kf := ⟨_, rfl⟩
  have HKA : Hid (∀ W t2, TipIs (fun _ => True) W (hdrs D) t2 A → Calls Tryz.prog 54 #[tipV t2] W fun e w' => e = .returned (.string ka) ∧ Below W.heap.size W w') := Lib.hid fun W t2 h2 => by rw [← hka]; exact key_is h2 hAt
  have HKF : Hid (∀ W, Below w.heap.size w W → Calls Tryz.prog 54 #[tipV fv] W fun e w' => e = .returned (.string kf) ∧ Below W.heap.size W w') := Lib.hid fun W hb => by rw [← hkf]; exact key_is (hv.below hb) (.inr hF)
  have HQ : Hid (descG (hdrs D) T F = (ka.toList == kf.toList)) := Lib.hid (by
    refine Bool.eq_iff_iff.2 (descG_iff.trans ?_)
    rw [← hka, ← hkf, key_beq hAt (.inr hF), ← hA, ← hk]
    exact (h.good.at_iff hT hF.ne).symm)
  have HB0 := Lib.hid (Box2.mk2 w tv fv)
  clear h hw hv hk hA hAt hka hkf
  go_enter Tryz.func51, Tryz.ntmps51
  go_upto_region 1 with fail
  generalize (w.alloc (.cells #[tv] 52)).alloc (.cells #[fv] 52) = W0 at HB0 ⊢
  refine st_ (S := (fun W' => Box2 w W' tv fv)) 10 (bt 0 10) (by kernel_rfl) rfl (by rfl) (HB0.out.next (Below.refl _ W0).drew) (fun hHeld => ?_)
  refine tk_ 0 (some 7) (bt 1 9) (v := ?_) (a' := ?_) rfl rfl (by kernel_rfl) (fun _ _ _ h => h) (yieldsIf_run rfl ?_) hHeld ?_ ?_
  rotate_left
  · intro w'
    go_simp
    with_reducible rfl
  rotate_left
  · simp only [Act.put, List.setIfInBounds_toArray, List.set_cons_zero, List.set_cons_succ]
    rfl
  refine tk_ 1 (some 8) (bt 2 8) rfl rfl (by kernel_rfl) (fun _ _ _ h => h) (yieldsIf_tipb rfl (.tmp 4) rfl w.heap.size rfl tv (fun W' h => h.b0)) hHeld (a' := ?_) ?_ ?_
  rotate_left
  · simp only [Act.put, List.setIfInBounds_toArray, List.set_cons_zero, List.set_cons_succ]
    rfl
  refine tk_ 2 (some 9) (bt 3 7) rfl rfl (by kernel_rfl) (fun _ _ _ h => h) (yieldsIf_tipb rfl (.tmp 5) rfl (w.heap.size + 1) rfl fv (fun W' h => h.b1)) hHeld (a' := ?_) ?_ ?_
  rotate_left
  · simp only [Act.put, List.setIfInBounds_toArray, List.set_cons_zero, List.set_cons_succ]
    rfl
  refine tk_ 6 (some 13) #[true, true, true, false, false, false, true, false, false, false] rfl rfl (by kernel_rfl) (fun _ _ _ h => h) (yieldsIf_tipb rfl (.tmp 5) rfl (w.heap.size + 1) rfl fv (fun W' h => h.b1)) hHeld (a' := ?_) ?_ ?_
  rotate_left
  · simp only [Act.put, List.setIfInBounds_toArray, List.set_cons_zero, List.set_cons_succ]
    rfl
  refine call_ 3 (some 10) #[true, true, true, true, false, false, true, false, false, false] rfl rfl (by kernel_rfl) rfl 41 _ (by kernel_rfl) (HH.out _ hHeld.below) ?_
  rintro e w1 ⟨rfl, hb1⟩
  have HB1 := Lib.hid (hHeld.next hb1)
  refine ⟨_, rfl, HB1.out, fun hHeld => ⟨?_, ?_, ?_⟩⟩
  rotate_left
  · simp only [Act.put, List.setIfInBounds_toArray, List.set_cons_zero, List.set_cons_succ]
    rfl
  refine call_ 4 (some 11) #[true, true, true, true, true, false, true, false, false, false] rfl rfl (by kernel_rfl) rfl 60 _ (by kernel_rfl) (HA.out _ hHeld.below) ?_
  rintro e w2 ⟨t2, rfl, ht2, hb2⟩
  have HT2 := Lib.hid ht2
  have HB2 := Lib.hid (hHeld.next hb2)
  refine ⟨_, rfl, HB2.out, fun hHeld => ⟨?_, ?_, ?_⟩⟩
  rotate_left
  · simp only [Act.put, List.setIfInBounds_toArray, List.set_cons_zero, List.set_cons_succ]
    rfl
  refine call_ 5 (some 12) (bt 7 3) rfl rfl (by kernel_rfl) rfl 54 _ (by kernel_rfl) (HKA.out _ t2 HT2.out) ?_
  rintro e w3 ⟨rfl, hb3⟩
  have HB3 := Lib.hid (hHeld.next hb3)
  refine ⟨_, rfl, HB3.out, fun hHeld => ⟨?_, ?_, ?_⟩⟩
  rotate_left
  · simp only [Act.put, List.setIfInBounds_toArray, List.set_cons_zero, List.set_cons_succ]
    rfl
  refine call_ 7 (some 14) (bt 8 2) rfl rfl (by kernel_rfl) rfl 54 _ (by kernel_rfl) (HKF.out _ hHeld.below) ?_
  rintro e w4 ⟨rfl, hb4⟩
  have HB4 := Lib.hid (hHeld.next hb4)
  refine ⟨_, rfl, HB4.out, fun hHeld => ⟨?_, ?_, ?_⟩⟩
  rotate_left
  · simp only [Act.put, List.setIfInBounds_toArray, List.set_cons_zero, List.set_cons_succ]
    rfl
  refine tk_ 8 (some 15) (bt 9 1) (v := ?_) (a' := ?_) rfl rfl (by kernel_rfl) (fun _ _ _ h => h) (yieldsIf_run rfl ?_) hHeld ?_ ?_
  rotate_left
  · intro w'
    go_simp
    with_reducible rfl
  rotate_left
  · simp only [Act.put, List.setIfInBounds_toArray, List.set_cons_zero, List.set_cons_succ]
    rfl
  refine tk_ 9 (some 6) (bt 10 0) (v := ?_) (a' := ?_) rfl rfl (by kernel_rfl) (fun _ _ _ h => h) (yieldsIf_run rfl ?_) hHeld ?_ ?_
  rotate_left
  · intro w'
    go_simp
    with_reducible rfl
  rotate_left
  · simp only [Act.put, List.setIfInBounds_toArray, List.set_cons_zero, List.set_cons_succ]
    rfl
  refine wpAnyH_done (by kernel_rfl) ?_ _
  change Exit.then _ _ _ _ _
  go_wp2
  go_ret
  exact ⟨by (try rw [HQ.out]); rfl, HB4.out.below⟩

set_option maxRecDepth 100000 in
set_option maxHeartbeats 2000000 in
theorem onechain_any (w : World) (pp p b1 b2 : Nat) (D : List LB) (okx ok ok2 : Nat → Prop) (h : PathAt okx w pp p b1 b2 D) (tv : Value) (T : List ID) (hT : TipOf (hdrs D) T) (hw : TipIs ok w (hdrs D) tv T) (fv : Value) (F : List ID) (hF : TipOf (hdrs D) F) (hv : TipIs ok2 w (hdrs D) fv F) :
    Calls Tryz.prog 48 #[.pointer (some ⟨pp, 0, none⟩), tipV tv, tipV fv] w fun e w' => e = .returned (.bool (descG (hdrs D) T F || descG (hdrs D) F T)) ∧ Below w.heap.size w w' := by
  obtain ⟨d1, hd1⟩ : ∃ d1, descG (hdrs D) T F = d1 := ⟨_, rfl⟩
  obtain ⟨d2, hd2⟩ : ∃ d2, descG (hdrs D) F T = d2 := ⟨_, rfl⟩
  have H1 : Hid (∀ W, Below w.heap.size w W → Calls Tryz.prog 51 #[.pointer (some ⟨pp, 0, none⟩), tipV tv, tipV fv] W fun e w' => e = .returned (.bool d1) ∧ Below W.heap.size W w') := Lib.hid fun W hb => by
    rw [← hd1]; exact descends_any W pp p b1 b2 D okx ok ok2 (h.below hb) tv T hT (hw.below hb) fv F hF (hv.below hb)
  have H2 : Hid (∀ W, Below w.heap.size w W → Calls Tryz.prog 51 #[.pointer (some ⟨pp, 0, none⟩), tipV fv, tipV tv] W fun e w' => e = .returned (.bool d2) ∧ Below W.heap.size W w') := Lib.hid fun W hb => by
    rw [← hd2]; exact descends_any W pp p b1 b2 D okx ok2 ok (h.below hb) fv F hF (hv.below hb) tv T hT (hw.below hb)
  have HB0 := Lib.hid (Box2.mk2 w tv fv)
  rw [hd1, hd2]
  clear h hw hv hd1 hd2
  go_enter Tryz.func48, Tryz.ntmps48
  go_upto_region 1 with fail
  generalize (w.alloc (.cells #[tv] 52)).alloc (.cells #[fv] 52) = W0 at HB0 ⊢
  cases d1 with
  | true =>
    go_wp2_with (first
      | (refine wpl_tip rfl _ rfl _ rfl _ HB0.out.b0 ?_)
      | (refine wpl_tip rfl _ rfl _ rfl _ HB0.out.b1 ?_)
      | (go_at_call 51; refine (H1.out _ HB0.out.below).mono ?_; rintro e w1 ⟨rfl, hb1⟩; have HB1 := Lib.hid (HB0.out.next hb1); clear hb1))
    go_ret
    exact ⟨rfl, HB1.out.below⟩
  | false =>
    go_wp2_with (first
      | (refine wpl_tip (by kernel_rfl) _ rfl _ rfl _ HB1.out.b0 ?_)
      | (refine wpl_tip (by kernel_rfl) _ rfl _ rfl _ HB1.out.b1 ?_)
      | (refine wpl_tip rfl _ rfl _ rfl _ HB0.out.b0 ?_)
      | (refine wpl_tip rfl _ rfl _ rfl _ HB0.out.b1 ?_)
      | (go_at_call 51; refine (H2.out _ HB1.out.below).mono ?_; rintro e w2 ⟨rfl, hb2⟩; have HB2 := Lib.hid (HB1.out.next hb2); clear hb2)
      | (go_at_call 51; refine (H1.out _ HB0.out.below).mono ?_; rintro e w1 ⟨rfl, hb1⟩; have HB1 := Lib.hid (HB0.out.next hb1); clear hb1))
    go_ret
    exact ⟨rfl, HB2.out.below⟩
end Go.Proofs.YtcohdfkdhdhegaaGreatDoor
namespace Go.Proofs.YtcohdfkdhdhegaaGreatDoor
open Go.RowKit Go.Maps

end Go.Proofs.YtcohdfkdhdhegaaGreatDoor
namespace Go.Proofs.YtcohdfkdhdhegaaGreatDoor
open Go.RowKit Go.Maps

set_option maxRecDepth 100000 in
set_option maxHeartbeats 2000000 in
theorem cnew_any (w : World) (n : Int) :
    Calls Tryz.prog 123 #[.int .i64 n] w fun e w' => ∃ pc, e = .returned (.pointer (some ⟨pc, 0, none⟩)) ∧ Below w.heap.size w w' := by
  have hmm := @run_makeMap Tryz.prog
  go_enter Tryz.func123, Tryz.ntmps123
  go_wp2
  go_ret
  exact ⟨_, rfl, (((Below.refl _ w).alloc (Nat.le_refl _) _).alloc (by simp) _).alloc (by simp; omega) _⟩

set_option maxRecDepth 100000 in
set_option maxHeartbeats 2000000 in
theorem pnew_any (w : World) (p b1 b2 : Nat) (D : List LB) (okx : Nat → Prop) (h : DagAt okx w p b1 b2 D) (hf : FineD D) (g : GoodG (hdrs D)) (n : Int) :
    Calls Tryz.prog 44 #[.pointer (some ⟨p, 0, none⟩), .int .i64 n] w fun e w' => ∃ pp, e = .returned (.pointer (some ⟨pp, 0, none⟩)) ∧ w.heap.size ≤ pp ∧ PathAt okx w' pp p b1 b2 D ∧ Below w.heap.size w w' := by
  have HD := Lib.hid h
  clear h
  go_enter Tryz.func44, Tryz.ntmps44
  go_wp2_with (go_at_call 123; refine (cnew_any w n).mono ?_; rintro e w1 ⟨pc, rfl, hb1⟩; have HB1 := Lib.hid hb1; clear hb1)
  go_ret
  have hb2 : Below w.heap.size w (w1.alloc (.cells #[.pointer (some ⟨p, 0, none⟩), .pointer (some ⟨pc, 0, none⟩)] 180)) := HB1.out.alloc HB1.out.size _
  exact ⟨_, rfl, HB1.out.size, ⟨cell_block (heap_alloc_new w1 _) rfl, HD.out.below hb2, hf, g⟩, hb2⟩
end Go.Proofs.YtcohdfkdhdhegaaGreatDoor
