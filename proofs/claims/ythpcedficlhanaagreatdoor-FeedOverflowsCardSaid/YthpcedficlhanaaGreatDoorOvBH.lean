/- coxswainlaw23.FeedOverflows. -/
import Derived.Test.YthpcedficlhanaaGreatDoorOvBG
namespace Go.Proofs.YthpcedficlhanaaGreatDoor
open Go.RowKit Go.Maps

/-- What lies between the moves. -/
structure OvI (w W : World) (pp p b1 b2 : Nat) (D : List LB) (L : List LRH) (va : Value) (all : List LNS) (f g : Nat) (v : Value) (evs : List Ev) (st hv : Value) (H : List ID) : Prop where
  fds : FdS w W pp p b1 b2 D f v (some g) evs 1 st
  all : AllAt (okF f v (some g)) W p b1 b2 D L va all
  box : W.heap[g]? = some (.cells #[hv] 28 (0, 0))
  head : TipIs (okF f v (some g)) W (hdrs D) hv H
  tip : TipOf (hdrs D) H
section
variable {w W W' : World} {pp p b1 b2 : Nat} {D : List LB} {L : List LRH} {va : Value} {all : List LNS} {f g : Nat} {v v' st hv : Value} {H : List ID} {evs evs' : List Ev}
theorem OvI.mv (h : OvI w W pp p b1 b2 D L va all f g v evs st hv H) (m : Mv f v v' W W') (hf : FdS w W' pp p b1 b2 D f v' (some g) evs' 1 st) : OvI w W' pp p b1 b2 D L va all f g v' evs' st hv H :=
  ⟨hf, m.all h.all, (m.blk h.box (h.fds.bx g rfl).1).1, m.tip h.head, h.tip⟩
theorem OvI.next (h : OvI w W pp p b1 b2 D L va all f g v evs st hv H) (hb : Below W.heap.size W W') : OvI w W' pp p b1 b2 D L va all f g v evs st hv H := h.mv (.of_below hb) (h.fds.next hb)
theorem OvI.set (h : OvI w W pp p b1 b2 D L va all f g v evs st hv H) {tv : Value} {T : List ID} (ht : TipIs (okF f v (some g)) W (hdrs D) tv T) (hT : TipOf (hdrs D) T) : OvI w (W.setRow g #[tv]) pp p b1 b2 D L va all f g v evs st tv T := by
  have hf : Fr (okF f v (some g)) W (W.setRow g #[tv]) := ⟨by simp, fun k hk _ => heap_setRow_ne _ _ _ _ fun e => hk.2 (by rw [e])⟩
  exact ⟨h.fds.set _, h.all.fr hf, setRow_heap _ _ _ _ _ _ h.box, ht.fr hf, hT⟩
end

set_option maxRecDepth 100000 in
set_option maxHeartbeats 4000000 in
theorem overflows_any (w : World) (t : Value) (l : List LSD) (ok ok' : Nat → Prop) (hl : Sl sdE ok w t l) (hf : ∀ y ∈ l, y.At ok' w ∧ SeedOk y.s) (ht : Tab w) (mv : Value) (ms : List Int) (okm : Nat → Prop) (hm : Sl intE okm w mv ms) (hmi : ∀ y ∈ ms, I64 y) :
    Calls Tryz.prog 15 #[t, mv] w fun e w' => e = .returned (.bool true) ∧ Below w.heap.size w w' := by
  obtain ⟨Am, cm, rfl, hcm, hmm⟩ := hm.form
  have HMI := Lib.hid hmi
  have HL := Lib.hid hl
  have HF := Lib.hid hf
  have HT := Lib.hid ht
  have HM := Lib.hid hm
  clear hl hf ht hm hmi
  go_enter Tryz.func15, Tryz.ntmps15
  go_upto_region 3 with (go_at_call 77; refine (awake23_any _ HT.out).mono ?_; rintro e w1 ⟨rfl, hb1⟩; have HB1 := Lib.hid hb1; clear hb1)
  go_upto_region 4 with (go_at_call 62; refine (made_any2 w1 t l ok ok' (HL.out.below HB1.out) (fun y hy => ⟨(HF.out y hy).1.below HB1.out, (HF.out y hy).2⟩) 12 (by decide) (HT.out.below HB1.out)).mono ?_; rintro e w2 ⟨p, b1, b2, D, vh, hs, vl, L, va, all, rfl, hmd, hL, hva, hall, hpos, hlen⟩; have HD2 := Lib.hid (AllAt.mk hmd.dag hmd.fine hmd.both hva hall hpos (by omega)); have HB2 := Lib.hid (HB1.out.trans (hmd.below.mono HB1.out.size)); have HLL := Lib.hid (And.intro hL hmd.both.same); clear hmd hL hva hall hpos hlen)
  obtain ⟨z0, hz0⟩ : ∃ z0, all[0]? = some z0 := ⟨_, List.getElem?_eq_getElem HD2.out.pos⟩
  obtain ⟨Aa, ca, rfl, -, -⟩ := HD2.out.row.form
  obtain ⟨ba, oa, rfl, -, -, hcz⟩ := HD2.out.row.at_ 0 z0 hz0
  have hza : w2.cell? ⟨ba, oa, none⟩ = some z0.v := by have := hcz 0 _ rfl; simpa using this
  have HZM := Lib.hid (List.mem_of_getElem? hz0)
  clear hcz hz0
  go_upto_region 7 with (go_at_call 63; refine (pnew_any w2 p b1 b2 D _ HD2.out.dag HD2.out.fine HD2.out.both.good 9).mono ?_; rintro e w4 ⟨pp, rfl, -, hpa, hb4⟩; have HPA := Lib.hid hpa; have HD4 := Lib.hid (HD2.out.below hb4); have HB4 := Lib.hid (HB2.out.trans (hb4.mono HB2.out.size)); have hza4 := (hb4.cell (cell_lt hza)).trans hza; clear hb4 hpa)
  clear hza HD2 HB2
  have hallp := HD4.out.pos
  obtain ⟨H0, hH0, -, hof⟩ := of_is w4 p b1 b2 D _ _ L HD4.out.dag HD4.out.fine HD4.out.both z0 (HD4.out.at_ z0 HZM.out).1 (HD4.out.at_ z0 HZM.out).2
  have HOF := Lib.hid hof
  clear hof
  go_upto_region 8 with (first
    | (go_at_call 65; refine HOF.out.mono ?_; rintro e w5 ⟨h0, rfl, hth, hb5⟩; have HTH := Lib.hid hth; have HP5 := Lib.hid (HPA.out.below hb5); have HD5 := Lib.hid (HD4.out.below hb5); have HB5 := Lib.hid (HB4.out.trans (hb5.mono HB4.out.size)); clear hb5 hth)
    | (refine wpl_store_new rfl 28 _ _ rfl rfl [h0] rfl _ _ rfl HTH.out.one tip_size ?_))
  have HX : Hid (PathAt (fun k => k < w5.heap.size) (w5.alloc (.cells #[h0] 28)) pp p b1 b2 D ∧ AllAt (fun k => k < w5.heap.size) (w5.alloc (.cells #[h0] 28)) p b1 b2 D L (.slice (some ⟨ba, oa, none⟩) all.length ca) all ∧ TipIs (fun k => k < w5.heap.size) (w5.alloc (.cells #[h0] 28)) (hdrs D) h0 H0 ∧ (w5.alloc (.cells #[h0] 28)).heap[w5.heap.size]? = some (.cells #[h0] 28 (0, 0)) ∧ Below w.heap.size w (w5.alloc (.cells #[h0] 28)) ∧ w.heap.size ≤ w5.heap.size ∧ pp < w5.heap.size) := Lib.hid (by
    have hba : Below w5.heap.size w5 (w5.alloc (.cells #[h0] 28)) := (Below.refl _ _).alloc (Nat.le_refl _) _
    exact ⟨(HP5.out.old.mono fun k hk => hk.2).below hba, (HD5.out.old.mono fun k hk => hk.2).below hba, (HTH.out.old.mono fun k hk => hk.2).below hba, heap_alloc_new w5 _, HB5.out.alloc HB5.out.size _, HB5.out.size, cell_lt HP5.out.toD⟩)
  clear HP5 HD5 HTH HB5 hza4 HD4 HB4 HPA HOF HZM
  generalize w5.alloc (.cells #[h0] 28) = W6 at HX ⊢
  generalize w5.heap.size = g at HX ⊢
  have hDL : D.length ≤ 1000000 := by have h1 := congrArg List.length HLL.out.2; simp [hdrs, rhs] at h1; have := HLL.out.1; omega
  go_upto_region 9 with (first
    | (refine wpl_tip rfl _ rfl _ rfl _ HX.out.2.2.2.1 ?_)
    | (go_at_call 78; refine (newS (w := w) (x := some g) HX.out.1 HX.out.2.2.2.2.1 hDL (fun k hk e => by injection e with e; omega) (fun e => by injection e with e; have := HX.out.2.2.2.2.2.2; omega) (fun b e => by injection e with e; subst e; exact ⟨HX.out.2.2.2.2.2.1, (Array.getElem?_eq_some_iff.1 HX.out.2.2.2.1).1⟩) (-3) h0 (HX.out.2.2.1.one _ List.mem_cons_self)).mono ?_; rintro e w7 ⟨f, rfl, hf, hF, hb7⟩; have HI7 := Lib.hid (OvI.mk (by have := hF; rwa [show max (1 : Int) (min (-3) 64) = 1 from by decide] at this) ((HX.out.2.1.old.mono (okF_new (x := some g) (fun k hk e => by injection e with e; omega) hf)).below hb7) ((hb7.block _ (Array.getElem?_eq_some_iff.1 HX.out.2.2.2.1).1).trans HX.out.2.2.2.1) ((HX.out.2.2.1.old.mono (okF_new (x := some g) (fun k hk e => by injection e with e; omega) hf)).below hb7) hH0); clear hb7 hF hf))
  clear HX
  clear HLL HL HF HB1
  go_wp2
  go_loopw [11] (fun c W => ∃ (i : Nat) (v hv : Value) (H : List ID), i ≤ ms.length ∧ i ≤ 20 ∧ c = .int .i64 (i : Int) ∧ OvI w W pp p b1 b2 D L (.slice (some ⟨ba, oa, none⟩) all.length ca) all f g v [] h0 hv H) (fun c _ => 20 - (intOf c).toNat)
  case atStart => exact ⟨0, _, _, _, by omega, by omega, rfl, HI7.out⟩
  case round =>
    obtain ⟨i, v, hv, H, hi, hi2, rfl, hI⟩ := hrel
    have HI := Lib.hid hI
    clear hI HI7
    by_cases hil : i < ms.length
    · by_cases hi20 : i < 20
      · obtain ⟨x, hx⟩ : ∃ x, ms[i]? = some x := ⟨_, List.getElem?_eq_getElem hil⟩
        obtain ⟨bm, om, rfl, -, -, hcx⟩ := (HM.out.below HI.out.fds.below).at_ i x hx
        have hcx0 : wr.cell? ⟨bm, om + i, none⟩ = some (.int .i64 x) := by have := hcx 0 _ rfl; rwa [Nat.add_zero, show intE.k = 1 from rfl, Nat.mul_one] at this
        clear hcx hx
        have HPK := Lib.hid (pick_any wr _ _ all HI.out.all.row HI.out.all.pos HI.out.all.len x)
        go_upto_region 15 with (first
          | (go_at_call 81; refine HPK.out.mono ?_; rintro e w8a ⟨⟨z, hz, rfl⟩, rfl⟩; obtain ⟨T, hT, -, hof⟩ := of_is wr p b1 b2 D _ _ L HI.out.all.dag HI.out.all.fine HI.out.all.both z (HI.out.all.at_ z hz).1 (HI.out.all.at_ z hz).2; have HOF := Lib.hid hof; clear hof hz)
          | (go_at_call 65; refine HOF.out.mono ?_; rintro e w8 ⟨tv, rfl, hth, hb8⟩; have HTV := Lib.hid (hth.mono fun k hk => hk.elim (HI.out.fds.up k) id); have HI8 := Lib.hid (HI.out.next hb8); clear hb8 hth)
          | (refine wpl_store_new rfl 28 _ _ rfl rfl [tv] rfl _ _ rfl HTV.out.one tip_size ?_))
        have HX : Hid (OvI w (w8.alloc (.cells #[tv] 28)) pp p b1 b2 D L (.slice (some ⟨ba, oa, none⟩) all.length ca) all f g v [] h0 hv H ∧ TipIs (okF f v (some g)) (w8.alloc (.cells #[tv] 28)) (hdrs D) tv T ∧ (w8.alloc (.cells #[tv] 28)).heap[w8.heap.size]? = some (.cells #[tv] 28 (0, 0)) ∧ okF f v (some g) w8.heap.size) := Lib.hid (by
          have hba : Below w8.heap.size w8 (w8.alloc (.cells #[tv] 28)) := (Below.refl _ _).alloc (Nat.le_refl _) _
          exact ⟨HI8.out.next hba, HTV.out.below hba, heap_alloc_new w8 _, HI8.out.fds.up _ (Nat.le_refl _)⟩)
        generalize w8.alloc (.cells #[tv] 28) = W9 at HX ⊢
        generalize w8.heap.size = g2 at HX ⊢
        clear HI HI8 HTV HOF HPK hcx0 HM
        have HIA := Lib.hid HX.out.1
        have HTA := Lib.hid HX.out.2.1
        have HGA := Lib.hid HX.out.2.2
        clear HX
        have HBT := Lib.hid (between_any W9 pp p b1 b2 D _ _ _ HIA.out.fds.path hv H HIA.out.tip HIA.out.head tv T hT HTA.out hDL)
        go_upto_region 17 with (first
          | (refine wpl_tip rfl _ rfl _ rfl _ HIA.out.box ?_)
          | (refine wpl_tip rfl _ rfl _ rfl _ HGA.out.1 ?_)
          | (go_at_call 87; refine HBT.out.mono ?_; rintro e w10 ⟨dv, uv, ds, us, rfl, hds, hus, hdm, hum, hb10⟩; obtain ⟨Ad, cd, rfl, hcd, hmd⟩ := hds.row.form; obtain ⟨Au, cu, rfl, hcu, hmu⟩ := hus.row.form; have HLN : Hid (ds.length = (aboveG (hdrs D) H (commG (hdrs D) H T)).length ∧ us.length = (aboveG (hdrs D) T (commG (hdrs D) H T)).length) := Lib.hid ⟨by rw [← hdm, List.length_map], by have := congrArg List.length hum; simpa using this⟩; have HI10 := Lib.hid (HIA.out.next hb10); have HT10 := Lib.hid (HTA.out.below hb10); have HG10 := Lib.hid ((hb10.block _ (Array.getElem?_eq_some_iff.1 HGA.out.1).1).trans HGA.out.1); clear hb10 hds hus hdm hum)
          | (go_at_call 85; refine (lenS HI10.out.fds).mono ?_; rintro e w10b ⟨rfl, rfl⟩))
        have HCL : Hid (ds.length ≤ 1000000 ∧ us.length ≤ 1000000) := Lib.hid (by
          have g := HI10.out.fds.path.good
          have hD : (hdrs D).length ≤ 1000000 := by simpa [hdrs] using hDL
          rw [HLN.out.1, HLN.out.2]
          unfold aboveG
          exact ⟨Nat.le_trans (List.takeWhile_sublist _).length_le (Nat.le_trans (g.chain_len HI10.out.tip) hD), Nat.le_trans (List.takeWhile_sublist _).length_le (Nat.le_trans (g.chain_len hT) hD)⟩)
        have hdsl := HCL.out.1
        have husl := HCL.out.2
        have HPU := Lib.hid (pushS HI10.out.fds HI10.out.tip HI10.out.head hT HT10.out (by decide) (by simp))
        go_upto_region 18 with (first
          | (refine wpl_tip rfl _ rfl _ rfl _ HI10.out.box ?_)
          | (refine wpl_tip rfl _ rfl _ rfl _ HG10.out ?_)
          | (go_at_call 83; refine HPU.out.mono ?_; rintro e w11 ⟨v', bo, hbo, rfl, hm, hF⟩; rw [← HLN.out.1, ← HLN.out.2] at hbo; have HBO := Lib.hid hbo; have HI11 := Lib.hid (HI10.out.mv hm hF); have HT11 := Lib.hid (hm.tip HT10.out); have HG11 := Lib.hid (hm.blk HG10.out HGA.out.2.1); clear hm hF hbo))
        clear HPU HBT HI10 HT10 HG10 HIA HTA
        cases bo with
        | true =>
          have hfit : (ds.length : Int) + us.length ≤ 1 := by have := HBO.out.1 rfl; simpa using this
          obtain ⟨es, hes⟩ : ∃ es, [] ++ (aboveG (hdrs D) H (commG (hdrs D) H T)).map (evOf (hdrs D) 1) ++ (aboveG (hdrs D) T (commG (hdrs D) H T)).reverse.map (evOf (hdrs D) 2) = es := ⟨_, rfl⟩
          have hesl : es.length ≤ 1 := by rw [← hes]; simp; have := HLN.out; omega
          rw [if_pos rfl, hes] at HI11
          have HTK := Lib.hid (takeS HI11.out.fds 1 es.length (by omega))
          clear HBO HLN hes HCL
          go_upto_region 20 with (go_at_call 85; refine (lenS HI11.out.fds).mono ?_; rintro e w10b ⟨rfl, rfl⟩)
          go_upto_region 21 with (go_at_call 80; refine HTK.out.mono ?_; rintro e w12 ⟨v1, v2, rfl, h1, hm, hF⟩; rw [List.drop_length] at hF; have HI12 := Lib.hid (HI11.out.mv hm hF); have HT12 := Lib.hid (hm.tip HT11.out); have HG12 := Lib.hid (hm.blk HG11.out.1 HG11.out.2); clear hm hF h1)
          clear HTK HI11 HT11 HG11
          refine st_ (S := (fun _ => True)) 18 #[false, false, false, false, false, false, false, false, false, false, false, false, false, false, false, false, false, false] (by kernel_rfl) rfl (by rfl) trivial (fun hHeld => ?_)
          refine tk_ 0 (some 101) #[true, false, false, false, false, false, false, false, false, false, false, false, false, false, false, false, false, false] (v := ?_) (a' := ?_) rfl rfl (by kernel_rfl) (fun _ _ _ h => h) (yieldsIf_run rfl ?_) hHeld ?_ ?_
          rotate_left
          · intro w'
            go_simp
            with_reducible rfl
          rotate_left
          · simp only [Act.put, List.setIfInBounds_toArray, List.set_cons_zero, List.set_cons_succ]
            rfl
          refine tk_ 1 (some 102) #[true, true, false, false, false, false, false, false, false, false, false, false, false, false, false, false, false, false] (v := ?_) (a' := ?_) rfl rfl (by kernel_rfl) (fun _ _ _ h => h) (yieldsIf_run rfl ?_) hHeld ?_ ?_
          rotate_left
          · intro w'
            go_simp
            with_reducible rfl
          rotate_left
          · simp only [Act.put, List.setIfInBounds_toArray, List.set_cons_zero, List.set_cons_succ]
            rfl
          refine tk_ 2 (some 103) #[true, true, true, false, false, false, false, false, false, false, false, false, false, false, false, false, false, false] (v := ?_) (a' := ?_) rfl rfl (by kernel_rfl) (fun _ _ _ h => h) (yieldsIf_run rfl ?_) hHeld ?_ ?_
          rotate_left
          · intro w'
            go_simp
            with_reducible rfl
          rotate_left
          · simp only [Act.put, List.setIfInBounds_toArray, List.set_cons_zero, List.set_cons_succ]
            rfl
          refine tk_ 3 (some 104) #[true, true, true, true, false, false, false, false, false, false, false, false, false, false, false, false, false, false] rfl rfl (by kernel_rfl) (fun _ _ _ h => h) (yieldsIf_off rfl) hHeld (a' := ?_) ?_ ?_
          rotate_left
          · simp only [Act.put, List.setIfInBounds_toArray, List.set_cons_zero, List.set_cons_succ]
            rfl
          refine tk_ 4 (some 105) #[true, true, true, true, true, false, false, false, false, false, false, false, false, false, false, false, false, false] rfl rfl (by kernel_rfl) (fun _ _ _ h => h) (yieldsIf_off rfl) hHeld (a' := ?_) ?_ ?_
          rotate_left
          · simp only [Act.put, List.setIfInBounds_toArray, List.set_cons_zero, List.set_cons_succ]
            rfl
          refine tk_ 5 (some 106) #[true, true, true, true, true, true, false, false, false, false, false, false, false, false, false, false, false, false] rfl rfl (by kernel_rfl) (fun _ _ _ h => h) (yieldsIf_off rfl) hHeld (a' := ?_) ?_ ?_
          rotate_left
          · simp only [Act.put, List.setIfInBounds_toArray, List.set_cons_zero, List.set_cons_succ]
            rfl
          refine tk_ 6 (some 107) #[true, true, true, true, true, true, true, false, false, false, false, false, false, false, false, false, false, false] rfl rfl (by kernel_rfl) (fun _ _ _ h => h) (yieldsIf_off rfl) hHeld (a' := ?_) ?_ ?_
          rotate_left
          · simp only [Act.put, List.setIfInBounds_toArray, List.set_cons_zero, List.set_cons_succ]
            rfl
          refine tk_ 7 (some 108) #[true, true, true, true, true, true, true, true, false, false, false, false, false, false, false, false, false, false] rfl rfl (by kernel_rfl) (fun _ _ _ h => h) (yieldsIf_off rfl) hHeld (a' := ?_) ?_ ?_
          rotate_left
          · simp only [Act.put, List.setIfInBounds_toArray, List.set_cons_zero, List.set_cons_succ]
            rfl
          refine tk_ 8 (some 109) #[true, true, true, true, true, true, true, true, true, false, false, false, false, false, false, false, false, false] rfl rfl (by kernel_rfl) (fun _ _ _ h => h) (yieldsIf_off rfl) hHeld (a' := ?_) ?_ ?_
          rotate_left
          · simp only [Act.put, List.setIfInBounds_toArray, List.set_cons_zero, List.set_cons_succ]
            rfl
          refine tk_ 9 (some 110) #[true, true, true, true, true, true, true, true, true, true, false, false, false, false, false, false, false, false] rfl rfl (by kernel_rfl) (fun _ _ _ h => h) (yieldsIf_off rfl) hHeld (a' := ?_) ?_ ?_
          rotate_left
          · simp only [Act.put, List.setIfInBounds_toArray, List.set_cons_zero, List.set_cons_succ]
            rfl
          refine tk_ 10 (some 111) #[true, true, true, true, true, true, true, true, true, true, true, false, false, false, false, false, false, false] rfl rfl (by kernel_rfl) (fun _ _ _ h => h) (yieldsIf_off rfl) hHeld (a' := ?_) ?_ ?_
          rotate_left
          · simp only [Act.put, List.setIfInBounds_toArray, List.set_cons_zero, List.set_cons_succ]
            rfl
          refine tk_ 11 (some 112) #[true, true, true, true, true, true, true, true, true, true, true, true, false, false, false, false, false, false] rfl rfl (by kernel_rfl) (fun _ _ _ h => h) (yieldsIf_off rfl) hHeld (a' := ?_) ?_ ?_
          rotate_left
          · simp only [Act.put, List.setIfInBounds_toArray, List.set_cons_zero, List.set_cons_succ]
            rfl
          refine tk_ 12 (some 113) #[true, true, true, true, true, true, true, true, true, true, true, true, true, false, false, false, false, false] rfl rfl (by kernel_rfl) (fun _ _ _ h => h) (yieldsIf_off rfl) hHeld (a' := ?_) ?_ ?_
          rotate_left
          · simp only [Act.put, List.setIfInBounds_toArray, List.set_cons_zero, List.set_cons_succ]
            rfl
          refine tk_ 13 (some 114) #[true, true, true, true, true, true, true, true, true, true, true, true, true, true, false, false, false, false] rfl rfl (by kernel_rfl) (fun _ _ _ h => h) (yieldsIf_off rfl) hHeld (a' := ?_) ?_ ?_
          rotate_left
          · simp only [Act.put, List.setIfInBounds_toArray, List.set_cons_zero, List.set_cons_succ]
            rfl
          refine tk_ 14 (some 115) #[true, true, true, true, true, true, true, true, true, true, true, true, true, true, true, false, false, false] rfl rfl (by kernel_rfl) (fun _ _ _ h => h) (yieldsIf_off rfl) hHeld (a' := ?_) ?_ ?_
          rotate_left
          · simp only [Act.put, List.setIfInBounds_toArray, List.set_cons_zero, List.set_cons_succ]
            rfl
          refine tk_ 15 (some 116) #[true, true, true, true, true, true, true, true, true, true, true, true, true, true, true, true, false, false] rfl rfl (by kernel_rfl) (fun _ _ _ h => h) (yieldsIf_off rfl) hHeld (a' := ?_) ?_ ?_
          rotate_left
          · simp only [Act.put, List.setIfInBounds_toArray, List.set_cons_zero, List.set_cons_succ]
            rfl
          refine tk_ 16 (some 117) #[true, true, true, true, true, true, true, true, true, true, true, true, true, true, true, true, true, false] rfl rfl (by kernel_rfl) (fun _ _ _ h => h) (yieldsIf_off rfl) hHeld (a' := ?_) ?_ ?_
          rotate_left
          · simp only [Act.put, List.setIfInBounds_toArray, List.set_cons_zero, List.set_cons_succ]
            rfl
          refine tk_ 17 (some 118) #[true, true, true, true, true, true, true, true, true, true, true, true, true, true, true, true, true, true] (v := ?_) (a' := ?_) rfl rfl (by kernel_rfl) (fun _ _ _ h => h) (yieldsIf_run rfl ?_) hHeld ?_ ?_
          rotate_left
          · intro w'
            go_simp
            with_reducible rfl
          rotate_left
          · simp only [Act.put, List.setIfInBounds_toArray, List.set_cons_zero, List.set_cons_succ]
            rfl
          refine wpAnyH_done (by kernel_rfl) ?_ _
          change Exit.then _ _ _ _ _
          have hb13 : Below w12.heap.size w12 w12.drew := (Below.refl _ w12).drew
          have HI13 := Lib.hid (HI12.out.next hb13)
          have HT13 := Lib.hid (HT12.out.below hb13)
          have HG13 : Hid (w12.drew.heap[g2]? = some (.cells #[tv] 28 (0, 0))) := Lib.hid HG12.out.1
          go_wp2_with (first
            | (go_at_call 85; refine (lenS HI13.out.fds).mono ?_; rintro e w10b ⟨rfl, rfl⟩)
            | (refine wpl_tip rfl _ rfl _ rfl _ HG13.out ?_)
            | (refine wpl_tip_set rfl (.tmp 9) (.tmp 122) rfl g rfl tv _ rfl HI13.out.box HT13.out.one ?_))
          go_roundw
          case rel => exact ⟨i + 1, v2, tv, T, by omega, by omega, by go_num, HI13.out.set HT13.out hT⟩
          case measure => simp [intOf]; omega
        | false =>
          have hfit : 2 ≤ (ds.length : Int) + us.length := by
            refine Int.not_lt.1 fun h => ?_
            have := HBO.out.2 (by simp only [List.length_nil]; omega)
            cases this
          rw [if_neg (by decide)] at HI11
          obtain ⟨kt, hkt⟩ : ∃ kt, keyB T = kt := ⟨_, rfl⟩
          obtain ⟨he, hhe⟩ : ∃ he, hgtG (hdrs D) T = he := ⟨_, rfl⟩
          have hev : evOf (hdrs D) 3 T = ⟨3, kt, he⟩ := by unfold evOf; rw [hkt, hhe]
          rw [hev] at HI11
          have HTK := Lib.hid (takeS HI11.out.fds 1 1 (by simp only [List.length_singleton]; omega))
          have HKY := Lib.hid fun (W : World) (h : TipIs (okF f v' (some g)) W (hdrs D) tv T) => (show Calls Tryz.prog 34 #[tipV tv] W fun e w' => e = .returned (.string kt) ∧ Below W.heap.size W w' from by rw [← hkt]; exact key_is h (.inr hT))
          clear HBO HLN HCL hev
          go_upto_region 20 with (go_at_call 85; refine (lenS HI11.out.fds).mono ?_; rintro e w10b ⟨rfl, rfl⟩)
          go_upto_region 21 with (go_at_call 80; refine HTK.out.mono ?_; rintro e w12 ⟨v1, v2, rfl, h1, hm, hF⟩; have HI12 := Lib.hid (HI11.out.mv hm hF); have HT12 := Lib.hid (hm.tip HT11.out); have HG12 := Lib.hid (hm.blk HG11.out.1 HG11.out.2); have H1 := Lib.hid h1; obtain ⟨A1, c1, hv1, -, -⟩ := h1.form; have hv1' : v1 = .slice A1 1 c1 := hv1; subst hv1'; clear hm hF h1 hv1)
          clear HTK HI11 HT11 HG11 HKY
          obtain ⟨be, oe, rfl, -, -, hce⟩ := H1.out.at_ 0 ⟨3, kt, he⟩ rfl
          have HEV : Hid (∀ (j : Nat) (u : Value), [Value.int .i64 3, .string kt, .int .i64 he][j]? = some u → w12.cell? ⟨be, oe + j, none⟩ = some u) := Lib.hid fun j u hu => by have := hce j u hu; rwa [Nat.zero_mul, Nat.add_zero] at this
          have HKY : Hid (∀ W, Below w12.heap.size w12 W → Calls Tryz.prog 34 #[tipV tv] W fun e w' => e = .returned (.string kt) ∧ Below W.heap.size W w') := Lib.hid fun W hb => by rw [← hkt]; exact key_is (HT12.out.below hb) (.inr hT)
          have HHE : Hid (∀ W, Below w12.heap.size w12 W → Calls Tryz.prog 25 #[tipV tv] W fun e w' => e = .returned (.int .i64 he) ∧ Below W.heap.size W w') := Lib.hid fun W hb => by rw [← hhe]; exact height_is (HT12.out.below hb) hT
          clear hce H1 hkt hhe
          refine st_ (S := (fun W' => Below w12.heap.size w12 W')) 18 #[false, false, false, false, false, false, false, false, false, false, false, false, false, false, false, false, false, false] (by kernel_rfl) rfl (by rfl) (Below.refl _ w12).drew (fun hHeld => ?_)
          refine tk_ 0 (some 101) #[true, false, false, false, false, false, false, false, false, false, false, false, false, false, false, false, false, false] (v := ?_) (a' := ?_) rfl rfl (by kernel_rfl) (fun _ _ _ h => h) (yieldsIf_run rfl ?_) hHeld ?_ ?_
          rotate_left
          · intro w'
            go_simp
            with_reducible rfl
          rotate_left
          · simp only [Act.put, List.setIfInBounds_toArray, List.set_cons_zero, List.set_cons_succ]
            rfl
          refine tk_ 1 (some 102) #[true, true, false, false, false, false, false, false, false, false, false, false, false, false, false, false, false, false] (v := ?_) (a' := ?_) rfl rfl (by kernel_rfl) (fun _ _ _ h => h) (yieldsIf_run rfl ?_) hHeld ?_ ?_
          rotate_left
          · intro w'
            go_simp
            with_reducible rfl
          rotate_left
          · simp only [Act.put, List.setIfInBounds_toArray, List.set_cons_zero, List.set_cons_succ]
            rfl
          refine tk_ 2 (some 103) #[true, true, true, false, false, false, false, false, false, false, false, false, false, false, false, false, false, false] (v := ?_) (a' := ?_) rfl rfl (by kernel_rfl) (fun _ _ _ h => h) (yieldsIf_run rfl ?_) hHeld ?_ ?_
          rotate_left
          · intro w'
            go_simp
            with_reducible rfl
          rotate_left
          · simp only [Act.put, List.setIfInBounds_toArray, List.set_cons_zero, List.set_cons_succ]
            rfl
          refine tk_ 3 (some 104) #[true, true, true, true, false, false, false, false, false, false, false, false, false, false, false, false, false, false] (v := ?_) (a' := ?_) rfl rfl (by kernel_rfl) (fun _ _ _ h => h) (yieldsIf_run rfl ?_) hHeld ?_ ?_
          rotate_left
          · intro w'
            go_simp
            with_reducible rfl
          rotate_left
          · simp only [Act.put, List.setIfInBounds_toArray, List.set_cons_zero, List.set_cons_succ]
            rfl
          refine tk_ 4 (some 105) #[true, true, true, true, true, false, false, false, false, false, false, false, false, false, false, false, false, false] (v := ?_) (a' := ?_) rfl rfl (by kernel_rfl) (fun _ _ _ h => h) (yieldsIf_run rfl ?_) hHeld ?_ ?_
          rotate_left
          · intro w'
            go_simp
            with_reducible rfl
          rotate_left
          · simp only [Act.put, List.setIfInBounds_toArray, List.set_cons_zero, List.set_cons_succ]
            rfl
          refine tk_ 5 (some 106) #[true, true, true, true, true, true, false, false, false, false, false, false, false, false, false, false, false, false] (v := ?_) (a' := ?_) rfl rfl (by kernel_rfl) (fun _ _ _ h => h) (yieldsIf_run rfl ?_) hHeld ?_ ?_
          rotate_left
          · intro w'
            go_simp
            with_reducible rfl
          rotate_left
          · simp only [Act.put, List.setIfInBounds_toArray, List.set_cons_zero, List.set_cons_succ]
            rfl
          refine tk_ 6 (some 107) #[true, true, true, true, true, true, true, false, false, false, false, false, false, false, false, false, false, false] (v := ?_) (a' := ?_) rfl rfl (by kernel_rfl) (fun _ _ _ h => h) (yieldsIf_run rfl ?_) hHeld ?_ ?_
          rotate_left
          · intro w'
            go_simp
            with_reducible rfl
          rotate_left
          · simp only [Act.put, List.setIfInBounds_toArray, List.set_cons_zero, List.set_cons_succ]
            rfl
          refine tk_ 7 (some 108) #[true, true, true, true, true, true, true, true, false, false, false, false, false, false, false, false, false, false] (v := ?_) (a' := ?_) rfl rfl (by kernel_rfl) (fun _ _ _ h => h) (yieldsIf_run rfl ?_) hHeld ?_ ?_
          rotate_left
          · intro w'
            go_simp
            with_reducible rfl
          rotate_left
          · simp only [Act.put, List.setIfInBounds_toArray, List.set_cons_zero, List.set_cons_succ]
            rfl
          refine tk_ 8 (some 109) #[true, true, true, true, true, true, true, true, true, false, false, false, false, false, false, false, false, false] (v := ?_) (a' := ?_) rfl rfl (by kernel_rfl) (fun _ _ _ h => h) (yieldsIf_run rfl ?_) hHeld ?_ ?_
          rotate_left
          · intro w'
            go_simp
            with_reducible rfl
          rotate_left
          · simp only [Act.put, List.setIfInBounds_toArray, List.set_cons_zero, List.set_cons_succ]
            rfl
          refine tk_ 9 (some 110) #[true, true, true, true, true, true, true, true, true, true, false, false, false, false, false, false, false, false] rfl rfl (by kernel_rfl) (fun _ _ _ h => h) (yieldsIf_load rfl 121 (.tmp 109) rfl be oe rfl [.int .i64 3, .string kt, .int .i64 he] _ (fun W' h j u hu => (h.cell (cell_lt (HEV.out j u hu))).trans (HEV.out j u hu)) Tryz.underlying121 rfl ev_size) hHeld (a' := ?_) ?_ ?_
          rotate_left
          · simp only [Act.put, List.setIfInBounds_toArray, List.set_cons_zero, List.set_cons_succ]
            rfl
          refine tk_ 10 (some 111) #[true, true, true, true, true, true, true, true, true, true, true, false, false, false, false, false, false, false] rfl rfl (by kernel_rfl) (fun _ _ _ h => h) (yieldsIf_tipb rfl (.tmp 12) rfl g2 rfl tv (fun W' h => (h.block _ (Array.getElem?_eq_some_iff.1 HG12.out.1).1).trans HG12.out.1)) hHeld (a' := ?_) ?_ ?_
          rotate_left
          · simp only [Act.put, List.setIfInBounds_toArray, List.set_cons_zero, List.set_cons_succ]
            rfl
          refine tk_ 12 (some 113) #[true, true, true, true, true, true, true, true, true, true, true, false, true, false, false, false, false, false] rfl rfl (by kernel_rfl) (fun _ _ _ h => h) (yieldsIf_tipb rfl (.tmp 12) rfl g2 rfl tv (fun W' h => (h.block _ (Array.getElem?_eq_some_iff.1 HG12.out.1).1).trans HG12.out.1)) hHeld (a' := ?_) ?_ ?_
          rotate_left
          · simp only [Act.put, List.setIfInBounds_toArray, List.set_cons_zero, List.set_cons_succ]
            rfl
          refine call_ 11 (some 112) #[true, true, true, true, true, true, true, true, true, true, true, true, true, false, false, false, false, false] rfl rfl (by kernel_rfl) rfl 34 _ (by kernel_rfl) (HKY.out _ hHeld) ?_
          rintro e w13 ⟨rfl, hb13⟩
          have HB13 := Lib.hid (hHeld.trans (hb13.mono hHeld.size))
          refine ⟨_, rfl, HB13.out, fun hHeld => ⟨?_, ?_, ?_⟩⟩
          rotate_left
          · simp only [Act.put, List.setIfInBounds_toArray, List.set_cons_zero, List.set_cons_succ]
            rfl
          refine call_ 13 (some 114) #[true, true, true, true, true, true, true, true, true, true, true, true, true, true, false, false, false, false] rfl rfl (by kernel_rfl) rfl 25 _ (by kernel_rfl) (HHE.out _ hHeld) ?_
          rintro e w14 ⟨rfl, hb14⟩
          have HB14 := Lib.hid (hHeld.trans (hb14.mono hHeld.size))
          refine ⟨_, rfl, HB14.out, fun hHeld => ⟨?_, ?_, ?_⟩⟩
          rotate_left
          · simp only [Act.put, List.setIfInBounds_toArray, List.set_cons_zero, List.set_cons_succ]
            rfl
          refine tk_ 14 (some 115) #[true, true, true, true, true, true, true, true, true, true, true, true, true, true, true, false, false, false] rfl rfl (by kernel_rfl) (fun _ _ _ h => h) (yieldsIf_run (v := .agg #[.int .i64 3, .string kt, .int .i64 he]) rfl fun W' => by kernel_rfl) hHeld (a' := ?_) ?_ ?_
          rotate_left
          · simp only [Act.put, List.setIfInBounds_toArray, List.set_cons_zero, List.set_cons_succ]
            rfl
          refine tk_ 15 (some 116) #[true, true, true, true, true, true, true, true, true, true, true, true, true, true, true, true, false, false] rfl rfl (by kernel_rfl) (fun _ _ _ h => h) (yieldsIf_run (v := .bool false) rfl fun W' => by go_simp) hHeld (a' := ?_) ?_ ?_
          rotate_left
          · simp only [Act.put, List.setIfInBounds_toArray, List.set_cons_zero, List.set_cons_succ]
            rfl
          refine tk_ 16 (some 117) #[true, true, true, true, true, true, true, true, true, true, true, true, true, true, true, true, true, false] (v := ?_) (a' := ?_) rfl rfl (by kernel_rfl) (fun _ _ _ h => h) (yieldsIf_run rfl ?_) hHeld ?_ ?_
          rotate_left
          · intro w'
            go_simp
            with_reducible rfl
          rotate_left
          · simp only [Act.put, List.setIfInBounds_toArray, List.set_cons_zero, List.set_cons_succ]
            rfl
          refine tk_ 17 (some 118) #[true, true, true, true, true, true, true, true, true, true, true, true, true, true, true, true, true, true] (v := ?_) (a' := ?_) rfl rfl (by kernel_rfl) (fun _ _ _ h => h) (yieldsIf_run rfl ?_) hHeld ?_ ?_
          rotate_left
          · intro w'
            go_simp
            with_reducible rfl
          rotate_left
          · simp only [Act.put, List.setIfInBounds_toArray, List.set_cons_zero, List.set_cons_succ]
            rfl
          refine wpAnyH_done (by kernel_rfl) ?_ _
          change Exit.then _ _ _ _ _
          have HI13 := Lib.hid (HI12.out.next HB14.out)
          have HT13 := Lib.hid (HT12.out.below HB14.out)
          have HG13 : Hid (w14.heap[g2]? = some (.cells #[tv] 28 (0, 0))) := Lib.hid ((HB14.out.block _ (Array.getElem?_eq_some_iff.1 HG12.out.1).1).trans HG12.out.1)
          go_wp2_with (first
            | (go_at_call 85; refine (lenS HI13.out.fds).mono ?_; rintro e w10b ⟨rfl, rfl⟩)
            | (refine wpl_tip rfl _ rfl _ rfl _ HG13.out ?_)
            | (refine wpl_tip_set rfl (.tmp 9) (.tmp 122) rfl g rfl tv _ rfl HI13.out.box HT13.out.one ?_))
          go_roundw
          case rel => exact ⟨i + 1, v2, tv, T, by omega, by omega, by go_num, HI13.out.set HT13.out hT⟩
          case measure => simp [intOf]; omega
      · have hie : i = 20 := by omega
        subst hie
        go_wp2
        go_ret
        exact ⟨rfl, HI.out.fds.below⟩
    · have hie : i = ms.length := by omega
      subst hie
      go_wp2
      go_ret
      exact ⟨rfl, HI.out.fds.below⟩
end Go.Proofs.YthpcedficlhanaaGreatDoor
