/- coxswainlaw13.DagGrows. -/
import Derived.Test.YthpcedficlhanaaGreatDoorGrBA
namespace Go.Proofs.YthpcedficlhanaaGreatDoor
open Go.RowKit Go.Maps

/-- What lies while a block is looked at. -/
structure LookS (W0 W : World) (bi bb : Nat) (i : ID) (y : LB) (p b1 b2 : Nat) (D : List LB) : Prop where
  name : W.heap[bi]? = some (.cells (idc i).toArray 34 (0, 0))
  blk : W.heap[bb]? = some (.cells y.cells.toArray 40 (0, 0))
  at_ : y.x.At (fun _ => True) W
  dag : DagAt (fun _ => True) W p b1 b2 D
  tab : Tab W
  below : Below W0.heap.size W0 W
theorem LookS.next {W0 W W' : World} {bi bb : Nat} {i : ID} {y : LB} {p b1 b2 : Nat} {D : List LB} (h : LookS W0 W bi bb i y p b1 b2 D) (hb : Below W.heap.size W W') : LookS W0 W' bi bb i y p b1 b2 D where
  name := (hb.block _ (Array.getElem?_eq_some_iff.1 h.name).1).trans h.name
  blk := (hb.block _ (Array.getElem?_eq_some_iff.1 h.blk).1).trans h.blk
  at_ := Sl.below h.at_ hb
  dag := h.dag.below hb
  tab := h.tab.below hb
  below := h.below.trans (hb.mono h.below.size)

set_option maxRecDepth 100000 in
set_option maxHeartbeats 4000000 in
theorem grows_any (w : World) (t : Value) (l : List LSD) (ok ok' : Nat → Prop) (hl : Sl sdE ok w t l) (hf : ∀ y ∈ l, y.At ok' w ∧ SeedOk y.s) (ht : Tab w) :
    Calls Tryz.prog 7 #[t] w fun e w' => e = .returned (.bool true) ∧ Below w.heap.size w w' := by
  have HL := Lib.hid hl
  have HF := Lib.hid hf
  have HT := Lib.hid ht
  clear hl hf ht
  go_enter Tryz.func7, Tryz.ntmps7
  go_upto_region 6 with (first
    | (go_at_call 35; refine (awake13_any _ HT.out).mono ?_; rintro e w1 ⟨rfl, hb1⟩; have HB1 := Lib.hid hb1; clear hb1)
    | (go_at_call 36; refine (dnew_any w1 (HT.out.below HB1.out)).mono ?_; rintro e w2 ⟨p, b1, b2, D0, rfl, hb2, hd2, hf2, hh2, hl2⟩; have HB2 := Lib.hid hb2; have HD2 := Lib.hid hd2; have HF2 := Lib.hid hf2; have HH2 := Lib.hid hh2; have HL2 := Lib.hid hl2; clear hb2 hd2 hf2 hh2 hl2))
  have HBw2 : Hid (Below w.heap.size w w2) := Lib.hid (HB1.out.trans (HB2.out.mono HB1.out.size))
  go_upto_region 8 with (go_at_call 37; refine (grown_any w2 t l ok ok' (HL.out.below HBw2.out) (fun y hy => ⟨(HF.out y hy).1.below HBw2.out, (HF.out y hy).2⟩) 16 (by decide)).mono ?_; rintro e w3 ⟨vh, hs, rfl, hhl, hg3⟩; obtain ⟨Ah, ch, rfl, -⟩ := own_slice hg3.own; have HG3 := Lib.hid hg3; have HGG : Hid (∀ y ∈ hs, GrownH y.h) := Lib.hid hg3.good; have HS0 := Lib.hid (LawS.start (okd := fun _ => True) HB1.out HD2.out HF2.out HB2.out hg3); clear hg3)
  have h16 := hhl
  have hg0 : hdrs D0 = [genH] := HH2.out
  have hD0 : D0.length = 1 := HL2.out
  have H0 := Lib.hid (And.intro hg0 hD0)
  clear hg0 hD0
  go_loopw [4, 24] (fun c4 c24 W => ∃ (i : Nat) (D : List LB) (ns : List ID), i ≤ hs.length ∧ c24 = .int .i64 (i : Int) ∧ ns.length ≤ i ∧ D.length = 1 + ns.length ∧ (∀ j ∈ ns, hasB D j = true) ∧ LawS w W p b1 b2 D (.slice Ah hs.length ch) hs c4 ns) (fun _ c24 _ => hs.length - (intOf c24).toNat)
  case atStart => exact ⟨0, D0, [], by omega, rfl, by simp, by simp [H0.out.2], by simp, HS0.out⟩
  case round =>
    obtain ⟨i, D, ns, hi, rfl, hni, hDl, hns, hS⟩ := hrel
    have HS := Lib.hid hS
    have HNS := Lib.hid hns
    have HDL := Lib.hid hDl
    clear hS hns hDl
    by_cases hih : i < hs.length
    · obtain ⟨x, hx⟩ : ∃ x, hs[i]? = some x := ⟨_, List.getElem?_eq_getElem hih⟩
      have hxm := List.mem_of_getElem? hx
      have HXG : Hid (GrownH x.h) := Lib.hid (HGG.out x hxm)
      have HXA : Hid (x.At (fun _ => True) wr) := Lib.hid (Sl.mono (HS.out.at_ x hxm) fun _ _ => trivial)
      obtain ⟨bh, oh, rfl, hbh, -, hcx⟩ := HS.out.row.at_ i x hx
      have HCX := Lib.hid hcx
      clear hcx hx hxm
      have hbx : Below wr.heap.size wr (wr.alloc (.cells x.cells.toArray 53)) := (Below.refl _ _).alloc (Nat.le_refl _) _
      have HSx := Lib.hid (HS.out.next hbx)
      have HXx : Hid (x.At (fun _ => True) (wr.alloc (.cells x.cells.toArray 53))) := Lib.hid (Sl.below HXA.out hbx)
      have HGx : Hid ((wr.alloc (.cells x.cells.toArray 53)).heap[wr.heap.size]? = some (.cells x.cells.toArray 53 (0, 0))) := Lib.hid (heap_alloc_new wr _)
      clear hbx
      go_upto_region 10 with (first
        | (refine wpl_load rfl 53 (.tmp 26) rfl bh _ rfl x.cells _ HCX.out Tryz.underlying53 rfl rh_size ?_)
        | (refine wpl_store_new rfl 53 _ _ rfl rfl x.cells rfl _ _ rfl (lrhE.one x) rh_size ?_))
      generalize wr.alloc (.cells x.cells.toArray 53) = W1 at HSx HXx HGx ⊢
      generalize wr.heap.size = gx at HGx ⊢
      (try go_frame)
      go_cut [7] from 28 to 29 (fun c7 W => ∃ (g : Nat) (y : LH), c7 = .pointer (some ⟨g, 0, none⟩) ∧ y.h = hdrOf x.h ∧ W.heap[g]? = some (.cells y.cells.toArray 38 (0, 0)) ∧ y.At (fun _ => True) W ∧ LawS w W p b1 b2 D (.slice (some ⟨bh, oh, none⟩) hs.length ch) hs u4 ns)
      case first =>
        go_wp2_with (first
          | (refine wpl_load rfl 53 (.tmp 6) rfl gx 0 rfl x.cells _ (fun j u hu => by rw [Nat.zero_add]; exact cell_block HGx.out (by simpa using hu)) Tryz.underlying53 rfl rh_size ?_)
          | (go_at_call 38; refine (own_any _ x _ HXx.out (Nat.le_trans HXG.out.tell.parents (by decide))).mono ?_; rintro e w4 ⟨y, hy, rfl, hya, hb4⟩; have HY := Lib.hid hy; have HYA := Lib.hid hya; have HS4 := Lib.hid (HSx.out.next hb4); clear hy hya hb4)
          | (refine wpl_store_new rfl 38 _ _ rfl rfl y.cells rfl _ _ rfl (LH.cells_one y) hdr_size ?_))
        go_meet
        case rel => exact ⟨_, y, rfl, HY.out, heap_alloc_new w4 _, Sl.mono (Sl.below HYA.out ((Below.refl _ _).alloc (Nat.le_refl _) _)) fun _ _ => trivial, HS4.out.next ((Below.refl _ _).alloc (Nat.le_refl _) _)⟩
      case rest =>
      obtain ⟨g, y, rfl, hyh, hyg, hya, hS⟩ := hcut
      clear HS HSx HXx HGx HXA
      have HS := Lib.hid hS
      have HY := Lib.hid hyh
      have HYG := Lib.hid hyg
      have HYA := Lib.hid hya
      clear hS hyh hyg hya
      rename World => W2
      go_step
      go_step
      go_cut [4] from 30 to 38 (fun c4 W => ∃ (D' : List LB) (ns' : List ID), ns'.length ≤ i + 1 ∧ D'.length = 1 + ns'.length ∧ (∀ j ∈ ns', hasB D' j = true) ∧ LawS w W p b1 b2 D' (.slice (some ⟨bh, oh, none⟩) hs.length ch) hs c4 ns')
      case first =>
        have HT2 : Hid (Tab W2) := Lib.hid (HT.out.below HS.out.below)
        have hyi : Wide y.h := by rw [HY.out]; exact grown_wide HXG.out
        have hadd := dadd_any W2 p b1 b2 D _ HS.out.dag HS.out.fine y _ HYA.out hyi HT2.out (by have := HDL.out; omega)
        obtain ⟨ce, hce⟩ : ∃ ce, checkG (hdrs D) y.h = ce := ⟨_, rfl⟩
        rw [hce] at hadd
        have HADD := Lib.hid hadd
        have HCE := Lib.hid hce
        clear hadd hce hyi
        by_cases h0 : ce = 0
        · subst h0
          obtain ⟨ni, hni2⟩ : ∃ ni, hdrID y.h = ni := ⟨_, rfl⟩
          have HID : Hid (∀ W, y.At (fun _ => True) W → Tab W → Calls Tryz.prog 40 #[.agg y.cells.toArray] W fun e w' => e = .returned (.agg (idc ni).toArray) ∧ Below W.heap.size W w') := Lib.hid fun W h h2 => id_is W y _ h (check_ok (checkG_parts HCE.out).1) h2 ni hni2
          have HNI := Lib.hid hni2
          clear hni2
          go_wp2_with (first
            | (refine wpl_load rfl 38 (.tmp 7) rfl g 0 rfl y.cells _ (fun j u hu => by rw [Nat.zero_add]; first | exact cell_block HYG.out (by simpa using hu) | exact cell_block HYG5.out (by simpa using hu)) Tryz.underlying38 rfl hdr_size ?_)
            | (go_at_call 39; refine HADD.out.mono ?_; rintro e w5 ⟨rfl, hc5, D5, hd5, hf5, hh5, hl5⟩; have HS5 := Lib.hid (HS.out.chg hc5 hd5 hf5); have HYG5 : Hid (w5.heap[g]? = some (.cells y.cells.toArray 38 (0, 0))) := Lib.hid ((hc5.block g (Array.getElem?_eq_some_iff.1 HYG.out).1 fun hs => HS.out.dag.no_row g hs _ _ _ HYG.out).trans HYG.out); have HYA5 : Hid (y.At (fun _ => True) w5) := Lib.hid (Sl.chg HYA.out hc5 HS.out.dag.no_row); have HH5 := Lib.hid hh5; clear hc5 hd5 hf5 hh5 hl5)
            | (go_at_call 40; refine (HID.out w5 HYA5.out (HT.out.below HS5.out.below)).mono ?_; rintro e w6 ⟨rfl, hb6⟩; have HS6 := Lib.hid (HS5.out.next hb6); clear hb6)
            | (refine wpl_slice1 rfl 36 34 (.tmp 36) rfl (idc ni).toArray rfl _ 32 32 Tryz.underlying36 id_info idZ_cells (by rw [List.size_toArray, idc_length]) (by decide) (by decide) ?_)
            | (at_builtin; refine wpl_app1 (idc ni).toArray w.heap.size rfl (.tmp 34) (.tmp 37) 36 34 _ 32 32 rfl Tryz.underlying36 id_info idZ_cells (by decide) (by decide) u4 ns.length _ rfl rfl (by rw [List.size_toArray, idc_length]) (fun u hu => idE.one ni u hu) HS6.out.names HS6.out.below.size (by omega) ?_; intro v1 w7 ho7 hg7 hat7; have HS7 := Lib.hid (HS6.out.app ni ho7 hg7 hat7); clear ho7 hg7 hat7))
          go_meet
          case rel =>
            have hG5 : hdrs D5 = addG (hdrs D) y.h := HH5.out
            have hl5 : D5.length = D.length + 1 := by
              have := congrArg List.length hG5
              unfold addG at this
              rw [if_pos HCE.out] at this
              simpa [hdrs] using this
            refine ⟨D5, ns ++ [ni], by simp; omega, by rw [hl5, HDL.out, List.length_append]; simp; omega, fun j hj => ?_, HS7.out⟩
            have e5 : hasB D5 j = hasG (hdrs D5) j := hasB_G HS5.out.dag.ids j
            rw [e5, hG5]
            rcases List.mem_append.1 hj with hj | hj
            · exact has_add ((hasB_G HS.out.dag.ids j).symm.trans (HNS.out j hj))
            · rw [List.mem_singleton.1 hj, ← HNI.out]; exact has_new HCE.out
        · have hne : (ce == 0) = false := by simpa using h0
          go_wp2_with (first
            | (refine wpl_load rfl 38 (.tmp 7) rfl g 0 rfl y.cells _ (fun j u hu => by rw [Nat.zero_add]; exact cell_block HYG.out (by simpa using hu)) Tryz.underlying38 rfl hdr_size ?_)
            | (go_at_call 39; refine HADD.out.mono ?_; rintro e w5 ⟨rfl, hc5, D5, hd5, hf5, hh5, hl5⟩; have HS5 := Lib.hid (HS.out.chg hc5 hd5 hf5); have HH5 := Lib.hid hh5; clear hc5 hd5 hf5 hh5 hl5))
          go_meet
          case rel =>
            have hG5 : hdrs D5 = hdrs D := by rw [HH5.out]; unfold addG; rw [if_neg (by rw [HCE.out]; exact h0)]
            have hl5 : D5.length = D.length := by
              have := congrArg List.length hG5
              simpa [hdrs] using this
            refine ⟨D5, ns, by omega, by rw [hl5, HDL.out], fun j hj => ?_, HS5.out⟩
            rw [hasB_G HS5.out.dag.ids, show (D5.map fun x => x.x.h) = D.map fun x => x.x.h from hG5, ← hasB_G HS.out.dag.ids]
            exact HNS.out j hj
      case rest =>
      obtain ⟨D', ns', hnl, hDl, hns', hS⟩ := hcut
      clear HS HY HYG HYA HNS HDL
      have HS := Lib.hid hS
      have HNS := Lib.hid hns'
      have HDL := Lib.hid hDl
      clear hS hns' hDl
      rename World => Wc
      obtain ⟨An, cn, rfl, hcn⟩ := own_slice HS.out.names
      have HNR : Hid (Sl idE (fun k => k < Wc.heap.size) Wc (.slice An ns'.length cn) ns') := Lib.hid ((Sl.of_own (E := idE) HS.out.names).old.mono fun k hk => hk.2)
      have HTc := Lib.hid (HT.out.below HS.out.below)
      have HDc := Lib.hid HS.out.dag_any
      go_wp2
      go_loopw [41] (fun c41 W => ∃ k : Nat, k ≤ ns'.length ∧ c41 = .int .i64 (k : Int) ∧ Below Wc.heap.size Wc W) (fun c41 _ => ns'.length - (intOf c41).toNat)
      case atStart => exact ⟨0, by omega, rfl, Below.refl _ _⟩
      case round =>
        obtain ⟨k, hk, rfl, hBk⟩ := hrel
        rename World => Wk
        have HBk := Lib.hid hBk
        clear hBk
        by_cases hkn : k < ns'.length
        · obtain ⟨id, hid⟩ : ∃ id, ns'[k]? = some id := ⟨_, List.getElem?_eq_getElem hkn⟩
          have hh : hasB D' id = true := HNS.out id (List.mem_of_getElem? hid)
          obtain ⟨bn, on, rfl, hbn, -, hci⟩ := (HNR.out.below HBk.out).at_ k id hid
          have HCI := Lib.hid hci
          have HBL : Hid (∀ W, DagAt (fun _ => True) W p b1 b2 D' → Calls Tryz.prog 41 #[.pointer (some ⟨p, 0, none⟩), .agg (idc id).toArray] W fun e w' => ∃ y : LH, e = .returned (.tuple #[.agg (LB.cells ⟨id, y⟩).toArray, .bool true]) ∧ y.h = (getB D' id).x.h ∧ y.h.Ok ∧ y.h.parents.Nodup ∧ hdrID y.h = id ∧ y.At (fun k => W.heap.size ≤ k) w' ∧ Below W.heap.size W w') := Lib.hid fun W h => dblock_has W p b1 b2 D' _ h HS.out.fine id hh
          have HHAS : Hid (∀ W, DagAt (fun _ => True) W p b1 b2 D' → Calls Tryz.prog 42 #[.pointer (some ⟨p, 0, none⟩), .agg (idc id).toArray] W fun e w' => e = .returned (.bool true) ∧ Below W.heap.size W w') := Lib.hid fun W h => by have := dhas_any W p b1 b2 D' _ h id; rwa [hh] at this
          clear hci hid hh
          have HB1k : Hid (Below Wk.heap.size Wk (Wk.alloc (.cells (idc id).toArray 34))) := Lib.hid ((Below.refl _ _).alloc (Nat.le_refl _) _)
          have HNM : Hid ((Wk.alloc (.cells (idc id).toArray 34)).heap[Wk.heap.size]? = some (.cells (idc id).toArray 34 (0, 0))) := Lib.hid (heap_alloc_new Wk _)
          have HD1k := Lib.hid ((HDc.out.below HBk.out).below HB1k.out)
          go_upto_region 16 with (first
            | (refine wpl_load rfl 34 (.tmp 43) rfl bn _ rfl (idc id) _ HCI.out Tryz.underlying34 rfl (by rw [idc_length]; exact id_size) ?_)
            | (refine wpl_store_new rfl 34 _ _ rfl rfl (idc id) rfl _ _ (by rw [idc_length]; rfl) (idE.one id) (by rw [idc_length]; exact id_size) ?_))
          have hsk : Wk.heap.size < (Wk.alloc (.cells (idc id).toArray 34)).heap.size := by simp
          generalize Wk.alloc (.cells (idc id).toArray 34) = V1 at HB1k HNM HD1k hsk ⊢
          generalize hbi : Wk.heap.size = bi at HNM hsk ⊢
          go_upto_region 17 with (first
            | (refine wpl_load rfl 34 (.tmp 9) rfl bi 0 rfl (idc id) _ (fun j u hu => by rw [Nat.zero_add]; exact cell_block HNM.out (by simpa using hu)) Tryz.underlying34 rfl (by rw [idc_length]; exact id_size) ?_)
            | (go_at_call 41; refine (HBL.out V1 HD1k.out).mono ?_; rintro e w8 ⟨y, rfl, -, hyo, -, hyi, hya, hb8⟩; have HYO := Lib.hid hyo; have HYI := Lib.hid hyi; have HYA := Lib.hid hya; have HB8 := Lib.hid hb8; clear hyo hyi hya hb8)
            | (refine wpl_store_new rfl 40 _ _ rfl rfl (LB.cells ⟨id, y⟩) rfl _ _ (by rw [LB.cells_length]; rfl) (LB.cells_one _) (by rw [LB.cells_length]; exact block_size) ?_))
          have HLK : Hid (LookS Wk (w8.alloc (.cells (LB.cells ⟨id, y⟩).toArray 40)).drew bi w8.heap.size id ⟨id, y⟩ p b1 b2 D') := Lib.hid (by
            have hb9 : Below V1.heap.size V1 (w8.alloc (.cells (LB.cells ⟨id, y⟩).toArray 40)).drew := (HB8.out.alloc HB8.out.size _).drew
            have hb9' : Below w8.heap.size w8 (w8.alloc (.cells (LB.cells ⟨id, y⟩).toArray 40)).drew := ((Below.refl _ _).alloc (Nat.le_refl _) _).drew
            have hbk2 : Below Wk.heap.size Wk (w8.alloc (.cells (LB.cells ⟨id, y⟩).toArray 40)).drew := HB1k.out.trans (hb9.mono HB1k.out.size)
            exact ⟨(hb9.block bi hsk).trans HNM.out, heap_alloc_new w8 _, Sl.mono (Sl.below HYA.out hb9') fun _ _ => trivial, HD1k.out.below hb9, (HTc.out.below HBk.out).below hbk2, hbk2⟩)
          have HID : Hid (∀ W, y.At (fun _ => True) W → Tab W → Calls Tryz.prog 40 #[.agg y.cells.toArray] W fun e w' => e = .returned (.agg (idc id).toArray) ∧ Below W.heap.size W w') := Lib.hid fun W h h2 => id_is W y _ h HYO.out h2 id HYI.out
          generalize w8.heap.size = bb at HLK ⊢
          refine st_ (S := (fun W' => LookS Wk W' bi bb id ⟨id, y⟩ p b1 b2 D')) 15 #[false, false, false, false, false, false, false, false, false, false, false, false, false, false, false] (by kernel_rfl) rfl (by rfl) HLK.out (fun hHeld => ?_)
          refine tk_ 0 (some 51) #[true, false, false, false, false, false, false, false, false, false, false, false, false, false, false] (v := ?_) (a' := ?_) rfl rfl (by kernel_rfl) (fun _ _ _ h => h) (yieldsIf_run rfl ?_) hHeld ?_ ?_
          rotate_left
          · intro w'
            go_simp
            with_reducible rfl
          rotate_left
          · simp only [Act.put, List.setIfInBounds_toArray, List.set_cons_zero, List.set_cons_succ]
            rfl
          refine tk_ 1 (some 52) #[true, true, false, false, false, false, false, false, false, false, false, false, false, false, false] (v := ?_) (a' := ?_) rfl rfl (by kernel_rfl) (fun _ _ _ h => h) (yieldsIf_run rfl ?_) hHeld ?_ ?_
          rotate_left
          · intro w'
            go_simp
            with_reducible rfl
          rotate_left
          · simp only [Act.put, List.setIfInBounds_toArray, List.set_cons_zero, List.set_cons_succ]
            rfl
          refine tk_ 2 (some 53) #[true, true, true, false, false, false, false, false, false, false, false, false, false, false, false] (v := ?_) (a' := ?_) rfl rfl (by kernel_rfl) (fun _ _ _ h => h) (yieldsIf_run rfl ?_) hHeld ?_ ?_
          rotate_left
          · intro w'
            go_simp
            with_reducible rfl
          rotate_left
          · simp only [Act.put, List.setIfInBounds_toArray, List.set_cons_zero, List.set_cons_succ]
            rfl
          refine tk_ 3 (some 54) #[true, true, true, true, false, false, false, false, false, false, false, false, false, false, false] (v := ?_) (a' := ?_) rfl rfl (by kernel_rfl) (fun _ _ _ h => h) (yieldsIf_run rfl ?_) hHeld ?_ ?_
          rotate_left
          · intro w'
            go_simp
            with_reducible rfl
          rotate_left
          · simp only [Act.put, List.setIfInBounds_toArray, List.set_cons_zero, List.set_cons_succ]
            rfl
          refine tk_ 4 (some 55) #[true, true, true, true, true, false, false, false, false, false, false, false, false, false, false] rfl rfl (by kernel_rfl) (fun _ _ _ h => h) (yieldsIf_load rfl 34 (.tmp 9) rfl bi 0 rfl (idc id) _ (fun W' h j u hu => by rw [Nat.zero_add]; exact cell_block h.name (by simpa using hu)) Tryz.underlying34 rfl (by rw [idc_length]; exact id_size)) hHeld (a' := ?_) ?_ ?_
          rotate_left
          · simp only [Act.put, List.setIfInBounds_toArray, List.set_cons_zero, List.set_cons_succ]
            rfl
          refine call_ 5 (some 56) #[true, true, true, true, true, true, false, false, false, false, false, false, false, false, false] rfl rfl (by kernel_rfl) rfl 42 _ (by kernel_rfl) (HHAS.out _ hHeld.dag) ?_
          rintro e w9 ⟨rfl, hb9⟩
          refine ⟨_, rfl, hHeld.next hb9, fun hHeld => ⟨?_, ?_, ?_⟩⟩
          rotate_left
          · simp only [Act.put, List.setIfInBounds_toArray, List.set_cons_zero, List.set_cons_succ]
            rfl
          refine tk_ 6 (some 57) #[true, true, true, true, true, true, true, false, false, false, false, false, false, false, false] (v := ?_) (a' := ?_) rfl rfl (by kernel_rfl) (fun _ _ _ h => h) (yieldsIf_run rfl ?_) hHeld ?_ ?_
          rotate_left
          · intro w'
            go_simp
            with_reducible rfl
          rotate_left
          · simp only [Act.put, List.setIfInBounds_toArray, List.set_cons_zero, List.set_cons_succ]
            rfl
          refine tk_ 7 (some 58) #[true, true, true, true, true, true, true, true, false, false, false, false, false, false, false] (v := ?_) (a' := ?_) rfl rfl (by kernel_rfl) (fun _ _ _ h => h) (yieldsIf_run rfl ?_) hHeld ?_ ?_
          rotate_left
          · intro w'
            go_simp
            with_reducible rfl
          rotate_left
          · simp only [Act.put, List.setIfInBounds_toArray, List.set_cons_zero, List.set_cons_succ]
            rfl
          refine tk_ 8 (some 59) #[true, true, true, true, true, true, true, true, true, false, false, false, false, false, false] (v := ?_) (a' := ?_) rfl rfl (by kernel_rfl) (fun _ _ _ h => h) (yieldsIf_run rfl ?_) hHeld ?_ ?_
          rotate_left
          · intro w'
            go_simp
            with_reducible rfl
          rotate_left
          · simp only [Act.put, List.setIfInBounds_toArray, List.set_cons_zero, List.set_cons_succ]
            rfl
          refine tk_ 9 (some 60) #[true, true, true, true, true, true, true, true, true, true, false, false, false, false, false] (v := ?_) (a' := ?_) rfl rfl (by kernel_rfl) (fun _ _ _ h => h) (yieldsIf_run rfl ?_) hHeld ?_ ?_
          rotate_left
          · intro w'
            go_simp
            with_reducible rfl
          rotate_left
          · simp only [Act.put, List.setIfInBounds_toArray, List.set_cons_zero, List.set_cons_succ]
            rfl
          refine tk_ 10 (some 61) #[true, true, true, true, true, true, true, true, true, true, true, false, false, false, false] rfl rfl (by kernel_rfl) (fun _ _ _ h => h) (yieldsIf_load rfl 38 (.tmp 60) rfl bb 32 rfl y.cells _ (fun W' h j u hu => cell_block h.blk (by rw [List.getElem?_toArray]; exact LB.cells_hdr ⟨id, y⟩ j u hu)) Tryz.underlying38 rfl hdr_size) hHeld (a' := ?_) ?_ ?_
          rotate_left
          · simp only [Act.put, List.setIfInBounds_toArray, List.set_cons_zero, List.set_cons_succ]
            rfl
          refine tk_ 12 (some 63) #[true, true, true, true, true, true, true, true, true, true, true, false, true, false, false] rfl rfl (by kernel_rfl) (fun _ _ _ h => h) (yieldsIf_load rfl 34 (.tmp 9) rfl bi 0 rfl (idc id) _ (fun W' h j u hu => by rw [Nat.zero_add]; exact cell_block h.name (by simpa using hu)) Tryz.underlying34 rfl (by rw [idc_length]; exact id_size)) hHeld (a' := ?_) ?_ ?_
          rotate_left
          · simp only [Act.put, List.setIfInBounds_toArray, List.set_cons_zero, List.set_cons_succ]
            rfl
          refine call_ 11 (some 62) #[true, true, true, true, true, true, true, true, true, true, true, true, true, false, false] rfl rfl (by kernel_rfl) rfl 40 _ (by kernel_rfl) (HID.out _ hHeld.at_ hHeld.tab) ?_
          rintro e w10 ⟨rfl, hb10⟩
          refine ⟨_, rfl, hHeld.next hb10, fun hHeld => ⟨?_, ?_, ?_⟩⟩
          rotate_left
          · simp only [Act.put, List.setIfInBounds_toArray, List.set_cons_zero, List.set_cons_succ]
            rfl
          refine tk_ 13 (some 64) #[true, true, true, true, true, true, true, true, true, true, true, true, true, true, false] rfl rfl (by kernel_rfl) (fun _ _ _ h => h) (yieldsIf_run (v := .bool false) rfl fun W' => (exec_neq_id rfl (.tmp 62) (.tmp 63) 34 rfl id id rfl rfl).trans (by rw [decide_eq_true rfl]; rfl)) hHeld (a' := ?_) ?_ ?_
          rotate_left
          · simp only [Act.put, List.setIfInBounds_toArray, List.set_cons_zero, List.set_cons_succ]
            rfl
          refine tk_ 14 (some 65) #[true, true, true, true, true, true, true, true, true, true, true, true, true, true, true] (v := ?_) (a' := ?_) rfl rfl (by kernel_rfl) (fun _ _ _ h => h) (yieldsIf_run rfl ?_) hHeld ?_ ?_
          rotate_left
          · intro w'
            go_simp
            with_reducible rfl
          rotate_left
          · simp only [Act.put, List.setIfInBounds_toArray, List.set_cons_zero, List.set_cons_succ]
            rfl
          refine wpAnyH_done (by kernel_rfl) ?_ _
          change Exit.then _ _ _ _ _
          go_wp2
          go_roundw
          case rel => exact ⟨k + 1, by omega, by go_num, HBk.out.trans (hHeld.below.mono HBk.out.size)⟩
          case measure => simp [intOf]; omega
        · have hkk : k = ns'.length := by omega
          subst hkk
          have HSk := Lib.hid (HS.out.next HBk.out)
          have hnames := HS.out.names.2
          have hnil := HS.out.nil
          have HNK := Lib.hid (HNR.out.below HBk.out)
          clear HBk
          rcases hnames with ⟨hv, hn0⟩ | ⟨gn, cap, cur, hv, hgb, hgn, hcap, hcm, -⟩
          · injection hv with e1 e2 e3
            have hne : ns' = [] := List.length_eq_zero_iff.1 hn0
            subst e1
            subst e3
            subst hne
            go_upto_region 21 with fail
            go_loopw [74] (fun c74 W => c74 = .int .i64 0 ∧ W = Wk) (fun _ _ => 0)
            case atStart => exact ⟨rfl, rfl⟩
            case round =>
              obtain ⟨rfl, rfl⟩ := hrel
              go_wp2
              go_roundw
              case rel => exact ⟨i + 1, D', [], by omega, by go_num, by omega, HDL.out, HNS.out, HSk.out⟩
              case measure => simp [intOf]; omega
          · injection hv with e1 e2 e3
            subst e1
            subst e3
            have hnp : ns' ≠ [] := fun e => by have := hnil e; cases this
            obtain ⟨q, hq⟩ : ∃ q, ns'.length = q + 1 := ⟨ns'.length - 1, by have := List.length_pos_iff.2 hnp; omega⟩
            have hq1 : (ns'.length : Int) - 1 = (q : Int) := by omega
            have hq2 : max (0 : Int) (q : Int) = (q : Int) := by omega
            have hqc : ¬ cn = q := by omega
            have hqc2 : q ≤ cn := by omega
            have hqn : q ≤ ns'.length := by omega
            clear hnp hnil hgn
            obtain ⟨id, hid⟩ : ∃ id, ns'[q]? = some id := ⟨_, List.getElem?_eq_getElem (by omega)⟩
            have hh : hasB D' id = true := HNS.out id (List.mem_of_getElem? hid)
            have HCI : Hid (∀ W, Below Wk.heap.size Wk W → ∀ j u, (idc id)[j]? = some u → W.cell? ⟨gn, q * 32 + j, none⟩ = some u) := Lib.hid fun W hb j u hu => by
              obtain ⟨b', off', he, -, -, hc'⟩ := (HNK.out.below hb).at_ q id hid
              injection he with he
              injection he with e1 e2
              subst e1
              subst e2
              have := hc' j u hu
              rwa [Nat.zero_add] at this
            obtain ⟨z, hz⟩ : ∃ z, getB D' id = z := ⟨_, rfl⟩
            obtain ⟨K, hK⟩ : ∃ K, keyB [id] = K := ⟨_, rfl⟩
            have HKEY : Hid (∀ W b, W.heap[b]? = some (.cells (idc id).toArray 34 (0, 0)) → Calls Tryz.prog 44 #[.slice (some ⟨b, 0, none⟩) 1 1] W fun e w' => e = .returned (.string K) ∧ Below W.heap.size W w') := Lib.hid fun W b hb => by
              rw [← hK]
              exact key_any W _ [id] (fun k => k = b) (Sl.of_block (E := idE) (ys := [id]) hb (by rw [idE.flat_one]; rfl) rfl (Nat.le_refl _) (by omega)) (by simp) (by simp)
            have HTIP : Hid (∀ W, DagAt (fun _ => True) W p b1 b2 D' → Calls Tryz.prog 43 #[.pointer (some ⟨p, 0, none⟩), .string K] W fun e w' => ∃ t, e = .returned (.tuple #[tipV t, .int .i64 0]) ∧ TipAt (fun k => W.heap.size ≤ k) w' t [z] ∧ Okay (fun _ => True) w' [z] ∧ Below W.heap.size W w') := Lib.hid fun W h => by
              rw [← hK, ← hz]
              exact dtip_one W p b1 b2 D' _ h HS.out.fine id hh
            have HH2' : Hid (∀ W t, TipAt (fun _ => True) W t [z] → Calls Tryz.prog 28 #[tipV t, .agg (idc id).toArray] W fun e w' => e = .returned (.bool true) ∧ Below W.heap.size W w') := Lib.hid fun W t h => by
              have h1 := thas_any W t [z] _ h id
              have h2 : hasB [z] id = true := by rw [← hz]; simp [hasB, (getB_mem hh).2]
              rwa [h2] at h1
            have HBLK : Hid (∀ W t, TipAt (fun _ => True) W t [z] → Okay (fun _ => True) W [z] → Calls Tryz.prog 23 #[tipV t] W fun e w' => ∃ A c, e = .returned (.slice A 1 c) ∧ Below W.heap.size W w') := Lib.hid fun W t h hk => (tblocks_any W t [z] _ _ h hk).mono fun e w' ⟨v, ys, he, hc⟩ => by
              obtain ⟨A, c, hv, -⟩ := own_slice hc.own
              subst hv
              exact ⟨A, c, he, hc.below⟩
            have HDk := Lib.hid HSk.out.dag_any
            clear hid hh hz hK HNK
            go_upto_region 21 with fail
            go_loopw [74] (fun c74 W => (c74 = .int .i64 0 ∨ c74 = .int .i64 1) ∧ Below Wk.heap.size Wk W) (fun c74 _ => 1 - (intOf c74).toNat)
            case atStart => exact ⟨.inl rfl, Below.refl _ _⟩
            case round =>
              obtain ⟨h01, hBj⟩ := hrel
              rename World => Wj
              have HBj := Lib.hid hBj
              clear hBj
              rcases h01 with rfl | rfl
              · have HB1j : Hid (Below Wj.heap.size Wj (Wj.alloc (.cells (idc id).toArray 34))) := Lib.hid ((Below.refl _ _).alloc (Nat.le_refl _) _)
                have HNM : Hid ((Wj.alloc (.cells (idc id).toArray 34)).heap[Wj.heap.size]? = some (.cells (idc id).toArray 34 (0, 0))) := Lib.hid (heap_alloc_new Wj _)
                have HD1j := Lib.hid ((HDk.out.below HBj.out).below HB1j.out)
                go_upto_region 23 with (first
                  | (refine wpl_load rfl 34 (.tmp 76) rfl gn _ rfl (idc id) _ (HCI.out _ HBj.out) Tryz.underlying34 rfl (by rw [idc_length]; exact id_size) ?_)
                  | (refine wpl_store_new rfl 34 _ _ rfl rfl (idc id) rfl _ _ (by rw [idc_length]; rfl) (idE.one id) (by rw [idc_length]; exact id_size) ?_))
                have hsk : Wj.heap.size < (Wj.alloc (.cells (idc id).toArray 34)).heap.size := by simp
                generalize Wj.alloc (.cells (idc id).toArray 34) = V1 at HB1j HNM HD1j hsk ⊢
                generalize hbi : Wj.heap.size = bi at HNM hsk ⊢
                go_upto_region 24 with (first
                  | (refine wpl_load rfl 34 (.tmp 13) rfl bi 0 rfl (idc id) _ (fun j u hu => by rw [Nat.zero_add]; exact cell_block HNM.out (by simpa using hu)) Tryz.underlying34 rfl (by rw [idc_length]; exact id_size) ?_)
                  | (refine wpl_slice1 rfl 36 34 (.tmp 80) rfl (idc id).toArray rfl _ 32 32 Tryz.underlying36 id_info idZ_cells (by rw [List.size_toArray, idc_length]) (by decide) (by decide) ?_)
                  | (go_at_call 44; refine (HKEY.out (V1.alloc (.cells (idc id).toArray 34)) V1.heap.size (heap_alloc_new V1 _)).mono ?_; rintro e w8 ⟨rfl, hb8⟩; have HB8 : Hid (Below V1.heap.size V1 w8) := Lib.hid (((Below.refl _ V1).alloc (Nat.le_refl _) _).trans (hb8.mono (by simp))); clear hb8)
                  | (go_at_call 43; refine (HTIP.out w8 (HD1j.out.below HB8.out)).mono ?_; rintro e w9 ⟨tv, rfl, htv, hok, hb9⟩; have HTV := Lib.hid htv; have HOK := Lib.hid hok; have HB9 : Hid (Below V1.heap.size V1 w9) := Lib.hid (HB8.out.trans (hb9.mono HB8.out.size)); have htv1 : tv.oneCell' = true := (by obtain ⟨A5, c5, rfl, -⟩ := htv.1.form; rfl); clear htv hok hb9)
                  | (refine wpl_store_new rfl 28 _ _ rfl rfl [tv] rfl _ _ rfl (by intro u hu; rw [List.mem_singleton] at hu; subst hu; exact htv1) tip_size ?_))
                have HTB : Hid ((w9.alloc (.cells [tv].toArray 28)).heap[w9.heap.size]? = some (.cells [tv].toArray 28 (0, 0))) := Lib.hid (heap_alloc_new w9 _)
                have HBt : Hid (Below w9.heap.size w9 (w9.alloc (.cells [tv].toArray 28))) := Lib.hid ((Below.refl _ _).alloc (Nat.le_refl _) _)
                have HTW : Hid (TipAt (fun _ => True) (w9.alloc (.cells [tv].toArray 28)) tv [z]) := Lib.hid ⟨(HTV.out.1.below HBt.out).any, HTV.out.2⟩
                have HOW := Lib.hid (HOK.out.below HBt.out)
                have HNW : Hid ((w9.alloc (.cells [tv].toArray 28)).heap[bi]? = some (.cells (idc id).toArray 34 (0, 0))) := Lib.hid (((HB9.out.alloc HB9.out.size _).block bi hsk).trans HNM.out)
                have HBW : Hid (Below Wj.heap.size Wj (w9.alloc (.cells [tv].toArray 28))) := Lib.hid (HB1j.out.trans ((HB9.out.alloc HB9.out.size _).mono HB1j.out.size))
                generalize w9.alloc (.cells [tv].toArray 28) = W10 at HTB HTW HOW HNW HBW ⊢
                generalize w9.heap.size = bt at HTB ⊢
                go_wp2_with (first
                  | (refine wpl_load_on rfl 28 (.tmp 14) rfl bt 0 rfl [tv] _ (fun j u hu => by rw [Nat.zero_add]; first | exact cell_block HTB.out (by simpa using hu) | exact cell_block HTB1.out (by simpa using hu)) Tryz.underlying28 rfl tip_size ?_)
                  | (refine wpl_load_on rfl 34 (.tmp 13) rfl bi 0 rfl (idc id) _ (fun j u hu => by rw [Nat.zero_add]; exact cell_block HNW.out (by simpa using hu)) Tryz.underlying34 rfl (by rw [idc_length]; exact id_size) ?_)
                  | (go_at_call 28; refine (HH2'.out _ tv HTW.out).mono ?_; rintro e w11 ⟨rfl, hb11⟩; have HTB1 : Hid (w11.heap[bt]? = some (.cells [tv].toArray 28 (0, 0))) := Lib.hid ((hb11.block bt (Array.getElem?_eq_some_iff.1 HTB.out).1).trans HTB.out); have HTW1 := Lib.hid (HTW.out.below hb11); have HOW1 := Lib.hid (HOW.out.below hb11); have HB11 : Hid (Below Wj.heap.size Wj w11) := Lib.hid (HBW.out.trans (hb11.mono HBW.out.size)); clear hb11)
                  | (go_at_call 23; refine (HBLK.out _ tv HTW1.out HOW1.out).mono ?_; rintro e w12 ⟨A12, c12, rfl, hb12⟩; have HB12 : Hid (Below Wk.heap.size Wk w12) := Lib.hid (HBj.out.trans ((HB11.out.trans (hb12.mono HB11.out.size)).mono HBj.out.size)); clear hb12))
                go_roundw
                case rel => exact ⟨.inr rfl, HB12.out⟩
                case measure => simp [intOf]
              · go_wp2
                go_roundw
                case rel => exact ⟨i + 1, D', ns', by omega, by go_num, by omega, HDL.out, HNS.out, by have h9 := HSk.out.next HBj.out; rwa [hq] at h9⟩
                case measure => simp [intOf]; omega
    · have hii : i = hs.length := by omega
      subst hii
      obtain ⟨An, cn, rfl, hcn⟩ := own_slice HS.out.names
      go_wp2_with (go_at_call 45; refine (dlen_any _ _ _ _ _ _ HS.out.dag).mono ?_; rintro e w9 ⟨rfl, rfl⟩; rw [HDL.out])
      go_ret
      exact ⟨rfl, HS.out.below⟩
end Go.Proofs.YthpcedficlhanaaGreatDoor
