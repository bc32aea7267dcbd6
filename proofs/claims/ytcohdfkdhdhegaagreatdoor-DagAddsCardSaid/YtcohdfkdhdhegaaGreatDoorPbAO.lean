/- dag.Dag: Tipset. dag.Dag: a key's tipset in plain words; Check, Add, New. -/
import Derived.Test.YtcohdfkdhdhegaaGreatDoorPbAN
namespace Go.Proofs.YtcohdfkdhdhegaaGreatDoor
open Go.RowKit Go.Maps

theorem DagAt.okay {w : World} {p b1 b2 : Nat} {D : List LB} {ok : Nat → Prop} (h : DagAt ok w p b1 b2 D) (hG : ∀ x ∈ D, x.x.h.Ok ∧ x.x.h.parents.Nodup) {l : List ID} (hl : ∀ i ∈ l, hasB D i = true) : Okay ok w (l.map (getB D)) := by
  intro x hx
  obtain ⟨i, hi, rfl⟩ := List.mem_map.1 hx
  have hm := (getB_mem (hl i hi)).1
  exact ⟨h.at_ _ hm, hG _ hm⟩
/-- What holds at the head of Tipset's loop. -/
structure TipR (w W0 W : World) (D : List LB) (l : List ID) (u : Value) (i : Nat) : Prop where
  own : W.ownsRow W0.heap.size 71 39 u i (lbE.flat ((l.take i).map (getB D)))
  below : Below W0.heap.size W0 W

set_option maxRecDepth 100000 in
set_option maxHeartbeats 2000000 in
theorem dtip_any (w : World) (p b1 b2 : Nat) (D : List LB) (ok : Nat → Prop) (h : DagAt ok w p b1 b2 D) (hG : ∀ x ∈ D, x.x.h.Ok ∧ x.x.h.parents.Nodup) (key : ByteArray) (hk : key.size ≤ 1000000000) :
    Calls Tryz.prog 25 #[.pointer (some ⟨p, 0, none⟩), .string key] w fun e w' => Below w.heap.size w w' ∧
      ((namesF key = none ∧ e = .returned (.tuple #[tipV (.slice none 0 0), .int .i64 1])) ∨
       ∃ l, namesF key = some l ∧
        (((∃ i ∈ l, hasB D i = false) ∧ e = .returned (.tuple #[tipV (.slice none 0 0), .int .i64 7])) ∨
         ((∀ i ∈ l, hasB D i = true) ∧ ∃ ec zs t, Newed (l.map (getB D)) ec zs ∧ e = .returned (.tuple #[tipV t, .int .i64 ec]) ∧ TipAt (fun k => w.heap.size ≤ k) w' t zs))) := by
  have HD := Lib.hid (h.below ((Below.refl _ w).alloc (Nat.le_refl _) (.cells #[.slice none 0 0] 52)))
  have HG := Lib.hid hG
  have HG0 : Hid ((w.alloc (.cells #[.slice none 0 0] 52)).heap[w.heap.size]? = some (.cells #[.slice none 0 0] 52 (0, 0))) := Lib.hid (heap_alloc_new w _)
  have HB0 : Hid (Below w.heap.size w (w.alloc (.cells #[.slice none 0 0] 52))) := Lib.hid ((Below.refl _ w).alloc (Nat.le_refl _) _)
  clear h hG
  go_enter Tryz.func25, Tryz.ntmps25
  go_upto_region 1 with fail
  generalize w.alloc (.cells #[.slice none 0 0] 52) = W0 at HD HG0 HB0 ⊢
  have hn := names_any W0 key hk
  rcases hnf : namesF key with _ | l
  · have HNF := Lib.hid hnf
    have HN : Hid (Calls Tryz.prog 32 #[.string key] W0 fun e w' => Below W0.heap.size W0 w' ∧ e = .returned (.tuple #[.slice none 0 0, .bool false])) := Lib.hid (hn.mono fun e w' ⟨hb, hr⟩ => by
      rcases hr with ⟨-, he⟩ | ⟨l, v, he, -⟩
      · exact ⟨hb, he⟩
      · rw [hnf] at he; cases he)
    clear hn hnf
    go_wp2_with (first
      | (go_at_call 32; refine HN.out.mono ?_; rintro e w1 ⟨hb1, rfl⟩; have HG1 : Hid (w1.heap[w.heap.size]? = some (.cells #[.slice none 0 0] 52 (0, 0))) := Lib.hid ((hb1.block _ (Array.getElem?_eq_some_iff.1 HG0.out).1).trans HG0.out); have HB1 : Hid (Below w.heap.size w w1) := Lib.hid (HB0.out.trans (hb1.mono HB0.out.size)); clear hb1)
      | (refine wpl_store_row rfl 52 (.tmp 4) (.tmp 18) rfl w.heap.size rfl [.slice none 0 0] rfl _ 52 HG1.out rfl (by simp [Value.oneCell']) tip_size ?_))
    (try simp only [Exit.inBlock, Exit.then])
    refine bodyPost_ret (results_row_tmp rfl _ _ w.heap.size 52 #[.slice none 0 0] (0, 0) _ rfl (setRow_heap _ w.heap.size _ _ _ _ HG1.out) Tryz.underlying52 rfl tip_size _ rfl) rfl ?_
    exact ⟨below_setRow HB1.out (Nat.le_refl _) _, .inl ⟨HNF.out, rfl⟩⟩
  · obtain ⟨hri, h1l, hl5⟩ := namesF_parts hnf
    have HNF := Lib.hid hnf
    have HN : Hid (Calls Tryz.prog 32 #[.string key] W0 fun e w' => Below W0.heap.size W0 w' ∧ ∃ v, e = .returned (.tuple #[v, .bool true]) ∧ w'.ownsRow W0.heap.size 66 32 v l.length (idE.flat l)) := Lib.hid (hn.mono fun e w' ⟨hb, hr⟩ => by
      rcases hr with ⟨he, -⟩ | ⟨l', v, he, hv, ho⟩
      · rw [hnf] at he; cases he
      · rw [hnf] at he; cases he; exact ⟨hb, v, hv, ho⟩)
    have HND := Lib.hid (rise_nodup hri)
    clear hn hnf hri
    go_upto_region 4 with (go_at_call 32; refine HN.out.mono ?_; rintro e w1 ⟨hb1, v1, rfl, ho1⟩; have HO1 := Lib.hid ho1; have HG1 : Hid (w1.heap[w.heap.size]? = some (.cells #[.slice none 0 0] 52 (0, 0))) := Lib.hid ((hb1.block _ (Array.getElem?_eq_some_iff.1 HG0.out).1).trans HG0.out); have HB1 : Hid (Below w.heap.size w w1) := Lib.hid (HB0.out.trans (hb1.mono HB0.out.size)); have HD1 := Lib.hid (HD.out.below hb1); clear hb1 ho1)
    obtain ⟨A1, c1, rfl⟩ : ∃ A c, v1 = .slice A l.length c := (Sl.of_own (E := idE) HO1.out).form.imp fun A h => h.imp fun c h => h.1
    obtain ⟨ms, hms⟩ : ∃ ms, (l.filter fun x => !hasB D x) = ms := ⟨_, rfl⟩
    have HM := Lib.hid (missing_any HD1.out (.slice A1 l.length c1) l _ (Sl.of_own HO1.out) HND.out (by omega))
    rw [hms] at HM
    have hml : ms.length ≤ l.length := by rw [← hms]; exact List.length_filter_le _ _
    have HMS := Lib.hid hms
    clear hms
    have HO1' : Hid (Sl idE (fun k => k < w1.heap.size) w1 (.slice A1 l.length c1) l) := Lib.hid ((Sl.of_own (E := idE) HO1.out).old.mono fun k hk => hk.2)
    by_cases hm0 : ms = []
    · subst hm0
      go_upto_region 6 with (go_at_call 33; refine HM.out.mono ?_; rintro e w2 ⟨v2, rfl, ho2, hb2⟩; obtain ⟨A2, c2, rfl⟩ : ∃ A c, v2 = .slice A 0 c := (Sl.of_own (E := idE) (ys := []) ho2).form.imp fun A h => h.imp fun c h => h.1; have HB2 : Hid (Below w1.heap.size w1 w2) := Lib.hid hb2; clear ho2 hb2)
      have hall : ∀ i ∈ l, hasB D i = true := fun i hi => by
        have h1 := HMS.out
        rw [List.filter_eq_nil_iff] at h1
        simpa using h1 i hi
      have HALL := Lib.hid hall
      have HD2 := Lib.hid (HD1.out.below HB2.out)
      have HS2 := Lib.hid (HO1'.out.below HB2.out)
      have HBB : Hid (Below w.heap.size w w2) := Lib.hid (HB1.out.trans (HB2.out.mono HB1.out.size))
      have HG2 : Hid (w2.heap[w.heap.size]? = some (.cells #[.slice none 0 0] 52 (0, 0))) := Lib.hid ((HB2.out.block _ (Array.getElem?_eq_some_iff.1 HG1.out).1).trans HG1.out)
      clear hall hml
      go_wp2
      go_loopw [8, 27] (fun c8 c27 W => ∃ i : Nat, i ≤ l.length ∧ c27 = .int .i64 (i : Int) ∧ TipR w w2 W D l c8 i) (fun _ c _ => l.length - (intOf c).toNat)
      case atStart => exact ⟨0, by omega, rfl, ⟨⟨rfl, .inl ⟨rfl, rfl⟩⟩, Below.refl _ _⟩⟩
      case round =>
        obtain ⟨i, hi, rfl, hR⟩ := hrel
        have HR := Lib.hid hR
        clear hR
        by_cases hil : i < l.length
        · obtain ⟨x, hx⟩ : ∃ x, l[i]? = some x := ⟨_, List.getElem?_eq_getElem hil⟩
          obtain ⟨b, off, rfl, hbl, -, hcx⟩ := (HS2.out.below HR.out.below).at_ i x hx
          have HCX := Lib.hid hcx
          have HXI := Lib.hid hx
          obtain ⟨y, hy⟩ : ∃ y, getB D x = y := ⟨_, rfl⟩
          have HY := Lib.hid hy
          have HDr := Lib.hid (HD2.out.below HR.out.below)
          have HH : Hid (HasS wr (wr.alloc (.cells (idc x).toArray 66)).drew p b1 wr.heap.size D x) := Lib.hid (by
            have h1 := HasS.start HDr.out x
            exact ⟨h1.cell, h1.map, h1.name, h1.below.drew, h1.lt⟩)
          have HOa : Hid ((wr.alloc (.cells (idc x).toArray 66)).ownsRow w2.heap.size 71 39 u8 i (lbE.flat ((l.take i).map (getB D)))) := Lib.hid (HR.out.own.alloc _)
          have HBa : Hid (Below w2.heap.size w2 (wr.alloc (.cells (idc x).toArray 66))) := Lib.hid (HR.out.below.alloc HR.out.below.size _)
          have HTK : Hid ((l.take (i + 1)).map (getB D) = (l.take i).map (getB D) ++ [y]) := Lib.hid (by rw [List.take_add_one, hx, List.map_append]; simp [hy])
          clear hcx hx hy
          go_upto_region 10 with (first
            | (refine wpl_load rfl 66 (.tmp 29) rfl b _ rfl (idc x) _ HCX.out Tryz.underlying66 rfl (by rw [idc_length]; exact id_size) ?_)
            | (refine wpl_store_new rfl 66 _ _ rfl rfl (idc x) rfl _ _ (by rw [idc_length]; rfl) (idE.one x) (by rw [idc_length]; exact id_size) ?_))
          generalize wr.alloc (.cells (idc x).toArray 66) = W1 at HH HOa HBa ⊢
          refine stD_ (S := (fun W' => HasS wr W' p b1 wr.heap.size D x)) [8, 9] 10 (bt 0 10) (by kernel_rfl) rfl (by rfl) HH.out (fun hHeld => ?_)
          refine tkT_ 0 (some 31) (bt 1 9) (v := ?_) (a' := ?_) rfl rfl (by kernel_rfl) (fun _ _ _ h => h) (yieldsIf_run rfl ?_) hHeld ?_ ?_
          rotate_left
          · intro w'
            go_simp
            with_reducible rfl
          rotate_left
          · simp only [Act.put, List.setIfInBounds_toArray, List.set_cons_zero, List.set_cons_succ]
            rfl
          refine tkT_ 1 (some 32) (bt 2 8) (v := ?_) (a' := ?_) rfl rfl (by kernel_rfl) (fun _ _ _ h => h) (yieldsIf_run rfl ?_) hHeld ?_ ?_
          rotate_left
          · intro w'
            go_simp
            with_reducible rfl
          rotate_left
          · simp only [Act.put, List.setIfInBounds_toArray, List.set_cons_zero, List.set_cons_succ]
            rfl
          refine tkT_ 2 (some 33) (bt 3 7) (v := ?_) (a' := ?_) rfl rfl (by kernel_rfl) (fun _ _ _ h => h) (yieldsIf_run rfl ?_) hHeld ?_ ?_
          rotate_left
          · intro w'
            go_simp
            with_reducible rfl
          rotate_left
          · simp only [Act.put, List.setIfInBounds_toArray, List.set_cons_zero, List.set_cons_succ]
            rfl
          refine tkT_ 3 (some 34) (bt 4 6) (v := ?_) (a' := ?_) rfl rfl (by kernel_rfl) (fun _ _ _ h => h) (yieldsIf_run rfl ?_) hHeld ?_ ?_
          rotate_left
          · intro w'
            go_simp
            with_reducible rfl
          rotate_left
          · simp only [Act.put, List.setIfInBounds_toArray, List.set_cons_zero, List.set_cons_succ]
            rfl
          refine tkT_ 4 (some 35) (bt 5 5) rfl rfl (by kernel_rfl) (fun _ _ _ h => h) (yieldsIf_cell rfl 129 (.tmp 34) rfl ⟨p, 0, none⟩ rfl (.map (some b1)) _ (fun W' h => h.cell) Tryz.underlying129 rfl) hHeld (a' := ?_) ?_ ?_
          rotate_left
          · simp only [Act.put, List.setIfInBounds_toArray, List.set_cons_zero, List.set_cons_succ]
            rfl
          refine tkT_ 5 (some 36) (bt 6 4) rfl rfl (by kernel_rfl) (fun _ _ _ h => h) (yieldsIf_load rfl 66 (.tmp 10) rfl wr.heap.size 0 rfl (idc x) _ (fun W' h => h.name) Tryz.underlying66 rfl (by rw [idc_length]; exact id_size)) hHeld (a' := ?_) ?_ ?_
          rotate_left
          · simp only [Act.put, List.setIfInBounds_toArray, List.set_cons_zero, List.set_cons_succ]
            rfl
          refine tkT_ 6 (some 37) (bt 7 3) rfl rfl (by kernel_rfl) (fun _ _ _ h => h) (yieldsIf_of (v := .agg y.cells.toArray) rfl fun W' h => (exec_lookV (key := .agg (idc x).toArray) h.map lawID Tryz.underlying129 (zeroBlk W') (.tmp 35) (.tmp 36) rfl rfl rfl (keyOf_id x)).trans (by rw [blkF_get, HY.out]; rfl)) hHeld (a' := ?_) ?_ ?_
          rotate_left
          · simp only [Act.put, List.setIfInBounds_toArray, List.set_cons_zero, List.set_cons_succ]
            rfl
          have hHeld := HH.out.alloc (.cells y.cells.toArray 71)
          refine valD_ 7 (some 38) (bt 8 2) rfl rfl (by kernel_rfl) rfl ((.slice (some ⟨W1.drew.heap.size, 0, none⟩) 1 1)) ((W1.drew.alloc (.cells y.cells.toArray 71))) (exec_slice1 50 71 (.tmp 37) rfl y.cells.toArray rfl _ 39 112 Tryz.underlying50 blk_info lbZ_cells (by rw [List.size_toArray, LB.cells_length]) (by decide) (by decide)) (fun _ => hHeld) (a' := ?_) ?_ ?_
          rotate_left
          · simp only [Act.put, List.setIfInBounds_toArray, List.set_cons_zero, List.set_cons_succ]
            rfl
          refine stepD_ 8 (some 39) (bt 9 1) rfl rfl (by kernel_rfl) rfl (exec_app1 (W := W1.drew) y.cells.toArray w2.heap.size (.tmp 31) (.tmp 38) 50 71 _ 39 112 rfl Tryz.underlying50 blk_info lbZ_cells (by decide) (by decide) u8 i _ rfl rfl (by rw [List.size_toArray, LB.cells_length]) (fun u hu => LB.cells_one y u hu) HOa.out HBa.out.size (by omega)) ?_
          rintro v3 w3 ⟨ho3, hg3, hat3⟩
          refine ⟨(fun h => absurd (by decide) h), ?_, ?_, ?_⟩
          rotate_left
          · simp only [Act.put, List.setIfInBounds_toArray, List.set_cons_zero, List.set_cons_succ]
            rfl
          refine valD_ 9 (some 8) (bt 10 0) rfl rfl (by kernel_rfl) rfl (v3) (w3) (by go_simp) (fun h => absurd (by decide) h) (a' := ?_) ?_ ?_
          rotate_left
          · simp only [Act.put, List.setIfInBounds_toArray, List.set_cons_zero, List.set_cons_succ]
            rfl
          refine doneD_ (by kernel_rfl) ?_ _
          change Exit.inBlock _ _ _ _ _
          go_wp2
          go_roundw
          case rel => exact ⟨i + 1, by omega, by go_num, ⟨by rw [HTK.out, lbE.flat_append, lbE.flat_one]; exact ho3, below_grown_own HBa.out.drew HOa.out (Nat.le_refl _) HBa.out.size hg3⟩⟩
          case measure => simp [intOf]; omega
        · have hin : i = l.length := by omega
          subst hin
          obtain ⟨A8, c8, rfl⟩ : ∃ A c, u8 = .slice A l.length c := (Sl.of_own (E := lbE) (ys := (l.take l.length).map (getB D)) (by rw [List.length_map, List.length_take, Nat.min_self]; exact HR.out.own)).form.imp fun A h => h.imp fun c h => by rw [h.1, List.length_map, List.length_take, Nat.min_self]
          have HSL : Hid (Sl lbE (fun _ => True) wr (.slice A8 l.length c8) (l.map (getB D))) := Lib.hid ((Sl.of_own (E := lbE) (ys := l.map (getB D)) (by have := HR.out.own; rw [List.take_length] at this; rw [List.length_map]; exact this)).mono fun _ _ => trivial)
          have HOK : Hid (Okay (fun _ => True) wr (l.map (getB D))) := Lib.hid fun x hx => by
            have h1 := (HD2.out.below HR.out.below).okay HG.out HALL.out x hx
            exact ⟨Sl.mono h1.1 fun _ _ => trivial, h1.2⟩
          have HBW : Hid (Below w.heap.size w wr) := Lib.hid (HBB.out.trans (HR.out.below.mono HBB.out.size))
          have HG3 : Hid (wr.heap[w.heap.size]? = some (.cells #[.slice none 0 0] 52 (0, 0))) := Lib.hid ((HR.out.below.block _ (Array.getElem?_eq_some_iff.1 HG2.out).1).trans HG2.out)
          go_wp2_with (first
            | (go_at_call 92; refine (new_any _ _ _ _ HSL.out HOK.out).mono ?_; rintro e w5 ⟨ec, zs, t, hn, rfl, ht, hb5⟩; have HNW := Lib.hid hn; have HTT := Lib.hid ht; have HB5 : Hid (Below w.heap.size w w5) := Lib.hid (HBW.out.trans (hb5.mono HBW.out.size)); have HG5 : Hid (w5.heap[w.heap.size]? = some (.cells #[.slice none 0 0] 52 (0, 0))) := Lib.hid ((hb5.block _ (Array.getElem?_eq_some_iff.1 HG3.out).1).trans HG3.out); clear hn ht hb5)
            | (refine wpl_store_row rfl 52 (.tmp 4) (.tmp 43) rfl w.heap.size rfl [t] rfl _ 52 HG5.out rfl (by obtain ⟨A, c, hA, -⟩ := HTT.out.1.form; rw [hA]; simp [Value.oneCell']) tip_size ?_))
          (try simp only [Exit.inBlock, Exit.then])
          refine bodyPost_ret (results_row_tmp rfl _ _ w.heap.size 52 #[t] (0, 0) _ rfl (setRow_heap _ w.heap.size _ _ _ _ HG5.out) Tryz.underlying52 rfl tip_size _ rfl) rfl ?_
          refine ⟨below_setRow HB5.out (Nat.le_refl _) _, .inr ⟨l, HNF.out, .inr ⟨HALL.out, ec, zs, t, HNW.out, rfl, ?_⟩⟩⟩
          have hsz : w.heap.size < wr.heap.size := (Array.getElem?_eq_some_iff.1 HG3.out).1
          exact ⟨(HTT.out.1.fr (ok := fun k => wr.heap.size ≤ k) ⟨by simp, fun k hk _ => heap_setRow_ne _ _ _ _ (by omega)⟩).mono fun k hk => by omega, HTT.out.2⟩
    · obtain ⟨x, hx⟩ := List.exists_mem_of_ne_nil _ hm0
      have HX : Hid (∃ i ∈ l, hasB D i = false) := Lib.hid ⟨x, by rw [← HMS.out] at hx; exact (List.mem_filter.1 hx).1, by rw [← HMS.out, List.mem_filter] at hx; simpa using hx.2⟩
      have hml0 : 0 < ms.length := List.length_pos_iff.2 hm0
      clear hm0 hx
      go_wp2_with (first
        | (go_at_call 33; refine HM.out.mono ?_; rintro e w2 ⟨v2, rfl, ho2, hb2⟩; obtain ⟨A2, c2, rfl⟩ : ∃ A c, v2 = .slice A ms.length c := (Sl.of_own (E := idE) (ys := sortI ms) (by rw [(sortI_perm ms).length_eq]; exact ho2)).form.imp fun A h => h.imp fun c h => (by rw [h.1, (sortI_perm ms).length_eq]); have HB2 : Hid (Below w.heap.size w w2) := Lib.hid (HB1.out.trans (hb2.mono HB1.out.size)); have HG2 : Hid (w2.heap[w.heap.size]? = some (.cells #[.slice none 0 0] 52 (0, 0))) := Lib.hid ((hb2.block _ (Array.getElem?_eq_some_iff.1 HG1.out).1).trans HG1.out); clear ho2 hb2)
        | (refine wpl_store_row rfl 52 (.tmp 4) (.tmp 24) rfl w.heap.size rfl [.slice none 0 0] rfl _ 52 HG2.out rfl (by simp [Value.oneCell']) tip_size ?_))
      (try simp only [Exit.inBlock, Exit.then])
      refine bodyPost_ret (results_row_tmp rfl _ _ w.heap.size 52 #[.slice none 0 0] (0, 0) _ rfl (setRow_heap _ w.heap.size _ _ _ _ HG2.out) Tryz.underlying52 rfl tip_size _ rfl) rfl ?_
      exact ⟨below_setRow HB2.out (Nat.le_refl _) _, .inr ⟨l, HNF.out, .inl ⟨HX.out, rfl⟩⟩⟩
end Go.Proofs.YtcohdfkdhdhegaaGreatDoor
namespace Go.Proofs.YtcohdfkdhdhegaaGreatDoor
open Go.RowKit Go.Maps

def hdrs (D : List LB) : List Hdr := D.map fun x => x.x.h
theorem valsD_get {D : List LB} (hid : ∀ x ∈ D, x.id = hdrID x.x.h) {l : List ID} (hall : ∀ i ∈ l, hasB D i = true) : vals (l.map (getB D)) = l.filterMap fun i => (getG (hdrs D) i).map blkG := by
  induction l with
  | nil => rfl
  | cons i l ih =>
    have h1 := hall i (List.mem_cons_self)
    have h2 := ih fun j hj => hall j (List.mem_cons_of_mem _ hj)
    have h3 : getG (hdrs D) i = some (getB D i).x.h := getB_G hid i h1
    have h4 := getB_mem h1
    rw [List.filterMap_cons, h3]
    simp only [Option.map_some, List.map_cons]
    show LB.val (getB D i) :: vals (l.map (getB D)) = _
    rw [h2]
    congr 1
    show ((getB D i).id, (getB D i).x.h) = (hdrID (getB D i).x.h, (getB D i).x.h)
    rw [hid _ h4.1]
theorem ids_get {D : List LB} {l : List ID} (hall : ∀ i ∈ l, hasB D i = true) : (l.map (getB D)).map LB.id = l := by
  rw [List.map_map]
  conv => rhs; rw [← List.map_id l]
  refine List.map_congr_left fun i hi => ?_
  exact (getB_mem (hall i hi)).2
theorem newed_tipG {D : List LB} (hid : ∀ x ∈ D, x.id = hdrID x.x.h) {l : List ID} (hr : riseB l = true) (h5 : l.length ≤ 5) (hall : ∀ i ∈ l, hasB D i = true) {ec : Int} {zs : List LB} (hn : Newed (l.map (getB D)) ec zs) : (ec, vals zs) = tipG (hdrs D) l := by
  have hh : l.all (hasG (hdrs D)) = true := List.all_eq_true.2 fun i hi => by
    have := hall i hi
    rw [hasB_G hid] at this
    exact this
  have hv := valsD_get hid hall
  rcases hn with ⟨h5', -, -⟩ | ⟨-, z, hp, hrz, hz⟩
  · rw [List.length_map] at h5'; omega
  have hzi : z.map LB.id = l := by rw [sorted_ids hp hrz, ids_get hall, sortI_rise hr]
  have hval : vals z = vals (l.map (getB D)) := by
    refine pairs_eq (hp.map LB.val) ?_ ?_
    · have e : ∀ m : List LB, (vals m).map Prod.fst = m.map LB.id := fun m => by simp [vals, LB.val, Function.comp_def]
      rw [e, e, hzi, ids_get hall]
    · have e : ∀ m : List LB, (vals m).map Prod.fst = m.map LB.id := fun m => by simp [vals, LB.val, Function.comp_def]
      rw [e, hzi]
      exact rise_nodup hr
  have htip : tipB (vals (l.map (getB D))) = goodB z := by rw [tipB_vals, goodB_vals hval]
  unfold tipG
  rw [if_pos hh, ← hv, htip]
  rcases hz with ⟨hg, rfl, rfl⟩ | ⟨hg, rfl, rfl⟩
  · rw [if_pos hg, hval]
  · rw [if_neg (by rw [hg]; decide)]
    rfl
theorem miss_tipG {D : List LB} (hid : ∀ x ∈ D, x.id = hdrID x.x.h) {l : List ID} (h : ∃ i ∈ l, hasB D i = false) : tipG (hdrs D) l = (7, []) := by
  obtain ⟨i, hi, hf⟩ := h
  unfold tipG
  rw [if_neg]
  intro ha
  have := List.all_eq_true.1 ha i hi
  rw [hasB_G hid] at hf
  rw [show hasG (hdrs D) i = false from hf] at this
  cases this
/-- A key's tipset. -/
theorem dtip_names (w : World) (p b1 b2 : Nat) (D : List LB) (ok : Nat → Prop) (h : DagAt ok w p b1 b2 D) (hG : ∀ x ∈ D, x.x.h.Ok ∧ x.x.h.parents.Nodup) (l : List ID) (hr : riseB l = true) (h1 : 1 ≤ l.length) (h5 : l.length ≤ 5) :
    Calls Tryz.prog 25 #[.pointer (some ⟨p, 0, none⟩), .string (keyB l)] w fun e w' => ∃ ec zs t, (ec, vals zs) = tipG (hdrs D) l ∧ e = .returned (.tuple #[tipV t, .int .i64 ec]) ∧ TipAt (fun k => w.heap.size ≤ k) w' t zs ∧ Below w.heap.size w w' := by
  have hz := keyB_size l
  refine (dtip_any w p b1 b2 D ok h hG (keyB l) (by omega)).mono fun e w' ⟨hb, hc⟩ => ?_
  have hk := namesF_key hr h1 h5
  rcases hc with ⟨hn, -⟩ | ⟨l', hn, hc⟩
  · rw [hk] at hn; cases hn
  · rw [hk] at hn
    cases hn
    rcases hc with ⟨hm, rfl⟩ | ⟨hall, ec, zs, t, hn, rfl, ht⟩
    · exact ⟨7, [], .slice none 0 0, (miss_tipG h.ids hm).symm, rfl, ⟨Sl.nil _ _ _, by simp⟩, hb⟩
    · exact ⟨ec, zs, t, newed_tipG h.ids hr h5 hall hn, rfl, ht, hb⟩
theorem check_parts {h : Hdr} (e : checkH h = 0) : riseB h.parents = true ∧ 1 ≤ h.parents.length ∧ h.parents.length ≤ 5 := by
  unfold checkH at e
  split at e
  · cases e
  · split at e
    · rename_i h5 hc
      exact ⟨hc.2.2.2.2.2.2.2, by have := hc.2.2.2.2.2.2.1; omega, by omega⟩
    · cases e
/-- What a header that is asked for is, in any case. -/
structure Wide (h : Hdr) : Prop where
  p0 : 0 ≤ h.power
  ticket : h.ticket.size ≤ 4294967296
  parents : h.parents.length ≤ 4294967296
theorem check_ok {h : Hdr} (e : checkH h = 0) : h.Ok := by
  unfold checkH at e
  split at e
  · cases e
  · split at e
    · rename_i h5 hc
      obtain ⟨⟨a1, a2⟩, ⟨b1, b2⟩, ⟨c1, c2⟩, ⟨d1, d2⟩, ⟨e1, e2⟩, ⟨f1, f2⟩, -, -⟩ := hc
      exact ⟨⟨by omega, by omega⟩, ⟨by omega, by omega⟩, ⟨by omega, by omega⟩, ⟨by omega, by omega⟩, by omega, f2, by omega, by omega⟩
    · cases e
theorem Hdr.Ok.wide {h : Hdr} (k : h.Ok) : Wide h := ⟨k.p0, Nat.le_trans k.ticket (by decide), Nat.le_trans k.parents (by decide)⟩
theorem height_vals (zs : List LB) : (firstL zs).x.h.height = heightV (vals zs) := by
  cases zs with
  | nil => rfl
  | cons z zs => rfl
/-- What lies while a header is looked at. -/
structure ChkS (w W : World) (p b1 b2 : Nat) (D : List LB) (ok okx : Nat → Prop) (x : LH) : Prop where
  dag : DagAt ok W p b1 b2 D
  at_ : x.At okx W
  tab : Tab W
  box : W.heap[w.heap.size]? = some (.cells x.cells.toArray 41 (0, 0))
  below : Below w.heap.size w W
theorem ChkS.next {w W W' : World} {p b1 b2 : Nat} {D : List LB} {ok okx : Nat → Prop} {x : LH} (h : ChkS w W p b1 b2 D ok okx x) (hb : Below W.heap.size W W') : ChkS w W' p b1 b2 D ok okx x where
  dag := h.dag.below hb
  at_ := Sl.below h.at_ hb
  tab := h.tab.below hb
  box := (hb.block _ (Array.getElem?_eq_some_iff.1 h.box).1).trans h.box
  below := h.below.trans (hb.mono h.below.size)
theorem ChkS.start {w : World} {p b1 b2 : Nat} {D : List LB} {ok okx : Nat → Prop} {x : LH} (h : DagAt ok w p b1 b2 D) (hx : x.At okx w) (ht : Tab w) : ChkS w (w.alloc (.cells x.cells.toArray 41)) p b1 b2 D ok okx x where
  dag := h.below ((Below.refl _ w).alloc (Nat.le_refl _) _)
  at_ := Sl.below hx ((Below.refl _ w).alloc (Nat.le_refl _) _)
  tab := ht.below ((Below.refl _ w).alloc (Nat.le_refl _) _)
  box := heap_alloc_new w _
  below := (Below.refl _ w).alloc (Nat.le_refl _) _
theorem ChkS.cells {w W : World} {p b1 b2 : Nat} {D : List LB} {ok okx : Nat → Prop} {x : LH} (h : ChkS w W p b1 b2 D ok okx x) : ∀ j u, x.cells[j]? = some u → W.cell? ⟨w.heap.size, 0 + j, none⟩ = some u := fun j u hu => by
  rw [Nat.zero_add]; exact cell_block h.box (by simpa using hu)

set_option maxRecDepth 100000 in
set_option maxHeartbeats 2000000 in
theorem dcheck_any (w : World) (p b1 b2 : Nat) (D : List LB) (ok : Nat → Prop) (h : DagAt ok w p b1 b2 D) (hG : ∀ x ∈ D, x.x.h.Ok ∧ x.x.h.parents.Nodup) (x : LH) (okx : Nat → Prop) (hx : x.At okx w) (hok : Wide x.h) (ht : Tab w) :
    Calls Tryz.prog 18 #[.pointer (some ⟨p, 0, none⟩), .agg x.cells.toArray] w fun e w' => e = .returned (.int .i64 (checkG (hdrs D) x.h)) ∧ Below w.heap.size w w' := by
  have HS0 := Lib.hid (ChkS.start h hx ht)
  have HG := Lib.hid hG
  have HOK := Lib.hid hok
  clear h hG hx hok ht
  go_enter Tryz.func18, Tryz.ntmps18
  go_upto_region 1 with fail
  change Code.wp _ _ _ _ (w.alloc (.cells x.cells.toArray 41))
  generalize w.alloc (.cells x.cells.toArray 41) = W0 at HS0 ⊢
  have HC := Lib.hid (check_any W0 x okx HS0.out.at_ HOK.out.parents HOK.out.p0 HOK.out.ticket)
  obtain ⟨ce, hce⟩ : ∃ ce, checkH x.h = ce := ⟨_, rfl⟩
  rw [hce] at HC
  by_cases hce0 : ce = 0
  · subst hce0
    obtain ⟨hri, hp1, hp5⟩ := check_parts hce
    have HOK := Lib.hid (check_ok hce)
    have HCE := Lib.hid hce
    have HRI := Lib.hid hri
    clear hce hri
    go_upto_region 4 with (first
      | (refine wpl_load rfl 41 (.tmp 3) rfl w.heap.size 0 rfl x.cells _ HS0.out.cells Tryz.underlying41 rfl hdr_size ?_)
      | (go_at_call 90; refine HC.out.mono ?_; rintro e w1 ⟨rfl, hb1⟩; have HS1 := Lib.hid (HS0.out.next hb1); clear hb1))
    obtain ⟨i, hi⟩ : ∃ i, hdrID x.h = i := ⟨_, rfl⟩
    have HID := Lib.hid (id_any w1 x okx HS1.out.at_ HOK.out HS1.out.tab)
    rw [hi] at HID
    have HI := Lib.hid hi
    clear hi
    have hhG : hasB D i = hasG (hdrs D) i := hasB_G HS1.out.dag.ids i
    by_cases hh : hasB D i = true
    · have HR : Hid (checkG (hdrs D) x.h = 9) := Lib.hid (by unfold checkG; rw [HCE.out, if_neg (by decide), HI.out, ← hhG, hh, if_pos rfl])
      clear hhG
      go_wp2_with (first
        | (refine wpl_load rfl 41 (.tmp 3) rfl w.heap.size 0 rfl x.cells _ HS1.out.cells Tryz.underlying41 rfl hdr_size ?_)
        | (go_at_call 37; refine HID.out.mono ?_; rintro e w2 ⟨rfl, hb2⟩; have HS2 := Lib.hid (HS1.out.next hb2); clear hb2)
        | (go_at_call 36; refine (dhas_any _ p b1 b2 D ok HS2.out.dag i).mono ?_; rintro e w3 ⟨rfl, hb3⟩; rw [hh]; have HS3 := Lib.hid (HS2.out.next hb3); clear hb3))
      go_ret
      exact ⟨by rw [HR.out]; rfl, HS3.out.below⟩
    · have hh : hasB D i = false := by simpa using hh
      have HHG : Hid (hasG (hdrs D) i = false) := Lib.hid (by rw [← hhG]; exact hh)
      clear hhG
      obtain ⟨⟨height, miner, ticket, wins, power, parents, salt⟩, A, c⟩ := x
      simp only at hp1 hp5
      go_upto_region 6 with (first
        | (refine wpl_load rfl 41 (.tmp 3) rfl w.heap.size 0 rfl (LH.cells ⟨⟨height, miner, ticket, wins, power, parents, salt⟩, A, c⟩) _ HS1.out.cells Tryz.underlying41 rfl hdr_size ?_)
        | (go_at_call 37; refine HID.out.mono ?_; rintro e w2 ⟨rfl, hb2⟩; have HS2 := Lib.hid (HS1.out.next hb2); clear hb2)
        | (go_at_call 36; refine (dhas_any _ p b1 b2 D ok HS2.out.dag i).mono ?_; rintro e w3 ⟨rfl, hb3⟩; rw [hh]; have HS3 := Lib.hid (HS2.out.next hb3); clear hb3))
      have hc5 : w3.cell? ⟨w.heap.size, 5, none⟩ = some (.slice A parents.length c) := cell_block HS3.out.box rfl
      go_upto_region 7 with (first
        | (go_at_call 40; refine (key_any _ (.slice A parents.length c) parents okx HS3.out.at_ (by omega) (rise_nodup HRI.out)).mono ?_; rintro e w4 ⟨rfl, hb4⟩; have HS4 := Lib.hid (HS3.out.next hb4); clear hb4)
        | (go_at_call 25; refine (dtip_names _ p b1 b2 D ok HS4.out.dag HG.out parents HRI.out hp1 hp5).mono ?_; rintro e w5 ⟨ec, zs, t, htg, rfl, ht, hb5⟩; have HS5 := Lib.hid (HS4.out.next hb5); have HTG := Lib.hid htg; have HTT := Lib.hid ht; have HTN : Hid (t.oneCell' = true) := Lib.hid (by obtain ⟨A, c, hA, -⟩ := ht.1.form; rw [hA]; rfl); clear hb5 htg ht)
        | (refine wpl_store_new rfl 52 _ _ rfl rfl [t] rfl _ _ rfl (by intro u hu; obtain rfl := List.mem_singleton.1 hu; exact HTN.out) tip_size ?_))
      have hb6 : Below w5.heap.size w5 (w5.alloc (.cells #[t] 52)) := (Below.refl _ _).alloc (Nat.le_refl _) _
      have HS6 := Lib.hid (HS5.out.next hb6)
      have HG6 : Hid ((w5.alloc (.cells #[t] 52)).heap[w5.heap.size]? = some (.cells #[t] 52 (0, 0))) := Lib.hid (heap_alloc_new w5 _)
      have HT6 := Lib.hid (HTT.out.below hb6)
      clear hb6 hc5
      change Code.wp _ _ _ _ (w5.alloc (.cells #[t] 52))
      generalize w5.alloc (.cells #[t] 52) = W6 at HS6 HG6 HT6 ⊢
      generalize w5.heap.size = g6 at HG6 ⊢
      have hcg : checkG (hdrs D) ⟨height, miner, ticket, wins, power, parents, salt⟩ = if ec = 15 then 10 else if ec ≠ 0 then ec else if heightV (vals zs) ≥ height then 11 else 0 := by
        have h1 : checkH ⟨height, miner, ticket, wins, power, parents, salt⟩ = 0 := HCE.out
        have h2 : hdrID ⟨height, miner, ticket, wins, power, parents, salt⟩ = i := HI.out
        unfold checkG
        rw [h1, if_neg (by decide), h2, HHG.out, if_neg (by decide), ← HTG.out]
      by_cases h15 : ec = 15
      · subst h15
        have HR : Hid (checkG (hdrs D) ⟨height, miner, ticket, wins, power, parents, salt⟩ = 10) := Lib.hid (by rw [hcg, if_pos rfl])
        clear hcg
        go_wp2
        go_ret
        exact ⟨by show _ = Ending.returned (.int .i64 (checkG (hdrs D) ⟨height, miner, ticket, wins, power, parents, salt⟩)); rw [HR.out]; rfl, HS6.out.below⟩
      · by_cases h0 : ec = 0
        · subst h0
          obtain ⟨hv, hhv⟩ : ∃ hv, (firstL zs).x.h.height = hv := ⟨_, rfl⟩
          rw [if_neg (by decide), if_neg (by decide), ← height_vals, hhv] at hcg
          have HHV := Lib.hid hhv
          clear hhv h15
          obtain ⟨bg, hbg⟩ : ∃ bg, decide (height ≤ hv) = bg := ⟨_, rfl⟩
          have HCG : Hid (checkG (hdrs D) ⟨height, miner, ticket, wins, power, parents, salt⟩ = if bg then 11 else 0) := Lib.hid (by rw [hcg, ← hbg]; by_cases hq : height ≤ hv <;> simp [hq])
          clear hcg
          have HSS := Lib.hid (show ChkS w W6.drew p b1 b2 D ok okx ⟨⟨height, miner, ticket, wins, power, parents, salt⟩, A, c⟩ ∧ W6.drew.heap[g6]? = some (.cells #[t] 52 (0, 0)) ∧ TipAt (fun k => w4.heap.size ≤ k) W6.drew t zs from ⟨HS6.out.next (Below.refl _ _).drew, HG6.out, HT6.out.below (Below.refl _ _).drew⟩)
          go_upto_region 11 with fail
          refine st_ (S := (fun W' => ChkS w W' p b1 b2 D ok okx ⟨⟨height, miner, ticket, wins, power, parents, salt⟩, A, c⟩ ∧ W'.heap[g6]? = some (.cells #[t] 52 (0, 0)) ∧ TipAt (fun k => w4.heap.size ≤ k) W' t zs)) 6 (bt 0 6) (by kernel_rfl) rfl (by rfl) HSS.out (fun hHeld => ?_)
          refine tk_ 0 (some 33) (bt 1 5) rfl rfl (by kernel_rfl) (fun _ _ _ h => h) (yieldsIf_load rfl 52 (.tmp 6) rfl g6 0 rfl [t] _ (fun W' h j u hu => by rw [Nat.zero_add]; exact cell_block h.2.1 (by simpa using hu)) Tryz.underlying52 rfl tip_size) hHeld (a' := ?_) ?_ ?_
          rotate_left
          · simp only [Act.put, List.setIfInBounds_toArray, List.set_cons_zero, List.set_cons_succ]
            rfl
          refine tk_ 2 (some 35) #[true, false, true, false, false, false] (v := ?_) (a' := ?_) rfl rfl (by kernel_rfl) (fun _ _ _ h => h) (yieldsIf_run rfl ?_) hHeld ?_ ?_
          rotate_left
          · intro w'
            go_simp
            with_reducible rfl
          rotate_left
          · simp only [Act.put, List.setIfInBounds_toArray, List.set_cons_zero, List.set_cons_succ]
            rfl
          refine tk_ 3 (some 36) #[true, false, true, true, false, false] rfl rfl (by kernel_rfl) (fun _ _ _ h => h) (yieldsIf_cell rfl 3 (.tmp 35) rfl ⟨w.heap.size, 0, none⟩ rfl (.int .i64 height) _ (fun W' h => cell_block h.1.box rfl) Tryz.underlying3 rfl) hHeld (a' := ?_) ?_ ?_
          rotate_left
          · simp only [Act.put, List.setIfInBounds_toArray, List.set_cons_zero, List.set_cons_succ]
            rfl
          refine call_ 1 (some 34) (bt 4 2) rfl rfl (by kernel_rfl) rfl 41 _ (by kernel_rfl) (height_any _ t zs _ hHeld.2.2) ?_
          rintro e w7 ⟨rfl, hb7⟩
          rw [HHV.out]
          refine ⟨_, rfl, ⟨hHeld.1.next hb7, (hb7.block g6 (Array.getElem?_eq_some_iff.1 hHeld.2.1).1).trans hHeld.2.1, hHeld.2.2.below hb7⟩, fun hHeld => ⟨?_, ?_, ?_⟩⟩
          rotate_left
          · simp only [Act.put, List.setIfInBounds_toArray, List.set_cons_zero, List.set_cons_succ]
            rfl
          refine tk_ 4 (some 37) (bt 5 1) (v := ?_) (a' := ?_) rfl rfl (by kernel_rfl) (fun _ _ _ h => h) (yieldsIf_run rfl ?_) hHeld ?_ ?_
          rotate_left
          · intro w'
            go_simp
            with_reducible rfl
          rotate_left
          · simp only [Act.put, List.setIfInBounds_toArray, List.set_cons_zero, List.set_cons_succ]
            rfl
          refine tk_ 5 (some 32) (bt 6 0) (v := ?_) (a' := ?_) rfl rfl (by kernel_rfl) (fun _ _ _ h => h) (yieldsIf_run rfl ?_) hHeld ?_ ?_
          rotate_left
          · intro w'
            go_simp
            with_reducible rfl
          rotate_left
          · simp only [Act.put, List.setIfInBounds_toArray, List.set_cons_zero, List.set_cons_succ]
            rfl
          refine wpAnyH_done (by kernel_rfl) ?_ _
          change Exit.then _ _ _ _ _
          cases bg with
          | true =>
            have hle : height ≤ hv := of_decide_eq_true hbg
            go_wp2
            go_ret
            exact ⟨by show _ = Ending.returned (.int .i64 (checkG (hdrs D) ⟨height, miner, ticket, wins, power, parents, salt⟩)); rw [HCG.out]; rfl, hHeld.1.below⟩
          | false =>
            have hle : ¬ height ≤ hv := of_decide_eq_false hbg
            go_wp2
            go_ret
            exact ⟨by show _ = Ending.returned (.int .i64 (checkG (hdrs D) ⟨height, miner, ticket, wins, power, parents, salt⟩)); rw [HCG.out]; rfl, hHeld.1.below⟩
        · have HR : Hid (checkG (hdrs D) ⟨height, miner, ticket, wins, power, parents, salt⟩ = ec) := Lib.hid (by rw [hcg, if_neg h15, if_pos h0])
          clear hcg
          have h15b : (ec == 15) = false := by simpa using h15
          have h0b : (ec != 0) = true := by simpa using h0
          go_wp2
          go_ret
          exact ⟨by show _ = Ending.returned (.int .i64 (checkG (hdrs D) ⟨height, miner, ticket, wins, power, parents, salt⟩)); rw [HR.out]; rfl, HS6.out.below⟩
  · have HCE := Lib.hid hce
    have hne : (ce != 0) = true := by simpa using hce0
    have HR : Hid (checkG (hdrs D) x.h = ce) := Lib.hid (by unfold checkG; rw [hce, if_pos hce0])
    clear hce
    go_wp2_with (first
      | (refine wpl_load rfl 41 (.tmp 3) rfl w.heap.size 0 rfl x.cells _ HS0.out.cells Tryz.underlying41 rfl hdr_size ?_)
      | (go_at_call 90; refine HC.out.mono ?_; rintro e w1 ⟨rfl, hb1⟩))
    go_ret
    exact ⟨by rw [HR.out]; rfl, HS0.out.below.trans (hb1.mono HS0.out.below.size)⟩
end Go.Proofs.YtcohdfkdhdhegaaGreatDoor
