/- coxswainlaw13.Is: a dag and the document's list have the same names. -/
import Derived.Test.YtcohdfkdhdhegaaGreatDoorPbAA
import Derived.Test.YtcohdfkdhdhegaaGreatDoorPbAB
import Derived.Test.YtcohdfkdhdhegaaGreatDoorPbAC
import Derived.Test.YtcohdfkdhdhegaaGreatDoorPbAD
import Derived.Test.YtcohdfkdhdhegaaGreatDoorPbAE
import Derived.Test.YtcohdfkdhdhegaaGreatDoorPbAF
import Derived.Test.YtcohdfkdhdhegaaGreatDoorPbAG
import Derived.Test.YtcohdfkdhdhegaaGreatDoorPbAH
import Derived.Test.YtcohdfkdhdhegaaGreatDoorPbAI
import Derived.Test.YtcohdfkdhdhegaaGreatDoorPbAJ
import Derived.Test.YtcohdfkdhdhegaaGreatDoorPbAK
import Derived.Test.YtcohdfkdhdhegaaGreatDoorPbAL
import Derived.Test.YtcohdfkdhdhegaaGreatDoorPbAM
import Derived.Test.YtcohdfkdhdhegaaGreatDoorPbAN
import Derived.Test.YtcohdfkdhdhegaaGreatDoorPbAO
import Derived.Test.YtcohdfkdhdhegaaGreatDoorPbAP
import Derived.Test.YtcohdfkdhdhegaaGreatDoorPbAQ
import Derived.Test.YtcohdfkdhdhegaaGreatDoorPbAR
import Derived.Test.YtcohdfkdhdhegaaGreatDoorPbAS
import Derived.Test.YtcohdfkdhdhegaaGreatDoorPbAT
import Derived.Test.YtcohdfkdhdhegaaGreatDoorPbAU
import Derived.Test.YtcohdfkdhdhegaaGreatDoorPbAV
import Derived.Test.YtcohdfkdhdhegaaGreatDoorPbAW
import Derived.Test.YtcohdfkdhdhegaaGreatDoorPbAX
import Derived.Test.YtcohdfkdhdhegaaGreatDoorPbAY
import Derived.Test.YtcohdfkdhdhegaaGreatDoorPbAZ
import Derived.Test.YtcohdfkdhdhegaaGreatDoorPbBA
import Derived.Test.YtcohdfkdhdhegaaGreatDoorPbBB
import Derived.Test.YtcohdfkdhdhegaaGreatDoorPbBC
import Derived.Test.YtcohdfkdhdhegaaGreatDoorPbBD
import Derived.Test.YtcohdfkdhdhegaaGreatDoorPbBJ
import Derived.Test.YtcohdfkdhdhegaaGreatDoorPeAA
import Derived.Test.YtcohdfkdhdhegaaGreatDoorPeAB
namespace Go.Proofs.YtcohdfkdhdhegaaGreatDoor
open Go.RowKit Go.Maps

theorem le_not_lt {s t : ByteArray} (h : leS s t = true) (h' : ltS s t = false) : s = t := by
  unfold leS at h
  unfold ltS at h'
  rw [h', Bool.false_or, beq_iff_eq, ByteArray.toList_eq, ByteArray.toList_eq] at h
  exact ByteArray.ext (Array.toList_inj.1 h)
theorem insT_all (s : ByteArray) : ∀ l : List ByteArray, ∀ x, x = s ∨ x ∈ l → x ∈ insT s l
  | [], x, hx => by simpa [insT] using hx
  | t :: l, x, hx => by
    rw [insT]
    split
    · rename_i hle
      split
      · rcases hx with rfl | hx
        · exact List.mem_cons_self
        · exact List.mem_cons_of_mem _ hx
      · rename_i hlt
        have he := le_not_lt hle (by simpa using hlt)
        rcases hx with rfl | hx
        · rw [he]; exact List.mem_cons_self
        · exact hx
    · rcases hx with rfl | hx
      · exact List.mem_cons_of_mem _ (insT_all _ l _ (.inl rfl))
      · rcases List.mem_cons.1 hx with rfl | hx
        · exact List.mem_cons_self
        · exact List.mem_cons_of_mem _ (insT_all _ l _ (.inr hx))
theorem foldT_all (l : List ByteArray) : ∀ o : List ByteArray, ∀ x, x ∈ o ∨ x ∈ l → x ∈ l.foldl (fun o s => insT s o) o := by
  induction l with
  | nil => intro o x hx; exact hx.elim id fun h => by cases h
  | cons s l ih =>
    intro o x hx
    rw [List.foldl_cons]
    refine ih _ x ?_
    rcases hx with hx | hx
    · exact .inl (insT_all s o x (.inr hx))
    · rcases List.mem_cons.1 hx with rfl | hx
      · exact .inl (insT_all _ o _ (.inl rfl))
      · exact .inr hx
theorem sortT_all (l : List ByteArray) : ∀ x ∈ l, x ∈ sortT l := fun x hx => foldT_all l [] x (.inr hx)
theorem sortT_ids {l : List ID} (hnd : l.Nodup) : sortT (l.map Subtype.val) = (sortI l).map Subtype.val := by
  have hlt : ((sortI l).map Subtype.val).Pairwise fun a b => ltS a b = true := by
    have h1 := sortI_rises l
    have h2 : (sortI l).Nodup := (sortI_perm l).nodup_iff.2 hnd
    refine List.pairwise_map.2 ((List.Pairwise.and h1 h2).imp fun {a b} hab => ?_)
    rw [lt_name a.2 b.2, Subtype.ext (idOf_self a.1 a.2), Subtype.ext (idOf_self b.1 b.2)]
    have h3 : cmpI a b ≠ 0 := fun e => hab.2 (cmpI_zero a b e)
    have := hab.1
    exact decide_eq_true (by omega)
  refine List.Perm.eq_of_pairwise (le := fun a b => ltS a b = true) (fun a b _ _ h h' => ?_) (sortT_rises _) hlt ?_
  · have := ltS_trans h h'; rw [ltS_irrefl] at this; cases this
  · refine (List.perm_ext_iff_of_nodup (sortT_nodup _) (hlt.imp fun {a b} h e => by subst e; rw [ltS_irrefl] at h; cases h)).2 fun x => ?_
    constructor
    · intro hx
      obtain ⟨y, hy, rfl⟩ := List.mem_map.1 (sortT_mem _ x hx)
      exact List.mem_map.2 ⟨y, (sortI_perm l).mem_iff.2 hy, rfl⟩
    · intro hx
      obtain ⟨y, hy, rfl⟩ := List.mem_map.1 hx
      exact sortT_all _ _ (List.mem_map.2 ⟨y, (sortI_perm l).mem_iff.1 hy, rfl⟩)
/-- The names of a list. -/
def namesL (L : List LRH) : List ByteArray := L.map fun y => (rid y.h).1
theorem Both.names {D : List LB} {L : List LRH} (h : Both D L) (hi : ∀ x ∈ D, x.id = hdrID x.x.h) : namesL L = (D.map LB.id).map Subtype.val := by
  have h1 : D.map LB.id = (hdrs D).map hdrID := by
    unfold hdrs
    rw [List.map_map]
    exact List.map_congr_left fun x hx => hi x hx
  rw [h1, h.same]
  unfold namesL rhs
  rw [List.map_map, List.map_map, List.map_map]
  exact List.map_congr_left fun y hy => by
    show (rid y.h).1 = (hdrID (hdrOf y.h)).1
    rw [(h.inl y hy).1.id]
theorem Both.nodup {D : List LB} {L : List LRH} (h : Both D L) (hi : ∀ x ∈ D, x.id = hdrID x.x.h) : (D.map LB.id).Nodup := by
  have h1 : D.map LB.id = (hdrs D).map hdrID := by
    unfold hdrs
    rw [List.map_map]
    exact List.map_congr_left fun x hx => hi x hx
  rw [h1]
  exact h.good.nodup

/-- What lies while a block is looked at. -/
structure LookI (W0 W : World) (bn q bb : Nat) (i : ID) (y : LB) (p b1 b2 : Nat) (D : List LB) : Prop where
  low : bn < W0.heap.size
  name : ∀ j u, (idc i)[j]? = some u → W.cell? ⟨bn, q + j, none⟩ = some u
  blk : W.heap[bb]? = some (.cells y.cells.toArray 71 (0, 0))
  at_ : y.x.At (fun _ => True) W
  dag : DagAt (fun _ => True) W p b1 b2 D
  tab : Tab W
  below : Below W0.heap.size W0 W
theorem LookI.next {W0 W W' : World} {bn q bb : Nat} {i : ID} {y : LB} {p b1 b2 : Nat} {D : List LB} (h : LookI W0 W bn q bb i y p b1 b2 D) (hb : Below W.heap.size W W') : LookI W0 W' bn q bb i y p b1 b2 D where
  low := h.low
  name := fun j u hu => (hb.cell (p := ⟨bn, q + j, none⟩) (Nat.lt_of_lt_of_le h.low h.below.size)).trans (h.name j u hu)
  blk := (hb.block _ (Array.getElem?_eq_some_iff.1 h.blk).1).trans h.blk
  at_ := Sl.below h.at_ hb
  dag := h.dag.below hb
  tab := h.tab.below hb
  below := h.below.trans (hb.mono h.below.size)

theorem namesL_snoc (L : List LRH) (i : Nat) (x : LRH) (hx : L[i]? = some x) : namesL (L.take (i + 1)) = namesL (L.take i) ++ [(rid x.h).1] := by
  unfold namesL
  rw [List.take_add_one, hx, List.map_append]
  rfl

set_option maxRecDepth 100000 in
set_option maxHeartbeats 4000000 in
theorem is_any (w : World) (p b1 b2 : Nat) (D : List LB) (ok okl : Nat → Prop) (h : DagAt ok w p b1 b2 D) (hf : FineD D) (vl : Value) (L : List LRH) (hB : Both D L) (hl : Sl rbE okl w vl L) (hL : L.length ≤ 100) (ht : Tab w) :
    Calls Tryz.prog 23 #[.pointer (some ⟨p, 0, none⟩), vl] w fun e w' => e = .returned (.bool true) ∧ Below w.heap.size w w' := by
  obtain ⟨A, c, rfl, hc, hm⟩ := hl.form
  have hnd := hB.nodup h.ids
  have hDL : D.length = L.length := by have := congrArg List.length hB.same; simpa [hdrs, rhs] using this
  obtain ⟨ids, hids⟩ : ∃ ids, sortI (D.map LB.id) = ids := ⟨_, rfl⟩
  obtain ⟨n, hn⟩ : ∃ n, D.length = n := ⟨_, rfl⟩
  have hn100 : n ≤ 100 := by omega
  have hil : ids.length = n := by rw [← hids, (sortI_perm _).length_eq, List.length_map]; exact hn
  have hsort : sortT (namesL L) = ids.map Subtype.val := by rw [hB.names h.ids, sortT_ids hnd, hids]
  have hmem : ∀ i ∈ ids, hasB D i = true := fun i hi => by
    rw [← hids] at hi
    obtain ⟨x, hx, hxi⟩ := List.mem_map.1 ((sortI_perm _).mem_iff.1 hi)
    unfold hasB
    exact List.any_eq_true.2 ⟨x, hx, by simpa using hxi⟩
  have HD : Hid (DagAt (fun _ => True) w p b1 b2 D) := Lib.hid (h.mono fun _ _ => trivial)
  have HSORT : Hid (∀ W v okv, Sl strE okv W v (namesL L) → Calls Tryz.prog 24 #[v] W fun e w' => ∃ A c, e = .returned (.slice A n c) ∧ Sl strE (fun _ => True) w' (.slice A n c) (ids.map Subtype.val) ∧ Below W.heap.size W w') := Lib.hid fun W v okv hv => (sort_str W v (namesL L) okv hv (by unfold namesL; rw [List.length_map]; omega)).mono fun e w' ⟨v', he, hr, hb⟩ => by
    rw [hsort] at hr
    obtain ⟨A, c, rfl, -⟩ := own_slice hr
    have hlen : (ids.map Subtype.val).length = n := by rw [List.length_map]; exact hil
    rw [hlen] at he hr
    refine ⟨A, c, he, Sl.mono (StrRow.sl (base := W.heap.size) hr) fun _ _ => trivial, hb⟩
  have HBLOCKS : Hid (∀ W, DagAt (fun _ => True) W p b1 b2 D → Calls Tryz.prog 38 #[.pointer (some ⟨p, 0, none⟩)] W fun e w' => ∃ A c, e = .returned (.slice A n c) ∧ Sl idE (fun _ => True) w' (.slice A n c) ids ∧ Below W.heap.size W w') := Lib.hid fun W hd => (dnames_any W p b1 b2 D _ hd hnd (by omega)).mono fun e w' ⟨v', he, hr, hb⟩ => by
    obtain ⟨A, c, rfl, -⟩ := own_slice hr
    rw [hn] at he hr
    rw [hids] at hr
    exact ⟨A, c, he, Sl.mono (Sl.of_own (E := idE) (ys := ids) (by rw [hil]; exact hr)) fun _ _ => trivial, hb⟩
  have HLEN : Hid (∀ W, DagAt (fun _ => True) W p b1 b2 D → Calls Tryz.prog 22 #[.pointer (some ⟨p, 0, none⟩)] W fun e w' => e = .returned (.int .i64 n) ∧ W = w') := Lib.hid fun W hd => by have := dlen_any W p b1 b2 D _ hd; rwa [hn] at this
  have HMEM := Lib.hid hmem
  have HF := Lib.hid hf
  have HT := Lib.hid ht
  have HLW := Lib.hid hl
  have HIL := Lib.hid hil
  clear h hf hl ht hnd hids hsort hmem hil hn hDL hB
  go_enter Tryz.func23, Tryz.ntmps23
  go_wp2
  go_loopw [5, 15] (fun c5 c15 W => ∃ i : Nat, i ≤ L.length ∧ c15 = .int .i64 (i : Int) ∧ StrRow w.heap.size W c5 (namesL (L.take i)) ∧ Below w.heap.size w W) (fun _ c15 _ => L.length - (intOf c15).toNat)
  case atStart => exact ⟨0, by omega, rfl, ⟨by simp [strs, namesL], .inl ⟨rfl, rfl⟩⟩, Below.refl _ _⟩
  case round =>
    obtain ⟨i, hi, rfl, hO, hB⟩ := hrel
    have HO := Lib.hid hO
    have HB := Lib.hid hB
    clear hO hB
    by_cases hih : i < L.length
    · obtain ⟨x, hx⟩ : ∃ x, L[i]? = some x := ⟨_, List.getElem?_eq_getElem hih⟩
      obtain ⟨b, off, rfl, -, -, hcx⟩ := (HLW.out.below HB.out).at_ i x hx
      obtain ⟨s, hs⟩ : ∃ s, rid x.h = s := ⟨_, rfl⟩
      have hcx2 : ∀ j u, (rbc s x)[j]? = some u → wr.cell? ⟨b, off + i * 8 + j, none⟩ = some u := fun j u hu => hcx j u (by rw [← hs] at hu; exact hu)
      have HCX := Lib.hid hcx2
      have HX := Lib.hid hx
      have HS := Lib.hid hs
      have hg := heap_alloc_new wr (.cells (rbc s x).toArray 31)
      have hc0 : (wr.alloc (.cells (rbc s x).toArray 31)).cell? ⟨wr.heap.size, 0, none⟩ = some (.string s.1) := cell_block hg rfl
      have HBx : Hid (Below w.heap.size w (wr.alloc (.cells (rbc s x).toArray 31))) := Lib.hid (HB.out.alloc HB.out.size _)
      have HOx : Hid (StrRow w.heap.size (wr.alloc (.cells (rbc s x).toArray 31)) u5 (namesL (L.take i))) := Lib.hid (HO.out.below ((Below.refl _ _).alloc (Nat.le_refl _) _))
      have HNL : Hid ((namesL (L.take i)).length ≤ 1000000) := Lib.hid (by unfold namesL; rw [List.length_map, List.length_take]; omega)
      clear hcx hcx2 hx hs hg
      go_upto_region 5 with (first
        | (refine wpl_load rfl 31 (.tmp 17) rfl b _ rfl (rbc s x) _ HCX.out Tryz.underlying31 rfl rb_size ?_)
        | (refine wpl_store_new rfl 31 (.tmp 7) (.tmp 18) rfl rfl (rbc s x) rfl _ _ rfl (rbc_one s x) rb_size ?_))
      generalize (wr.alloc (.cells (rbc s x).toArray 31)) = W1 at hc0 HBx HOx ⊢
      generalize wr.heap.size = gx at hc0 ⊢
      go_wp2_with (at_builtin; refine wpl_app_str HOx.out s.1 HBx.out HBx.out.size HNL.out rfl (.tmp 19) (.tmp 22) rfl rfl rfl ?_; intro v2 w2 h2 hb2 hg2 hat2; have H2 := Lib.hid h2; have HB2 := Lib.hid hb2; clear h2 hb2 hg2 hat2)
      go_roundw
      case rel => exact ⟨i + 1, by omega, by go_num, by rw [namesL_snoc L i x HX.out, HS.out]; exact H2.out, HB2.out⟩
      case measure => simp [intOf]; omega
    · have hii : i = L.length := by omega
      subst hii
      have HO1 : Hid (Sl strE (fun _ => True) wr u5 (namesL L)) := Lib.hid (Sl.mono (StrRow.sl (by have := HO.out; rwa [List.take_length] at this)) fun _ _ => trivial)
      go_upto_region 11 with (first
        | (go_at_call 24; refine (HSORT.out _ _ _ HO1.out).mono ?_; rintro e w2 ⟨A5, c5, rfl, hs5, hb2⟩; have HS5 := Lib.hid hs5; have HB2 := Lib.hid (HB.out.trans (hb2.mono HB.out.size)); clear hs5 hb2)
        | (go_at_call 38; refine (HBLOCKS.out _ (HD.out.below HB2.out)).mono ?_; rintro e w3 ⟨A8, c8, rfl, hs8, hb3⟩; have HS8 := Lib.hid hs8; have HS53 := Lib.hid (Sl.below HS5.out hb3); have HB3 := Lib.hid (HB2.out.trans (hb3.mono HB2.out.size)); clear hs8 hb3)
        | (go_at_call 22; refine (HLEN.out _ (HD.out.below HB3.out)).mono ?_; rintro e w4 ⟨rfl, rfl⟩))
      have HDw := Lib.hid (HD.out.below HB3.out)
      have HTw := Lib.hid (HT.out.below HB3.out)
      go_wp2
      go_loopw [43] (fun c43 W => ∃ k : Nat, k ≤ n ∧ c43 = .int .i64 (k : Int) ∧ Below w3.heap.size w3 W) (fun c43 _ => n - (intOf c43).toNat)
      case atStart => exact ⟨0, by omega, rfl, Below.refl _ _⟩
      case round =>
        obtain ⟨k, hk, rfl, hBk⟩ := hrel
        rename World => Wk
        have HBk := Lib.hid hBk
        clear hBk
        by_cases hkn : k < n
        · obtain ⟨id, hid⟩ : ∃ id, ids[k]? = some id := ⟨_, List.getElem?_eq_getElem (by rw [HIL.out]; exact hkn)⟩
          have hh : hasB D id = true := HMEM.out id (List.mem_of_getElem? hid)
          obtain ⟨bn, on, rfl, hbn, -, hci⟩ := (Sl.below HS8.out HBk.out).at_ k id hid
          obtain ⟨b5, o5, rfl, hb5, -, hcs⟩ := (Sl.below HS53.out HBk.out).at_ k id.1 (by rw [List.getElem?_map, hid]; rfl)
          have hcn : Wk.cell? ⟨b5, o5 + k, none⟩ = some (.string id.1) := by have := hcs 0 _ rfl; simpa [strE] using this
          have hcv := conv_id Wk bn (on + k * 32) id hci
          have HCI : Hid (∀ j u, (idc id)[j]? = some u → Wk.cell? ⟨bn, on + k * 32 + j, none⟩ = some u) := Lib.hid hci
          have HBN : Hid (bn < Wk.heap.size) := Lib.hid hbn
          have HBL : Hid (∀ W, DagAt (fun _ => True) W p b1 b2 D → Calls Tryz.prog 39 #[.pointer (some ⟨p, 0, none⟩), .agg (idc id).toArray] W fun e w' => ∃ y : LH, e = .returned (.tuple #[.agg (LB.cells ⟨id, y⟩).toArray, .bool true]) ∧ y.h = (getB D id).x.h ∧ y.h.Ok ∧ y.h.parents.Nodup ∧ hdrID y.h = id ∧ y.At (fun k => W.heap.size ≤ k) w' ∧ Below W.heap.size W w') := Lib.hid fun W h => dblock_has W p b1 b2 D _ h HF.out id hh
          have HHAS : Hid (∀ W, DagAt (fun _ => True) W p b1 b2 D → Calls Tryz.prog 36 #[.pointer (some ⟨p, 0, none⟩), .agg (idc id).toArray] W fun e w' => e = .returned (.bool true) ∧ Below W.heap.size W w') := Lib.hid fun W h => by have := dhas_any W p b1 b2 D _ h id; rwa [hh] at this
          have HDk := Lib.hid (HDw.out.below HBk.out)
          clear hci hid hh hcs hb5 hbn
          go_upto_region 16 with fail
          go_upto_region 17 with (first
            | (refine wpl_load rfl 66 (.tmp 59) rfl bn _ rfl (idc id) _ HCI.out Tryz.underlying66 rfl (by rw [idc_length]; exact id_size) ?_)
            | (go_at_call 39; refine (HBL.out Wk HDk.out).mono ?_; rintro e w8 ⟨y, rfl, -, hyo, -, hyi, hya, hb8⟩; have HYO := Lib.hid hyo; have HYI := Lib.hid hyi; have HYA := Lib.hid hya; have HB8 := Lib.hid hb8; clear hyo hyi hya hb8)
            | (refine wpl_store_new rfl 71 (.tmp 11) (.tmp 62) rfl rfl (LB.cells ⟨id, y⟩) rfl _ _ (by rw [LB.cells_length]; rfl) (LB.cells_one _) (by rw [LB.cells_length]; exact block_size) ?_))
          have HLK : Hid (LookI Wk (w8.alloc (.cells (LB.cells ⟨id, y⟩).toArray 71)).drew bn (on + k * 32) w8.heap.size id ⟨id, y⟩ p b1 b2 D) := Lib.hid (by
            have hb9 : Below Wk.heap.size Wk (w8.alloc (.cells (LB.cells ⟨id, y⟩).toArray 71)).drew := (HB8.out.alloc HB8.out.size _).drew
            have hb9' : Below w8.heap.size w8 (w8.alloc (.cells (LB.cells ⟨id, y⟩).toArray 71)).drew := ((Below.refl _ _).alloc (Nat.le_refl _) _).drew
            exact ⟨HBN.out, fun j u hu => (hb9.cell (p := ⟨bn, on + k * 32 + j, none⟩) HBN.out).trans (HCI.out j u hu), heap_alloc_new w8 _, Sl.mono (Sl.below HYA.out hb9') fun _ _ => trivial, HDk.out.below hb9, (HTw.out.below HBk.out).below hb9, hb9⟩)
          have HID : Hid (∀ W, y.At (fun _ => True) W → Tab W → Calls Tryz.prog 37 #[.agg y.cells.toArray] W fun e w' => e = .returned (.agg (idc id).toArray) ∧ Below W.heap.size W w') := Lib.hid fun W h h2 => id_is W y _ h HYO.out h2 id HYI.out
          generalize w8.heap.size = bb at HLK ⊢
          clear hcn hcv
          refine st_ (S := (fun W' => LookI Wk W' bn (on + k * 32) bb id ⟨id, y⟩ p b1 b2 D)) 30 (bt 0 30) (by kernel_rfl) rfl (by rfl) HLK.out (fun hHeld => ?_)
          refine tk_ 0 (some 64) (bt 1 29) (v := ?_) (a' := ?_) rfl rfl (by kernel_rfl) (fun _ _ _ h => h) (yieldsIf_run rfl ?_) hHeld ?_ ?_
          rotate_left
          · intro w'
            go_simp
            with_reducible rfl
          rotate_left
          · simp only [Act.put, List.setIfInBounds_toArray, List.set_cons_zero, List.set_cons_succ]
            rfl
          refine tk_ 1 (some 65) (bt 2 28) (v := ?_) (a' := ?_) rfl rfl (by kernel_rfl) (fun _ _ _ h => h) (yieldsIf_run rfl ?_) hHeld ?_ ?_
          rotate_left
          · intro w'
            go_simp
            with_reducible rfl
          rotate_left
          · simp only [Act.put, List.setIfInBounds_toArray, List.set_cons_zero, List.set_cons_succ]
            rfl
          refine tk_ 2 (some 66) (bt 3 27) (v := ?_) (a' := ?_) rfl rfl (by kernel_rfl) (fun _ _ _ h => h) (yieldsIf_run rfl ?_) hHeld ?_ ?_
          rotate_left
          · intro w'
            go_simp
            with_reducible rfl
          rotate_left
          · simp only [Act.put, List.setIfInBounds_toArray, List.set_cons_zero, List.set_cons_succ]
            rfl
          refine tk_ 3 (some 67) (bt 4 26) (v := ?_) (a' := ?_) rfl rfl (by kernel_rfl) (fun _ _ _ h => h) (yieldsIf_run rfl ?_) hHeld ?_ ?_
          rotate_left
          · intro w'
            go_simp
            with_reducible rfl
          rotate_left
          · simp only [Act.put, List.setIfInBounds_toArray, List.set_cons_zero, List.set_cons_succ]
            rfl
          refine tk_ 4 (some 68) (bt 5 25) rfl rfl (by kernel_rfl) (fun _ _ _ h => h) (yieldsIf_load rfl 66 (.tmp 67) rfl bb 0 rfl (idc id) _ (fun W' h j u hu => by rw [Nat.zero_add]; exact cell_block h.blk (by rw [List.getElem?_toArray]; exact LB.cells_id ⟨id, y⟩ j u hu)) Tryz.underlying66 rfl (by rw [idc_length]; exact id_size)) hHeld (a' := ?_) ?_ ?_
          rotate_left
          · simp only [Act.put, List.setIfInBounds_toArray, List.set_cons_zero, List.set_cons_succ]
            rfl
          refine tk_ 5 (some 69) (bt 6 24) (v := ?_) (a' := ?_) rfl rfl (by kernel_rfl) (fun _ _ _ h => h) (yieldsIf_run rfl ?_) hHeld ?_ ?_
          rotate_left
          · intro w'
            go_simp
            with_reducible rfl
          rotate_left
          · simp only [Act.put, List.setIfInBounds_toArray, List.set_cons_zero, List.set_cons_succ]
            rfl
          refine tk_ 6 (some 70) (bt 7 23) (v := ?_) (a' := ?_) rfl rfl (by kernel_rfl) (fun _ _ _ h => h) (yieldsIf_run rfl ?_) hHeld ?_ ?_
          rotate_left
          · intro w'
            go_simp
            with_reducible rfl
          rotate_left
          · simp only [Act.put, List.setIfInBounds_toArray, List.set_cons_zero, List.set_cons_succ]
            rfl
          refine tk_ 7 (some 71) (bt 8 22) (v := ?_) (a' := ?_) rfl rfl (by kernel_rfl) (fun _ _ _ h => h) (yieldsIf_run rfl ?_) hHeld ?_ ?_
          rotate_left
          · intro w'
            go_simp
            with_reducible rfl
          rotate_left
          · simp only [Act.put, List.setIfInBounds_toArray, List.set_cons_zero, List.set_cons_succ]
            rfl
          refine tk_ 8 (some 72) (bt 9 21) rfl rfl (by kernel_rfl) (fun _ _ _ h => h) (yieldsIf_load rfl 66 (.tmp 71) rfl bn _ rfl (idc id) _ (fun W' h => h.name) Tryz.underlying66 rfl (by rw [idc_length]; exact id_size)) hHeld (a' := ?_) ?_ ?_
          rotate_left
          · simp only [Act.put, List.setIfInBounds_toArray, List.set_cons_zero, List.set_cons_succ]
            rfl
          refine tk_ 9 (some 73) (bt 10 20) rfl rfl (by kernel_rfl) (fun _ _ _ h => h) (yieldsIf_run (v := .bool false) rfl fun W' => (exec_neq_id rfl (.tmp 68) (.tmp 72) 66 rfl id id rfl rfl).trans (by rw [decide_eq_true rfl]; rfl)) hHeld (a' := ?_) ?_ ?_
          rotate_left
          · simp only [Act.put, List.setIfInBounds_toArray, List.set_cons_zero, List.set_cons_succ]
            rfl
          refine tk_ 10 (some 74) (bt 11 19) (v := ?_) (a' := ?_) rfl rfl (by kernel_rfl) (fun _ _ _ h => h) (yieldsIf_run rfl ?_) hHeld ?_ ?_
          rotate_left
          · intro w'
            go_simp
            with_reducible rfl
          rotate_left
          · simp only [Act.put, List.setIfInBounds_toArray, List.set_cons_zero, List.set_cons_succ]
            rfl
          refine tk_ 11 (some 75) (bt 12 18) (v := ?_) (a' := ?_) rfl rfl (by kernel_rfl) (fun _ _ _ h => h) (yieldsIf_run rfl ?_) hHeld ?_ ?_
          rotate_left
          · intro w'
            go_simp
            with_reducible rfl
          rotate_left
          · simp only [Act.put, List.setIfInBounds_toArray, List.set_cons_zero, List.set_cons_succ]
            rfl
          refine tk_ 12 (some 76) (bt 13 17) (v := ?_) (a' := ?_) rfl rfl (by kernel_rfl) (fun _ _ _ h => h) (yieldsIf_run rfl ?_) hHeld ?_ ?_
          rotate_left
          · intro w'
            go_simp
            with_reducible rfl
          rotate_left
          · simp only [Act.put, List.setIfInBounds_toArray, List.set_cons_zero, List.set_cons_succ]
            rfl
          refine tk_ 13 (some 77) (bt 14 16) rfl rfl (by kernel_rfl) (fun _ _ _ h => h) (yieldsIf_load rfl 41 (.tmp 76) rfl bb 32 rfl y.cells _ (fun W' h j u hu => cell_block h.blk (by rw [List.getElem?_toArray]; exact LB.cells_hdr ⟨id, y⟩ j u hu)) Tryz.underlying41 rfl hdr_size) hHeld (a' := ?_) ?_ ?_
          rotate_left
          · simp only [Act.put, List.setIfInBounds_toArray, List.set_cons_zero, List.set_cons_succ]
            rfl
          refine tk_ 15 (some 79) #[true, true, true, true, true, true, true, true, true, true, true, true, true, true, false, true, false, false, false, false, false, false, false, false, false, false, false, false, false, false] (v := ?_) (a' := ?_) rfl rfl (by kernel_rfl) (fun _ _ _ h => h) (yieldsIf_run rfl ?_) hHeld ?_ ?_
          rotate_left
          · intro w'
            go_simp
            with_reducible rfl
          rotate_left
          · simp only [Act.put, List.setIfInBounds_toArray, List.set_cons_zero, List.set_cons_succ]
            rfl
          refine tk_ 16 (some 80) #[true, true, true, true, true, true, true, true, true, true, true, true, true, true, false, true, true, false, false, false, false, false, false, false, false, false, false, false, false, false] (v := ?_) (a' := ?_) rfl rfl (by kernel_rfl) (fun _ _ _ h => h) (yieldsIf_run rfl ?_) hHeld ?_ ?_
          rotate_left
          · intro w'
            go_simp
            with_reducible rfl
          rotate_left
          · simp only [Act.put, List.setIfInBounds_toArray, List.set_cons_zero, List.set_cons_succ]
            rfl
          refine tk_ 17 (some 81) #[true, true, true, true, true, true, true, true, true, true, true, true, true, true, false, true, true, true, false, false, false, false, false, false, false, false, false, false, false, false] (v := ?_) (a' := ?_) rfl rfl (by kernel_rfl) (fun _ _ _ h => h) (yieldsIf_run rfl ?_) hHeld ?_ ?_
          rotate_left
          · intro w'
            go_simp
            with_reducible rfl
          rotate_left
          · simp only [Act.put, List.setIfInBounds_toArray, List.set_cons_zero, List.set_cons_succ]
            rfl
          refine tk_ 18 (some 82) #[true, true, true, true, true, true, true, true, true, true, true, true, true, true, false, true, true, true, true, false, false, false, false, false, false, false, false, false, false, false] rfl rfl (by kernel_rfl) (fun _ _ _ h => h) (yieldsIf_load rfl 66 (.tmp 81) rfl bn _ rfl (idc id) _ (fun W' h => h.name) Tryz.underlying66 rfl (by rw [idc_length]; exact id_size)) hHeld (a' := ?_) ?_ ?_
          rotate_left
          · simp only [Act.put, List.setIfInBounds_toArray, List.set_cons_zero, List.set_cons_succ]
            rfl
          refine call_ 14 (some 78) (bt 19 11) rfl rfl (by kernel_rfl) rfl 37 _ (by kernel_rfl) (HID.out _ hHeld.at_ hHeld.tab) ?_
          rintro e w10 ⟨rfl, hb10⟩
          refine ⟨_, rfl, hHeld.next hb10, fun hHeld => ⟨?_, ?_, ?_⟩⟩
          rotate_left
          · simp only [Act.put, List.setIfInBounds_toArray, List.set_cons_zero, List.set_cons_succ]
            rfl
          refine tk_ 19 (some 83) (bt 20 10) rfl rfl (by kernel_rfl) (fun _ _ _ h => h) (yieldsIf_run (v := .bool false) rfl fun W' => (exec_neq_id rfl (.tmp 78) (.tmp 82) 66 rfl id id rfl rfl).trans (by rw [decide_eq_true rfl]; rfl)) hHeld (a' := ?_) ?_ ?_
          rotate_left
          · simp only [Act.put, List.setIfInBounds_toArray, List.set_cons_zero, List.set_cons_succ]
            rfl
          refine tk_ 20 (some 84) (bt 21 9) (v := ?_) (a' := ?_) rfl rfl (by kernel_rfl) (fun _ _ _ h => h) (yieldsIf_run rfl ?_) hHeld ?_ ?_
          rotate_left
          · intro w'
            go_simp
            with_reducible rfl
          rotate_left
          · simp only [Act.put, List.setIfInBounds_toArray, List.set_cons_zero, List.set_cons_succ]
            rfl
          refine tk_ 21 (some 85) (bt 22 8) (v := ?_) (a' := ?_) rfl rfl (by kernel_rfl) (fun _ _ _ h => h) (yieldsIf_run rfl ?_) hHeld ?_ ?_
          rotate_left
          · intro w'
            go_simp
            with_reducible rfl
          rotate_left
          · simp only [Act.put, List.setIfInBounds_toArray, List.set_cons_zero, List.set_cons_succ]
            rfl
          refine tk_ 22 (some 86) (bt 23 7) (v := ?_) (a' := ?_) rfl rfl (by kernel_rfl) (fun _ _ _ h => h) (yieldsIf_run rfl ?_) hHeld ?_ ?_
          rotate_left
          · intro w'
            go_simp
            with_reducible rfl
          rotate_left
          · simp only [Act.put, List.setIfInBounds_toArray, List.set_cons_zero, List.set_cons_succ]
            rfl
          refine tk_ 23 (some 87) (bt 24 6) (v := ?_) (a' := ?_) rfl rfl (by kernel_rfl) (fun _ _ _ h => h) (yieldsIf_run rfl ?_) hHeld ?_ ?_
          rotate_left
          · intro w'
            go_simp
            with_reducible rfl
          rotate_left
          · simp only [Act.put, List.setIfInBounds_toArray, List.set_cons_zero, List.set_cons_succ]
            rfl
          refine tk_ 24 (some 88) (bt 25 5) (v := ?_) (a' := ?_) rfl rfl (by kernel_rfl) (fun _ _ _ h => h) (yieldsIf_run rfl ?_) hHeld ?_ ?_
          rotate_left
          · intro w'
            go_simp
            with_reducible rfl
          rotate_left
          · simp only [Act.put, List.setIfInBounds_toArray, List.set_cons_zero, List.set_cons_succ]
            rfl
          refine tk_ 25 (some 89) (bt 26 4) (v := ?_) (a' := ?_) rfl rfl (by kernel_rfl) (fun _ _ _ h => h) (yieldsIf_run rfl ?_) hHeld ?_ ?_
          rotate_left
          · intro w'
            go_simp
            with_reducible rfl
          rotate_left
          · simp only [Act.put, List.setIfInBounds_toArray, List.set_cons_zero, List.set_cons_succ]
            rfl
          refine tk_ 26 (some 90) (bt 27 3) rfl rfl (by kernel_rfl) (fun _ _ _ h => h) (yieldsIf_load rfl 66 (.tmp 89) rfl bn _ rfl (idc id) _ (fun W' h => h.name) Tryz.underlying66 rfl (by rw [idc_length]; exact id_size)) hHeld (a' := ?_) ?_ ?_
          rotate_left
          · simp only [Act.put, List.setIfInBounds_toArray, List.set_cons_zero, List.set_cons_succ]
            rfl
          refine call_ 27 (some 91) (bt 28 2) rfl rfl (by kernel_rfl) rfl 36 _ (by kernel_rfl) (HHAS.out _ hHeld.dag) ?_
          rintro e w9 ⟨rfl, hb9⟩
          refine ⟨_, rfl, hHeld.next hb9, fun hHeld => ⟨?_, ?_, ?_⟩⟩
          rotate_left
          · simp only [Act.put, List.setIfInBounds_toArray, List.set_cons_zero, List.set_cons_succ]
            rfl
          refine tk_ 28 (some 92) (bt 29 1) (v := ?_) (a' := ?_) rfl rfl (by kernel_rfl) (fun _ _ _ h => h) (yieldsIf_run rfl ?_) hHeld ?_ ?_
          rotate_left
          · intro w'
            go_simp
            with_reducible rfl
          rotate_left
          · simp only [Act.put, List.setIfInBounds_toArray, List.set_cons_zero, List.set_cons_succ]
            rfl
          refine tk_ 29 (some 93) (bt 30 0) (v := ?_) (a' := ?_) rfl rfl (by kernel_rfl) (fun _ _ _ h => h) (yieldsIf_run rfl ?_) hHeld ?_ ?_
          rotate_left
          · intro w'
            go_simp
            with_reducible rfl
          rotate_left
          · simp only [Act.put, List.setIfInBounds_toArray, List.set_cons_zero, List.set_cons_succ]
            rfl
          refine wpAnyH_done (by kernel_rfl) ?_ _
          change Exit.then _ _ _ _ _
          go_wp2
          go_roundw
          case rel => exact ⟨k + 1, by omega, by go_num, HBk.out.trans (hHeld.below.mono HBk.out.size)⟩
          case measure => simp [intOf]; omega
        · have hkk : k = n := by omega
          subst hkk
          go_wp2
          go_ret
          exact ⟨rfl, HB3.out.trans (HBk.out.mono HB3.out.size)⟩
end Go.Proofs.YtcohdfkdhdhegaaGreatDoor
