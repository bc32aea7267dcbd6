/- path.Paths: what a program's tipset is, by its names; Parent. A range over a function whose iterator keeps its state in a captured variable. -/
import Derived.Test.YtcohdfkdhdhegaaGreatDoorPbAK
import Derived.Test.YtcohdfkdhdhegaaGreatDoorPbAN
import Derived.Test.YtcohdfkdhdhegaaGreatDoorPbAP
import Derived.Test.YtcohdfkdhdhegaaGreatDoorPbAU
import Derived.RangeFuncNested
import Derived.RangeFuncBound
import Derived.RangeFuncCalls
import Derived.RangeFuncLeaves
namespace Go.Proofs.YtcohdfkdhdhegaaGreatDoor
open Go.RowKit Go.Maps

/-- A tipset's blocks, by its names. -/
def setD (D : List LB) (T : List ID) : List LB := T.map (getB D)
theorem tip_has {D : List LB} (hid : ∀ x ∈ D, x.id = hdrID x.x.h) {T : List ID} (h : TipOf (hdrs D) T) : ∀ i ∈ T, hasB D i = true := fun i hi => by
  rw [hasB_G hid]; exact h.all i hi
theorem newed_set {D : List LB} (hid : ∀ x ∈ D, x.id = hdrID x.x.h) {T : List ID} (h : TipOf (hdrs D) T) {ec : Int} {zs : List LB} (hn : Newed (T.map (getB D)) ec zs) : ec = 0 ∧ zs = setD D T := by
  have hall := tip_has hid h
  have h1 := newed_tipG hid h.rise h.five hall hn
  rw [h.val] at h1
  have he : ec = 0 := congrArg Prod.fst h1
  refine ⟨he, ?_⟩
  rcases hn with ⟨h5, -, -⟩ | ⟨-, z, hp, hrz, hz⟩
  · have := h.five; rw [List.length_map] at h5; omega
  · have hzi : z.map LB.id = T := by rw [sorted_ids hp hrz, ids_get hall, sortI_rise h.rise]
    rcases hz with ⟨-, -, rfl⟩ | ⟨-, h2, -⟩
    · have h3 : zs = (zs.map LB.id).map (getB D) := by
        rw [List.map_map]
        conv => lhs; rw [← List.map_id zs]
        refine List.map_congr_left fun y hy => ?_
        obtain ⟨i, hi, rfl⟩ := List.mem_map.1 (hp.mem_iff.1 hy)
        show getB D i = getB D (getB D i).id
        rw [(getB_mem (hall i hi)).2]
      rw [h3, hzi]
      rfl
    · rw [h2] at he; cases he
/-- What Tipset answers at a tipset's parents. -/
theorem par_tip (p b1 b2 : Nat) (D : List LB) (okx : Nat → Prop) (hid : ∀ x ∈ D, x.id = hdrID x.x.h) (hf : FineD D) (P : List ID) (hP : P = [] ∨ TipOf (hdrs D) P) :
    ∃ ec : Int, (ec == 0) = !P.isEmpty ∧ ∀ W, DagAt okx W p b1 b2 D → Calls Tryz.prog 25 #[.pointer (some ⟨p, 0, none⟩), .string (keyB P)] W fun e w' =>
      ∃ t2, e = .returned (.tuple #[tipV t2, .int .i64 ec]) ∧ TipAt (fun k => W.heap.size ≤ k) w' t2 (setD D P) ∧ Below W.heap.size W w' := by
  rcases hP with rfl | hP
  · refine ⟨1, rfl, fun W h => (dtip_any W p b1 b2 D okx h hf (keyB []) (by rw [keyB_size]; simp)).mono ?_⟩
    rintro e w' ⟨hb, hc⟩
    rcases hc with ⟨-, rfl⟩ | ⟨l, hl, -⟩
    · exact ⟨_, rfl, ⟨Sl.nil _ _ _, by simp [setD]⟩, hb⟩
    · rw [show namesF (keyB []) = none from by
        unfold namesF
        rw [if_neg]
        rw [keyB_size]
        simp] at hl
      cases hl
  · have hne : P ≠ [] := fun e => by have := hP.one; rw [e] at this; simp at this
    refine ⟨0, by cases P with | nil => exact absurd rfl hne | cons a l => rfl, fun W h => (dtip_any W p b1 b2 D okx h hf (keyB P) (by rw [keyB_size]; have := hP.five; omega)).mono ?_⟩
    rintro e w' ⟨hb, hc⟩
    have hk := namesF_key hP.rise hP.one hP.five
    rcases hc with ⟨hn, -⟩ | ⟨l, hl, hc⟩
    · rw [hk] at hn; cases hn
    · rw [hk] at hl
      cases hl
      rcases hc with ⟨⟨i, hi, h0⟩, -⟩ | ⟨-, ec, zs, t, hn, rfl, ht⟩
      · rw [tip_has hid hP i hi] at h0; cases h0
      · obtain ⟨rfl, rfl⟩ := newed_set hid hP hn
        exact ⟨t, rfl, ht, hb⟩
/-- What lies while a tipset's parents are looked for. -/
structure ParS (w W : World) (pp p b1 b2 : Nat) (D : List LB) (okx ok : Nat → Prop) (tv : Value) (l : List LB) : Prop where
  dag0 : DagAt okx w p b1 b2 D
  tip0 : TipAt ok w tv l ∧ Okay ok w l
  to0 : w.cell? ⟨pp, 0, none⟩ = some (.pointer (some ⟨p, 0, none⟩))
  box : W.heap[w.heap.size]? = some (.cells #[tv] 52 (0, 0))
  res : W.heap[w.heap.size + 1]? = some (.cells #[.slice none 0 0] 52 (0, 0))
  below : Below w.heap.size w W
section
variable {w W W' : World} {pp p b1 b2 : Nat} {D : List LB} {okx ok : Nat → Prop} {tv : Value} {T : List LB}
theorem ParS.next (h : ParS w W pp p b1 b2 D okx ok tv T) (hb : Below W.heap.size W W') : ParS w W' pp p b1 b2 D okx ok tv T where
  dag0 := h.dag0
  tip0 := h.tip0
  to0 := h.to0
  box := (hb.block _ (Array.getElem?_eq_some_iff.1 h.box).1).trans h.box
  res := (hb.block _ (Array.getElem?_eq_some_iff.1 h.res).1).trans h.res
  below := h.below.trans (hb.mono h.below.size)
theorem ParS.dag (h : ParS w W pp p b1 b2 D okx ok tv T) : DagAt okx W p b1 b2 D := h.dag0.below h.below
theorem ParS.tip (h : ParS w W pp p b1 b2 D okx ok tv T) : TipAt ok W tv T := h.tip0.1.below h.below
theorem ParS.okay (h : ParS w W pp p b1 b2 D okx ok tv T) : Okay ok W T := h.tip0.2.below h.below
theorem ParS.toD (h : ParS w W pp p b1 b2 D okx ok tv T) : W.cell? ⟨pp, 0, none⟩ = some (.pointer (some ⟨p, 0, none⟩)) := (h.below.cell (cell_lt h.to0)).trans h.to0
theorem ParS.lt (h : ParS w W pp p b1 b2 D okx ok tv T) : w.heap.size + 1 < W.heap.size := (Array.getElem?_eq_some_iff.1 h.res).1
theorem ParS.set (h : ParS w W pp p b1 b2 D okx ok tv T) {b : Nat} (hb : w.heap.size + 1 < b) (cs : Array Value) : ParS w (W.setRow b cs) pp p b1 b2 D okx ok tv T :=
  ⟨h.dag0, h.tip0, h.to0, (heap_setRow_ne _ _ _ _ (by omega)).trans h.box, (heap_setRow_ne _ _ _ _ (by omega)).trans h.res, below_setRow h.below (by omega) _⟩
theorem tip_set {t : Value} {l : List LB} (h : TipAt ok W t l) {b : Nat} (hb : ∀ k, ok k → k ≠ b) (cs : Array Value) : TipAt ok (W.setRow b cs) t l := ⟨h.1.fr ⟨by simp, fun k hk _ => heap_setRow_ne _ _ _ _ (hb k hk)⟩, h.2⟩
theorem tip_mono {ok' : Nat → Prop} {t : Value} {l : List LB} (h : TipAt ok W t l) (hb : ∀ k, ok k → ok' k) : TipAt ok' W t l := ⟨h.1.mono hb, h.2⟩
theorem tip_old {t : Value} {l : List LB} (h : TipAt ok W t l) : TipAt (fun k => ok k ∧ k < W.heap.size) W t l := ⟨h.1.old, h.2⟩
theorem tip_one {t : Value} {l : List LB} (h : TipAt ok W t l) : ∀ u ∈ [t], u.oneCell' = true := by
  intro u hu
  obtain rfl := List.mem_singleton.1 hu
  obtain ⟨A, c, hA, -⟩ := h.1.form
  rw [hA]
  rfl
end
/-- A tipset is, by its names, one of a list of headers. -/
structure TipIs (ok : Nat → Prop) (w : World) (G : List Hdr) (t : Value) (T : List ID) : Prop where
  ex : ∃ l, TipAt ok w t l ∧ l.map LB.id = T ∧ ∀ b ∈ l, getG G b.id = some b.x.h ∧ b.x.At ok w
section
variable {ok ok' okx : Nat → Prop} {w w' : World} {G : List Hdr} {t : Value} {T : List ID} {D : List LB}
theorem TipIs.mono (h : TipIs ok w G t T) (hk : ∀ k, ok k → ok' k) : TipIs ok' w G t T := by
  obtain ⟨l, h1, h2, h3⟩ := h
  exact ⟨l, tip_mono h1 hk, h2, fun b hb => ⟨(h3 b hb).1, Sl.mono (h3 b hb).2 hk⟩⟩
theorem TipIs.fr (h : TipIs ok w G t T) (hf : Fr ok w w') : TipIs ok w' G t T := by
  obtain ⟨l, h1, h2, h3⟩ := h
  exact ⟨l, ⟨h1.1.fr hf, h1.2⟩, h2, fun b hb => ⟨(h3 b hb).1, Sl.fr (h3 b hb).2 hf⟩⟩
theorem TipIs.below (h : TipIs ok w G t T) (hb : Below w.heap.size w w') : TipIs ok w' G t T := h.fr (Fr.of_below hb)
theorem TipIs.old (h : TipIs ok w G t T) : TipIs (fun k => ok k ∧ k < w.heap.size) w G t T := by
  obtain ⟨l, h1, h2, h3⟩ := h
  exact ⟨l, tip_old h1, h2, fun b hb => ⟨(h3 b hb).1, Sl.old (h3 b hb).2⟩⟩
theorem TipIs.one (h : TipIs ok w G t T) : ∀ u ∈ [t], u.oneCell' = true := by
  obtain ⟨l, h1, -, -⟩ := h
  exact tip_one h1
theorem TipIs.set (h : TipIs ok w G t T) {b : Nat} (hb : ∀ k, ok k → k ≠ b) (cs : Array Value) : TipIs ok (w.setRow b cs) G t T := h.fr ⟨by simp, fun k hk _ => heap_setRow_ne _ _ _ _ (hb k hk)⟩
theorem TipIs.zero : TipIs ok w G (.slice none 0 0) [] := ⟨[], ⟨Sl.nil _ _ _, by simp⟩, rfl, by simp⟩
theorem getG_hdrs (hid : ∀ x ∈ D, x.id = hdrID x.x.h) {i : ID} (hh : hasB D i = true) : getG (hdrs D) i = some (getB D i).x.h := getB_G hid i hh
theorem TipIs.of_set {p b1 b2 : Nat} (hid : ∀ x ∈ D, x.id = hdrID x.x.h) (hT : T = [] ∨ TipOf (hdrs D) T) (hd : DagAt okx w p b1 b2 D) (h : TipAt ok w t (setD D T)) : TipIs (fun k => ok k ∨ okx k) w (hdrs D) t T := by
  have hall : ∀ i ∈ T, hasB D i = true := by
    rcases hT with rfl | hT
    · simp
    · exact tip_has hid hT
  refine ⟨setD D T, tip_mono h fun k hk => .inl hk, ids_get hall, fun b hb => ?_⟩
  obtain ⟨i, hi, rfl⟩ := List.mem_map.1 hb
  obtain ⟨hm, he⟩ := getB_mem (hall i hi)
  refine ⟨?_, Sl.mono (hd.at_ _ hm) fun k hk => .inr hk⟩
  rw [he]
  exact getG_hdrs hid (hall i hi)
/-- In a dag that holds more it is the same. -/
theorem TipIs.app (h : TipIs ok w G t T) (l : List Hdr) : TipIs ok w (G ++ l) t T := by
  obtain ⟨z, h1, h2, h3⟩ := h
  refine ⟨z, h1, h2, fun b hb => ⟨?_, (h3 b hb).2⟩⟩
  rw [getG_app (hasG_iff.2 ?_) l]
  · exact (h3 b hb).1
  · obtain ⟨hm, he⟩ := getG_some (h3 b hb).1
    exact ⟨_, hm, he⟩
theorem TipIs.okay (h : TipIs ok w (hdrs D) t T) (hf : FineD D) : ∃ l, TipAt ok w t l ∧ Okay ok w l ∧ l.map LB.id = T ∧ ∀ b ∈ l, getG (hdrs D) b.id = some b.x.h := by
  obtain ⟨l, h1, h2, h3⟩ := h
  refine ⟨l, h1, fun b hb => ⟨(h3 b hb).2, ?_⟩, h2, fun b hb => (h3 b hb).1⟩
  obtain ⟨x, hx, he⟩ := List.mem_map.1 (getG_some (h3 b hb).1).1
  rw [← he]
  exact hf x hx
theorem first_is {l : List LB} (h : TipOf G T) (hi : l.map LB.id = T) (hg : ∀ b ∈ l, getG G b.id = some b.x.h) : (firstL l).x.h.parents = parG G T ∧ (firstL l).x.h.height = hgtG G T := by
  cases l with
  | nil => have := h.one; rw [← hi] at this; simp at this
  | cons b l =>
    subst hi
    have h1 : headG G ((b :: l).map LB.id) = some b.x.h := hg b (by simp)
    unfold parG hgtG
    rw [h1]
    exact ⟨rfl, rfl⟩
theorem zero_is (h : TipIs ok w G t T) : Calls Tryz.prog 30 #[tipV t] w fun e w' => e = .returned (.bool T.isEmpty) ∧ Below w.heap.size w w' := by
  obtain ⟨l, h1, rfl, -⟩ := h
  refine (zero_any w t l ok h1).mono ?_
  rintro e w' ⟨rfl, hb⟩
  exact ⟨by cases l <;> rfl, hb⟩
theorem height_is (h : TipIs ok w G t T) (hT : TipOf G T) : Calls Tryz.prog 41 #[tipV t] w fun e w' => e = .returned (.int .i64 (hgtG G T)) ∧ Below w.heap.size w w' := by
  obtain ⟨l, h1, h2, h3⟩ := h
  have h4 := height_any w t l ok h1
  rw [(first_is hT h2 fun b hb => (h3 b hb).1).2] at h4
  exact h4
theorem key_is (h : TipIs ok w G t T) (hT : T = [] ∨ TipOf G T) : Calls Tryz.prog 54 #[tipV t] w fun e w' => e = .returned (.string (keyB T)) ∧ Below w.heap.size w w' := by
  obtain ⟨l, h1, rfl, h3⟩ := h
  refine tkey_any w t l ok h1 ?_
  rcases hT with h0 | hT
  · rw [h0]; exact List.nodup_nil
  · exact rise_nodup hT.rise
end

set_option maxRecDepth 100000 in
set_option maxHeartbeats 2000000 in
theorem parent_any (w : World) (pp p b1 b2 : Nat) (D : List LB) (okx ok : Nat → Prop) (hp : w.cell? ⟨pp, 0, none⟩ = some (.pointer (some ⟨p, 0, none⟩))) (h : DagAt okx w p b1 b2 D) (hf : FineD D) (g : GoodG (hdrs D)) (tv : Value) (T : List ID) (ht : TipOf (hdrs D) T) (hw : TipIs ok w (hdrs D) tv T) :
    Calls Tryz.prog 63 #[.pointer (some ⟨pp, 0, none⟩), tipV tv] w fun e w' => ∃ t2, e = .returned (.tuple #[tipV t2, .bool (!(parG (hdrs D) T).isEmpty)]) ∧ TipIs (fun k => w.heap.size ≤ k ∨ okx k) w' (hdrs D) t2 (parG (hdrs D) T) ∧ Below w.heap.size w w' := by
  have hid := h.ids
  have hpar : parG (hdrs D) T = [] ∨ TipOf (hdrs D) (parG (hdrs D) T) := by rcases g.par ht with ⟨h0, -⟩ | ⟨h1, -, -⟩; exact .inl h0; exact .inr h1
  obtain ⟨ec, hec, hT⟩ := par_tip p b1 b2 D okx hid hf (parG (hdrs D) T) hpar
  obtain ⟨l, hl1, hl2, hl3, hl4⟩ := hw.okay hf
  have HT := Lib.hid hT
  have HP : Hid (∀ W, TipAt ok W tv l → Okay ok W l → Calls Tryz.prog 100 #[tipV tv] W fun e w' => e = .returned (.string (keyB (parG (hdrs D) T))) ∧ Below W.heap.size W w') := Lib.hid fun W h1 h2 => by
    have h3 := parents_any W tv l ok ok h1 h2
    rw [(first_is ht hl3 hl4).1] at h3
    exact h3
  have hb0 : Below w.heap.size w ((w.alloc (.cells #[tv] 52)).alloc (.cells #[.slice none 0 0] 52)) := ((Below.refl _ w).alloc (Nat.le_refl _) _).alloc (by simp) _
  have HS0 : Hid (ParS w ((w.alloc (.cells #[tv] 52)).alloc (.cells #[.slice none 0 0] 52)) pp p b1 b2 D okx ok tv l) := Lib.hid ⟨h, ⟨hl1, hl2⟩, hp,
    (heap_alloc_old _ _ (by simp)).trans (heap_alloc_new w _), by have := heap_alloc_new (w.alloc (.cells #[tv] 52)) (.cells #[.slice none 0 0] 52); rw [World.size_alloc] at this; exact this, hb0⟩
  obtain ⟨bo, hbo⟩ : ∃ bo, (!(parG (hdrs D) T).isEmpty) = bo := ⟨_, rfl⟩
  obtain ⟨P, hP⟩ : ∃ P, parG (hdrs D) T = P := ⟨_, rfl⟩
  have HFIN : Hid (∀ w' t2, Below w.heap.size w w' → TipAt (fun k => w.heap.size ≤ k) w' t2 (setD D P) → TipIs (fun k => w.heap.size ≤ k ∨ okx k) w' (hdrs D) t2 P) := Lib.hid fun w' t2 hb h2 => by
    rw [← hP] at h2 ⊢
    exact TipIs.of_set hid hpar (h.below hb) h2
  rw [hbo]
  rw [hbo] at hec
  rw [hP] at HT HP ⊢
  have HEC := Lib.hid hec
  clear h hw hp hid hT hb0 hec ht hf g hbo hpar hl1 hl2 hl3 hl4 hP
  go_enter Tryz.func63, Tryz.ntmps63
  go_upto_region 1 with fail
  generalize (w.alloc (.cells #[tv] 52)).alloc (.cells #[.slice none 0 0] 52) = W0 at HS0 ⊢
  have HS0d := Lib.hid (HS0.out.next (Below.refl _ W0).drew)
  go_cut [6, 7] from 8 to 17 (fun v6 v7 W => ∃ (b : Nat) (t2 : Value), v6 = .pointer (some ⟨b, 0, none⟩) ∧ v7 = .int .i64 ec ∧ ParS w W pp p b1 b2 D okx ok tv l ∧ W.heap[b]? = some (.cells #[t2] 52 (0, 0)) ∧ TipAt (fun k => w.heap.size + 1 < k) W t2 (setD D P))
  case first =>
    refine stD_ (S := (fun W' => ParS w W' pp p b1 b2 D okx ok tv l)) [12] 13 (bt 0 13) (by kernel_rfl) rfl (by rfl) HS0d.out (fun hHeld => ?_)
    refine tkD_ 0 (some 9) (bt 1 12) (v := ?_) (a' := ?_) rfl rfl (by kernel_rfl) (fun _ _ _ h => h) (yieldsIf_run rfl ?_) hHeld ?_ ?_
    rotate_left
    · intro w'
      go_simp
      with_reducible rfl
    rotate_left
    · simp only [Act.put, List.setIfInBounds_toArray, List.set_cons_zero, List.set_cons_succ]
      rfl
    refine tkD_ 1 (some 10) (bt 2 11) (v := ?_) (a' := ?_) rfl rfl (by kernel_rfl) (fun _ _ _ h => h) (yieldsIf_run rfl ?_) hHeld ?_ ?_
    rotate_left
    · intro w'
      go_simp
      with_reducible rfl
    rotate_left
    · simp only [Act.put, List.setIfInBounds_toArray, List.set_cons_zero, List.set_cons_succ]
      rfl
    refine tkD_ 2 (some 11) (bt 3 10) (v := ?_) (a' := ?_) rfl rfl (by kernel_rfl) (fun _ _ _ h => h) (yieldsIf_run rfl ?_) hHeld ?_ ?_
    rotate_left
    · intro w'
      go_simp
      with_reducible rfl
    rotate_left
    · simp only [Act.put, List.setIfInBounds_toArray, List.set_cons_zero, List.set_cons_succ]
      rfl
    refine tkD_ 3 (some 12) (bt 4 9) rfl rfl (by kernel_rfl) (fun _ _ _ h => h) (yieldsIf_cell rfl 24 (.tmp 11) rfl ⟨pp, 0, none⟩ rfl (.pointer (some ⟨p, 0, none⟩)) _ (fun W' h => h.toD) Tryz.underlying24 rfl) hHeld (a' := ?_) ?_ ?_
    rotate_left
    · simp only [Act.put, List.setIfInBounds_toArray, List.set_cons_zero, List.set_cons_succ]
      rfl
    refine tkD_ 4 (some 13) (bt 5 8) rfl rfl (by kernel_rfl) (fun _ _ _ h => h) (yieldsIf_load rfl 52 (.tmp 3) rfl w.heap.size 0 rfl [tv] _ (fun W' h j u hu => by rw [Nat.zero_add]; exact cell_block h.box (by simpa using hu)) Tryz.underlying52 rfl tip_size) hHeld (a' := ?_) ?_ ?_
    rotate_left
    · simp only [Act.put, List.setIfInBounds_toArray, List.set_cons_zero, List.set_cons_succ]
      rfl
    refine forkD_ 5 10 (by kernel_rfl) ?_ ?_
    · refine fcallD_ 5 (some 14) #[true, true, true, true, true, true, false, false, false, false, false, false, false] rfl rfl (by kernel_rfl) rfl 100 _ (by kernel_rfl) (HP.out _ hHeld.tip hHeld.okay) ?_
      rintro e w1 ⟨rfl, hb1⟩
      have HS1 := Lib.hid (hHeld.next hb1)
      have hHeld := HS1.out
      refine ⟨_, rfl, fun _ => hHeld, ?_, ?_, ?_⟩
      rotate_left
      · simp only [Act.put, List.setIfInBounds_toArray, List.set_cons_zero, List.set_cons_succ]
        rfl
      refine forkD_ 6 10 (by kernel_rfl) ?_ ?_
      · refine fcallD_ 6 (some 15) #[true, true, true, true, true, true, true, false, false, false, false, false, false] rfl rfl (by kernel_rfl) rfl 25 _ (by kernel_rfl) (HT.out _ hHeld.dag) ?_
        rintro e w2 ⟨t2, rfl, ht2, hb2⟩
        have HS2 := Lib.hid (hHeld.next hb2)
        have HT2 := Lib.hid ht2
        have HL : Hid (w1.heap.size ≤ w2.heap.size ∧ w.heap.size + 1 < w1.heap.size) := Lib.hid ⟨hb2.size, HS1.out.lt⟩
        have hHeld := HS2.out
        refine ⟨_, rfl, fun _ => hHeld, ?_, ?_, ?_⟩
        rotate_left
        · simp only [Act.put, List.setIfInBounds_toArray, List.set_cons_zero, List.set_cons_succ]
          rfl
        refine tkD_ 7 (some 8) (bt 8 5) (v := ?_) (a' := ?_) rfl rfl (by kernel_rfl) (fun _ _ _ h => h) (yieldsIf_run rfl ?_) hHeld ?_ ?_
        rotate_left
        · intro w'
          go_simp
          with_reducible rfl
        rotate_left
        · simp only [Act.put, List.setIfInBounds_toArray, List.set_cons_zero, List.set_cons_succ]
          rfl
        refine tkD_ 8 (some 16) (bt 9 4) (v := ?_) (a' := ?_) rfl rfl (by kernel_rfl) (fun _ _ _ h => h) (yieldsIf_run rfl ?_) hHeld ?_ ?_
        rotate_left
        · intro w'
          go_simp
          with_reducible rfl
        rotate_left
        · simp only [Act.put, List.setIfInBounds_toArray, List.set_cons_zero, List.set_cons_succ]
          rfl
        refine tkD_ 9 (some 17) (bt 10 3) (v := ?_) (a' := ?_) rfl rfl (by kernel_rfl) (fun _ _ _ h => h) (yieldsIf_run rfl ?_) hHeld ?_ ?_
        rotate_left
        · intro w'
          go_simp
          with_reducible rfl
        rotate_left
        · simp only [Act.put, List.setIfInBounds_toArray, List.set_cons_zero, List.set_cons_succ]
          rfl
        have HS3 := Lib.hid (HS2.out.next ((Below.refl _ _).alloc (Nat.le_refl _) (.cells #[.slice none 0 0] 52)))
        have hHeld := HS3.out
        refine valD_ 10 (some 6) (bt 11 2) rfl rfl (by kernel_rfl) rfl ((.pointer (some ⟨w2.heap.size, 0, none⟩))) ((w2.alloc (.cells #[.slice none 0 0] 52))) (by kernel_rfl) (fun _ => hHeld) (a' := ?_) ?_ ?_
        rotate_left
        · simp only [Act.put, List.setIfInBounds_toArray, List.set_cons_zero, List.set_cons_succ]
          rfl
        have hHeld := HS3.out.set (Nat.lt_of_lt_of_le HL.out.2 HL.out.1) #[t2]
        refine skD_ 11 (bt 12 1) rfl rfl (by kernel_rfl) rfl (((w2.alloc (.cells #[.slice none 0 0] 52)).setRow w2.heap.size #[t2])) (exec_store 52 (.tmp 6) (.tmp 16) rfl w2.heap.size 0 rfl _ rfl (run_storeVar_block (w2.alloc (.cells #[.slice none 0 0] 52)) w2.heap.size 52 52 [t2] #[.slice none 0 0] (heap_alloc_new w2 _) rfl (tip_one HT2.out) tip_size)) (fun _ => hHeld) ?_
        refine valD_ 12 (some 7) (bt 13 0) rfl rfl (by kernel_rfl) rfl ((.int .i64 ec)) (_) (rfl) (fun h => absurd (by decide) h) (a' := ?_) ?_ ?_
        rotate_left
        · simp only [Act.put, List.setIfInBounds_toArray, List.set_cons_zero, List.set_cons_succ]
          rfl
        refine doneD_ (by kernel_rfl) ?_ _
        change Exit.then _ _ _ _ _
        go_wp2
        go_meet
        case rel => exact ⟨_, t2, rfl, rfl, HS3.out.set (Nat.lt_of_lt_of_le HL.out.2 HL.out.1) _, setRow_heap _ _ _ _ _ _ (heap_alloc_new w2 _), tip_mono (tip_set ((tip_old HT2.out).below ((Below.refl _ w2).alloc (Nat.le_refl _) _)) (fun k hk => by have := hk.2; omega) _) fun k hk => by have := HL.out; have := hk.1; omega⟩
      · have hHeld := hHeld.next ((Below.refl _ _).alloc (Nat.le_refl _) (.cells #[.slice none 0 0] 52))
        refine fvalD_ 10 (some 6) #[true, true, true, true, true, true, false, false, false, false, true, false, false] rfl rfl (by kernel_rfl) rfl ((.pointer (some ⟨w1.heap.size, 0, none⟩))) ((w1.alloc (.cells #[.slice none 0 0] 52))) (by kernel_rfl) (fun _ => hHeld) (a' := ?_) ?_ ?_
        rotate_left
        · simp only [Act.put, List.setIfInBounds_toArray, List.set_cons_zero, List.set_cons_succ]
          rfl
        refine callD_ 6 (some 15) #[true, true, true, true, true, true, true, false, false, false, true, false, false] rfl rfl (by kernel_rfl) rfl 25 _ (by kernel_rfl) (HT.out _ hHeld.dag) ?_
        rintro e w2 ⟨t2, rfl, ht2, hb2⟩
        have HS2 := Lib.hid (hHeld.next hb2)
        have HT2 := Lib.hid ht2
        have HG2 : Hid (w2.heap[w1.heap.size]? = some (.cells #[.slice none 0 0] 52 (0, 0))) := Lib.hid ((hb2.block _ (by simp)).trans (heap_alloc_new w1 _))
        have HL : Hid (w1.heap.size < (w1.alloc (.cells #[.slice none 0 0] 52)).heap.size ∧ w.heap.size + 1 < w1.heap.size) := Lib.hid ⟨by simp, HS1.out.lt⟩
        refine ⟨_, rfl, HS2.out, fun hHeld => ⟨?_, ?_, ?_⟩⟩
        rotate_left
        · simp only [Act.put, List.setIfInBounds_toArray, List.set_cons_zero, List.set_cons_succ]
          rfl
        refine tkD_ 7 (some 8) #[true, true, true, true, true, true, true, true, false, false, true, false, false] (v := ?_) (a' := ?_) rfl rfl (by kernel_rfl) (fun _ _ _ h => h) (yieldsIf_run rfl ?_) hHeld ?_ ?_
        rotate_left
        · intro w'
          go_simp
          with_reducible rfl
        rotate_left
        · simp only [Act.put, List.setIfInBounds_toArray, List.set_cons_zero, List.set_cons_succ]
          rfl
        refine tkD_ 8 (some 16) #[true, true, true, true, true, true, true, true, true, false, true, false, false] (v := ?_) (a' := ?_) rfl rfl (by kernel_rfl) (fun _ _ _ h => h) (yieldsIf_run rfl ?_) hHeld ?_ ?_
        rotate_left
        · intro w'
          go_simp
          with_reducible rfl
        rotate_left
        · simp only [Act.put, List.setIfInBounds_toArray, List.set_cons_zero, List.set_cons_succ]
          rfl
        refine tkD_ 9 (some 17) (bt 11 2) (v := ?_) (a' := ?_) rfl rfl (by kernel_rfl) (fun _ _ _ h => h) (yieldsIf_run rfl ?_) hHeld ?_ ?_
        rotate_left
        · intro w'
          go_simp
          with_reducible rfl
        rotate_left
        · simp only [Act.put, List.setIfInBounds_toArray, List.set_cons_zero, List.set_cons_succ]
          rfl
        have hHeld := HS2.out.set HL.out.2 #[t2]
        refine skD_ 11 (bt 12 1) rfl rfl (by kernel_rfl) rfl ((w2.setRow w1.heap.size #[t2])) (exec_store 52 (.tmp 6) (.tmp 16) rfl w1.heap.size 0 rfl _ rfl (run_storeVar_block w2 w1.heap.size 52 52 [t2] #[.slice none 0 0] HG2.out rfl (tip_one HT2.out) tip_size)) (fun _ => hHeld) ?_
        refine valD_ 12 (some 7) (bt 13 0) rfl rfl (by kernel_rfl) rfl ((.int .i64 ec)) (_) (rfl) (fun h => absurd (by decide) h) (a' := ?_) ?_ ?_
        rotate_left
        · simp only [Act.put, List.setIfInBounds_toArray, List.set_cons_zero, List.set_cons_succ]
          rfl
        refine doneD_ (by kernel_rfl) ?_ _
        change Exit.then _ _ _ _ _
        go_wp2
        go_meet
        case rel => exact ⟨_, t2, rfl, rfl, HS2.out.set HL.out.2 _, setRow_heap _ _ _ _ _ _ HG2.out, tip_mono (tip_set HT2.out (fun k hk => by have := HL.out.1; omega) _) fun k hk => by have := HL.out; omega⟩
    · have hHeld := hHeld.next ((Below.refl _ _).alloc (Nat.le_refl _) (.cells #[.slice none 0 0] 52))
      refine fvalD_ 10 (some 6) #[true, true, true, true, true, false, false, false, false, false, true, false, false] rfl rfl (by kernel_rfl) rfl ((.pointer (some ⟨W0.drew.heap.size, 0, none⟩))) ((W0.drew.alloc (.cells #[.slice none 0 0] 52))) (by kernel_rfl) (fun _ => hHeld) (a' := ?_) ?_ ?_
      rotate_left
      · simp only [Act.put, List.setIfInBounds_toArray, List.set_cons_zero, List.set_cons_succ]
        rfl
      refine callD_ 5 (some 14) #[true, true, true, true, true, true, false, false, false, false, true, false, false] rfl rfl (by kernel_rfl) rfl 100 _ (by kernel_rfl) (HP.out _ hHeld.tip hHeld.okay) ?_
      rintro e w1 ⟨rfl, hb1⟩
      have HS1 := Lib.hid (hHeld.next hb1)
      have HG1 : Hid (w1.heap[W0.drew.heap.size]? = some (.cells #[.slice none 0 0] 52 (0, 0))) := Lib.hid ((hb1.block _ (by simp)).trans (heap_alloc_new W0.drew _))
      refine ⟨_, rfl, HS1.out, fun hHeld => ⟨?_, ?_, ?_⟩⟩
      rotate_left
      · simp only [Act.put, List.setIfInBounds_toArray, List.set_cons_zero, List.set_cons_succ]
        rfl
      refine callD_ 6 (some 15) #[true, true, true, true, true, true, true, false, false, false, true, false, false] rfl rfl (by kernel_rfl) rfl 25 _ (by kernel_rfl) (HT.out _ hHeld.dag) ?_
      rintro e w2 ⟨t2, rfl, ht2, hb2⟩
      have HS2 := Lib.hid (hHeld.next hb2)
      have HT2 := Lib.hid ht2
      have HG2 : Hid (w2.heap[W0.drew.heap.size]? = some (.cells #[.slice none 0 0] 52 (0, 0))) := Lib.hid ((hb2.block _ (Array.getElem?_eq_some_iff.1 HG1.out).1).trans HG1.out)
      have HL : Hid (W0.drew.heap.size < w1.heap.size ∧ w.heap.size + 1 < W0.drew.heap.size) := Lib.hid ⟨(Array.getElem?_eq_some_iff.1 HG1.out).1, HS0d.out.lt⟩
      refine ⟨_, rfl, HS2.out, fun hHeld => ⟨?_, ?_, ?_⟩⟩
      rotate_left
      · simp only [Act.put, List.setIfInBounds_toArray, List.set_cons_zero, List.set_cons_succ]
        rfl
      refine tkD_ 7 (some 8) #[true, true, true, true, true, true, true, true, false, false, true, false, false] (v := ?_) (a' := ?_) rfl rfl (by kernel_rfl) (fun _ _ _ h => h) (yieldsIf_run rfl ?_) hHeld ?_ ?_
      rotate_left
      · intro w'
        go_simp
        with_reducible rfl
      rotate_left
      · simp only [Act.put, List.setIfInBounds_toArray, List.set_cons_zero, List.set_cons_succ]
        rfl
      refine tkD_ 8 (some 16) #[true, true, true, true, true, true, true, true, true, false, true, false, false] (v := ?_) (a' := ?_) rfl rfl (by kernel_rfl) (fun _ _ _ h => h) (yieldsIf_run rfl ?_) hHeld ?_ ?_
      rotate_left
      · intro w'
        go_simp
        with_reducible rfl
      rotate_left
      · simp only [Act.put, List.setIfInBounds_toArray, List.set_cons_zero, List.set_cons_succ]
        rfl
      refine tkD_ 9 (some 17) (bt 11 2) (v := ?_) (a' := ?_) rfl rfl (by kernel_rfl) (fun _ _ _ h => h) (yieldsIf_run rfl ?_) hHeld ?_ ?_
      rotate_left
      · intro w'
        go_simp
        with_reducible rfl
      rotate_left
      · simp only [Act.put, List.setIfInBounds_toArray, List.set_cons_zero, List.set_cons_succ]
        rfl
      have hHeld := HS2.out.set HL.out.2 #[t2]
      refine skD_ 11 (bt 12 1) rfl rfl (by kernel_rfl) rfl ((w2.setRow W0.drew.heap.size #[t2])) (exec_store 52 (.tmp 6) (.tmp 16) rfl W0.drew.heap.size 0 rfl _ rfl (run_storeVar_block w2 W0.drew.heap.size 52 52 [t2] #[.slice none 0 0] HG2.out rfl (tip_one HT2.out) tip_size)) (fun _ => hHeld) ?_
      refine valD_ 12 (some 7) (bt 13 0) rfl rfl (by kernel_rfl) rfl ((.int .i64 ec)) (_) (rfl) (fun h => absurd (by decide) h) (a' := ?_) ?_ ?_
      rotate_left
      · simp only [Act.put, List.setIfInBounds_toArray, List.set_cons_zero, List.set_cons_succ]
        rfl
      refine doneD_ (by kernel_rfl) ?_ _
      change Exit.then _ _ _ _ _
      go_wp2
      go_meet
      case rel => exact ⟨_, t2, rfl, rfl, HS2.out.set HL.out.2 _, setRow_heap _ _ _ _ _ _ HG2.out, tip_mono (tip_set HT2.out (fun k hk => by have := HL.out.1; omega) _) fun k hk => by have := HL.out; omega⟩
  case rest =>
  obtain ⟨g3, t2, rfl, rfl, hs3, hg3, ht3⟩ := hcut
  rename World => W3
  have HS3 := Lib.hid hs3
  have HG3 := Lib.hid hg3
  have HT3 := Lib.hid ht3
  clear hs3 hg3 ht3
  go_wp2_with (first
    | (refine wpl_load rfl 52 (.tmp 6) rfl g3 0 rfl [t2] _ (fun j u hu => by rw [Nat.zero_add]; exact cell_block HG3.out (by simpa using hu)) Tryz.underlying52 rfl tip_size ?_)
    | (refine wpl_store_row rfl 52 (.tmp 4) (.tmp 18) rfl (w.heap.size + 1) rfl [t2] rfl _ 52 HS3.out.res rfl (tip_one HT3.out) tip_size ?_))
  (try simp only [Exit.inBlock, Exit.then])
  refine bodyPost_ret (results_row_tmp rfl _ _ (w.heap.size + 1) 52 #[t2] (0, 0) _ rfl (setRow_heap _ (w.heap.size + 1) _ _ _ _ HS3.out.res) Tryz.underlying52 rfl tip_size _ rfl) rfl ?_
  have hbf : Below w.heap.size w (W3.setRow (w.heap.size + 1) #[t2]) := below_setRow HS3.out.below (by omega) _
  exact ⟨t2, by rw [← HEC.out]; rfl, HFIN.out _ _ hbf (tip_mono (tip_set HT3.out (fun k hk => by omega) _) fun k hk => by omega), hbf⟩
end Go.Proofs.YtcohdfkdhdhegaaGreatDoor
namespace Go.Proofs.YtcohdfkdhdhegaaGreatDoor
open Go Go.RowKit

section
variable {F : Fence} {n : Nat} {P : Program}
/-- What a caller's word bears: growth; a store into the iterator's variable; a turn of the loop's own blocks. -/
structure Bears {β : Type} (B tB : Nat) (J : β → World → Prop) : Prop where
  grow : ∀ s A C, J s A → Below A.heap.size A C → J s C
  set : ∀ s A cs, J s A → J s (A.setRow tB cs)
  put : ∀ s A o', J s A → J s (A.putObj (B + 1) o')
/-- What an iterator does that keeps its state in the variable tB: at each round it hands out an x of which Hx holds. -/
def SeqVar {α : Type} (F : Fence) (n : Nat) (P : Program) (g : Nat) (lb : Array Value) (encs : α → Array Value) (Hx : List α → α → World → Prop) (Kp : World → World → Prop) (S Sp : List α → Prop) (tB : Nat) (w : World) : Prop :=
  ∀ (l : Nat) (J Jx : List α → World → Prop) (W : World), Below w.heap.size w W → w.heap.size + 2 ≤ W.heap.size →
    (∀ s A C, J s A → Below A.heap.size A C → J s C) → (∀ s A cs, J s A → J s (A.setRow tB cs)) →
    (∀ pre x W1, J pre W1 → Hx pre x W1 → YieldAt F (n - 1) P l (encs x) W1 fun e W' =>
      (e = .returned (.bool true) ∧ J (pre ++ [x]) W' ∧ Kp W1 W') ∨ (e = .returned (.bool false) ∧ Jx (pre ++ [x]) W')) →
    J [] W →
    CallsIn F n P g (#[.func (.yield l) #[] #[]] ++ lb) W fun e W' => (∃ v, e = .returned v) ∧ ((∃ xs, S xs ∧ J xs W') ∨ (∃ pre, Sp pre ∧ Jx pre W'))
/-- How a round may end. -/
def rangeEnd {α : Type} (B : Nat) (Kp : World → World → Prop) (I : List α → World → Prop) (Ix : Code → List α → World → Prop) (xs : List α) (W : World) : Exit → Act → World → Prop
  | .normal, _, W' => KeepsFrom B W W' ∧ Kp W W' ∧ I xs W'
  | .ret, _, W' => KeepsFrom B W W' ∧ Ix .ret xs W'
  | .exit id, _, W' => KeepsFrom B W W' ∧ Ix (.exit id) xs W'
  | .goto t, _, W' => KeepsFrom B W W' ∧ Ix (.goto t) xs W'
  | .panic _, _, _ => False
  | .outgrown, _, _ => False

theorem wpIn_range_var {α : Type} {g : Operand} {ps : Array Tmp} {assign body : Code} {Q : Exit → Act → World → Prop} {a : Act} {w : World}
    (hro : F.round = none) (h1 : 1 ≤ n) {gf : Nat} {lb : Array Value} (hg : a.eval g = .func (.func gf) #[] lb) (hFg : F.fn gf) (eg : ∀ args w, (callFunc gf args).run P w = .ok (.enter gf args) w)
    {encs : α → Array Value} {Hx : List α → α → World → Prop} {Kp : World → World → Prop} {S Sp : List α → Prop} {tB : Nat} {w0 : World} (hseq : SeqVar F (n - 1) P gf lb encs Hx Kp S Sp tB w0)
    (htB : tB < w.heap.size) (hKt : ∀ {A B C : World}, Kp A B → Kp B C → Kp A C) (hKb : ∀ (W : World) (o' : Obj), Kp W (W.putObj (w.heap.size + 1) o')) (hKg : ∀ {A C : World}, w.heap.size ≤ A.heap.size → Below A.heap.size A C → Kp A C)
    (hb0 : Below w0.heap.size w0 w) (hps : ∀ x, (encs x).size = ps.size)
    (I : List α → World → Prop) (Ix : Code → List α → World → Prop) (hI : Bears w.heap.size tB I) (hIx : ∀ c s A o', Ix c s A → Ix c s (A.putObj (w.heap.size + 1) o')) (h0 : I [] w)
    (Ax : List α → α → Act → World → Prop) (hAx : ∀ pre x a' A o', Ax pre x a' A → Ax pre x a' (A.putObj (w.heap.size + 1) o'))
    (hassign : ∀ (l : Nat) (pre : List α) (x : α) (W : World) (K : Act → World → Prop), I pre W → Hx pre x W → w.heap.size ≤ W.heap.size → (∀ a' W', Below W.heap.size W W' → Ax pre x a' W' → K a' W') →
      assign.wpIn (F.inRound l) (n - 1 - 1) P (Exit.then K (fun _ _ _ => False)) { tmps := (ps.zip (encs x)).foldl (fun t (p, v) => t.setIfInBounds p v) a.tmps, defers := [] } W)
    (hbody : ∀ (l : Nat) (pre : List α) (x : α) (a' : Act) (W : World), w.heap.size ≤ l → w.heap.size ≤ W.heap.size → I pre W → Ax pre x a' W → body.wpIn (F.inRound l) (n - 1 - 1) P (rangeEnd w.heap.size Kp I Ix (pre ++ [x]) W) a' W)
    (hdone : ∀ (D : Nat) (xs : List α) (W : World), D = w.heap.size → S xs → I xs W → W.heap[D]? = some (.deferred (some [])) → Q .normal { a with defers := { target := .collected D, args := #[] } :: a.defers } W)
    (hstop : ∀ (D : Nat) (c : Code) (pre : List α) (W : World), D = w.heap.size → Sp pre → Ix c pre W → W.heap[D]? = some (.deferred (some [])) → c.wpIn F n P Q { a with defers := { target := .collected D, args := #[] } :: a.defers } W) :
    (Code.rangeFunc g ps assign body).wpIn F n P Q a w := by
  refine wpIn_rangeFunc ?_
  intro fn hfn
  rw [hro]
  obtain ⟨rec, hrec⟩ : ∃ rec : LoopState → Option Code → Loop, rec = fun st pe => { state := st, pending := pe, fn, tmps := a.tmps, params := ps, assign, body, defers := w.heap.size } := ⟨_, rfl⟩
  obtain ⟨W1, hW1⟩ : ∃ W1, (w.alloc (.deferred (some []))).alloc (.loop (rec .ready none)) = W1 := ⟨_, rfl⟩
  have hgr : Below w.heap.size w W1 := by rw [← hW1]; exact ((Below.refl _ w).alloc (Nat.le_refl _) _).alloc (by simp) _
  have hL1 : W1.heap[w.heap.size + 1]? = some (.loop (rec .ready none)) := by
    rw [← hW1]; have := World.alloc_heap_new (w.alloc (.deferred (some []))) (.loop (rec .ready none)); rwa [World.size_alloc] at this
  have hK1 : W1.heap[w.heap.size]? = some (.deferred (some [])) := by
    rw [← hW1]; exact (Below.heap_alloc _ _ _ (by simp)).trans (World.alloc_heap_new w _)
  have hI1 : I [] W1 := hI.grow _ _ _ h0 hgr
  refine ⟨w.heap.size + 1, [{ target := .collected w.heap.size, args := #[] }], W1, { target := .fn (.func gf) lb, args := #[.func (.yield (w.heap.size + 1)) #[] #[]] }, W1, gf,
    #[.func (.yield (w.heap.size + 1)) #[] #[]] ++ lb, W1, ?_, ?_, ?_, ?_, fun _ => h1, ?_⟩
  · rw [← hW1, hrec]; exact run_enterLoop_outer _ _ _ _ _
  · simp only [resolve, hg]
    simp [go_sem]
  · intro f' hf'; simp [Target.leads] at hf'; subst hf'; exact hFg
  · simp [invoke, go_sem, eg]
  · have hlow : ∀ {A C : World} {k : Nat} {o : Obj}, A.heap[k]? = some o → Below A.heap.size A C → C.heap[k]? = some o := fun hk hb => (hb.block _ (Array.getElem?_eq_some_iff.1 hk).1).trans hk
    refine (hseq (w.heap.size + 1)
      (fun pre W => I pre W ∧ W.heap[w.heap.size + 1]? = some (.loop (rec .ready none)) ∧ W.heap[w.heap.size]? = some (.deferred (some [])))
      (fun pre W => ∃ c, Ix c pre W ∧ W.heap[w.heap.size + 1]? = some (.loop (rec .done (some c))) ∧ W.heap[w.heap.size]? = some (.deferred (some [])))
      W1 (hb0.trans (hgr.mono hb0.size)) (by have := hb0.size; rw [← hW1]; simp; omega)
      (fun s A C hs hb => ⟨hI.grow _ _ _ hs.1 hb, hlow hs.2.1 hb, hlow hs.2.2 hb⟩)
      (fun s A cs hs => ⟨hI.set _ _ _ hs.1, (heap_setRow_ne _ _ _ _ (by omega)).trans hs.2.1, (heap_setRow_ne _ _ _ _ (by omega)).trans hs.2.2⟩)
      ?_ ⟨hI1, hL1, hK1⟩).mono ?_
    · rintro pre x W ⟨hi, hl, hk⟩ hx
      have hlt : w.heap.size + 1 < W.heap.size := (Array.getElem?_eq_some_iff.1 hl).1
      have hy := run_yield (P := P) (args := encs x) hl (by rw [hrec]; exact hps x)
      rw [hrec] at hy
      refine ⟨fn, _, assign, body, hy, roundIn_of_wpIn hfn (hassign _ pre x W _ hi hx (by omega) ?_)⟩
      clear hy
      intro a' Wa hba hax
      have hia := hI.grow _ _ _ hi hba
      have hla := hlow hl hba
      have hka := hlow hk hba
      have hlta : w.heap.size + 1 < Wa.heap.size := (Array.getElem?_eq_some_iff.1 hla).1
      refine ⟨_, run_beginRound hla (by rw [hrec]), ?_⟩
      have hl2 : (Wa.putObj (w.heap.size + 1) (.loop { rec .ready none with state := .busy })).heap[w.heap.size + 1]? = some (.loop { rec .ready none with state := .busy }) := World.putObj_heap_same hlta
      have hk2 : (Wa.putObj (w.heap.size + 1) (.loop { rec .ready none with state := .busy })).heap[w.heap.size]? = some (.deferred (some [])) := (World.putObj_heap_other (by omega)).trans hka
      have hsz2 : w.heap.size ≤ (Wa.putObj (w.heap.size + 1) (.loop { rec .ready none with state := .busy })).heap.size := by have := (Array.getElem?_eq_some_iff.1 hl2).1; omega
      refine wpIn_mono (hbody _ pre x a' _ (by omega) hsz2 (hI.put _ _ _ hia) (hAx _ _ _ _ _ hax)) ?_
      have fin : ∀ (jump : Option Code) (W3 : World), KeepsFrom w.heap.size (Wa.putObj (w.heap.size + 1) (.loop { rec .ready none with state := .busy })) W3 →
          (Instr.endRound (w.heap.size + 1) jump).run P W3 = .ok (.bool jump.isNone) (W3.putObj (w.heap.size + 1) (.loop (rec (if jump.isNone then .ready else .done) jump))) ∧
          W3.heap[w.heap.size + 1]? = some (.loop { rec .ready none with state := .busy }) ∧
          (W3.putObj (w.heap.size + 1) (.loop (rec (if jump.isNone then .ready else .done) jump))).heap[w.heap.size + 1]? = some (.loop (rec (if jump.isNone then .ready else .done) jump)) ∧
          (W3.putObj (w.heap.size + 1) (.loop (rec (if jump.isNone then .ready else .done) jump))).heap[w.heap.size]? = some (.deferred (some [])) := fun jump W3 hk3 => by
        have hl3 := hk3.same _ _ (by omega) hl2 rfl
        have := run_endRound (P := P) jump hl3
        rw [hrec] at this ⊢
        exact ⟨this, by rw [hrec] at hl3; exact hl3, World.putObj_heap_same (Array.getElem?_eq_some_iff.1 hl3).1, (World.putObj_heap_other (by omega)).trans (hk3.same _ _ (Nat.le_refl _) hk2 rfl)⟩
      rintro e a3 W3 hp
      cases e with
      | normal =>
        obtain ⟨hk3, hkp3, hi3⟩ := hp
        obtain ⟨hr, hl3, hl4, hk4⟩ := fin none W3 hk3
        exact ⟨_, _, hr, .inl ⟨rfl, ⟨hI.put _ _ _ hi3, hl4, hk4⟩, hKt (hKg (by omega) hba) (hKt (hKt (hKb _ _) hkp3) (hKb _ _))⟩⟩
      | ret =>
        obtain ⟨hk3, hi3⟩ := hp
        obtain ⟨hr, hl3, hl4, hk4⟩ := fin (some .ret) W3 hk3
        exact ⟨_, _, hr, .inr ⟨rfl, .ret, hIx _ _ _ _ hi3, hl4, hk4⟩⟩
      | exit id =>
        obtain ⟨hk3, hi3⟩ := hp
        obtain ⟨hr, hl3, hl4, hk4⟩ := fin (some (.exit id)) W3 hk3
        exact ⟨_, _, hr, .inr ⟨rfl, .exit id, hIx _ _ _ _ hi3, hl4, hk4⟩⟩
      | goto t =>
        obtain ⟨hk3, hi3⟩ := hp
        obtain ⟨hr, hl3, hl4, hk4⟩ := fin (some (.goto t)) W3 hk3
        exact ⟨_, _, hr, .inr ⟨rfl, .goto t, hIx _ _ _ _ hi3, hl4, hk4⟩⟩
      | panic ch => exact hp.elim
      | outgrown => exact hp.elim
    · rintro e W2 ⟨⟨v, rfl⟩, (⟨xs, hS, hi, hl, hk⟩ | ⟨pre, hSp, c, hi, hl, hk⟩)⟩
      · exact ⟨none, _, by have := run_endLoop (P := P) hl (by rw [hrec]; simp); rw [hrec] at this; exact this, hdone _ xs _ rfl hS (hI.put _ _ _ hi) ((World.putObj_heap_other (by omega)).trans hk)⟩
      · exact ⟨some c, _, by have := run_endLoop (P := P) hl (by rw [hrec]; simp); rw [hrec] at this; exact this, hstop _ c pre _ rfl hSp (hIx _ _ _ _ hi) ((World.putObj_heap_other (by omega)).trans hk)⟩
end
end Go.Proofs.YtcohdfkdhdhegaaGreatDoor
