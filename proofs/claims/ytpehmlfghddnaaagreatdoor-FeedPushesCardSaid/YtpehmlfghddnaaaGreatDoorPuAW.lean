/- path.Paths: what a program's tipset is, by its names; Parent. -/
import Derived.Test.YtpehmlfghddnaaaGreatDoorPuAL
import Derived.Test.YtpehmlfghddnaaaGreatDoorPuAO
import Derived.Test.YtpehmlfghddnaaaGreatDoorPuAQ
import Derived.Test.YtpehmlfghddnaaaGreatDoorPuAV
namespace Go.Proofs.YtpehmlfghddnaaaGreatDoor
open Go.RowKit Go.Maps

/-- A tipset's blocks, by its names. -/
def setD (D : List LB) (T : List ID) : List LB := T.map (getB D)
theorem tip_has {D : List LB} (hid : ∀ x ∈ D, x.id = hdrID x.x.h) {T : List ID} (h : TipOf (hdrs D) T) : ∀ i ∈ T, hasB D i = true := fun i hi => by
  rw [hasB_G hid]; exact h.all i hi
theorem newed_set {D : List LB} (hid : ∀ x ∈ D, x.id = hdrID x.x.h) {T : List ID} (h : TipOf (hdrs D) T) {ec : Int} {zs : List LB} (hn : Newed (T.map (getB D)) ec zs) : ec = 0 ∧ zs = setD D T := by
  have hall := tip_has hid h
  have h1 := newed_tipG hid h.rise h.five hall hn
  rw [h.val] at h1
  have he : ec = 0 := congrArg Prod.fst h1
  refine ⟨he, ?_⟩
  rcases hn with ⟨h5, -, -⟩ | ⟨-, z, hp, hrz, hz⟩
  · have := h.five; rw [List.length_map] at h5; omega
  · have hzi : z.map LB.id = T := by rw [sorted_ids hp hrz, ids_get hall, sortI_rise h.rise]
    rcases hz with ⟨-, -, rfl⟩ | ⟨-, h2, -⟩
    · have h3 : zs = (zs.map LB.id).map (getB D) := by
        rw [List.map_map]
        conv => lhs; rw [← List.map_id zs]
        refine List.map_congr_left fun y hy => ?_
        obtain ⟨i, hi, rfl⟩ := List.mem_map.1 (hp.mem_iff.1 hy)
        show getB D i = getB D (getB D i).id
        rw [(getB_mem (hall i hi)).2]
      rw [h3, hzi]
      rfl
    · rw [h2] at he; cases he
/-- What Tipset answers at a tipset's parents. -/
theorem par_tip (p b1 b2 : Nat) (D : List LB) (okx : Nat → Prop) (hid : ∀ x ∈ D, x.id = hdrID x.x.h) (hf : FineD D) (P : List ID) (hP : P = [] ∨ TipOf (hdrs D) P) :
    ∃ ec : Int, (ec == 0) = !P.isEmpty ∧ ∀ W, DagAt okx W p b1 b2 D → Calls Tryz.prog 40 #[.pointer (some ⟨p, 0, none⟩), .string (keyB P)] W fun e w' =>
      ∃ t2, e = .returned (.tuple #[tipV t2, .int .i64 ec]) ∧ TipAt (fun k => W.heap.size ≤ k) w' t2 (setD D P) ∧ Below W.heap.size W w' := by
  rcases hP with rfl | hP
  · refine ⟨1, rfl, fun W h => (dtip_any W p b1 b2 D okx h hf (keyB []) (by rw [keyB_size]; simp)).mono ?_⟩
    rintro e w' ⟨hb, hc⟩
    rcases hc with ⟨-, rfl⟩ | ⟨l, hl, -⟩
    · exact ⟨_, rfl, ⟨Sl.nil _ _ _, by simp [setD]⟩, hb⟩
    · rw [show namesF (keyB []) = none from by
        unfold namesF
        rw [if_neg]
        rw [keyB_size]
        simp] at hl
      cases hl
  · have hne : P ≠ [] := fun e => by have := hP.one; rw [e] at this; simp at this
    refine ⟨0, by cases P with | nil => exact absurd rfl hne | cons a l => rfl, fun W h => (dtip_any W p b1 b2 D okx h hf (keyB P) (by rw [keyB_size]; have := hP.five; omega)).mono ?_⟩
    rintro e w' ⟨hb, hc⟩
    have hk := namesF_key hP.rise hP.one hP.five
    rcases hc with ⟨hn, -⟩ | ⟨l, hl, hc⟩
    · rw [hk] at hn; cases hn
    · rw [hk] at hl
      cases hl
      rcases hc with ⟨⟨i, hi, h0⟩, -⟩ | ⟨-, ec, zs, t, hn, rfl, ht⟩
      · rw [tip_has hid hP i hi] at h0; cases h0
      · obtain ⟨rfl, rfl⟩ := newed_set hid hP hn
        exact ⟨t, rfl, ht, hb⟩
/-- What lies while a tipset's parents are looked for. -/
structure ParS (w W : World) (pp p b1 b2 : Nat) (D : List LB) (okx ok : Nat → Prop) (tv : Value) (l : List LB) : Prop where
  dag0 : DagAt okx w p b1 b2 D
  tip0 : TipAt ok w tv l ∧ Okay ok w l
  to0 : w.cell? ⟨pp, 0, none⟩ = some (.pointer (some ⟨p, 0, none⟩))
  box : W.heap[w.heap.size]? = some (.cells #[tv] 27 (0, 0))
  res : W.heap[w.heap.size + 1]? = some (.cells #[.slice none 0 0] 27 (0, 0))
  below : Below w.heap.size w W
section
variable {w W W' : World} {pp p b1 b2 : Nat} {D : List LB} {okx ok : Nat → Prop} {tv : Value} {T : List LB}
theorem ParS.next (h : ParS w W pp p b1 b2 D okx ok tv T) (hb : Below W.heap.size W W') : ParS w W' pp p b1 b2 D okx ok tv T where
  dag0 := h.dag0
  tip0 := h.tip0
  to0 := h.to0
  box := (hb.block _ (Array.getElem?_eq_some_iff.1 h.box).1).trans h.box
  res := (hb.block _ (Array.getElem?_eq_some_iff.1 h.res).1).trans h.res
  below := h.below.trans (hb.mono h.below.size)
theorem ParS.dag (h : ParS w W pp p b1 b2 D okx ok tv T) : DagAt okx W p b1 b2 D := h.dag0.below h.below
theorem ParS.tip (h : ParS w W pp p b1 b2 D okx ok tv T) : TipAt ok W tv T := h.tip0.1.below h.below
theorem ParS.okay (h : ParS w W pp p b1 b2 D okx ok tv T) : Okay ok W T := h.tip0.2.below h.below
theorem ParS.toD (h : ParS w W pp p b1 b2 D okx ok tv T) : W.cell? ⟨pp, 0, none⟩ = some (.pointer (some ⟨p, 0, none⟩)) := (h.below.cell (cell_lt h.to0)).trans h.to0
theorem ParS.lt (h : ParS w W pp p b1 b2 D okx ok tv T) : w.heap.size + 1 < W.heap.size := (Array.getElem?_eq_some_iff.1 h.res).1
theorem ParS.set (h : ParS w W pp p b1 b2 D okx ok tv T) {b : Nat} (hb : w.heap.size + 1 < b) (cs : Array Value) : ParS w (W.setRow b cs) pp p b1 b2 D okx ok tv T :=
  ⟨h.dag0, h.tip0, h.to0, (heap_setRow_ne _ _ _ _ (by omega)).trans h.box, (heap_setRow_ne _ _ _ _ (by omega)).trans h.res, below_setRow h.below (by omega) _⟩
theorem tip_set {t : Value} {l : List LB} (h : TipAt ok W t l) {b : Nat} (hb : ∀ k, ok k → k ≠ b) (cs : Array Value) : TipAt ok (W.setRow b cs) t l := ⟨h.1.fr ⟨by simp, fun k hk _ => heap_setRow_ne _ _ _ _ (hb k hk)⟩, h.2⟩
theorem tip_mono {ok' : Nat → Prop} {t : Value} {l : List LB} (h : TipAt ok W t l) (hb : ∀ k, ok k → ok' k) : TipAt ok' W t l := ⟨h.1.mono hb, h.2⟩
theorem tip_old {t : Value} {l : List LB} (h : TipAt ok W t l) : TipAt (fun k => ok k ∧ k < W.heap.size) W t l := ⟨h.1.old, h.2⟩
theorem tip_one {t : Value} {l : List LB} (h : TipAt ok W t l) : ∀ u ∈ [t], u.oneCell' = true := by
  intro u hu
  obtain rfl := List.mem_singleton.1 hu
  obtain ⟨A, c, hA, -⟩ := h.1.form
  rw [hA]
  rfl
end
/-- A tipset is, by its names, one of a list of headers. -/
structure TipIs (ok : Nat → Prop) (w : World) (G : List Hdr) (t : Value) (T : List ID) : Prop where
  ex : ∃ l, TipAt ok w t l ∧ l.map LB.id = T ∧ ∀ b ∈ l, getG G b.id = some b.x.h ∧ b.x.At ok w
section
variable {ok ok' okx : Nat → Prop} {w w' : World} {G : List Hdr} {t : Value} {T : List ID} {D : List LB}
theorem TipIs.mono (h : TipIs ok w G t T) (hk : ∀ k, ok k → ok' k) : TipIs ok' w G t T := by
  obtain ⟨l, h1, h2, h3⟩ := h
  exact ⟨l, tip_mono h1 hk, h2, fun b hb => ⟨(h3 b hb).1, Sl.mono (h3 b hb).2 hk⟩⟩
theorem TipIs.fr (h : TipIs ok w G t T) (hf : Fr ok w w') : TipIs ok w' G t T := by
  obtain ⟨l, h1, h2, h3⟩ := h
  exact ⟨l, ⟨h1.1.fr hf, h1.2⟩, h2, fun b hb => ⟨(h3 b hb).1, Sl.fr (h3 b hb).2 hf⟩⟩
theorem TipIs.below (h : TipIs ok w G t T) (hb : Below w.heap.size w w') : TipIs ok w' G t T := h.fr (Fr.of_below hb)
theorem TipIs.old (h : TipIs ok w G t T) : TipIs (fun k => ok k ∧ k < w.heap.size) w G t T := by
  obtain ⟨l, h1, h2, h3⟩ := h
  exact ⟨l, tip_old h1, h2, fun b hb => ⟨(h3 b hb).1, Sl.old (h3 b hb).2⟩⟩
theorem TipIs.one (h : TipIs ok w G t T) : ∀ u ∈ [t], u.oneCell' = true := by
  obtain ⟨l, h1, -, -⟩ := h
  exact tip_one h1
theorem TipIs.set (h : TipIs ok w G t T) {b : Nat} (hb : ∀ k, ok k → k ≠ b) (cs : Array Value) : TipIs ok (w.setRow b cs) G t T := h.fr ⟨by simp, fun k hk _ => heap_setRow_ne _ _ _ _ (hb k hk)⟩
theorem TipIs.zero : TipIs ok w G (.slice none 0 0) [] := ⟨[], ⟨Sl.nil _ _ _, by simp⟩, rfl, by simp⟩
theorem getG_hdrs (hid : ∀ x ∈ D, x.id = hdrID x.x.h) {i : ID} (hh : hasB D i = true) : getG (hdrs D) i = some (getB D i).x.h := getB_G hid i hh
theorem TipIs.of_set {p b1 b2 : Nat} (hid : ∀ x ∈ D, x.id = hdrID x.x.h) (hT : T = [] ∨ TipOf (hdrs D) T) (hd : DagAt okx w p b1 b2 D) (h : TipAt ok w t (setD D T)) : TipIs (fun k => ok k ∨ okx k) w (hdrs D) t T := by
  have hall : ∀ i ∈ T, hasB D i = true := by
    rcases hT with rfl | hT
    · simp
    · exact tip_has hid hT
  refine ⟨setD D T, tip_mono h fun k hk => .inl hk, ids_get hall, fun b hb => ?_⟩
  obtain ⟨i, hi, rfl⟩ := List.mem_map.1 hb
  obtain ⟨hm, he⟩ := getB_mem (hall i hi)
  refine ⟨?_, Sl.mono (hd.at_ _ hm) fun k hk => .inr hk⟩
  rw [he]
  exact getG_hdrs hid (hall i hi)
/-- In a dag that holds more it is the same. -/
theorem TipIs.app (h : TipIs ok w G t T) (l : List Hdr) : TipIs ok w (G ++ l) t T := by
  obtain ⟨z, h1, h2, h3⟩ := h
  refine ⟨z, h1, h2, fun b hb => ⟨?_, (h3 b hb).2⟩⟩
  rw [getG_app (hasG_iff.2 ?_) l]
  · exact (h3 b hb).1
  · obtain ⟨hm, he⟩ := getG_some (h3 b hb).1
    exact ⟨_, hm, he⟩
theorem TipIs.okay (h : TipIs ok w (hdrs D) t T) (hf : FineD D) : ∃ l, TipAt ok w t l ∧ Okay ok w l ∧ l.map LB.id = T ∧ ∀ b ∈ l, getG (hdrs D) b.id = some b.x.h := by
  obtain ⟨l, h1, h2, h3⟩ := h
  refine ⟨l, h1, fun b hb => ⟨(h3 b hb).2, ?_⟩, h2, fun b hb => (h3 b hb).1⟩
  obtain ⟨x, hx, he⟩ := List.mem_map.1 (getG_some (h3 b hb).1).1
  rw [← he]
  exact hf x hx
theorem first_is {l : List LB} (h : TipOf G T) (hi : l.map LB.id = T) (hg : ∀ b ∈ l, getG G b.id = some b.x.h) : (firstL l).x.h.parents = parG G T ∧ (firstL l).x.h.height = hgtG G T := by
  cases l with
  | nil => have := h.one; rw [← hi] at this; simp at this
  | cons b l =>
    subst hi
    have h1 : headG G ((b :: l).map LB.id) = some b.x.h := hg b (by simp)
    unfold parG hgtG
    rw [h1]
    exact ⟨rfl, rfl⟩
theorem zero_is (h : TipIs ok w G t T) : Calls Tryz.prog 55 #[tipV t] w fun e w' => e = .returned (.bool T.isEmpty) ∧ Below w.heap.size w w' := by
  obtain ⟨l, h1, rfl, -⟩ := h
  refine (zero_any w t l ok h1).mono ?_
  rintro e w' ⟨rfl, hb⟩
  exact ⟨by cases l <;> rfl, hb⟩
theorem height_is (h : TipIs ok w G t T) (hT : TipOf G T) : Calls Tryz.prog 62 #[tipV t] w fun e w' => e = .returned (.int .i64 (hgtG G T)) ∧ Below w.heap.size w w' := by
  obtain ⟨l, h1, h2, h3⟩ := h
  have h4 := height_any w t l ok h1
  rw [(first_is hT h2 fun b hb => (h3 b hb).1).2] at h4
  exact h4
theorem key_is (h : TipIs ok w G t T) (hT : T = [] ∨ TipOf G T) : Calls Tryz.prog 28 #[tipV t] w fun e w' => e = .returned (.string (keyB T)) ∧ Below w.heap.size w w' := by
  obtain ⟨l, h1, rfl, h3⟩ := h
  refine tkey_any w t l ok h1 ?_
  rcases hT with h0 | hT
  · rw [h0]; exact List.nodup_nil
  · exact rise_nodup hT.rise
end

set_option maxRecDepth 100000 in
set_option maxHeartbeats 2000000 in
theorem parent_any (w : World) (pp p b1 b2 : Nat) (D : List LB) (okx ok : Nat → Prop) (hp : w.cell? ⟨pp, 0, none⟩ = some (.pointer (some ⟨p, 0, none⟩))) (h : DagAt okx w p b1 b2 D) (hf : FineD D) (g : GoodG (hdrs D)) (tv : Value) (T : List ID) (ht : TipOf (hdrs D) T) (hw : TipIs ok w (hdrs D) tv T) :
    Calls Tryz.prog 94 #[.pointer (some ⟨pp, 0, none⟩), tipV tv] w fun e w' => ∃ t2, e = .returned (.tuple #[tipV t2, .bool (!(parG (hdrs D) T).isEmpty)]) ∧ TipIs (fun k => w.heap.size ≤ k ∨ okx k) w' (hdrs D) t2 (parG (hdrs D) T) ∧ Below w.heap.size w w' := by
  have hid := h.ids
  have hpar : parG (hdrs D) T = [] ∨ TipOf (hdrs D) (parG (hdrs D) T) := by rcases g.par ht with ⟨h0, -⟩ | ⟨h1, -, -⟩; exact .inl h0; exact .inr h1
  obtain ⟨ec, hec, hT⟩ := par_tip p b1 b2 D okx hid hf (parG (hdrs D) T) hpar
  obtain ⟨l, hl1, hl2, hl3, hl4⟩ := hw.okay hf
  have HT := Lib.hid hT
  have HP : Hid (∀ W, TipAt ok W tv l → Okay ok W l → Calls Tryz.prog 121 #[tipV tv] W fun e w' => e = .returned (.string (keyB (parG (hdrs D) T))) ∧ Below W.heap.size W w') := Lib.hid fun W h1 h2 => by
    have h3 := parents_any W tv l ok ok h1 h2
    rw [(first_is ht hl3 hl4).1] at h3
    exact h3
  have hb0 : Below w.heap.size w ((w.alloc (.cells #[tv] 27)).alloc (.cells #[.slice none 0 0] 27)) := ((Below.refl _ w).alloc (Nat.le_refl _) _).alloc (by simp) _
  have HS0 : Hid (ParS w ((w.alloc (.cells #[tv] 27)).alloc (.cells #[.slice none 0 0] 27)) pp p b1 b2 D okx ok tv l) := Lib.hid ⟨h, ⟨hl1, hl2⟩, hp,
    (heap_alloc_old _ _ (by simp)).trans (heap_alloc_new w _), by have := heap_alloc_new (w.alloc (.cells #[tv] 27)) (.cells #[.slice none 0 0] 27); rw [World.size_alloc] at this; exact this, hb0⟩
  obtain ⟨bo, hbo⟩ : ∃ bo, (!(parG (hdrs D) T).isEmpty) = bo := ⟨_, rfl⟩
  obtain ⟨P, hP⟩ : ∃ P, parG (hdrs D) T = P := ⟨_, rfl⟩
  have HFIN : Hid (∀ w' t2, Below w.heap.size w w' → TipAt (fun k => w.heap.size ≤ k) w' t2 (setD D P) → TipIs (fun k => w.heap.size ≤ k ∨ okx k) w' (hdrs D) t2 P) := Lib.hid fun w' t2 hb h2 => by
    rw [← hP] at h2 ⊢
    exact TipIs.of_set hid hpar (h.below hb) h2
  rw [hbo]
  rw [hbo] at hec
  rw [hP] at HT HP ⊢
  have HEC := Lib.hid hec
  clear h hw hp hid hT hb0 hec ht hf g hbo hpar hl1 hl2 hl3 hl4 hP
  go_enter Tryz.func94, Tryz.ntmps94
  go_upto_region 1 with fail
  generalize (w.alloc (.cells #[tv] 27)).alloc (.cells #[.slice none 0 0] 27) = W0 at HS0 ⊢
  have HS0d := Lib.hid (HS0.out.next (Below.refl _ W0).drew)
  go_cut [6, 7] from 8 to 17 (fun v6 v7 W => ∃ (b : Nat) (t2 : Value), v6 = .pointer (some ⟨b, 0, none⟩) ∧ v7 = .int .i64 ec ∧ ParS w W pp p b1 b2 D okx ok tv l ∧ W.heap[b]? = some (.cells #[t2] 27 (0, 0)) ∧ TipAt (fun k => w.heap.size + 1 < k) W t2 (setD D P))
  case first =>
    refine stD_ (S := (fun W' => ParS w W' pp p b1 b2 D okx ok tv l)) [12] 13 #[false, false, false, false, false, false, false, false, false, false, false, false, false] (by kernel_rfl) rfl (by rfl) HS0d.out (fun hHeld => ?_)
    refine tkD_ 0 (some 9) #[true, false, false, false, false, false, false, false, false, false, false, false, false] (v := ?_) (a' := ?_) rfl rfl (by kernel_rfl) (fun _ _ _ h => h) (yieldsIf_run rfl ?_) hHeld ?_ ?_
    rotate_left
    · intro w'
      go_simp
      with_reducible rfl
    rotate_left
    · simp only [Act.put, List.setIfInBounds_toArray, List.set_cons_zero, List.set_cons_succ]
      rfl
    refine tkD_ 1 (some 10) #[true, true, false, false, false, false, false, false, false, false, false, false, false] (v := ?_) (a' := ?_) rfl rfl (by kernel_rfl) (fun _ _ _ h => h) (yieldsIf_run rfl ?_) hHeld ?_ ?_
    rotate_left
    · intro w'
      go_simp
      with_reducible rfl
    rotate_left
    · simp only [Act.put, List.setIfInBounds_toArray, List.set_cons_zero, List.set_cons_succ]
      rfl
    refine tkD_ 2 (some 11) #[true, true, true, false, false, false, false, false, false, false, false, false, false] (v := ?_) (a' := ?_) rfl rfl (by kernel_rfl) (fun _ _ _ h => h) (yieldsIf_run rfl ?_) hHeld ?_ ?_
    rotate_left
    · intro w'
      go_simp
      with_reducible rfl
    rotate_left
    · simp only [Act.put, List.setIfInBounds_toArray, List.set_cons_zero, List.set_cons_succ]
      rfl
    refine tkD_ 3 (some 12) #[true, true, true, true, false, false, false, false, false, false, false, false, false] rfl rfl (by kernel_rfl) (fun _ _ _ h => h) (yieldsIf_cell rfl 41 (.tmp 11) rfl ⟨pp, 0, none⟩ rfl (.pointer (some ⟨p, 0, none⟩)) _ (fun W' h => h.toD) Tryz.underlying41 rfl) hHeld (a' := ?_) ?_ ?_
    rotate_left
    · simp only [Act.put, List.setIfInBounds_toArray, List.set_cons_zero, List.set_cons_succ]
      rfl
    refine tkD_ 4 (some 13) #[true, true, true, true, true, false, false, false, false, false, false, false, false] rfl rfl (by kernel_rfl) (fun _ _ _ h => h) (yieldsIf_load rfl 27 (.tmp 3) rfl w.heap.size 0 rfl [tv] _ (fun W' h j u hu => by rw [Nat.zero_add]; exact cell_block h.box (by simpa using hu)) Tryz.underlying27 rfl tip_size) hHeld (a' := ?_) ?_ ?_
    rotate_left
    · simp only [Act.put, List.setIfInBounds_toArray, List.set_cons_zero, List.set_cons_succ]
      rfl
    refine forkD_ 5 10 (by kernel_rfl) ?_ ?_
    · refine fcallD_ 5 (some 14) #[true, true, true, true, true, true, false, false, false, false, false, false, false] rfl rfl (by kernel_rfl) rfl 121 _ (by kernel_rfl) (HP.out _ hHeld.tip hHeld.okay) ?_
      rintro e w1 ⟨rfl, hb1⟩
      have HS1 := Lib.hid (hHeld.next hb1)
      have hHeld := HS1.out
      refine ⟨_, rfl, fun _ => hHeld, ?_, ?_, ?_⟩
      rotate_left
      · simp only [Act.put, List.setIfInBounds_toArray, List.set_cons_zero, List.set_cons_succ]
        rfl
      refine forkD_ 6 10 (by kernel_rfl) ?_ ?_
      · refine fcallD_ 6 (some 15) #[true, true, true, true, true, true, true, false, false, false, false, false, false] rfl rfl (by kernel_rfl) rfl 40 _ (by kernel_rfl) (HT.out _ hHeld.dag) ?_
        rintro e w2 ⟨t2, rfl, ht2, hb2⟩
        have HS2 := Lib.hid (hHeld.next hb2)
        have HT2 := Lib.hid ht2
        have HL : Hid (w1.heap.size ≤ w2.heap.size ∧ w.heap.size + 1 < w1.heap.size) := Lib.hid ⟨hb2.size, HS1.out.lt⟩
        have hHeld := HS2.out
        refine ⟨_, rfl, fun _ => hHeld, ?_, ?_, ?_⟩
        rotate_left
        · simp only [Act.put, List.setIfInBounds_toArray, List.set_cons_zero, List.set_cons_succ]
          rfl
        refine tkD_ 7 (some 8) #[true, true, true, true, true, true, true, true, false, false, false, false, false] (v := ?_) (a' := ?_) rfl rfl (by kernel_rfl) (fun _ _ _ h => h) (yieldsIf_run rfl ?_) hHeld ?_ ?_
        rotate_left
        · intro w'
          go_simp
          with_reducible rfl
        rotate_left
        · simp only [Act.put, List.setIfInBounds_toArray, List.set_cons_zero, List.set_cons_succ]
          rfl
        refine tkD_ 8 (some 16) #[true, true, true, true, true, true, true, true, true, false, false, false, false] (v := ?_) (a' := ?_) rfl rfl (by kernel_rfl) (fun _ _ _ h => h) (yieldsIf_run rfl ?_) hHeld ?_ ?_
        rotate_left
        · intro w'
          go_simp
          with_reducible rfl
        rotate_left
        · simp only [Act.put, List.setIfInBounds_toArray, List.set_cons_zero, List.set_cons_succ]
          rfl
        refine tkD_ 9 (some 17) #[true, true, true, true, true, true, true, true, true, true, false, false, false] (v := ?_) (a' := ?_) rfl rfl (by kernel_rfl) (fun _ _ _ h => h) (yieldsIf_run rfl ?_) hHeld ?_ ?_
        rotate_left
        · intro w'
          go_simp
          with_reducible rfl
        rotate_left
        · simp only [Act.put, List.setIfInBounds_toArray, List.set_cons_zero, List.set_cons_succ]
          rfl
        have HS3 := Lib.hid (HS2.out.next ((Below.refl _ _).alloc (Nat.le_refl _) (.cells #[.slice none 0 0] 27)))
        have hHeld := HS3.out
        refine valD_ 10 (some 6) #[true, true, true, true, true, true, true, true, true, true, true, false, false] rfl rfl (by kernel_rfl) rfl ((.pointer (some ⟨w2.heap.size, 0, none⟩))) ((w2.alloc (.cells #[.slice none 0 0] 27))) (by kernel_rfl) (fun _ => hHeld) (a' := ?_) ?_ ?_
        rotate_left
        · simp only [Act.put, List.setIfInBounds_toArray, List.set_cons_zero, List.set_cons_succ]
          rfl
        have hHeld := HS3.out.set (Nat.lt_of_lt_of_le HL.out.2 HL.out.1) #[t2]
        refine skD_ 11 #[true, true, true, true, true, true, true, true, true, true, true, true, false] rfl rfl (by kernel_rfl) rfl (((w2.alloc (.cells #[.slice none 0 0] 27)).setRow w2.heap.size #[t2])) (exec_store 27 (.tmp 6) (.tmp 16) rfl w2.heap.size 0 rfl _ rfl (run_storeVar_block (w2.alloc (.cells #[.slice none 0 0] 27)) w2.heap.size 27 27 [t2] #[.slice none 0 0] (heap_alloc_new w2 _) rfl (tip_one HT2.out) tip_size)) (fun _ => hHeld) ?_
        refine valD_ 12 (some 7) #[true, true, true, true, true, true, true, true, true, true, true, true, true] rfl rfl (by kernel_rfl) rfl ((.int .i64 ec)) (_) (rfl) (fun h => absurd (by decide) h) (a' := ?_) ?_ ?_
        rotate_left
        · simp only [Act.put, List.setIfInBounds_toArray, List.set_cons_zero, List.set_cons_succ]
          rfl
        refine doneD_ (by kernel_rfl) ?_ _
        change Exit.then _ _ _ _ _
        go_wp2
        go_meet
        case rel => exact ⟨_, t2, rfl, rfl, HS3.out.set (Nat.lt_of_lt_of_le HL.out.2 HL.out.1) _, setRow_heap _ _ _ _ _ _ (heap_alloc_new w2 _), tip_mono (tip_set ((tip_old HT2.out).below ((Below.refl _ w2).alloc (Nat.le_refl _) _)) (fun k hk => by have := hk.2; omega) _) fun k hk => by have := HL.out; have := hk.1; omega⟩
      · have hHeld := hHeld.next ((Below.refl _ _).alloc (Nat.le_refl _) (.cells #[.slice none 0 0] 27))
        refine fvalD_ 10 (some 6) #[true, true, true, true, true, true, false, false, false, false, true, false, false] rfl rfl (by kernel_rfl) rfl ((.pointer (some ⟨w1.heap.size, 0, none⟩))) ((w1.alloc (.cells #[.slice none 0 0] 27))) (by kernel_rfl) (fun _ => hHeld) (a' := ?_) ?_ ?_
        rotate_left
        · simp only [Act.put, List.setIfInBounds_toArray, List.set_cons_zero, List.set_cons_succ]
          rfl
        refine callD_ 6 (some 15) #[true, true, true, true, true, true, true, false, false, false, true, false, false] rfl rfl (by kernel_rfl) rfl 40 _ (by kernel_rfl) (HT.out _ hHeld.dag) ?_
        rintro e w2 ⟨t2, rfl, ht2, hb2⟩
        have HS2 := Lib.hid (hHeld.next hb2)
        have HT2 := Lib.hid ht2
        have HG2 : Hid (w2.heap[w1.heap.size]? = some (.cells #[.slice none 0 0] 27 (0, 0))) := Lib.hid ((hb2.block _ (by simp)).trans (heap_alloc_new w1 _))
        have HL : Hid (w1.heap.size < (w1.alloc (.cells #[.slice none 0 0] 27)).heap.size ∧ w.heap.size + 1 < w1.heap.size) := Lib.hid ⟨by simp, HS1.out.lt⟩
        refine ⟨_, rfl, HS2.out, fun hHeld => ⟨?_, ?_, ?_⟩⟩
        rotate_left
        · simp only [Act.put, List.setIfInBounds_toArray, List.set_cons_zero, List.set_cons_succ]
          rfl
        refine tkD_ 7 (some 8) #[true, true, true, true, true, true, true, true, false, false, true, false, false] (v := ?_) (a' := ?_) rfl rfl (by kernel_rfl) (fun _ _ _ h => h) (yieldsIf_run rfl ?_) hHeld ?_ ?_
        rotate_left
        · intro w'
          go_simp
          with_reducible rfl
        rotate_left
        · simp only [Act.put, List.setIfInBounds_toArray, List.set_cons_zero, List.set_cons_succ]
          rfl
        refine tkD_ 8 (some 16) #[true, true, true, true, true, true, true, true, true, false, true, false, false] (v := ?_) (a' := ?_) rfl rfl (by kernel_rfl) (fun _ _ _ h => h) (yieldsIf_run rfl ?_) hHeld ?_ ?_
        rotate_left
        · intro w'
          go_simp
          with_reducible rfl
        rotate_left
        · simp only [Act.put, List.setIfInBounds_toArray, List.set_cons_zero, List.set_cons_succ]
          rfl
        refine tkD_ 9 (some 17) #[true, true, true, true, true, true, true, true, true, true, true, false, false] (v := ?_) (a' := ?_) rfl rfl (by kernel_rfl) (fun _ _ _ h => h) (yieldsIf_run rfl ?_) hHeld ?_ ?_
        rotate_left
        · intro w'
          go_simp
          with_reducible rfl
        rotate_left
        · simp only [Act.put, List.setIfInBounds_toArray, List.set_cons_zero, List.set_cons_succ]
          rfl
        have hHeld := HS2.out.set HL.out.2 #[t2]
        refine skD_ 11 #[true, true, true, true, true, true, true, true, true, true, true, true, false] rfl rfl (by kernel_rfl) rfl ((w2.setRow w1.heap.size #[t2])) (exec_store 27 (.tmp 6) (.tmp 16) rfl w1.heap.size 0 rfl _ rfl (run_storeVar_block w2 w1.heap.size 27 27 [t2] #[.slice none 0 0] HG2.out rfl (tip_one HT2.out) tip_size)) (fun _ => hHeld) ?_
        refine valD_ 12 (some 7) #[true, true, true, true, true, true, true, true, true, true, true, true, true] rfl rfl (by kernel_rfl) rfl ((.int .i64 ec)) (_) (rfl) (fun h => absurd (by decide) h) (a' := ?_) ?_ ?_
        rotate_left
        · simp only [Act.put, List.setIfInBounds_toArray, List.set_cons_zero, List.set_cons_succ]
          rfl
        refine doneD_ (by kernel_rfl) ?_ _
        change Exit.then _ _ _ _ _
        go_wp2
        go_meet
        case rel => exact ⟨_, t2, rfl, rfl, HS2.out.set HL.out.2 _, setRow_heap _ _ _ _ _ _ HG2.out, tip_mono (tip_set HT2.out (fun k hk => by have := HL.out.1; omega) _) fun k hk => by have := HL.out; omega⟩
    · have hHeld := hHeld.next ((Below.refl _ _).alloc (Nat.le_refl _) (.cells #[.slice none 0 0] 27))
      refine fvalD_ 10 (some 6) #[true, true, true, true, true, false, false, false, false, false, true, false, false] rfl rfl (by kernel_rfl) rfl ((.pointer (some ⟨W0.drew.heap.size, 0, none⟩))) ((W0.drew.alloc (.cells #[.slice none 0 0] 27))) (by kernel_rfl) (fun _ => hHeld) (a' := ?_) ?_ ?_
      rotate_left
      · simp only [Act.put, List.setIfInBounds_toArray, List.set_cons_zero, List.set_cons_succ]
        rfl
      refine callD_ 5 (some 14) #[true, true, true, true, true, true, false, false, false, false, true, false, false] rfl rfl (by kernel_rfl) rfl 121 _ (by kernel_rfl) (HP.out _ hHeld.tip hHeld.okay) ?_
      rintro e w1 ⟨rfl, hb1⟩
      have HS1 := Lib.hid (hHeld.next hb1)
      have HG1 : Hid (w1.heap[W0.drew.heap.size]? = some (.cells #[.slice none 0 0] 27 (0, 0))) := Lib.hid ((hb1.block _ (by simp)).trans (heap_alloc_new W0.drew _))
      refine ⟨_, rfl, HS1.out, fun hHeld => ⟨?_, ?_, ?_⟩⟩
      rotate_left
      · simp only [Act.put, List.setIfInBounds_toArray, List.set_cons_zero, List.set_cons_succ]
        rfl
      refine callD_ 6 (some 15) #[true, true, true, true, true, true, true, false, false, false, true, false, false] rfl rfl (by kernel_rfl) rfl 40 _ (by kernel_rfl) (HT.out _ hHeld.dag) ?_
      rintro e w2 ⟨t2, rfl, ht2, hb2⟩
      have HS2 := Lib.hid (hHeld.next hb2)
      have HT2 := Lib.hid ht2
      have HG2 : Hid (w2.heap[W0.drew.heap.size]? = some (.cells #[.slice none 0 0] 27 (0, 0))) := Lib.hid ((hb2.block _ (Array.getElem?_eq_some_iff.1 HG1.out).1).trans HG1.out)
      have HL : Hid (W0.drew.heap.size < w1.heap.size ∧ w.heap.size + 1 < W0.drew.heap.size) := Lib.hid ⟨(Array.getElem?_eq_some_iff.1 HG1.out).1, HS0d.out.lt⟩
      refine ⟨_, rfl, HS2.out, fun hHeld => ⟨?_, ?_, ?_⟩⟩
      rotate_left
      · simp only [Act.put, List.setIfInBounds_toArray, List.set_cons_zero, List.set_cons_succ]
        rfl
      refine tkD_ 7 (some 8) #[true, true, true, true, true, true, true, true, false, false, true, false, false] (v := ?_) (a' := ?_) rfl rfl (by kernel_rfl) (fun _ _ _ h => h) (yieldsIf_run rfl ?_) hHeld ?_ ?_
      rotate_left
      · intro w'
        go_simp
        with_reducible rfl
      rotate_left
      · simp only [Act.put, List.setIfInBounds_toArray, List.set_cons_zero, List.set_cons_succ]
        rfl
      refine tkD_ 8 (some 16) #[true, true, true, true, true, true, true, true, true, false, true, false, false] (v := ?_) (a' := ?_) rfl rfl (by kernel_rfl) (fun _ _ _ h => h) (yieldsIf_run rfl ?_) hHeld ?_ ?_
      rotate_left
      · intro w'
        go_simp
        with_reducible rfl
      rotate_left
      · simp only [Act.put, List.setIfInBounds_toArray, List.set_cons_zero, List.set_cons_succ]
        rfl
      refine tkD_ 9 (some 17) #[true, true, true, true, true, true, true, true, true, true, true, false, false] (v := ?_) (a' := ?_) rfl rfl (by kernel_rfl) (fun _ _ _ h => h) (yieldsIf_run rfl ?_) hHeld ?_ ?_
      rotate_left
      · intro w'
        go_simp
        with_reducible rfl
      rotate_left
      · simp only [Act.put, List.setIfInBounds_toArray, List.set_cons_zero, List.set_cons_succ]
        rfl
      have hHeld := HS2.out.set HL.out.2 #[t2]
      refine skD_ 11 #[true, true, true, true, true, true, true, true, true, true, true, true, false] rfl rfl (by kernel_rfl) rfl ((w2.setRow W0.drew.heap.size #[t2])) (exec_store 27 (.tmp 6) (.tmp 16) rfl W0.drew.heap.size 0 rfl _ rfl (run_storeVar_block w2 W0.drew.heap.size 27 27 [t2] #[.slice none 0 0] HG2.out rfl (tip_one HT2.out) tip_size)) (fun _ => hHeld) ?_
      refine valD_ 12 (some 7) #[true, true, true, true, true, true, true, true, true, true, true, true, true] rfl rfl (by kernel_rfl) rfl ((.int .i64 ec)) (_) (rfl) (fun h => absurd (by decide) h) (a' := ?_) ?_ ?_
      rotate_left
      · simp only [Act.put, List.setIfInBounds_toArray, List.set_cons_zero, List.set_cons_succ]
        rfl
      refine doneD_ (by kernel_rfl) ?_ _
      change Exit.then _ _ _ _ _
      go_wp2
      go_meet
      case rel => exact ⟨_, t2, rfl, rfl, HS2.out.set HL.out.2 _, setRow_heap _ _ _ _ _ _ HG2.out, tip_mono (tip_set HT2.out (fun k hk => by have := HL.out.1; omega) _) fun k hk => by have := HL.out; omega⟩
  case rest =>
  obtain ⟨g3, t2, rfl, rfl, hs3, hg3, ht3⟩ := hcut
  rename World => W3
  have HS3 := Lib.hid hs3
  have HG3 := Lib.hid hg3
  have HT3 := Lib.hid ht3
  clear hs3 hg3 ht3
  go_wp2_with (first
    | (refine wpl_load rfl 27 (.tmp 6) rfl g3 0 rfl [t2] _ (fun j u hu => by rw [Nat.zero_add]; exact cell_block HG3.out (by simpa using hu)) Tryz.underlying27 rfl tip_size ?_)
    | (refine wpl_store_row rfl 27 (.tmp 4) (.tmp 18) rfl (w.heap.size + 1) rfl [t2] rfl _ 27 HS3.out.res rfl (tip_one HT3.out) tip_size ?_))
  (try simp only [Exit.inBlock, Exit.then])
  refine bodyPost_ret (results_row_tmp rfl _ _ (w.heap.size + 1) 27 #[t2] (0, 0) _ rfl (setRow_heap _ (w.heap.size + 1) _ _ _ _ HS3.out.res) Tryz.underlying27 rfl tip_size _ rfl) rfl ?_
  have hbf : Below w.heap.size w (W3.setRow (w.heap.size + 1) #[t2]) := below_setRow HS3.out.below (by omega) _
  exact ⟨t2, by rw [← HEC.out]; rfl, HFIN.out _ _ hbf (tip_mono (tip_set HT3.out (fun k hk => by omega) _) fun k hk => by omega), hbf⟩
end Go.Proofs.YtpehmlfghddnaaaGreatDoor
