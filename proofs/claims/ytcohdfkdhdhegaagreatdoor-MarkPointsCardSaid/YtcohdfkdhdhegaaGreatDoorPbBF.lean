/- path.Paths.Common. coxswainlaw18.awake. path.Paths.Between. feed: of, New, Len, Start. feed.Feed.Push. feed.Feed.Take, Start. feed.NewHub, Hub.Join, Feed.Start. feed.Hub.Join. -/
import Derived.Test.YtcohdfkdhdhegaaGreatDoorPbAY
import Derived.Test.YtcohdfkdhdhegaaGreatDoorPbBD
import Derived.Test.YtcohdfkdhdhegaaGreatDoorPbBE
import Derived.Shelf.SlicesE.Clone
namespace Go.Proofs.YtcohdfkdhdhegaaGreatDoor
open Go.RowKit Go.Maps

/-- Two tipsets in variables, and the result's, while the common one is looked for. -/
structure CmS (w W : World) (G : List Hdr) (okR : Nat → Prop) (a b : Value) (A B C : List ID) : Prop where
  below : Below w.heap.size w W
  b0 : W.heap[w.heap.size]? = some (.cells #[a] 52 (0, 0))
  b1 : W.heap[w.heap.size + 1]? = some (.cells #[b] 52 (0, 0))
  b2 : W.heap[w.heap.size + 2]? = some (.cells #[.slice none 0 0] 52 (0, 0))
  ia : TipIs (fun k => okR k ∧ k ≠ w.heap.size ∧ k ≠ w.heap.size + 1 ∧ k ≠ w.heap.size + 2) W G a A
  ib : TipIs (fun k => okR k ∧ k ≠ w.heap.size ∧ k ≠ w.heap.size + 1 ∧ k ≠ w.heap.size + 2) W G b B
  ta : TipOf G A
  tb : TipOf G B
  comm : commG G A B = C
section
variable {w W W' : World} {G : List Hdr} {okR : Nat → Prop} {a b : Value} {A B C : List ID}
theorem CmS.lt (h : CmS w W G okR a b A B C) : w.heap.size + 2 < W.heap.size := (Array.getElem?_eq_some_iff.1 h.b2).1
theorem CmS.next (h : CmS w W G okR a b A B C) (hb : Below W.heap.size W W') : CmS w W' G okR a b A B C :=
  ⟨h.below.trans (hb.mono h.below.size), (hb.block _ (Array.getElem?_eq_some_iff.1 h.b0).1).trans h.b0, (hb.block _ (Array.getElem?_eq_some_iff.1 h.b1).1).trans h.b1, (hb.block _ (Array.getElem?_eq_some_iff.1 h.b2).1).trans h.b2, h.ia.below hb, h.ib.below hb, h.ta, h.tb, h.comm⟩
theorem CmS.drew (h : CmS w W G okR a b A B C) : CmS w W.drew G okR a b A B C := ⟨h.below.drew, h.b0, h.b1, h.b2, h.ia.fr ((Fr.refl _ _).drew), h.ib.fr ((Fr.refl _ _).drew), h.ta, h.tb, h.comm⟩
theorem CmS.setA (h : CmS w W G okR a b A B C) (hb : Below W.heap.size W W') {t : Value} {T : List ID} (ht : TipIs (fun k => okR k ∧ k ≠ w.heap.size ∧ k ≠ w.heap.size + 1 ∧ k ≠ w.heap.size + 2) W' G t T) (hT : TipOf G T) (hc : commG G T B = C) : CmS w (W'.setRow w.heap.size #[t]) G okR t b T B C := by
  have h1 := h.next hb
  exact ⟨below_setRow h1.below (Nat.le_refl _) _, setRow_heap _ _ _ _ _ _ h1.b0, (heap_setRow_ne _ _ _ _ (by omega)).trans h1.b1, (heap_setRow_ne _ _ _ _ (by omega)).trans h1.b2, ht.set (fun k hk => hk.2.1) _, h1.ib.set (fun k hk => hk.2.1) _, hT, h.tb, hc⟩
theorem CmS.setB (h : CmS w W G okR a b A B C) (hb : Below W.heap.size W W') {t : Value} {T : List ID} (ht : TipIs (fun k => okR k ∧ k ≠ w.heap.size ∧ k ≠ w.heap.size + 1 ∧ k ≠ w.heap.size + 2) W' G t T) (hT : TipOf G T) {C' : List ID} (hc : commG G A T = C') : CmS w (W'.setRow (w.heap.size + 1) #[t]) G okR a t A T C' := by
  have h1 := h.next hb
  exact ⟨below_setRow h1.below (by omega) _, (heap_setRow_ne _ _ _ _ (by omega)).trans h1.b0, setRow_heap _ _ _ _ _ _ h1.b1, (heap_setRow_ne _ _ _ _ (by omega)).trans h1.b2, h1.ia.set (fun k hk => hk.2.2.1) _, ht.set (fun k hk => hk.2.2.1) _, h.ta, hT, hc⟩
theorem CmS.free (h : CmS w W G okR a b A B C) (hR : ∀ k, w.heap.size ≤ k → okR k) {k : Nat} (hk : W.heap.size ≤ k) : okR k ∧ k ≠ w.heap.size ∧ k ≠ w.heap.size + 1 ∧ k ≠ w.heap.size + 2 := by
  have := h.lt
  exact ⟨hR k (by omega), by omega, by omega, by omega⟩
end

set_option maxRecDepth 100000 in
set_option maxHeartbeats 4000000 in
theorem common_any (w : World) (pp p b1 b2 : Nat) (D : List LB) (okx ok ok2 : Nat → Prop) (h : PathAt okx w pp p b1 b2 D) (av : Value) (A : List ID) (hA : TipOf (hdrs D) A) (hw : TipIs ok w (hdrs D) av A) (bv : Value) (B : List ID) (hB : TipOf (hdrs D) B) (hv : TipIs ok2 w (hdrs D) bv B) :
    Calls Tryz.prog 64 #[.pointer (some ⟨pp, 0, none⟩), tipV av, tipV bv] w fun e w' => ∃ t2, e = .returned (tipV t2) ∧ TipIs (fun k => ok k ∨ ok2 k ∨ okx k ∨ k = pp ∨ w.heap.size ≤ k) w' (hdrs D) t2 (commG (hdrs D) A B) ∧ Below w.heap.size w w' := by
  obtain ⟨okR, hokR⟩ : ∃ okR : Nat → Prop, (fun k => ok k ∨ ok2 k ∨ okx k ∨ k = pp ∨ w.heap.size ≤ k) = okR := ⟨_, rfl⟩
  have HOR : Hid (∀ k, ok k ∨ ok2 k ∨ okx k ∨ k = pp ∨ w.heap.size ≤ k → okR k) := Lib.hid fun k hk => by rw [← hokR]; exact hk
  obtain ⟨C, hC⟩ : ∃ C, commG (hdrs D) A B = C := ⟨_, rfl⟩
  rw [hokR, hC]
  have GG := h.good
  have hpl := cell_lt h.toD
  have HP : Hid (∀ W, Below w.heap.size w W → PathAt (fun k => okx k ∧ k < w.heap.size) W pp p b1 b2 D) := Lib.hid fun W hb => ⟨(h.below hb).toD, h.dag.old.below hb, h.fine, h.good⟩
  have hb0 : Below w.heap.size w (((w.alloc (.cells #[av] 52)).alloc (.cells #[bv] 52)).alloc (.cells #[.slice none 0 0] 52)) := (((Below.refl _ w).alloc (Nat.le_refl _) _).alloc (by simp) _).alloc (by simp; omega) _
  have HX := Box2.mk2 w av bv
  have HS0 : Hid (CmS w (((w.alloc (.cells #[av] 52)).alloc (.cells #[bv] 52)).alloc (.cells #[.slice none 0 0] 52)) (hdrs D) okR av bv A B C) := Lib.hid (by
    have h2 := HX.next ((Below.refl _ _).alloc (Nat.le_refl _) (.cells #[.slice none 0 0] 52))
    refine ⟨hb0, h2.b0, h2.b1, ?_, (hw.old.below hb0).mono fun k hk => ⟨HOR.out k (.inl hk.1), by have := hk.2; omega, by have := hk.2; omega, by have := hk.2; omega⟩, (hv.old.below hb0).mono fun k hk => ⟨HOR.out k (.inr (.inl hk.1)), by have := hk.2; omega, by have := hk.2; omega, by have := hk.2; omega⟩, hA, hB, hC⟩
    have := heap_alloc_new ((w.alloc (.cells #[av] 52)).alloc (.cells #[bv] 52)) (.cells #[.slice none 0 0] 52)
    rw [World.size_alloc, World.size_alloc] at this
    exact this)
  have HR1 : Hid (∀ k, w.heap.size ≤ k → okR k) := Lib.hid fun k hk => HOR.out k (.inr (.inr (.inr (.inr hk))))
  have HAT : Hid (∀ (W : World) (a b : Value) (Ta Tb : List ID) (t : Value) (T : List ID) (y : Int), CmS w W (hdrs D) okR a b Ta Tb C → (t = a ∧ T = Ta ∨ t = b ∧ T = Tb) → Calls Tryz.prog 60 #[.pointer (some ⟨pp, 0, none⟩), tipV t, .int .i64 y] W fun e w' => ∃ t2, e = .returned (tipV t2) ∧ TipIs (fun k => okR k ∧ k ≠ w.heap.size ∧ k ≠ w.heap.size + 1 ∧ k ≠ w.heap.size + 2) w' (hdrs D) t2 (atG (hdrs D) T y) ∧ Below W.heap.size W w') := Lib.hid fun W a b Ta Tb t T y hS ht => by
    have hp := HP.out W hS.below
    have h1 : TipIs (fun k => okR k ∧ k ≠ w.heap.size ∧ k ≠ w.heap.size + 1 ∧ k ≠ w.heap.size + 2) W (hdrs D) t T ∧ TipOf (hdrs D) T := by rcases ht with ⟨rfl, rfl⟩ | ⟨rfl, rfl⟩; exact ⟨hS.ia, hS.ta⟩; exact ⟨hS.ib, hS.tb⟩
    refine (at_any W pp p b1 b2 D _ _ hp.toD hp.dag hp.fine hp.good t T h1.2 h1.1 y).mono ?_
    rintro e w' ⟨t2, rfl, h2, h3⟩
    refine ⟨t2, rfl, h2.mono fun k hk => ?_, h3⟩
    rcases hk with hk | hk | rfl | hk
    · exact hk
    · exact ⟨HOR.out k (.inr (.inr (.inl hk.1))), by have := hk.2; omega, by have := hk.2; omega, by have := hk.2; omega⟩
    · exact ⟨HOR.out _ (.inr (.inr (.inr (.inl rfl)))), by omega, by omega, by omega⟩
    · exact hS.free HR1.out hk
  have HPAR : Hid (∀ (W : World) (a b : Value) (Ta Tb : List ID) (C' : List ID) (t : Value) (T : List ID), CmS w W (hdrs D) okR a b Ta Tb C' → (t = a ∧ T = Ta ∨ t = b ∧ T = Tb) → Calls Tryz.prog 63 #[.pointer (some ⟨pp, 0, none⟩), tipV t] W fun e w' => ∃ t2 bo, e = .returned (.tuple #[tipV t2, .bool bo]) ∧ TipIs (fun k => okR k ∧ k ≠ w.heap.size ∧ k ≠ w.heap.size + 1 ∧ k ≠ w.heap.size + 2) w' (hdrs D) t2 (parG (hdrs D) T) ∧ Below W.heap.size W w') := Lib.hid fun W a b Ta Tb C' t T hS ht => by
    have hp := HP.out W hS.below
    have h1 : TipIs (fun k => okR k ∧ k ≠ w.heap.size ∧ k ≠ w.heap.size + 1 ∧ k ≠ w.heap.size + 2) W (hdrs D) t T ∧ TipOf (hdrs D) T := by rcases ht with ⟨rfl, rfl⟩ | ⟨rfl, rfl⟩; exact ⟨hS.ia, hS.ta⟩; exact ⟨hS.ib, hS.tb⟩
    refine (parent_any W pp p b1 b2 D _ _ hp.toD hp.dag hp.fine hp.good t T h1.2 h1.1).mono ?_
    rintro e w' ⟨t2, rfl, h2, h3⟩
    refine ⟨t2, _, rfl, h2.mono fun k hk => ?_, h3⟩
    rcases hk with hk | hk
    · exact hS.free HR1.out hk
    · exact ⟨HOR.out k (.inr (.inr (.inl hk.1))), by have := hk.2; omega, by have := hk.2; omega, by have := hk.2; omega⟩
  clear h hw hv hb0 HX hokR hC
  go_enter Tryz.func64, Tryz.ntmps64
  go_upto_region 1 with fail
  generalize ((w.alloc (.cells #[av] 52)).alloc (.cells #[bv] 52)).alloc (.cells #[.slice none 0 0] 52) = W0 at HS0 ⊢
  go_loopw [7] (fun _ W => ∃ (m : Nat) (a b : Value) (Ta Tb : List ID), CmS w W (hdrs D) okR a b Ta Tb C ∧ m = (hgtG (hdrs D) Ta + hgtG (hdrs D) Tb).toNat) (fun _ W => leastN fun m => ∃ (a b : Value) (Ta Tb : List ID), CmS w W (hdrs D) okR a b Ta Tb C ∧ m = (hgtG (hdrs D) Ta + hgtG (hdrs D) Tb).toNat)
  case atStart => exact ⟨_, av, bv, A, B, HS0.out, rfl⟩
  case round =>
    obtain ⟨hI0, hmin⟩ := leastN_spec hrel
    obtain ⟨a, b, Ta, Tb, hI⟩ := hI0
    generalize hme : leastN _ = m at hI hmin
    obtain ⟨hS, hm⟩ := hI
    clear hrel hmin
    have HS := Lib.hid hS
    have HSd := Lib.hid hS.drew
    obtain ⟨ka, hka⟩ : ∃ ka, keyB Ta = ka := ⟨_, rfl⟩
    obtain ⟨kb, hkb⟩ : ∃ kb, keyB Tb = kb := ⟨_, rfl⟩
    have HKA : Hid (∀ W, CmS w W (hdrs D) okR a b Ta Tb C → Calls Tryz.prog 54 #[tipV a] W fun e w' => e = .returned (.string ka) ∧ Below W.heap.size W w') := Lib.hid fun W h => by rw [← hka]; exact key_is h.ia (.inr h.ta)
    have HKB : Hid (∀ W, CmS w W (hdrs D) okR a b Ta Tb C → Calls Tryz.prog 54 #[tipV b] W fun e w' => e = .returned (.string kb) ∧ Below W.heap.size W w') := Lib.hid fun W h => by rw [← hkb]; exact key_is h.ib (.inr h.tb)
    obtain ⟨x, hx⟩ : ∃ x, hgtG (hdrs D) Ta = x := ⟨_, rfl⟩
    obtain ⟨y, hy⟩ : ∃ y, hgtG (hdrs D) Tb = y := ⟨_, rfl⟩
    have HHA : Hid (∀ W, CmS w W (hdrs D) okR a b Ta Tb C → Calls Tryz.prog 41 #[tipV a] W fun e w' => e = .returned (.int .i64 x) ∧ Below W.heap.size W w') := Lib.hid fun W h => by rw [← hx]; exact height_is h.ia h.ta
    have HHB : Hid (∀ W, CmS w W (hdrs D) okR a b Ta Tb C → Calls Tryz.prog 41 #[tipV b] W fun e w' => e = .returned (.int .i64 y) ∧ Below W.heap.size W w') := Lib.hid fun W h => by rw [← hy]; exact height_is h.ib h.tb
    have hx0 := GG.hgt0 hS.ta
    have hy0 := GG.hgt0 hS.tb
    rw [hx] at hx0
    rw [hy] at hy0
    obtain ⟨q, hq⟩ : ∃ q, (ka.toList == kb.toList) = q := ⟨_, rfl⟩
    have HQ : Hid (q = true ↔ Ta = Tb) := Lib.hid (by rw [← hq, ← hka, ← hkb]; exact key_beq (.inr hS.ta) (.inr hS.tb))
    have hK : ka = kb ↔ q = true := by rw [HQ.out, ← hka, ← hkb]; exact ⟨key_inj (.inr hS.ta) (.inr hS.tb), fun h => by rw [h]⟩
    have HM := Lib.hid (And.intro hme hm)
    have HXY := Lib.hid (And.intro hx hy)
    clear hS hka hkb hx hy hme hm
    cases q with
    | true =>
      obtain rfl : ka = kb := hK.2 rfl
      obtain rfl : Ta = Tb := HQ.out.1 rfl
      clear hq hK HQ
      go_upto_region 1 with fail
      refine st_ (S := (fun W' => CmS w W' (hdrs D) okR a b Ta Ta C)) 5 #[false, false, false, false, false] (by kernel_rfl) rfl (by rfl) HSd.out (fun hHeld => ?_)
      refine tk_ 0 (some 9) #[true, false, false, false, false] rfl rfl (by kernel_rfl) (fun _ _ _ h => h) (yieldsIf_tipb rfl (.tmp 4) rfl w.heap.size rfl a (fun W' h => h.b0)) hHeld (a' := ?_) ?_ ?_
      rotate_left
      · simp only [Act.put, List.setIfInBounds_toArray, List.set_cons_zero, List.set_cons_succ]
        rfl
      refine tk_ 2 (some 11) #[true, false, true, false, false] rfl rfl (by kernel_rfl) (fun _ _ _ h => h) (yieldsIf_tipb rfl (.tmp 5) rfl (w.heap.size + 1) rfl b (fun W' h => h.b1)) hHeld (a' := ?_) ?_ ?_
      rotate_left
      · simp only [Act.put, List.setIfInBounds_toArray, List.set_cons_zero, List.set_cons_succ]
        rfl
      refine call_ 1 (some 10) #[true, true, true, false, false] rfl rfl (by kernel_rfl) rfl 54 _ (by kernel_rfl) (HKA.out _ hHeld) ?_
      rintro e w1 ⟨rfl, hb1⟩
      have HS1 := Lib.hid (hHeld.next hb1)
      refine ⟨_, rfl, HS1.out, fun hHeld => ⟨?_, ?_, ?_⟩⟩
      rotate_left
      · simp only [Act.put, List.setIfInBounds_toArray, List.set_cons_zero, List.set_cons_succ]
        rfl
      refine call_ 3 (some 12) #[true, true, true, true, false] rfl rfl (by kernel_rfl) rfl 54 _ (by kernel_rfl) (HKB.out _ hHeld) ?_
      rintro e w2 ⟨rfl, hb2⟩
      have HS2 := Lib.hid (hHeld.next hb2)
      refine ⟨_, rfl, HS2.out, fun hHeld => ⟨?_, ?_, ?_⟩⟩
      rotate_left
      · simp only [Act.put, List.setIfInBounds_toArray, List.set_cons_zero, List.set_cons_succ]
        rfl
      refine tk_ 4 (some 13) #[true, true, true, true, true] (v := ?_) (a' := ?_) rfl rfl (by kernel_rfl) (fun _ _ _ h => h) (yieldsIf_run rfl ?_) hHeld ?_ ?_
      rotate_left
      · intro w'
        go_simp
        with_reducible rfl
      rotate_left
      · simp only [Act.put, List.setIfInBounds_toArray, List.set_cons_zero, List.set_cons_succ]
        rfl
      refine wpAnyH_done (by kernel_rfl) ?_ _
      change Exit.then _ _ _ _ _
      go_wp2_with (first
        | (refine wpl_tip rfl _ rfl _ rfl _ HS2.out.b0 ?_)
        | (refine wpl_tip_set rfl _ _ rfl (w.heap.size + 2) rfl _ _ rfl HS2.out.b2 HS2.out.ia.one ?_))
      (try simp only [Exit.inBlock, Exit.then])
      refine bodyPost_ret (results_cell_row rfl _ _ (w.heap.size + 2) 52 #[a] (0, 0) _ rfl (setRow_heap _ _ _ _ _ _ HS2.out.b2) Tryz.underlying52 rfl tip_size) rfl ?_
      have hca : Ta = C := (GG.comm_self HS2.out.ta).symm.trans HS2.out.comm
      refine ⟨a, rfl, ?_, below_setRow HS2.out.below (by omega) _⟩
      rw [← hca]
      exact (HS2.out.ia.set (fun k hk => hk.2.2.2) _).mono fun k hk => hk.1
    | false =>
      have hne : Ta ≠ Tb := fun e => by have := HQ.out.2 e; cases this
      have HNE := Lib.hid hne
      have HKK := Lib.hid hq
      clear hq hK HQ hne
      go_upto_region 1 with fail
      refine st_ (S := (fun W' => CmS w W' (hdrs D) okR a b Ta Tb C)) 5 #[false, false, false, false, false] (by kernel_rfl) rfl (by rfl) HSd.out (fun hHeld => ?_)
      refine tk_ 0 (some 9) #[true, false, false, false, false] rfl rfl (by kernel_rfl) (fun _ _ _ h => h) (yieldsIf_tipb rfl (.tmp 4) rfl w.heap.size rfl a (fun W' h => h.b0)) hHeld (a' := ?_) ?_ ?_
      rotate_left
      · simp only [Act.put, List.setIfInBounds_toArray, List.set_cons_zero, List.set_cons_succ]
        rfl
      refine tk_ 2 (some 11) #[true, false, true, false, false] rfl rfl (by kernel_rfl) (fun _ _ _ h => h) (yieldsIf_tipb rfl (.tmp 5) rfl (w.heap.size + 1) rfl b (fun W' h => h.b1)) hHeld (a' := ?_) ?_ ?_
      rotate_left
      · simp only [Act.put, List.setIfInBounds_toArray, List.set_cons_zero, List.set_cons_succ]
        rfl
      refine call_ 1 (some 10) #[true, true, true, false, false] rfl rfl (by kernel_rfl) rfl 54 _ (by kernel_rfl) (HKA.out _ hHeld) ?_
      rintro e w1 ⟨rfl, hb1⟩
      have HS1 := Lib.hid (hHeld.next hb1)
      refine ⟨_, rfl, HS1.out, fun hHeld => ⟨?_, ?_, ?_⟩⟩
      rotate_left
      · simp only [Act.put, List.setIfInBounds_toArray, List.set_cons_zero, List.set_cons_succ]
        rfl
      refine call_ 3 (some 12) #[true, true, true, true, false] rfl rfl (by kernel_rfl) rfl 54 _ (by kernel_rfl) (HKB.out _ hHeld) ?_
      rintro e w2 ⟨rfl, hb2⟩
      have HS2 := Lib.hid (hHeld.next hb2)
      refine ⟨_, rfl, HS2.out, fun hHeld => ⟨?_, ?_, ?_⟩⟩
      rotate_left
      · simp only [Act.put, List.setIfInBounds_toArray, List.set_cons_zero, List.set_cons_succ]
        rfl
      refine tk_ 4 (some 13) #[true, true, true, true, true] rfl rfl (by kernel_rfl) (fun _ _ _ h => h) (yieldsIf_run (v := .bool true) rfl fun W' => by go_simp; exact ne_of_beq_false HKK.out) hHeld (a' := ?_) ?_ ?_
      rotate_left
      · simp only [Act.put, List.setIfInBounds_toArray, List.set_cons_zero, List.set_cons_succ]
        rfl
      refine wpAnyH_done (by kernel_rfl) ?_ _
      change Exit.then _ _ _ _ _
      go_upto_region 2 with fail
      have HSd2 := Lib.hid HS2.out.drew
      refine st_ (S := (fun W' => CmS w W' (hdrs D) okR a b Ta Tb C)) 6 (bt 0 6) (by kernel_rfl) rfl (by rfl) HSd2.out (fun hHeld => ?_)
      refine tk_ 0 (some 14) (bt 1 5) rfl rfl (by kernel_rfl) (fun _ _ _ h => h) (yieldsIf_tipb rfl (.tmp 4) rfl w.heap.size rfl a (fun W' h => h.b0)) hHeld (a' := ?_) ?_ ?_
      rotate_left
      · simp only [Act.put, List.setIfInBounds_toArray, List.set_cons_zero, List.set_cons_succ]
        rfl
      refine tk_ 2 (some 16) #[true, false, true, false, false, false] rfl rfl (by kernel_rfl) (fun _ _ _ h => h) (yieldsIf_tipb rfl (.tmp 5) rfl (w.heap.size + 1) rfl b (fun W' h => h.b1)) hHeld (a' := ?_) ?_ ?_
      rotate_left
      · simp only [Act.put, List.setIfInBounds_toArray, List.set_cons_zero, List.set_cons_succ]
        rfl
      refine call_ 1 (some 15) (bt 3 3) rfl rfl (by kernel_rfl) rfl 41 _ (by kernel_rfl) (HHA.out _ hHeld) ?_
      rintro e w3 ⟨rfl, hb3⟩
      have HS3 := Lib.hid (hHeld.next hb3)
      refine ⟨_, rfl, HS3.out, fun hHeld => ⟨?_, ?_, ?_⟩⟩
      rotate_left
      · simp only [Act.put, List.setIfInBounds_toArray, List.set_cons_zero, List.set_cons_succ]
        rfl
      refine call_ 3 (some 17) (bt 4 2) rfl rfl (by kernel_rfl) rfl 41 _ (by kernel_rfl) (HHB.out _ hHeld) ?_
      rintro e w4 ⟨rfl, hb4⟩
      have HS4 := Lib.hid (hHeld.next hb4)
      refine ⟨_, rfl, HS4.out, fun hHeld => ⟨?_, ?_, ?_⟩⟩
      rotate_left
      · simp only [Act.put, List.setIfInBounds_toArray, List.set_cons_zero, List.set_cons_succ]
        rfl
      refine tk_ 4 (some 7) (bt 5 1) (v := ?_) (a' := ?_) rfl rfl (by kernel_rfl) (fun _ _ _ h => h) (yieldsIf_run rfl ?_) hHeld ?_ ?_
      rotate_left
      · intro w'
        go_simp
        with_reducible rfl
      rotate_left
      · simp only [Act.put, List.setIfInBounds_toArray, List.set_cons_zero, List.set_cons_succ]
        rfl
      refine tk_ 5 (some 8) (bt 6 0) (v := ?_) (a' := ?_) rfl rfl (by kernel_rfl) (fun _ _ _ h => h) (yieldsIf_run rfl ?_) hHeld ?_ ?_
      rotate_left
      · intro w'
        go_simp
        with_reducible rfl
      rotate_left
      · simp only [Act.put, List.setIfInBounds_toArray, List.set_cons_zero, List.set_cons_succ]
        rfl
      refine wpAnyH_done (by kernel_rfl) ?_ _
      change Exit.then _ _ _ _ _
      clear HS HSd HSd2 HS1 HS2 HS3
      have HC1 : Hid (TipOf (hdrs D) (atG (hdrs D) Ta y) ∧ commG (hdrs D) (atG (hdrs D) Ta y) Tb = C ∧ hgtG (hdrs D) (atG (hdrs D) Ta y) ≤ y) := Lib.hid (by rw [← HXY.out.2, ← HS4.out.comm]; exact GG.comm_at HS4.out.ta HS4.out.tb)
      have HC2 : Hid (TipOf (hdrs D) (atG (hdrs D) Tb x) ∧ commG (hdrs D) Ta (atG (hdrs D) Tb x) = C ∧ hgtG (hdrs D) (atG (hdrs D) Tb x) ≤ x) := Lib.hid (by
        have h1 := GG.comm_at HS4.out.tb HS4.out.ta
        rw [HXY.out.1] at h1
        exact ⟨h1.1, by rw [GG.comm_symm HS4.out.ta h1.1, h1.2.1, ← HS4.out.comm, GG.comm_symm HS4.out.ta HS4.out.tb], h1.2.2⟩)
      have HC3 : Hid (x = y → (TipOf (hdrs D) (parG (hdrs D) Ta) ∧ hgtG (hdrs D) (parG (hdrs D) Ta) < x) ∧ (TipOf (hdrs D) (parG (hdrs D) Tb) ∧ hgtG (hdrs D) (parG (hdrs D) Tb) < y) ∧ commG (hdrs D) (parG (hdrs D) Ta) Tb = C ∧ commG (hdrs D) (parG (hdrs D) Ta) (parG (hdrs D) Tb) = C) := Lib.hid fun e => by
        rw [← HXY.out.1, ← HXY.out.2] at e ⊢
        rw [← HS4.out.comm]
        exact GG.comm_par HS4.out.ta HS4.out.tb e HNE.out
      rcases Int.lt_trichotomy x y with hxy | hxy | hxy
      · go_wp2_with (first
          | (refine wpl_tip rfl _ rfl _ rfl _ HS4.out.b1 ?_)
          | (go_at_call 60; refine (HAT.out _ a b Ta Tb b Tb x HS4.out (.inr ⟨rfl, rfl⟩)).mono ?_; rintro e w5 ⟨t5, rfl, ht5, hb5⟩; have HT5 := Lib.hid ht5; have HB5 := Lib.hid hb5; have HS5 := Lib.hid (HS4.out.next hb5); clear ht5 hb5)
          | (refine wpl_tip_set rfl _ _ rfl (w.heap.size + 1) rfl _ _ rfl HS5.out.b1 HT5.out.one ?_))
        have hnew : CmS w (w5.setRow (w.heap.size + 1) #[t5]) (hdrs D) okR a t5 Ta (atG (hdrs D) Tb x) C := HS4.out.setB HB5.out HT5.out HC2.out.1 HC2.out.2.1
        go_roundw
        case rel =>
          repeat apply Exists.intro (α := Value)
          exact ⟨⟨_, _, _, _, _, hnew, rfl⟩, rfl⟩
        case measure =>
          refine Nat.lt_of_le_of_lt ((leastN_spec ⟨_, _, _, _, _, hnew, rfl⟩).2 _ ⟨_, _, _, _, hnew, rfl⟩) ?_
          have := HC2.out.2.2
          have := GG.hgt0 HC2.out.1
          rw [HM.out.2, HXY.out.1, HXY.out.2]
          omega
      · have HC := Lib.hid (HC3.out hxy)
        go_wp2_with (first
          | (refine wpl_tip rfl _ rfl _ rfl _ HS6.out.b1 ?_)
          | (refine wpl_tip rfl _ rfl _ rfl _ HS4.out.b0 ?_)
          | (go_at_call 63; refine (HPAR.out _ t5 b (parG (hdrs D) Ta) Tb C b Tb HS6.out (.inr ⟨rfl, rfl⟩)).mono ?_; rintro e w7 ⟨t7, bo7, rfl, ht7, hb7⟩; have HT7 := Lib.hid ht7; have HB7 := Lib.hid hb7; have HS7 := Lib.hid (HS6.out.next hb7); clear ht7 hb7)
          | (go_at_call 63; refine (HPAR.out _ a b Ta Tb C a Ta HS4.out (.inl ⟨rfl, rfl⟩)).mono ?_; rintro e w5 ⟨t5, bo5, rfl, ht5, hb5⟩; have HT5 := Lib.hid ht5; have HS5 := Lib.hid (HS4.out.next hb5); have HS6 : Hid (CmS w (w5.setRow w.heap.size #[t5]) (hdrs D) okR t5 b (parG (hdrs D) Ta) Tb C) := Lib.hid (HS4.out.setA hb5 ht5 HC.out.1.1 HC.out.2.2.1); clear ht5 hb5)
          | (refine wpl_tip_set rfl _ _ rfl (w.heap.size + 1) rfl _ _ rfl HS7.out.b1 HT7.out.one ?_)
          | (refine wpl_tip_set rfl _ _ rfl w.heap.size rfl _ _ rfl HS5.out.b0 HT5.out.one ?_))
        have hnew : CmS w (w7.setRow (w.heap.size + 1) #[t7]) (hdrs D) okR t5 t7 (parG (hdrs D) Ta) (parG (hdrs D) Tb) C := HS6.out.setB HB7.out HT7.out HC.out.2.1.1 HC.out.2.2.2
        go_roundw
        case rel =>
          repeat apply Exists.intro (α := Value)
          exact ⟨⟨_, _, _, _, _, hnew, rfl⟩, rfl⟩
        case measure =>
          refine Nat.lt_of_le_of_lt ((leastN_spec ⟨_, _, _, _, _, hnew, rfl⟩).2 _ ⟨_, _, _, _, hnew, rfl⟩) ?_
          have := HC.out.1.2
          have := HC.out.2.1.2
          have := GG.hgt0 HC.out.1.1
          have := GG.hgt0 HC.out.2.1.1
          rw [HM.out.2, HXY.out.1, HXY.out.2]
          omega
      · go_wp2_with (first
          | (refine wpl_tip rfl _ rfl _ rfl _ HS4.out.b0 ?_)
          | (go_at_call 60; refine (HAT.out _ a b Ta Tb a Ta y HS4.out (.inl ⟨rfl, rfl⟩)).mono ?_; rintro e w5 ⟨t5, rfl, ht5, hb5⟩; have HT5 := Lib.hid ht5; have HB5 := Lib.hid hb5; have HS5 := Lib.hid (HS4.out.next hb5); clear ht5 hb5)
          | (refine wpl_tip_set rfl _ _ rfl w.heap.size rfl _ _ rfl HS5.out.b0 HT5.out.one ?_))
        have hnew : CmS w (w5.setRow w.heap.size #[t5]) (hdrs D) okR t5 b (atG (hdrs D) Ta y) Tb C := HS4.out.setA HB5.out HT5.out HC1.out.1 HC1.out.2.1
        go_roundw
        case rel =>
          repeat apply Exists.intro (α := Value)
          exact ⟨⟨_, _, _, _, _, hnew, rfl⟩, rfl⟩
        case measure =>
          refine Nat.lt_of_le_of_lt ((leastN_spec ⟨_, _, _, _, _, hnew, rfl⟩).2 _ ⟨_, _, _, _, hnew, rfl⟩) ?_
          have := HC1.out.2.2
          have := GG.hgt0 HC1.out.1
          rw [HM.out.2, HXY.out.1, HXY.out.2]
          omega
end Go.Proofs.YtcohdfkdhdhegaaGreatDoor
namespace Go.Proofs.YtcohdfkdhdhegaaGreatDoor
open Go.RowKit Go.Maps

/-- A tipset in a variable. -/
structure Box1 (w W : World) (g : Nat) (v : Value) : Prop where
  below : Below w.heap.size w W
  b0 : W.heap[g]? = some (.cells #[v] 52 (0, 0))
theorem Box1.next {w W W' : World} {g : Nat} {v : Value} (h : Box1 w W g v) (hb : Below W.heap.size W W') : Box1 w W' g v :=
  ⟨h.below.trans (hb.mono h.below.size), (hb.block _ (Array.getElem?_eq_some_iff.1 h.b0).1).trans h.b0⟩

end Go.Proofs.YtcohdfkdhdhegaaGreatDoor
namespace Go.Proofs.YtcohdfkdhdhegaaGreatDoor
open Go.RowKit Go.Maps

/-- Tipsets in a row, as they are read. -/
structure TipsAt (ok : Nat → Prop) (w : World) (G : List Hdr) (v : Value) (xs : List (Value × List ID)) : Prop where
  row : Sl tpE ok w v xs
  is : ∀ x ∈ xs, TipIs ok w G x.1 x.2 ∧ TipOf G x.2
section
variable {ok ok' : Nat → Prop} {w w' : World} {G : List Hdr} {v : Value} {xs : List (Value × List ID)}
theorem TipsAt.fr (h : TipsAt ok w G v xs) (hf : Fr ok w w') : TipsAt ok w' G v xs := ⟨h.row.fr hf, fun x hx => ⟨(h.is x hx).1.fr hf, (h.is x hx).2⟩⟩
theorem TipsAt.below (h : TipsAt ok w G v xs) (hb : Below w.heap.size w w') : TipsAt ok w' G v xs := h.fr (Fr.of_below hb)
theorem TipsAt.mono (h : TipsAt ok w G v xs) (hk : ∀ k, ok k → ok' k) : TipsAt ok' w G v xs := ⟨h.row.mono hk, fun x hx => ⟨(h.is x hx).1.mono hk, (h.is x hx).2⟩⟩
theorem TipsAt.old (h : TipsAt ok w G v xs) : TipsAt (fun k => ok k ∧ k < w.heap.size) w G v xs := ⟨h.row.old, fun x hx => ⟨(h.is x hx).1.old, (h.is x hx).2⟩⟩
end

set_option maxRecDepth 100000 in
set_option maxHeartbeats 4000000 in
theorem between_any (w : World) (pp p b1 b2 : Nat) (D : List LB) (okx ok ok2 : Nat → Prop) (h : PathAt okx w pp p b1 b2 D) (av : Value) (A : List ID) (hA : TipOf (hdrs D) A) (hw : TipIs ok w (hdrs D) av A) (bv : Value) (B : List ID) (hB : TipOf (hdrs D) B) (hv : TipIs ok2 w (hdrs D) bv B) (hlen : D.length ≤ 1000000) :
    Calls Tryz.prog 62 #[.pointer (some ⟨pp, 0, none⟩), tipV av, tipV bv] w fun e w' => ∃ (dv uv : Value) (ds us : List (Value × List ID)), e = .returned (.tuple #[dv, uv]) ∧ TipsAt (fun k => ok k ∨ ok2 k ∨ okx k ∨ k = pp ∨ w.heap.size ≤ k) w' (hdrs D) dv ds ∧ TipsAt (fun k => ok k ∨ ok2 k ∨ okx k ∨ k = pp ∨ w.heap.size ≤ k) w' (hdrs D) uv us ∧
      ds.map Prod.snd = aboveG (hdrs D) A (commG (hdrs D) A B) ∧ us.map Prod.snd = (aboveG (hdrs D) B (commG (hdrs D) A B)).reverse ∧ Below w.heap.size w w' := by
  obtain ⟨okR, hokR⟩ : ∃ okR : Nat → Prop, (fun k => ok k ∨ ok2 k ∨ okx k ∨ k = pp ∨ w.heap.size ≤ k) = okR := ⟨_, rfl⟩
  have HOR : Hid (∀ k, ok k ∨ ok2 k ∨ okx k ∨ k = pp ∨ w.heap.size ≤ k → okR k) := Lib.hid fun k hk => by rw [← hokR]; exact hk
  obtain ⟨C, hCe⟩ : ∃ C, commG (hdrs D) A B = C := ⟨_, rfl⟩
  have hC : TipOf (hdrs D) C := by rw [← hCe]; exact h.good.chain_tip A hA _ (h.good.comm_mem hA hB).1
  have HCM : Hid (∀ W, Below w.heap.size w W → Calls Tryz.prog 64 #[.pointer (some ⟨pp, 0, none⟩), tipV av, tipV bv] W fun e w' => ∃ t2, e = .returned (tipV t2) ∧ TipIs (fun _ => True) w' (hdrs D) t2 C ∧ Below W.heap.size W w') := Lib.hid fun W hb => by
    refine (common_any W pp p b1 b2 D okx ok ok2 (h.below hb) av A hA (hw.below hb) bv B hB (hv.below hb)).mono ?_
    rintro e w' ⟨t2, rfl, h2, h3⟩
    exact ⟨t2, rfl, by rw [← hCe]; exact h2.mono fun _ _ => trivial, h3⟩
  have HABV : Hid (∀ W (t : Value) (T : List ID) (c : Value), Below w.heap.size w W → TipIs (fun _ => True) W (hdrs D) c C → (t = av ∧ T = A ∨ t = bv ∧ T = B) → Calls Tryz.prog 129 #[.pointer (some ⟨pp, 0, none⟩), tipV t, tipV c] W fun e w' => ∃ (v : Value) (xs : List (Value × List ID)), e = .returned v ∧ w'.ownsRow W.heap.size 52 1 v xs.length (xs.map Prod.fst) ∧ xs.map Prod.snd = aboveG (hdrs D) T C ∧ (∀ x ∈ xs, TipIs (fun k => okR k ∧ some k ≠ v.ownBlock) w' (hdrs D) x.1 x.2 ∧ TipOf (hdrs D) x.2) ∧ Below W.heap.size W w') := Lib.hid fun W t T c hb hc ht => by
    have h1 : TipIs okR W (hdrs D) t T ∧ TipOf (hdrs D) T := by
      rcases ht with ⟨rfl, rfl⟩ | ⟨rfl, rfl⟩
      · exact ⟨(hw.below hb).mono fun k hk => HOR.out k (.inl hk), hA⟩
      · exact ⟨(hv.below hb).mono fun k hk => HOR.out k (.inr (.inl hk)), hB⟩
    refine (above_any W pp p b1 b2 D okx okR _ (h.below hb) t T h1.2 h1.1 c C hC hc hlen).mono ?_
    rintro e w' ⟨v, xs, rfl, h2, h3, h4, h5⟩
    refine ⟨v, xs, rfl, h2, h3, fun x hx => ⟨(h4 x hx).1.mono fun k hk => ⟨?_, hk.2⟩, (h4 x hx).2⟩, h5⟩
    rcases hk.1 with hk | hk | hk | hk
    · exact hk
    · exact HOR.out k (.inr (.inr (.inl hk)))
    · exact HOR.out k (.inr (.inr (.inr (.inl hk))))
    · exact HOR.out k (.inr (.inr (.inr (.inr (Nat.le_trans hb.size hk)))))
  have HCL : Hid (∀ T, TipOf (hdrs D) T → (aboveG (hdrs D) T C).length ≤ 1000000) := Lib.hid fun T hT => by
    refine Nat.le_trans ?_ (Nat.le_trans (h.good.chain_len hT) (by simpa [hdrs] using hlen))
    unfold aboveG
    exact (List.takeWhile_sublist _).length_le
  have HB0 := Lib.hid (Box2.mk2 w av bv)
  have HAB := Lib.hid (And.intro hA hB)
  rw [hokR, hCe]
  clear h hw hv hokR hCe hC hlen
  go_enter Tryz.func62, Tryz.ntmps62
  go_upto_region 1 with fail
  generalize (w.alloc (.cells #[av] 52)).alloc (.cells #[bv] 52) = W0 at HB0 ⊢
  go_upto_region 2 with (first
    | (refine wpl_tip rfl _ rfl _ rfl _ HB0.out.b0 ?_)
    | (refine wpl_tip rfl _ rfl _ rfl _ HB0.out.b1 ?_)
    | (go_at_call 64; refine (HCM.out _ HB0.out.below).mono ?_; rintro e w1 ⟨c, rfl, hc, hb1⟩; have HB1 := Lib.hid (HB0.out.next hb1); have HC1 := Lib.hid hc; clear hb1 hc)
    | (refine wpl_store_new rfl 52 _ _ rfl rfl [c] rfl _ _ rfl HC1.out.one tip_size ?_))
  have hb2 : Below w1.heap.size w1 (w1.alloc (.cells #[c] 52)) := (Below.refl _ _).alloc (Nat.le_refl _) _
  have HX : Hid (Box2 w (w1.alloc (.cells #[c] 52)) av bv ∧ Box1 w (w1.alloc (.cells #[c] 52)) w1.heap.size c ∧ TipIs (fun _ => True) (w1.alloc (.cells #[c] 52)) (hdrs D) c C) := Lib.hid ⟨HB1.out.next hb2, ⟨(HB1.out.next hb2).below, heap_alloc_new w1 _⟩, HC1.out.below hb2⟩
  clear hb2 HB1 HC1 HB0
  generalize w1.alloc (.cells #[c] 52) = W2 at HX ⊢
  generalize w1.heap.size = gc at HX ⊢
  refine st_ (S := (fun W' => Box2 w W' av bv ∧ Box1 w W' gc c ∧ TipIs (fun _ => True) W' (hdrs D) c C)) 10 (bt 0 10) (by kernel_rfl) rfl (by rfl) ⟨HX.out.1.next (Below.refl _ W2).drew, HX.out.2.1.next (Below.refl _ W2).drew, HX.out.2.2.below (Below.refl _ W2).drew⟩ (fun hHeld => ?_)
  refine tk_ 0 (some 15) (bt 1 9) (v := ?_) (a' := ?_) rfl rfl (by kernel_rfl) (fun _ _ _ h => h) (yieldsIf_run rfl ?_) hHeld ?_ ?_
  rotate_left
  · intro w'
    go_simp
    with_reducible rfl
  rotate_left
  · simp only [Act.put, List.setIfInBounds_toArray, List.set_cons_zero, List.set_cons_succ]
    rfl
  refine tk_ 1 (some 16) (bt 2 8) rfl rfl (by kernel_rfl) (fun _ _ _ h => h) (yieldsIf_tipb rfl (.tmp 4) rfl w.heap.size rfl av (fun W' h => h.1.b0)) hHeld (a' := ?_) ?_ ?_
  rotate_left
  · simp only [Act.put, List.setIfInBounds_toArray, List.set_cons_zero, List.set_cons_succ]
    rfl
  refine tk_ 2 (some 17) (bt 3 7) rfl rfl (by kernel_rfl) (fun _ _ _ h => h) (yieldsIf_tipb rfl (.tmp 8) rfl gc rfl c (fun W' h => h.2.1.b0)) hHeld (a' := ?_) ?_ ?_
  rotate_left
  · simp only [Act.put, List.setIfInBounds_toArray, List.set_cons_zero, List.set_cons_succ]
    rfl
  refine tk_ 4 (some 19) #[true, true, true, false, true, false, false, false, false, false] (v := ?_) (a' := ?_) rfl rfl (by kernel_rfl) (fun _ _ _ h => h) (yieldsIf_run rfl ?_) hHeld ?_ ?_
  rotate_left
  · intro w'
    go_simp
    with_reducible rfl
  rotate_left
  · simp only [Act.put, List.setIfInBounds_toArray, List.set_cons_zero, List.set_cons_succ]
    rfl
  refine tk_ 5 (some 20) #[true, true, true, false, true, true, false, false, false, false] rfl rfl (by kernel_rfl) (fun _ _ _ h => h) (yieldsIf_tipb rfl (.tmp 5) rfl (w.heap.size + 1) rfl bv (fun W' h => h.1.b1)) hHeld (a' := ?_) ?_ ?_
  rotate_left
  · simp only [Act.put, List.setIfInBounds_toArray, List.set_cons_zero, List.set_cons_succ]
    rfl
  refine tk_ 6 (some 21) #[true, true, true, false, true, true, true, false, false, false] rfl rfl (by kernel_rfl) (fun _ _ _ h => h) (yieldsIf_tipb rfl (.tmp 8) rfl gc rfl c (fun W' h => h.2.1.b0)) hHeld (a' := ?_) ?_ ?_
  rotate_left
  · simp only [Act.put, List.setIfInBounds_toArray, List.set_cons_zero, List.set_cons_succ]
    rfl
  refine call_ 3 (some 18) (bt 7 3) rfl rfl (by kernel_rfl) rfl 129 _ (by kernel_rfl) (HABV.out _ av A c hHeld.1.below hHeld.2.2 (.inl ⟨rfl, rfl⟩)) ?_
  rintro e w3 ⟨v1, ds, rfl, ho1, hd1, hx1, hb3⟩
  have HO1 := Lib.hid ho1
  have HD1 := Lib.hid hd1
  have HX1 := Lib.hid hx1
  have HS3 := Lib.hid (And.intro (hHeld.1.next hb3) (And.intro (hHeld.2.1.next hb3) (hHeld.2.2.below hb3)))
  have HSZ1 := Lib.hid hHeld.1.below.size
  have HSZ13 := Lib.hid hb3.size
  refine ⟨_, rfl, HS3.out, fun hHeld => ⟨?_, ?_, ?_⟩⟩
  rotate_left
  · simp only [Act.put, List.setIfInBounds_toArray, List.set_cons_zero, List.set_cons_succ]
    rfl
  refine call_ 7 (some 22) (bt 8 2) rfl rfl (by kernel_rfl) rfl 129 _ (by kernel_rfl) (HABV.out _ bv B c hHeld.1.below hHeld.2.2 (.inr ⟨rfl, rfl⟩)) ?_
  rintro e w4 ⟨v2, us, rfl, ho2, hd2, hx2, hb4⟩
  have HO2 := Lib.hid ho2
  have HD2 := Lib.hid hd2
  have HX2 := Lib.hid hx2
  have HS4 := Lib.hid (And.intro (hHeld.1.next hb4) (And.intro (hHeld.2.1.next hb4) (hHeld.2.2.below hb4)))
  have HB4 := Lib.hid hb4
  refine ⟨_, rfl, HS4.out, fun hHeld => ⟨?_, ?_, ?_⟩⟩
  rotate_left
  · simp only [Act.put, List.setIfInBounds_toArray, List.set_cons_zero, List.set_cons_succ]
    rfl
  have hHeld := hHeld
  refine val_ 8 (some 9) (bt 9 1) rfl rfl (by kernel_rfl) rfl (_) (_) (rfl) hHeld (a' := ?_) ?_ ?_
  rotate_left
  · simp only [Act.put, List.setIfInBounds_toArray, List.set_cons_zero, List.set_cons_succ]
    rfl
  have hHeld := hHeld
  refine val_ 9 (some 10) (bt 10 0) rfl rfl (by kernel_rfl) rfl (_) (_) (rfl) hHeld (a' := ?_) ?_ ?_
  rotate_left
  · simp only [Act.put, List.setIfInBounds_toArray, List.set_cons_zero, List.set_cons_succ]
    rfl
  refine wpAnyH_done (by kernel_rfl) ?_ _
  change Exit.then _ _ _ _ _
  have h1d : ∀ x ∈ ds, x.1.oneCell' = true := fun x hx => (HX1.out x hx).1.one x.1 (by simp)
  have h1v : ∀ x ∈ us, x.1.oneCell' = true := fun x hx => (HX2.out x hx).1.one x.1 (by simp)
  have husl : us.length ≤ 9223372036854775807 := by
    have h1 := congrArg List.length HD2.out
    have h2 := HCL.out B hB
    rw [List.length_map] at h1
    omega
  have HRV := Lib.hid (reverse_tips w4 _ v2 us h1v HO2.out husl)
  have H1D := Lib.hid (And.intro h1d h1v)
  clear h1d h1v husl
  go_wp2_with (go_at_call 130; refine HRV.out.mono ?_; rintro e w5 ⟨rfl, ho5, hg5⟩; have HO5 := Lib.hid ho5; have HG5 := Lib.hid hg5; clear ho5 hg5)
  (try simp only [Exit.inBlock, Exit.then])
  refine ⟨rfl, .tuple #[v1, v2], by kernel_rfl, ?_⟩
  have hz3 : w.heap.size ≤ W2.drew.heap.size := HSZ1.out
  have hz34 : w3.heap.size ≤ w4.heap.size := HB4.out.size
  have hz13 : W2.drew.heap.size ≤ w3.heap.size := HSZ13.out
  have ho1 : w5.ownsRow W2.drew.heap.size 52 1 v1 ds.length (ds.map Prod.fst) := own_same (own_below HO1.out HB4.out) fun k hk => HG5.out.block k (Nat.lt_of_lt_of_le (own_lt HO1.out k hk).2 hz34) fun e => by
    have h1 := (own_lt HO1.out k hk).2
    have h2 := (own_lt HO2.out k e.symm).1
    omega
  have ho2 := HO5.out
  rw [← tpE_flat H1D.out.1] at ho1
  rw [← tpE_flat (xs := us.reverse) fun x hx => H1D.out.2 x (List.mem_reverse.1 hx)] at ho2
  have hr : us.length = us.reverse.length := by simp
  rw [hr] at ho2
  refine ⟨v1, v2, ds, us.reverse, rfl, ⟨(Sl.of_own (E := tpE) ho1).mono fun k hk => HOR.out k (.inr (.inr (.inr (.inr (Nat.le_trans hz3 (own_lt ho1 k hk).1))))), fun x hx => ⟨(((HX1.out x hx).1.old.below HB4.out).fr (Fr.grown HG5.out fun k hk e => ?_)).mono fun k hk => hk.1.1, (HX1.out x hx).2⟩⟩, ⟨(Sl.of_own (E := tpE) ho2).mono fun k hk => HOR.out k (.inr (.inr (.inr (.inr (Nat.le_trans hz3 (Nat.le_trans hz13 (own_lt ho2 k hk).1)))))), fun x hx => ?_⟩, HD1.out, by rw [List.map_reverse, HD2.out], ?_⟩
  · have h2 := (own_lt HO2.out k e.symm).1
    have := hk.2
    omega
  · have hx' := List.mem_reverse.1 hx
    exact ⟨((HX2.out x hx').1.fr (Fr.grown HG5.out fun k hk => hk.2)).mono fun k hk => hk.1, (HX2.out x hx').2⟩
  · exact below_grown_own HS4.out.1.below HO2.out (Nat.le_trans hz3 hz13) HS4.out.1.below.size HG5.out
end Go.Proofs.YtcohdfkdhdhegaaGreatDoor
namespace Go.Proofs.YtcohdfkdhdhegaaGreatDoor
open Go.RowKit Go.Maps

/-- An event. -/
structure Ev where
  kind : Int
  key : ByteArray
  h : Int
def Ev.cells (x : Ev) : List Value := [.int .i64 x.kind, .string x.key, .int .i64 x.h]
section
variable {base : Nat} {w w' : World} {f : Nat} {v st : Value} {evs : List Ev} {most : Int}
end
end Go.Proofs.YtcohdfkdhdhegaaGreatDoor
namespace Go.Proofs.YtcohdfkdhdhegaaGreatDoor
open Go.RowKit Go.Maps

section
variable {base : Nat} {w1 W W' : World} {f : Nat} {v0 v : Value} {evs : List Ev} {most : Int} {st : Value}
end
end Go.Proofs.YtcohdfkdhdhegaaGreatDoor
namespace Go.Proofs.YtcohdfkdhdhegaaGreatDoor
open Go.RowKit Go.Maps Go.Shelf

end Go.Proofs.YtcohdfkdhdhegaaGreatDoor
namespace Go.Proofs.YtcohdfkdhdhegaaGreatDoor
open Go.RowKit Go.Maps

end Go.Proofs.YtcohdfkdhdhegaaGreatDoor
namespace Go.Proofs.YtcohdfkdhdhegaaGreatDoor
open Go.RowKit Go.Maps

/-- One cell of a block is set. -/
theorem wpl_setC {P : Program} {ops : Array Oper} {rest : List Oper} {o : Oper} {a : Act} {w : World} {Q : Exit → Act → World → Prop} (hgd : o.guard = none) (ty : TypeId) (x y : Operand) (ho : o.op = .store ty x y) (b i : Nat) (hx : a.eval x = .pointer (some ⟨b, i, none⟩)) (v : Value) (hy : a.eval y = v) (h1 : v.oneCell' = true) (cs : Array Value) (T : TypeId) (hb : w.heap[b]? = some (.cells cs T (0, 0))) (u : Value) (hi : cs[i]? = some u) (hs : (P.info? ty).map (·.size) = some 1) (cs' : Array Value) (hc : cs.setIfInBounds i v = cs')
    (h : wpList P ops Q rest (a.put o.dst undef) (w.setRow b cs')) : wpList P ops Q (o :: rest) a w :=
  wpList_plain hgd fun K hK => by
    have h2 := run_storeVar_cell (P := P) w ty b i v u h1 hs (cell_block hb hi) (Lib.frozen_of_heap hb i)
    rw [setCell_eq_setRow w b i _ _ _ v hb, hc] at h2
    unfold Oper.wp execOp
    simp only [ho, hx, hy, Instr.storeAt, Instr.sureAddr, Sem.run_bind, Sem.run_pure, Result.andThen_ok, h2]
    exact hK _ _ h
theorem int_size : (Tryz.prog.info? 3).map (·.size) = some 1 := by kernel_rfl

end Go.Proofs.YtcohdfkdhdhegaaGreatDoor
