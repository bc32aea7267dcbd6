/- Ways through a dag, in plain words: who descends from whom. No program in sight. mark.Above, Floor, May, Fits; path.New. coxswainlaw18.awake. -/
import Derived.Test.YtcohdfkdhdhegaaGreatDoorPbAA
import Derived.Test.YtcohdfkdhdhegaaGreatDoorPbAB
import Derived.Test.YtcohdfkdhdhegaaGreatDoorPbAC
import Derived.Test.YtcohdfkdhdhegaaGreatDoorPbAD
import Derived.Test.YtcohdfkdhdhegaaGreatDoorPbAE
import Derived.Test.YtcohdfkdhdhegaaGreatDoorPbAF
import Derived.Test.YtcohdfkdhdhegaaGreatDoorPbAG
import Derived.Test.YtcohdfkdhdhegaaGreatDoorPbAH
import Derived.Test.YtcohdfkdhdhegaaGreatDoorPbAI
import Derived.Test.YtcohdfkdhdhegaaGreatDoorPbAJ
import Derived.Test.YtcohdfkdhdhegaaGreatDoorPbAK
import Derived.Test.YtcohdfkdhdhegaaGreatDoorPbAL
import Derived.Test.YtcohdfkdhdhegaaGreatDoorPbAM
import Derived.Test.YtcohdfkdhdhegaaGreatDoorPbAN
import Derived.Test.YtcohdfkdhdhegaaGreatDoorPbAO
import Derived.Test.YtcohdfkdhdhegaaGreatDoorPbAP
import Derived.Test.YtcohdfkdhdhegaaGreatDoorPbAQ
import Derived.Test.YtcohdfkdhdhegaaGreatDoorPbAR
import Derived.Test.YtcohdfkdhdhegaaGreatDoorPbAS
import Derived.Test.YtcohdfkdhdhegaaGreatDoorPbAT
import Derived.Test.YtcohdfkdhdhegaaGreatDoorPbAU
import Derived.Test.YtcohdfkdhdhegaaGreatDoorPbAV
import Derived.Test.YtcohdfkdhdhegaaGreatDoorPbAW
import Derived.Test.YtcohdfkdhdhegaaGreatDoorPbAX
import Derived.Test.YtcohdfkdhdhegaaGreatDoorPbAY
import Derived.Test.YtcohdfkdhdhegaaGreatDoorPbAZ
import Derived.Test.YtcohdfkdhdhegaaGreatDoorPbBA
import Derived.Test.YtcohdfkdhdhegaaGreatDoorPbBB
import Derived.Test.YtcohdfkdhdhegaaGreatDoorPbBC
import Derived.Test.YtcohdfkdhdhegaaGreatDoorPbBD
import Derived.Test.YtcohdfkdhdhegaaGreatDoorPbBE
import Derived.Test.YtcohdfkdhdhegaaGreatDoorPbBF
import Derived.Test.YtcohdfkdhdhegaaGreatDoorPbBG
import Derived.Test.YtcohdfkdhdhegaaGreatDoorPbBH
import Derived.Test.YtcohdfkdhdhegaaGreatDoorPbBI
import Derived.Test.YtcohdfkdhdhegaaGreatDoorPbBJ
import Derived.Test.YtcohdfkdhdhegaaGreatDoorPbBK
namespace Go.Proofs.YtcohdfkdhdhegaaGreatDoor

section
variable {G : List Hdr}
/-- The floor: what descends from it descends from both. -/
theorem GoodG.floor (g : GoodG G) {A B T : List ID} (_hA : TipOf G A) (_hB : TipOf G B) (hT : TipOf G T) (h : (descG G A B || descG G B A) = true) : descG G T (if descG G B A = true then B else A) = (descG G T A && descG G T B) := by
  rw [Bool.eq_iff_iff, Bool.and_eq_true]
  rcases Bool.eq_false_or_eq_true (descG G B A) with hb | hb
  · rw [if_pos hb]
    simp only [descG_iff] at hb ⊢
    exact ⟨fun h1 => ⟨g.chain_trans hT h1 hb, h1⟩, fun h1 => h1.2⟩
  · rw [if_neg (by rw [hb]; decide)]
    rw [hb, Bool.or_false] at h
    simp only [descG_iff] at h ⊢
    exact ⟨fun h1 => ⟨h1, g.chain_trans hT h1 h⟩, fun h1 => h1.1⟩
end
end Go.Proofs.YtcohdfkdhdhegaaGreatDoor
namespace Go.Proofs.YtcohdfkdhdhegaaGreatDoor
open Go.RowKit Go.Maps

set_option maxRecDepth 100000 in
set_option maxHeartbeats 2000000 in
theorem mabove_any (w : World) (pp p b1 b2 : Nat) (D : List LB) (okx ok ok2 : Nat → Prop) (h : PathAt okx w pp p b1 b2 D) (fv : Value) (F : List ID) (hF : TipOf (hdrs D) F) (hv : TipIs ok2 w (hdrs D) fv F) (tv : Value) (T : List ID) (hT : TipOf (hdrs D) T) (hw : TipIs ok w (hdrs D) tv T) :
    Calls Tryz.prog 50 #[.pointer (some ⟨pp, 0, none⟩), tipV fv, tipV tv] w fun e w' => e = .returned (.bool (descG (hdrs D) T F)) ∧ Below w.heap.size w w' := by
  have H1 : Hid (∀ W, Below w.heap.size w W → Calls Tryz.prog 51 #[.pointer (some ⟨pp, 0, none⟩), tipV tv, tipV fv] W fun e w' => e = .returned (.bool (descG (hdrs D) T F)) ∧ Below W.heap.size W w') := Lib.hid fun W hb => descends_any W pp p b1 b2 D okx ok ok2 (h.below hb) tv T hT (hw.below hb) fv F hF (hv.below hb)
  have HB0 := Lib.hid (Box2.mk2 w fv tv)
  clear h hw hv
  generalize descG (hdrs D) T F = d at H1 ⊢
  go_enter Tryz.func50, Tryz.ntmps50
  go_upto_region 1 with fail
  generalize (w.alloc (.cells #[fv] 52)).alloc (.cells #[tv] 52) = W0 at HB0 ⊢
  go_wp2_with (first
    | (refine wpl_tip rfl _ rfl _ rfl _ HB0.out.b0 ?_)
    | (refine wpl_tip rfl _ rfl _ rfl _ HB0.out.b1 ?_)
    | (go_at_call 51; refine (H1.out _ HB0.out.below).mono ?_; rintro e w1 ⟨rfl, hb1⟩; have HB1 := Lib.hid (HB0.out.next hb1); clear hb1))
  go_ret
  exact ⟨rfl, HB1.out.below⟩

set_option maxRecDepth 100000 in
set_option maxHeartbeats 2000000 in
/-- The floor: the marked one, if it is there and descends from what is final. -/
theorem mfloor_any (w : World) (pp p b1 b2 : Nat) (D : List LB) (okx ok ok2 : Nat → Prop) (h : PathAt okx w pp p b1 b2 D) (fv : Value) (F : List ID) (hF : TipOf (hdrs D) F) (hv : TipIs ok w (hdrs D) fv F) (mv : Value) (M : List ID) (hM : M = [] ∨ TipOf (hdrs D) M) (hw : TipIs ok2 w (hdrs D) mv M) :
    Calls Tryz.prog 49 #[.pointer (some ⟨pp, 0, none⟩), tipV fv, tipV mv] w fun e w' => e = .returned (tipV (if M ≠ [] ∧ descG (hdrs D) M F = true then mv else fv)) ∧ Below w.heap.size w w' := by
  have HZ : Hid (∀ W, Below w.heap.size w W → Calls Tryz.prog 30 #[tipV mv] W fun e w' => e = .returned (.bool M.isEmpty) ∧ Below W.heap.size W w') := Lib.hid fun W hb => zero_is (hw.below hb)
  have H1 : Hid (M ≠ [] → ∀ W, Below w.heap.size w W → Calls Tryz.prog 51 #[.pointer (some ⟨pp, 0, none⟩), tipV mv, tipV fv] W fun e w' => e = .returned (.bool (descG (hdrs D) M F)) ∧ Below W.heap.size W w') := Lib.hid fun hne W hb => descends_any W pp p b1 b2 D okx ok2 ok (h.below hb) mv M (hM.resolve_left hne) (hw.below hb) fv F hF (hv.below hb)
  have HO1 := Lib.hid hv.one
  have HO2 := Lib.hid hw.one
  have HB0 := Lib.hid (Box2.mk2 w fv mv)
  clear h hw hv
  generalize descG (hdrs D) M F = d at H1 ⊢
  generalize hr : (if M ≠ [] ∧ d = true then mv else fv) = r
  have HR := Lib.hid hr
  clear hr
  obtain ⟨z, hz⟩ : ∃ z, M.isEmpty = z := ⟨_, rfl⟩
  rw [hz] at HZ
  have HM : Hid (M ≠ [] ↔ z = false) := Lib.hid (by rw [← hz]; cases M <;> simp)
  clear hz hM
  go_enter Tryz.func49, Tryz.ntmps49
  go_upto_region 1 with fail
  have HG0 : Hid ((((w.alloc (.cells #[fv] 52)).alloc (.cells #[mv] 52)).alloc (.cells #[.slice none 0 0] 52)).heap[w.heap.size + 2]? = some (.cells #[.slice none 0 0] 52 (0, 0))) := Lib.hid (by have := heap_alloc_new ((w.alloc (.cells #[fv] 52)).alloc (.cells #[mv] 52)) (.cells #[.slice none 0 0] 52); rw [World.size_alloc, World.size_alloc] at this; exact this)
  replace HB0 := Lib.hid (HB0.out.next ((Below.refl _ _).alloc (Nat.le_refl _) (.cells #[.slice none 0 0] 52)))
  generalize ((w.alloc (.cells #[fv] 52)).alloc (.cells #[mv] 52)).alloc (.cells #[.slice none 0 0] 52) = W0 at HB0 HG0 ⊢
  have HLT : Hid (w.heap.size + 2 < W0.heap.size) := Lib.hid (Array.getElem?_eq_some_iff.1 HG0.out).1
  cases z with
  | true =>
    have hne : ¬(M ≠ [] ∧ d = true) := fun hh => by have := HM.out.1 hh.1; cases this
    have HNE := Lib.hid hne
    clear hne
    go_wp2_with (first
      | (refine wpl_tip rfl _ rfl _ rfl _ HB1.out.b0 ?_)
      | (refine wpl_tip rfl _ rfl _ rfl _ HB0.out.b1 ?_)
      | (refine wpl_tip_set rfl _ _ rfl (w.heap.size + 2) rfl _ _ rfl HG1.out HO1.out ?_)
      | (go_at_call 30; refine (HZ.out _ HB0.out.below).mono ?_; rintro e w1 ⟨rfl, hb1⟩; have HB1 := Lib.hid (HB0.out.next hb1); have HG1 := Lib.hid ((hb1.block _ HLT.out).trans HG0.out); clear hb1))
    (try simp only [Exit.inBlock, Exit.then])
    refine bodyPost_ret (results_cell_row rfl _ _ (w.heap.size + 2) 52 #[fv] (0, 0) _ rfl (setRow_heap _ _ _ _ _ _ HG1.out) Tryz.underlying52 rfl tip_size) rfl ?_
    exact ⟨by rw [← HR.out, if_neg HNE.out], below_setRow HB1.out.below (by omega) _⟩
  | false =>
    have HD := Lib.hid (H1.out (HM.out.2 rfl))
    cases d with
    | true =>
      have HNE : Hid (M ≠ [] ∧ true = true) := Lib.hid ⟨HM.out.2 rfl, rfl⟩
      go_wp2_with (first
        | (refine wpl_tip rfl _ rfl _ rfl _ HB2.out.b1 ?_)
        | (refine wpl_tip (by kernel_rfl) _ rfl _ rfl _ HB1.out.b0 ?_)
        | (refine wpl_tip (by kernel_rfl) _ rfl _ rfl _ HB1.out.b1 ?_)
        | (refine wpl_tip rfl _ rfl _ rfl _ HB0.out.b1 ?_)
        | (refine wpl_tip_set rfl _ _ rfl (w.heap.size + 2) rfl _ _ rfl HG2.out HO2.out ?_)
        | (go_at_call 30; refine (HZ.out _ HB0.out.below).mono ?_; rintro e w1 ⟨rfl, hb1⟩; have HB1 := Lib.hid (HB0.out.next hb1); have HG1 := Lib.hid ((hb1.block _ HLT.out).trans HG0.out); have HL1 := Lib.hid (Nat.lt_of_lt_of_le HLT.out hb1.size); clear hb1)
        | (go_at_call 51; refine (HD.out _ HB1.out.below).mono ?_; rintro e w2 ⟨rfl, hb2⟩; have HB2 := Lib.hid (HB1.out.next hb2); have HG2 := Lib.hid ((hb2.block _ HL1.out).trans HG1.out); clear hb2))
      (try simp only [Exit.inBlock, Exit.then])
      refine bodyPost_ret (results_cell_row rfl _ _ (w.heap.size + 2) 52 #[mv] (0, 0) _ rfl (setRow_heap _ _ _ _ _ _ HG2.out) Tryz.underlying52 rfl tip_size) rfl ?_
      exact ⟨by rw [← HR.out, if_pos HNE.out], below_setRow HB2.out.below (by omega) _⟩
    | false =>
      have HNE : Hid (¬(M ≠ [] ∧ false = true)) := Lib.hid fun hh => by cases hh.2
      go_wp2_with (first
        | (refine wpl_tip rfl _ rfl _ rfl _ HB2.out.b0 ?_)
        | (refine wpl_tip (by kernel_rfl) _ rfl _ rfl _ HB1.out.b0 ?_)
        | (refine wpl_tip (by kernel_rfl) _ rfl _ rfl _ HB1.out.b1 ?_)
        | (refine wpl_tip rfl _ rfl _ rfl _ HB0.out.b1 ?_)
        | (refine wpl_tip_set rfl _ _ rfl (w.heap.size + 2) rfl _ _ rfl HG2.out HO1.out ?_)
        | (go_at_call 30; refine (HZ.out _ HB0.out.below).mono ?_; rintro e w1 ⟨rfl, hb1⟩; have HB1 := Lib.hid (HB0.out.next hb1); have HG1 := Lib.hid ((hb1.block _ HLT.out).trans HG0.out); have HL1 := Lib.hid (Nat.lt_of_lt_of_le HLT.out hb1.size); clear hb1)
        | (go_at_call 51; refine (HD.out _ HB1.out.below).mono ?_; rintro e w2 ⟨rfl, hb2⟩; have HB2 := Lib.hid (HB1.out.next hb2); have HG2 := Lib.hid ((hb2.block _ HL1.out).trans HG1.out); clear hb2))
      (try simp only [Exit.inBlock, Exit.then])
      refine bodyPost_ret (results_cell_row rfl _ _ (w.heap.size + 2) 52 #[fv] (0, 0) _ rfl (setRow_heap _ _ _ _ _ _ HG2.out) Tryz.underlying52 rfl tip_size) rfl ?_
      exact ⟨by rw [← HR.out, if_neg HNE.out], below_setRow HB2.out.below (by omega) _⟩

set_option maxRecDepth 100000 in
set_option maxHeartbeats 2000000 in
theorem may_any (w : World) (pp p b1 b2 : Nat) (D : List LB) (okx ok ok2 : Nat → Prop) (h : PathAt okx w pp p b1 b2 D) (fv : Value) (F : List ID) (hF : TipOf (hdrs D) F) (hv : TipIs ok w (hdrs D) fv F) (mv : Value) (M : List ID) (hM : M = [] ∨ TipOf (hdrs D) M) (hw : TipIs ok2 w (hdrs D) mv M) :
    Calls Tryz.prog 47 #[.pointer (some ⟨pp, 0, none⟩), tipV fv, tipV mv] w fun e w' => e = .returned (.int .i64 (if M = [] then 7 else if (descG (hdrs D) F M || descG (hdrs D) M F) = true then 0 else 16)) ∧ Below w.heap.size w w' := by
  have HZ : Hid (∀ W, Below w.heap.size w W → Calls Tryz.prog 30 #[tipV mv] W fun e w' => e = .returned (.bool M.isEmpty) ∧ Below W.heap.size W w') := Lib.hid fun W hb => zero_is (hw.below hb)
  have H1 : Hid (M ≠ [] → ∀ W, Below w.heap.size w W → Calls Tryz.prog 48 #[.pointer (some ⟨pp, 0, none⟩), tipV fv, tipV mv] W fun e w' => e = .returned (.bool (descG (hdrs D) F M || descG (hdrs D) M F)) ∧ Below W.heap.size W w') := Lib.hid fun hne W hb => onechain_any W pp p b1 b2 D okx ok ok2 (h.below hb) fv F hF (hv.below hb) mv M (hM.resolve_left hne) (hw.below hb)
  have HB0 := Lib.hid (Box2.mk2 w fv mv)
  clear h hw hv
  generalize (descG (hdrs D) F M || descG (hdrs D) M F) = d at H1 ⊢
  generalize hr : (if M = [] then (7 : Int) else if d = true then 0 else 16) = r
  have HR := Lib.hid hr
  clear hr
  obtain ⟨z, hz⟩ : ∃ z, M.isEmpty = z := ⟨_, rfl⟩
  rw [hz] at HZ
  have HM : Hid (M ≠ [] ↔ z = false) := Lib.hid (by rw [← hz]; cases M <;> simp)
  clear hz hM
  go_enter Tryz.func47, Tryz.ntmps47
  go_upto_region 1 with fail
  generalize (w.alloc (.cells #[fv] 52)).alloc (.cells #[mv] 52) = W0 at HB0 ⊢
  cases z with
  | true =>
    have he : M = [] := Classical.byContradiction fun hh => by have := HM.out.1 hh; cases this
    have HNE := Lib.hid he
    clear he
    go_wp2_with (first
      | (refine wpl_tip rfl _ rfl _ rfl _ HB0.out.b1 ?_)
      | (go_at_call 30; refine (HZ.out _ HB0.out.below).mono ?_; rintro e w1 ⟨rfl, hb1⟩; have HB1 := Lib.hid (HB0.out.next hb1); clear hb1))
    go_ret
    exact ⟨by rw [← HR.out, if_pos HNE.out]; rfl, HB1.out.below⟩
  | false =>
    have HD := Lib.hid (H1.out (HM.out.2 rfl))
    have HNE := Lib.hid (HM.out.2 rfl)
    cases d with
    | true =>
      go_wp2_with (first
        | (refine wpl_tip rfl _ rfl _ rfl _ HB1.out.b0 ?_)
        | (refine wpl_tip rfl _ rfl _ rfl _ HB1.out.b1 ?_)
        | (refine wpl_tip rfl _ rfl _ rfl _ HB0.out.b1 ?_)
        | (go_at_call 30; refine (HZ.out _ HB0.out.below).mono ?_; rintro e w1 ⟨rfl, hb1⟩; have HB1 := Lib.hid (HB0.out.next hb1); clear hb1)
        | (go_at_call 48; refine (HD.out _ HB1.out.below).mono ?_; rintro e w2 ⟨rfl, hb2⟩; have HB2 := Lib.hid (HB1.out.next hb2); clear hb2))
      go_ret
      exact ⟨by rw [← HR.out, if_neg HNE.out, if_pos trivial]; rfl, HB2.out.below⟩
    | false =>
      go_wp2_with (first
        | (refine wpl_tip rfl _ rfl _ rfl _ HB1.out.b0 ?_)
        | (refine wpl_tip rfl _ rfl _ rfl _ HB1.out.b1 ?_)
        | (refine wpl_tip rfl _ rfl _ rfl _ HB0.out.b1 ?_)
        | (go_at_call 30; refine (HZ.out _ HB0.out.below).mono ?_; rintro e w1 ⟨rfl, hb1⟩; have HB1 := Lib.hid (HB0.out.next hb1); clear hb1)
        | (go_at_call 48; refine (HD.out _ HB1.out.below).mono ?_; rintro e w2 ⟨rfl, hb2⟩; have HB2 := Lib.hid (HB1.out.next hb2); clear hb2))
      go_ret
      exact ⟨by rw [← HR.out, if_neg HNE.out, if_neg (by decide)]; rfl, HB2.out.below⟩
end Go.Proofs.YtcohdfkdhdhegaaGreatDoor
namespace Go.Proofs.YtcohdfkdhdhegaaGreatDoor
open Go.RowKit Go.Maps

set_option maxRecDepth 100000 in
set_option maxHeartbeats 4000000 in
theorem awake18_any (w : World) (ht : Tab w) :
    Calls Tryz.prog 42 #[] w fun e w' => e = .returned (.bool true) ∧ Below w.heap.size w w' := by
  have HT := Lib.hid ht
  clear ht
  have GG : GoodG [genH] := .start
  have GR : TipOf [genH] [rootID] := GG.root_tip
  go_enter Tryz.func42, Tryz.ntmps42
  go_upto_region 5 with (first
    | (go_at_call 14; refine (dnew_any w HT.out).mono ?_; rintro e w1 ⟨p, b1, b2, D, rfl, hb1, hd1, hf1, hh1, hl1⟩; have HB1 := Lib.hid hb1; have HD1 := Lib.hid hd1; have HF1 := Lib.hid hf1; have HH1 := Lib.hid hh1; have HP1 := Lib.hid (pnew_any w1 p b1 b2 D _ hd1 hf1 (by show GoodG (hdrs D); rw [hh1]; exact .start) 4); clear hb1 hd1 hf1 hh1 hl1)
    | (go_at_call 44; refine HP1.out.mono ?_; rintro e w2 ⟨pp, rfl, hpp, hp2, hb2⟩; have HPA := Lib.hid hp2; have HB2 := Lib.hid (HB1.out.trans (hb2.mono HB1.out.size)); clear hb2 hp2 hpp))
  go_upto_region 6 with (first
    | (go_at_call 52; refine (gen_is w2 (HT.out.below HB2.out) GG).mono ?_; rintro e w3 ⟨t, rfl, ht3, hb3⟩; have HT3 := Lib.hid ht3; have HB3 := Lib.hid (HB2.out.trans (hb3.mono HB2.out.size)); have HP3 := Lib.hid (HPA.out.below hb3); clear hb3 ht3)
    | (refine wpl_store_new rfl 52 _ _ rfl rfl [t] rfl _ _ rfl HT3.out.one tip_size ?_))
  have hb4 : Below w3.heap.size w3 (w3.alloc (.cells #[t] 52)) := (Below.refl _ _).alloc (Nat.le_refl _) _
  have HX : Hid (Box1 w (w3.alloc (.cells #[t] 52)) w3.heap.size t ∧ PathAt (fun k => w.heap.size ≤ k) (w3.alloc (.cells #[t] 52)) pp p b1 b2 D ∧ TipIs (fun k => w2.heap.size ≤ k) (w3.alloc (.cells #[t] 52)) [genH] t [rootID]) :=
    Lib.hid ⟨⟨HB3.out.alloc HB3.out.size _, heap_alloc_new w3 _⟩, HP3.out.below hb4, HT3.out.below hb4⟩
  clear hb4
  generalize w3.alloc (.cells #[t] 52) = W0 at HX ⊢
  generalize w3.heap.size = g at HX ⊢
  have hG : hdrs D = [genH] := HH1.out
  obtain ⟨kg, hkg⟩ : ∃ kg, keyB [rootID] = kg := ⟨_, rfl⟩
  have HK : Hid (∀ W, Below W0.heap.size W0 W → Calls Tryz.prog 54 #[tipV t] W fun e w' => e = .returned (.string kg) ∧ Below W.heap.size W w') := Lib.hid fun W hb => by rw [← hkg]; exact key_is (HX.out.2.2.below hb) (.inr GR)
  have HFL : Hid (∀ W, Below W0.heap.size W0 W → Calls Tryz.prog 49 #[.pointer (some ⟨pp, 0, none⟩), tipV t, tipV (.slice none 0 0)] W fun e w' => e = .returned (tipV t) ∧ Below W.heap.size W w') := Lib.hid fun W hb => by
    have h1 := mfloor_any W pp p b1 b2 D _ _ (fun _ => True) (HX.out.2.1.below hb) t [rootID] (by rw [hG]; exact GR) (by rw [hG]; exact HX.out.2.2.below hb) (.slice none 0 0) [] (.inl rfl) TipIs.zero
    rw [if_neg (by simp)] at h1
    exact h1
  have HM7 : Hid (∀ W, Below W0.heap.size W0 W → Calls Tryz.prog 47 #[.pointer (some ⟨pp, 0, none⟩), tipV t, tipV (.slice none 0 0)] W fun e w' => e = .returned (.int .i64 7) ∧ Below W.heap.size W w') := Lib.hid fun W hb => by
    have h1 := may_any W pp p b1 b2 D _ _ (fun _ => True) (HX.out.2.1.below hb) t [rootID] (by rw [hG]; exact GR) (by rw [hG]; exact HX.out.2.2.below hb) (.slice none 0 0) [] (.inl rfl) TipIs.zero
    rw [if_pos rfl] at h1
    exact h1
  have HM0 : Hid (∀ W, Below W0.heap.size W0 W → Calls Tryz.prog 47 #[.pointer (some ⟨pp, 0, none⟩), tipV t, tipV t] W fun e w' => e = .returned (.int .i64 0) ∧ Below W.heap.size W w') := Lib.hid fun W hb => by
    have h1 := may_any W pp p b1 b2 D _ _ _ (HX.out.2.1.below hb) t [rootID] (by rw [hG]; exact GR) (by rw [hG]; exact HX.out.2.2.below hb) t [rootID] (.inr (by rw [hG]; exact GR)) (by rw [hG]; exact HX.out.2.2.below hb)
    rw [if_neg (by simp), if_pos (by rw [hG, descG_self GG GR]; rfl)] at h1
    exact h1
  have HB := Lib.hid HX.out.1
  clear HX hkg hG GR GG HB1 HD1 HF1 HH1 HPA HB2 HT3 HB3 HP3 HP1
  refine st_ (S := (fun W' => Box1 W0 W' g t)) 27 (bt 0 27) (by kernel_rfl) rfl (by rfl) ⟨(Below.refl _ W0).drew, HB.out.b0⟩ (fun hHeld => ?_)
  refine tk_ 0 (some 10) (bt 1 26) (v := ?_) (a' := ?_) rfl rfl (by kernel_rfl) (fun _ _ _ h => h) (yieldsIf_run rfl ?_) hHeld ?_ ?_
  rotate_left
  · intro w'
    go_simp
    with_reducible rfl
  rotate_left
  · simp only [Act.put, List.setIfInBounds_toArray, List.set_cons_zero, List.set_cons_succ]
    rfl
  refine tk_ 1 (some 11) (bt 2 25) (v := ?_) (a' := ?_) rfl rfl (by kernel_rfl) (fun _ _ _ h => h) (yieldsIf_run rfl ?_) hHeld ?_ ?_
  rotate_left
  · intro w'
    go_simp
    with_reducible rfl
  rotate_left
  · simp only [Act.put, List.setIfInBounds_toArray, List.set_cons_zero, List.set_cons_succ]
    rfl
  refine tk_ 2 (some 12) (bt 3 24) (v := ?_) (a' := ?_) rfl rfl (by kernel_rfl) (fun _ _ _ h => h) (yieldsIf_run rfl ?_) hHeld ?_ ?_
  rotate_left
  · intro w'
    go_simp
    with_reducible rfl
  rotate_left
  · simp only [Act.put, List.setIfInBounds_toArray, List.set_cons_zero, List.set_cons_succ]
    rfl
  refine tk_ 3 (some 13) (bt 4 23) (v := ?_) (a' := ?_) rfl rfl (by kernel_rfl) (fun _ _ _ h => h) (yieldsIf_run rfl ?_) hHeld ?_ ?_
  rotate_left
  · intro w'
    go_simp
    with_reducible rfl
  rotate_left
  · simp only [Act.put, List.setIfInBounds_toArray, List.set_cons_zero, List.set_cons_succ]
    rfl
  refine tk_ 4 (some 14) (bt 5 22) rfl rfl (by kernel_rfl) (fun _ _ _ h => h) (yieldsIf_tipb rfl (.tmp 3) rfl g rfl t (fun W' h => h.b0)) hHeld (a' := ?_) ?_ ?_
  rotate_left
  · simp only [Act.put, List.setIfInBounds_toArray, List.set_cons_zero, List.set_cons_succ]
    rfl
  refine tk_ 5 (some 15) (bt 6 21) (v := ?_) (a' := ?_) rfl rfl (by kernel_rfl) (fun _ _ _ h => h) (yieldsIf_run rfl ?_) hHeld ?_ ?_
  rotate_left
  · intro w'
    go_simp
    with_reducible rfl
  rotate_left
  · simp only [Act.put, List.setIfInBounds_toArray, List.set_cons_zero, List.set_cons_succ]
    rfl
  refine tk_ 8 (some 18) #[true, true, true, true, true, true, false, false, true, false, false, false, false, false, false, false, false, false, false, false, false, false, false, false, false, false, false] rfl rfl (by kernel_rfl) (fun _ _ _ h => h) (yieldsIf_tipb rfl (.tmp 3) rfl g rfl t (fun W' h => h.b0)) hHeld (a' := ?_) ?_ ?_
  rotate_left
  · simp only [Act.put, List.setIfInBounds_toArray, List.set_cons_zero, List.set_cons_succ]
    rfl
  refine call_ 6 (some 16) #[true, true, true, true, true, true, true, false, true, false, false, false, false, false, false, false, false, false, false, false, false, false, false, false, false, false, false] rfl rfl (by kernel_rfl) rfl 49 _ (by kernel_rfl) (HFL.out _ hHeld.below) ?_
  rintro e w4 ⟨rfl, hb4⟩
  have HB4 := Lib.hid (hHeld.next hb4)
  refine ⟨_, rfl, HB4.out, fun hHeld => ⟨?_, ?_, ?_⟩⟩
  rotate_left
  · simp only [Act.put, List.setIfInBounds_toArray, List.set_cons_zero, List.set_cons_succ]
    rfl
  refine call_ 7 (some 17) (bt 9 18) rfl rfl (by kernel_rfl) rfl 54 _ (by kernel_rfl) (HK.out _ hHeld.below) ?_
  rintro e w5 ⟨rfl, hb5⟩
  have HB5 := Lib.hid (hHeld.next hb5)
  refine ⟨_, rfl, HB5.out, fun hHeld => ⟨?_, ?_, ?_⟩⟩
  rotate_left
  · simp only [Act.put, List.setIfInBounds_toArray, List.set_cons_zero, List.set_cons_succ]
    rfl
  refine call_ 9 (some 19) (bt 10 17) rfl rfl (by kernel_rfl) rfl 54 _ (by kernel_rfl) (HK.out _ hHeld.below) ?_
  rintro e w6 ⟨rfl, hb6⟩
  have HB6 := Lib.hid (hHeld.next hb6)
  refine ⟨_, rfl, HB6.out, fun hHeld => ⟨?_, ?_, ?_⟩⟩
  rotate_left
  · simp only [Act.put, List.setIfInBounds_toArray, List.set_cons_zero, List.set_cons_succ]
    rfl
  refine tk_ 10 (some 20) (bt 11 16) (v := ?_) (a' := ?_) rfl rfl (by kernel_rfl) (fun _ _ _ h => h) (yieldsIf_run rfl ?_) hHeld ?_ ?_
  rotate_left
  · intro w'
    go_simp
    with_reducible rfl
  rotate_left
  · simp only [Act.put, List.setIfInBounds_toArray, List.set_cons_zero, List.set_cons_succ]
    rfl
  refine tk_ 11 (some 21) (bt 12 15) (v := ?_) (a' := ?_) rfl rfl (by kernel_rfl) (fun _ _ _ h => h) (yieldsIf_run rfl ?_) hHeld ?_ ?_
  rotate_left
  · intro w'
    go_simp
    with_reducible rfl
  rotate_left
  · simp only [Act.put, List.setIfInBounds_toArray, List.set_cons_zero, List.set_cons_succ]
    rfl
  refine tk_ 12 (some 22) (bt 13 14) (v := ?_) (a' := ?_) rfl rfl (by kernel_rfl) (fun _ _ _ h => h) (yieldsIf_run rfl ?_) hHeld ?_ ?_
  rotate_left
  · intro w'
    go_simp
    with_reducible rfl
  rotate_left
  · simp only [Act.put, List.setIfInBounds_toArray, List.set_cons_zero, List.set_cons_succ]
    rfl
  refine tk_ 13 (some 23) (bt 14 13) (v := ?_) (a' := ?_) rfl rfl (by kernel_rfl) (fun _ _ _ h => h) (yieldsIf_run rfl ?_) hHeld ?_ ?_
  rotate_left
  · intro w'
    go_simp
    with_reducible rfl
  rotate_left
  · simp only [Act.put, List.setIfInBounds_toArray, List.set_cons_zero, List.set_cons_succ]
    rfl
  refine tk_ 14 (some 24) (bt 15 12) rfl rfl (by kernel_rfl) (fun _ _ _ h => h) (yieldsIf_tipb rfl (.tmp 3) rfl g rfl t (fun W' h => h.b0)) hHeld (a' := ?_) ?_ ?_
  rotate_left
  · simp only [Act.put, List.setIfInBounds_toArray, List.set_cons_zero, List.set_cons_succ]
    rfl
  refine tk_ 15 (some 25) (bt 16 11) (v := ?_) (a' := ?_) rfl rfl (by kernel_rfl) (fun _ _ _ h => h) (yieldsIf_run rfl ?_) hHeld ?_ ?_
  rotate_left
  · intro w'
    go_simp
    with_reducible rfl
  rotate_left
  · simp only [Act.put, List.setIfInBounds_toArray, List.set_cons_zero, List.set_cons_succ]
    rfl
  refine call_ 16 (some 26) (bt 17 10) rfl rfl (by kernel_rfl) rfl 47 _ (by kernel_rfl) (HM7.out _ hHeld.below) ?_
  rintro e w7 ⟨rfl, hb7⟩
  have HB7 := Lib.hid (hHeld.next hb7)
  refine ⟨_, rfl, HB7.out, fun hHeld => ⟨?_, ?_, ?_⟩⟩
  rotate_left
  · simp only [Act.put, List.setIfInBounds_toArray, List.set_cons_zero, List.set_cons_succ]
    rfl
  refine tk_ 17 (some 27) (bt 18 9) (v := ?_) (a' := ?_) rfl rfl (by kernel_rfl) (fun _ _ _ h => h) (yieldsIf_run rfl ?_) hHeld ?_ ?_
  rotate_left
  · intro w'
    go_simp
    with_reducible rfl
  rotate_left
  · simp only [Act.put, List.setIfInBounds_toArray, List.set_cons_zero, List.set_cons_succ]
    rfl
  refine tk_ 18 (some 28) (bt 19 8) (v := ?_) (a' := ?_) rfl rfl (by kernel_rfl) (fun _ _ _ h => h) (yieldsIf_run rfl ?_) hHeld ?_ ?_
  rotate_left
  · intro w'
    go_simp
    with_reducible rfl
  rotate_left
  · simp only [Act.put, List.setIfInBounds_toArray, List.set_cons_zero, List.set_cons_succ]
    rfl
  refine tk_ 19 (some 29) (bt 20 7) (v := ?_) (a' := ?_) rfl rfl (by kernel_rfl) (fun _ _ _ h => h) (yieldsIf_run rfl ?_) hHeld ?_ ?_
  rotate_left
  · intro w'
    go_simp
    with_reducible rfl
  rotate_left
  · simp only [Act.put, List.setIfInBounds_toArray, List.set_cons_zero, List.set_cons_succ]
    rfl
  refine tk_ 20 (some 30) (bt 21 6) (v := ?_) (a' := ?_) rfl rfl (by kernel_rfl) (fun _ _ _ h => h) (yieldsIf_run rfl ?_) hHeld ?_ ?_
  rotate_left
  · intro w'
    go_simp
    with_reducible rfl
  rotate_left
  · simp only [Act.put, List.setIfInBounds_toArray, List.set_cons_zero, List.set_cons_succ]
    rfl
  refine tk_ 21 (some 31) (bt 22 5) rfl rfl (by kernel_rfl) (fun _ _ _ h => h) (yieldsIf_tipb rfl (.tmp 3) rfl g rfl t (fun W' h => h.b0)) hHeld (a' := ?_) ?_ ?_
  rotate_left
  · simp only [Act.put, List.setIfInBounds_toArray, List.set_cons_zero, List.set_cons_succ]
    rfl
  refine tk_ 22 (some 32) (bt 23 4) rfl rfl (by kernel_rfl) (fun _ _ _ h => h) (yieldsIf_tipb rfl (.tmp 3) rfl g rfl t (fun W' h => h.b0)) hHeld (a' := ?_) ?_ ?_
  rotate_left
  · simp only [Act.put, List.setIfInBounds_toArray, List.set_cons_zero, List.set_cons_succ]
    rfl
  refine call_ 23 (some 33) (bt 24 3) rfl rfl (by kernel_rfl) rfl 47 _ (by kernel_rfl) (HM0.out _ hHeld.below) ?_
  rintro e w8 ⟨rfl, hb8⟩
  have HB8 := Lib.hid (hHeld.next hb8)
  refine ⟨_, rfl, HB8.out, fun hHeld => ⟨?_, ?_, ?_⟩⟩
  rotate_left
  · simp only [Act.put, List.setIfInBounds_toArray, List.set_cons_zero, List.set_cons_succ]
    rfl
  refine tk_ 24 (some 34) (bt 25 2) (v := ?_) (a' := ?_) rfl rfl (by kernel_rfl) (fun _ _ _ h => h) (yieldsIf_run rfl ?_) hHeld ?_ ?_
  rotate_left
  · intro w'
    go_simp
    with_reducible rfl
  rotate_left
  · simp only [Act.put, List.setIfInBounds_toArray, List.set_cons_zero, List.set_cons_succ]
    rfl
  refine tk_ 25 (some 35) (bt 26 1) (v := ?_) (a' := ?_) rfl rfl (by kernel_rfl) (fun _ _ _ h => h) (yieldsIf_run rfl ?_) hHeld ?_ ?_
  rotate_left
  · intro w'
    go_simp
    with_reducible rfl
  rotate_left
  · simp only [Act.put, List.setIfInBounds_toArray, List.set_cons_zero, List.set_cons_succ]
    rfl
  refine tk_ 26 (some 0) (bt 27 0) (v := ?_) (a' := ?_) rfl rfl (by kernel_rfl) (fun _ _ _ h => h) (yieldsIf_run rfl ?_) hHeld ?_ ?_
  rotate_left
  · intro w'
    go_simp
    with_reducible rfl
  rotate_left
  · simp only [Act.put, List.setIfInBounds_toArray, List.set_cons_zero]
    rfl
  refine wpAnyH_done (by kernel_rfl) ?_ _
  change Exit.then _ _ _ _ _
  go_wp2
  go_ret
  exact ⟨rfl, HB.out.below.trans (HB8.out.below.mono HB.out.below.size)⟩
end Go.Proofs.YtcohdfkdhdhegaaGreatDoor
