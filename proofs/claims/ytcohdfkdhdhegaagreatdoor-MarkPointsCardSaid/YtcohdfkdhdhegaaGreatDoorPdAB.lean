/- mark.Fits, Point.Move, Point.Set; MarkPoints' own function. coxswainlaw23.events. -/
import Derived.Test.YtcohdfkdhdhegaaGreatDoorPbAA
import Derived.Test.YtcohdfkdhdhegaaGreatDoorPbAB
import Derived.Test.YtcohdfkdhdhegaaGreatDoorPbAC
import Derived.Test.YtcohdfkdhdhegaaGreatDoorPbAD
import Derived.Test.YtcohdfkdhdhegaaGreatDoorPbAE
import Derived.Test.YtcohdfkdhdhegaaGreatDoorPbAF
import Derived.Test.YtcohdfkdhdhegaaGreatDoorPbAG
import Derived.Test.YtcohdfkdhdhegaaGreatDoorPbAH
import Derived.Test.YtcohdfkdhdhegaaGreatDoorPbAI
import Derived.Test.YtcohdfkdhdhegaaGreatDoorPbAJ
import Derived.Test.YtcohdfkdhdhegaaGreatDoorPbAK
import Derived.Test.YtcohdfkdhdhegaaGreatDoorPbAL
import Derived.Test.YtcohdfkdhdhegaaGreatDoorPbAM
import Derived.Test.YtcohdfkdhdhegaaGreatDoorPbAN
import Derived.Test.YtcohdfkdhdhegaaGreatDoorPbAO
import Derived.Test.YtcohdfkdhdhegaaGreatDoorPbAP
import Derived.Test.YtcohdfkdhdhegaaGreatDoorPbAQ
import Derived.Test.YtcohdfkdhdhegaaGreatDoorPbAR
import Derived.Test.YtcohdfkdhdhegaaGreatDoorPbAS
import Derived.Test.YtcohdfkdhdhegaaGreatDoorPbAT
import Derived.Test.YtcohdfkdhdhegaaGreatDoorPbAU
import Derived.Test.YtcohdfkdhdhegaaGreatDoorPbAV
import Derived.Test.YtcohdfkdhdhegaaGreatDoorPbAW
import Derived.Test.YtcohdfkdhdhegaaGreatDoorPbAX
import Derived.Test.YtcohdfkdhdhegaaGreatDoorPbAY
import Derived.Test.YtcohdfkdhdhegaaGreatDoorPbAZ
import Derived.Test.YtcohdfkdhdhegaaGreatDoorPbBA
import Derived.Test.YtcohdfkdhdhegaaGreatDoorPbBB
import Derived.Test.YtcohdfkdhdhegaaGreatDoorPbBC
import Derived.Test.YtcohdfkdhdhegaaGreatDoorPbBD
import Derived.Test.YtcohdfkdhdhegaaGreatDoorPbBE
import Derived.Test.YtcohdfkdhdhegaaGreatDoorPbBF
import Derived.Test.YtcohdfkdhdhegaaGreatDoorPbBG
import Derived.Test.YtcohdfkdhdhegaaGreatDoorPbBH
import Derived.Test.YtcohdfkdhdhegaaGreatDoorPbBI
import Derived.Test.YtcohdfkdhdhegaaGreatDoorPbBJ
import Derived.Test.YtcohdfkdhdhegaaGreatDoorPbBK
import Derived.Test.YtcohdfkdhdhegaaGreatDoorPdAA
namespace Go.Proofs.YtcohdfkdhdhegaaGreatDoor
open Go.RowKit Go.Maps

theorem pt_size : (Tryz.prog.info? 91).map (·.size) = some 2 := by kernel_rfl
section
variable {ops : Array Oper} {rest : List Oper} {o : Oper} {a : Act} {w : World} {Q : Exit → Act → World → Prop}
/-- A tipset within a block. -/
theorem wpl_tipf (hgd : Region.wanted o (yielded ops a.tmps) = true) (x : Operand) (ho : o.op = .load 52 x) (b k : Nat) (hx : a.eval x = .pointer (some ⟨b, k, none⟩)) (cs : Array Value) (T : TypeId) (v : Value) (hv : cs[k]? = some v) (hb : w.heap[b]? = some (.cells cs T (0, 0)))
    (h : wpList Tryz.prog ops Q rest (a.put o.dst (tipV v)) w) : wpList Tryz.prog ops Q (o :: rest) a w :=
  wpl_load_on hgd 52 x ho b k hx [v] _ (fun j u hu => by
    match j, hu with
    | 0, hu => cases hu; exact cell_block hb hv) Tryz.underlying52 rfl tip_size h
theorem run_storeTip (w : World) (b off : Nat) (v u : Value) (h1 : v.oneCell' = true) (hc : w.cell? ⟨b, off, none⟩ = some u) (hf : w.frozen? ⟨b, off, none⟩ = false) :
    (storeVar 52 ⟨b, off, none⟩ (tipV v)).run Tryz.prog w = .ok () (w.setCell ⟨b, off, none⟩ v) := by
  cases hq : Tryz.prog.info? 52 with
  | none => have := tip_size; simp [hq] at this
  | some i =>
    have hs : i.size = 1 := by simpa [hq] using tip_size
    have ha : (⟨b, off, none⟩ : Addr).add 0 = ⟨b, off, none⟩ := by rw [add_off]; rfl
    have hst : (store ⟨b, off, none⟩ v : Sem Unit).run Tryz.prog w = .ok () (w.setCell ⟨b, off, none⟩ v) := by
      rw [run_store Tryz.prog w _ v .plain h1]
      simp [hc, hf]
    simp [storeVar, sizeOf, typeInfo, hq, hs, Value.cells, storeCells, ha, hst]
theorem wpl_tipsetC (hgd : o.guard = none) (x y : Operand) (ho : o.op = .store 52 x y) (b i : Nat) (hx : a.eval x = .pointer (some ⟨b, i, none⟩)) (v : Value) (hy : a.eval y = tipV v) (h1 : v.oneCell' = true) (cs : Array Value) (T : TypeId) (hb : w.heap[b]? = some (.cells cs T (0, 0))) (u : Value) (hi : cs[i]? = some u) (cs' : Array Value) (hc : cs.setIfInBounds i v = cs')
    (h : wpList Tryz.prog ops Q rest (a.put o.dst undef) (w.setRow b cs')) : wpList Tryz.prog ops Q (o :: rest) a w :=
  wpList_plain hgd fun K hK => by
    have h2 := run_storeTip w b i v u h1 (cell_block hb hi) (Lib.frozen_of_heap hb i)
    rw [setCell_eq_setRow w b i _ _ _ v hb, hc] at h2
    unfold Oper.wp execOp
    simp only [ho, hx, hy, Instr.storeAt, Instr.sureAddr, Sem.run_bind, Sem.run_pure, Result.andThen_ok, h2]
    exact hK _ _ h
end
/-- Is one of both on the other one's chain? -/
noncomputable def oneG (G : List Hdr) (A B : List ID) : Bool := descG G A B || descG G B A

set_option maxRecDepth 100000 in
set_option maxHeartbeats 2000000 in
theorem mfits_any (w : World) (pp p b1 b2 : Nat) (D : List LB) (okx ok ok2 : Nat → Prop) (h : PathAt okx w pp p b1 b2 D) (mv : Value) (M : List ID) (hM : M = [] ∨ TipOf (hdrs D) M) (hw : TipIs ok2 w (hdrs D) mv M) (tv : Value) (T : List ID) (hT : TipOf (hdrs D) T) (hv : TipIs ok w (hdrs D) tv T) :
    Calls Tryz.prog 125 #[.pointer (some ⟨pp, 0, none⟩), tipV mv, tipV tv] w fun e w' => e = .returned (.bool (M.isEmpty || oneG (hdrs D) M T)) ∧ Below w.heap.size w w' := by
  have HZ : Hid (∀ W, Below w.heap.size w W → Calls Tryz.prog 30 #[tipV mv] W fun e w' => e = .returned (.bool M.isEmpty) ∧ Below W.heap.size W w') := Lib.hid fun W hb => zero_is (hw.below hb)
  have H1 : Hid (M ≠ [] → ∀ W, Below w.heap.size w W → Calls Tryz.prog 48 #[.pointer (some ⟨pp, 0, none⟩), tipV mv, tipV tv] W fun e w' => e = .returned (.bool (oneG (hdrs D) M T)) ∧ Below W.heap.size W w') := Lib.hid fun hne W hb => onechain_any W pp p b1 b2 D okx ok2 ok (h.below hb) mv M (hM.resolve_left hne) (hw.below hb) tv T hT (hv.below hb)
  have HB0 := Lib.hid (Box2.mk2 w mv tv)
  clear h hw hv
  generalize oneG (hdrs D) M T = d at H1 ⊢
  obtain ⟨z, hz⟩ : ∃ z, M.isEmpty = z := ⟨_, rfl⟩
  rw [hz] at HZ ⊢
  have HM : Hid (z = false → M ≠ []) := Lib.hid (by rw [← hz]; cases M <;> simp)
  clear hz hM
  go_enter Tryz.func125, Tryz.ntmps125
  go_upto_region 1 with fail
  generalize (w.alloc (.cells #[mv] 52)).alloc (.cells #[tv] 52) = W0 at HB0 ⊢
  cases z with
  | true =>
    go_wp2_with (first
      | (refine wpl_tip rfl _ rfl _ rfl _ HB0.out.b0 ?_)
      | (go_at_call 30; refine (HZ.out _ HB0.out.below).mono ?_; rintro e w1 ⟨rfl, hb1⟩; have HB1 := Lib.hid (HB0.out.next hb1); clear hb1))
    go_ret
    exact ⟨rfl, HB1.out.below⟩
  | false =>
    have HD := Lib.hid (H1.out (HM.out rfl))
    go_wp2_with (first
      | (refine wpl_tip (by kernel_rfl) _ rfl _ rfl _ HB1.out.b0 ?_)
      | (refine wpl_tip (by kernel_rfl) _ rfl _ rfl _ HB1.out.b1 ?_)
      | (refine wpl_tip rfl _ rfl _ rfl _ HB0.out.b0 ?_)
      | (go_at_call 30; refine (HZ.out _ HB0.out.below).mono ?_; rintro e w1 ⟨rfl, hb1⟩; have HB1 := Lib.hid (HB0.out.next hb1); clear hb1)
      | (go_at_call 48; refine (HD.out _ HB1.out.below).mono ?_; rintro e w2 ⟨rfl, hb2⟩; have HB2 := Lib.hid (HB1.out.next hb2); clear hb2))
    go_ret
    exact ⟨rfl, HB2.out.below⟩

/-- A point, a tipset, and the answer's variable. -/
structure PtB (w W : World) (fv mv tv : Value) : Prop where
  below : Below w.heap.size w W
  x : W.heap[w.heap.size]? = some (.cells #[fv, mv] 91 (0, 0))
  t : W.heap[w.heap.size + 1]? = some (.cells #[tv] 52 (0, 0))
  r : W.heap[w.heap.size + 2]? = some (.cells #[.slice none 0 0, .slice none 0 0] 91 (0, 0))
theorem PtB.mk3 (w : World) (fv mv tv : Value) : PtB w (((w.alloc (.cells #[fv, mv] 91)).alloc (.cells #[tv] 52)).alloc (.cells #[.slice none 0 0, .slice none 0 0] 91)) fv mv tv where
  below := (((Below.refl _ w).alloc (Nat.le_refl _) _).alloc (by simp) _).alloc (by simp; omega) _
  x := (heap_alloc_old _ _ (by simp; omega)).trans ((heap_alloc_old _ _ (by simp)).trans (heap_alloc_new w _))
  t := (heap_alloc_old _ _ (by simp)).trans (by have := heap_alloc_new (w.alloc (.cells #[fv, mv] 91)) (.cells #[tv] 52); rw [World.size_alloc] at this; exact this)
  r := by have := heap_alloc_new ((w.alloc (.cells #[fv, mv] 91)).alloc (.cells #[tv] 52)) (.cells #[.slice none 0 0, .slice none 0 0] 91); rw [World.size_alloc, World.size_alloc] at this; exact this
theorem PtB.next {w W W' : World} {fv mv tv : Value} (h : PtB w W fv mv tv) (hb : Below W.heap.size W W') : PtB w W' fv mv tv where
  below := h.below.trans (hb.mono h.below.size)
  x := (hb.block _ (Array.getElem?_eq_some_iff.1 h.x).1).trans h.x
  t := (hb.block _ (Array.getElem?_eq_some_iff.1 h.t).1).trans h.t
  r := (hb.block _ (Array.getElem?_eq_some_iff.1 h.r).1).trans h.r

set_option maxRecDepth 100000 in
set_option maxHeartbeats 4000000 in
theorem pmove_any (w : World) (pp p b1 b2 : Nat) (D : List LB) (okx ok ok2 ok3 : Nat → Prop) (h : PathAt okx w pp p b1 b2 D) (fv : Value) (F : List ID) (hF : TipOf (hdrs D) F) (hf : TipIs ok w (hdrs D) fv F) (mv : Value) (M : List ID) (hM : M = [] ∨ TipOf (hdrs D) M) (hm : TipIs ok2 w (hdrs D) mv M) (tv : Value) (T : List ID) (hT : TipOf (hdrs D) T) (ht : TipIs ok3 w (hdrs D) tv T) :
    Calls Tryz.prog 57 #[.agg #[fv, mv], .pointer (some ⟨pp, 0, none⟩), tipV tv] w fun e w' => e = .returned (.tuple #[.agg #[if (descG (hdrs D) T F && (M.isEmpty || oneG (hdrs D) M T)) = true then tv else fv, mv], .bool (descG (hdrs D) T F && (M.isEmpty || oneG (hdrs D) M T))]) ∧ Below w.heap.size w w' := by
  have HD : Hid (∀ W, Below w.heap.size w W → Calls Tryz.prog 51 #[.pointer (some ⟨pp, 0, none⟩), tipV tv, tipV fv] W fun e w' => e = .returned (.bool (descG (hdrs D) T F)) ∧ Below W.heap.size W w') := Lib.hid fun W hb => descends_any W pp p b1 b2 D okx ok3 ok (h.below hb) tv T hT (ht.below hb) fv F hF (hf.below hb)
  have HFI : Hid (∀ W, Below w.heap.size w W → Calls Tryz.prog 125 #[.pointer (some ⟨pp, 0, none⟩), tipV mv, tipV tv] W fun e w' => e = .returned (.bool (M.isEmpty || oneG (hdrs D) M T)) ∧ Below W.heap.size W w') := Lib.hid fun W hb => mfits_any W pp p b1 b2 D okx ok3 ok2 (h.below hb) mv M hM (hm.below hb) tv T hT (ht.below hb)
  have hof := hf.one _ (List.mem_singleton.2 rfl)
  have hom := hm.one _ (List.mem_singleton.2 rfl)
  have hot := ht.one _ (List.mem_singleton.2 rfl)
  have HB0 := Lib.hid (PtB.mk3 w fv mv tv)
  clear h hf hm ht
  generalize descG (hdrs D) T F = d at HD ⊢
  generalize (M.isEmpty || oneG (hdrs D) M T) = z at HFI ⊢
  have HOFM : Hid (∀ u ∈ [fv, mv], u.oneCell' = true) := Lib.hid fun u hu => by
    simp only [List.mem_cons, List.not_mem_nil, or_false] at hu
    rcases hu with rfl | rfl
    · exact hof
    · exact hom
  have HOTM : Hid (∀ u ∈ [tv, mv], u.oneCell' = true) := Lib.hid fun u hu => by
    simp only [List.mem_cons, List.not_mem_nil, or_false] at hu
    rcases hu with rfl | rfl
    · exact hot
    · exact hom
  go_enter Tryz.func57, Tryz.ntmps57
  go_upto_region 1 with fail
  generalize ((w.alloc (.cells #[fv, mv] 91)).alloc (.cells #[tv] 52)).alloc (.cells #[.slice none 0 0, .slice none 0 0] 91) = W0 at HB0 ⊢
  cases d with
  | false =>
    go_wp2_with (first
      | (refine wpl_tip rfl _ rfl _ rfl _ HB0.out.t ?_)
      | (refine wpl_tipf rfl _ rfl w.heap.size 0 rfl _ _ fv rfl HB0.out.x ?_)
      | (go_at_call 51; refine (HD.out _ HB0.out.below).mono ?_; rintro e w1 ⟨rfl, hb1⟩; have HB1 := Lib.hid (HB0.out.next hb1); clear hb1)
      | (refine wpl_load rfl 91 (.tmp 3) rfl w.heap.size 0 rfl [fv, mv] _ (fun j u hu => by rw [Nat.zero_add]; exact cell_block HB1.out.x (by simpa using hu)) Tryz.underlying91 rfl pt_size ?_)
      | (refine wpl_store_row rfl 91 (.tmp 6) (.tmp 22) rfl (w.heap.size + 2) rfl [fv, mv] rfl _ 91 HB1.out.r rfl HOFM.out pt_size ?_))
    (try simp only [Exit.inBlock, Exit.then])
    refine bodyPost_ret (results_row_tmp rfl _ _ (w.heap.size + 2) 91 #[fv, mv] (0, 0) _ rfl (setRow_heap _ (w.heap.size + 2) _ _ _ _ HB1.out.r) Tryz.underlying91 rfl pt_size _ rfl) rfl ?_
    exact ⟨rfl, below_setRow HB1.out.below (by omega) _⟩
  | true =>
    cases z with
    | false =>
      go_wp2_with (first
        | (refine wpl_tip rfl _ rfl _ rfl _ HB2.out.t ?_)
        | (refine wpl_tip (by kernel_rfl) _ rfl _ rfl _ HB1.out.t ?_)
        | (refine wpl_tip rfl _ rfl _ rfl _ HB0.out.t ?_)
        | (refine wpl_tipf (by kernel_rfl) _ rfl w.heap.size 1 rfl _ _ mv rfl HB1.out.x ?_)
        | (refine wpl_tipf rfl _ rfl w.heap.size 0 rfl _ _ fv rfl HB0.out.x ?_)
        | (go_at_call 51; refine (HD.out _ HB0.out.below).mono ?_; rintro e w1 ⟨rfl, hb1⟩; have HB1 := Lib.hid (HB0.out.next hb1); clear hb1)
        | (go_at_call 125; refine (HFI.out _ HB1.out.below).mono ?_; rintro e w2 ⟨rfl, hb2⟩; have HB2 := Lib.hid (HB1.out.next hb2); clear hb2)
        | (refine wpl_load rfl 91 (.tmp 3) rfl w.heap.size 0 rfl [fv, mv] _ (fun j u hu => by rw [Nat.zero_add]; exact cell_block HB2.out.x (by simpa using hu)) Tryz.underlying91 rfl pt_size ?_)
        | (refine wpl_store_row rfl 91 (.tmp 6) (.tmp 22) rfl (w.heap.size + 2) rfl [fv, mv] rfl _ 91 HB2.out.r rfl HOFM.out pt_size ?_))
      (try simp only [Exit.inBlock, Exit.then])
      refine bodyPost_ret (results_row_tmp rfl _ _ (w.heap.size + 2) 91 #[fv, mv] (0, 0) _ rfl (setRow_heap _ (w.heap.size + 2) _ _ _ _ HB2.out.r) Tryz.underlying91 rfl pt_size _ rfl) rfl ?_
      exact ⟨rfl, below_setRow HB2.out.below (by omega) _⟩
    | true =>
      go_upto_region 4 with (first
        | (refine wpl_tip rfl _ rfl _ rfl _ HB2.out.t ?_)
        | (refine wpl_tip (by kernel_rfl) _ rfl _ rfl _ HB1.out.t ?_)
        | (refine wpl_tip rfl _ rfl _ rfl _ HB0.out.t ?_)
        | (refine wpl_tipf (by kernel_rfl) _ rfl w.heap.size 1 rfl _ _ mv rfl HB1.out.x ?_)
        | (refine wpl_tipf rfl _ rfl w.heap.size 0 rfl _ _ fv rfl HB0.out.x ?_)
        | (go_at_call 51; refine (HD.out _ HB0.out.below).mono ?_; rintro e w1 ⟨rfl, hb1⟩; have HB1 := Lib.hid (HB0.out.next hb1); clear hb1)
        | (go_at_call 125; refine (HFI.out _ HB1.out.below).mono ?_; rintro e w2 ⟨rfl, hb2⟩; have HB2 := Lib.hid (HB1.out.next hb2); clear hb2)
        | (refine wpl_tipsetC rfl (.tmp 24) (.tmp 23) rfl w.heap.size 0 rfl tv rfl hot _ _ HB2.out.x fv rfl #[tv, mv] rfl ?_))
      have HB3 : Hid (Below w.heap.size w (w2.setRow w.heap.size #[tv, mv]) ∧ (w2.setRow w.heap.size #[tv, mv]).heap[w.heap.size]? = some (.cells #[tv, mv] 91 (0, 0)) ∧ (w2.setRow w.heap.size #[tv, mv]).heap[w.heap.size + 2]? = some (.cells #[.slice none 0 0, .slice none 0 0] 91 (0, 0))) := Lib.hid ⟨below_setRow HB2.out.below (Nat.le_refl _) _, setRow_heap _ _ _ _ _ _ HB2.out.x, (heap_setRow_ne _ _ _ _ (by omega)).trans HB2.out.r⟩
      generalize w2.setRow w.heap.size #[tv, mv] = W3 at HB3 ⊢
      go_wp2_with (first
        | (refine wpl_load rfl 91 (.tmp 3) rfl w.heap.size 0 rfl [tv, mv] _ (fun j u hu => by rw [Nat.zero_add]; exact cell_block HB3.out.2.1 (by simpa using hu)) Tryz.underlying91 rfl pt_size ?_)
        | (refine wpl_store_row rfl 91 (.tmp 6) (.tmp 25) rfl (w.heap.size + 2) rfl [tv, mv] rfl _ 91 HB3.out.2.2 rfl HOTM.out pt_size ?_))
      (try simp only [Exit.inBlock, Exit.then])
      refine bodyPost_ret (results_row_tmp rfl _ _ (w.heap.size + 2) 91 #[tv, mv] (0, 0) _ rfl (setRow_heap _ (w.heap.size + 2) _ _ _ _ HB3.out.2.2) Tryz.underlying91 rfl pt_size _ rfl) rfl ?_
      exact ⟨rfl, below_setRow HB3.out.1 (by omega) _⟩

set_option maxRecDepth 100000 in
set_option maxHeartbeats 4000000 in
theorem pset_any (w : World) (pp p b1 b2 : Nat) (D : List LB) (okx ok ok2 ok3 : Nat → Prop) (h : PathAt okx w pp p b1 b2 D) (fv : Value) (F : List ID) (hF : TipOf (hdrs D) F) (hf : TipIs ok w (hdrs D) fv F) (mv : Value) (M : List ID) (hm : TipIs ok2 w (hdrs D) mv M) (tv : Value) (T : List ID) (hT : T = [] ∨ TipOf (hdrs D) T) (ht : TipIs ok3 w (hdrs D) tv T) :
    Calls Tryz.prog 58 #[.agg #[fv, mv], .pointer (some ⟨pp, 0, none⟩), tipV tv] w fun e w' => e = .returned (.tuple #[.agg #[fv, if (T.isEmpty || oneG (hdrs D) F T) = true then tv else mv], .int .i64 (if (T.isEmpty || oneG (hdrs D) F T) = true then 0 else 16)]) ∧ Below w.heap.size w w' := by
  obtain ⟨ec, hec⟩ : ∃ ec : Int, (if T = [] then (7 : Int) else if (descG (hdrs D) F T || descG (hdrs D) T F) = true then 0 else 16) = ec := ⟨_, rfl⟩
  have HMY : Hid (∀ W, Below w.heap.size w W → Calls Tryz.prog 47 #[.pointer (some ⟨pp, 0, none⟩), tipV fv, tipV tv] W fun e w' => e = .returned (.int .i64 ec) ∧ Below W.heap.size W w') := Lib.hid fun W hb => by
    rw [← hec]
    exact may_any W pp p b1 b2 D okx ok ok3 (h.below hb) fv F hF (hf.below hb) tv T hT (ht.below hb)
  have HZ : Hid (∀ W, Below w.heap.size w W → Calls Tryz.prog 30 #[tipV tv] W fun e w' => e = .returned (.bool T.isEmpty) ∧ Below W.heap.size W w') := Lib.hid fun W hb => zero_is (ht.below hb)
  have hof := hf.one _ (List.mem_singleton.2 rfl)
  have hom := hm.one _ (List.mem_singleton.2 rfl)
  have hot := ht.one _ (List.mem_singleton.2 rfl)
  have HB0 := Lib.hid (PtB.mk3 w fv mv tv)
  obtain ⟨z, hz⟩ : ∃ z, T.isEmpty = z := ⟨_, rfl⟩
  have HEC : Hid ((z = true ∧ ec = 7) ∨ (z = false ∧ oneG (hdrs D) F T = true ∧ ec = 0) ∨ (z = false ∧ oneG (hdrs D) F T = false ∧ ec = 16)) := Lib.hid (by
    by_cases h0 : T = []
    · rw [if_pos h0] at hec
      exact .inl ⟨by rw [← hz, h0]; rfl, hec.symm⟩
    · rw [if_neg h0] at hec
      have hz' : z = false := by rw [← hz]; cases T with | nil => exact absurd rfl h0 | cons _ _ => rfl
      by_cases h1 : (descG (hdrs D) F T || descG (hdrs D) T F) = true
      · rw [if_pos h1] at hec
        exact .inr (.inl ⟨hz', h1, hec.symm⟩)
      · rw [if_neg h1] at hec
        exact .inr (.inr ⟨hz', Bool.eq_false_iff.2 h1, hec.symm⟩))
  rw [hz] at HZ ⊢
  clear h hf hm ht hz hec hT
  generalize hrv : (if (z || oneG (hdrs D) F T) = true then tv else mv) = rv
  generalize hrc : (if (z || oneG (hdrs D) F T) = true then (0 : Int) else 16) = rc
  have HR1 : Hid (z = true ∨ oneG (hdrs D) F T = true → tv = rv ∧ 0 = rc) := Lib.hid fun h => by
    have h2 : (z || oneG (hdrs D) F T) = true := by simpa using h
    rw [if_pos h2] at hrv hrc
    exact ⟨hrv, hrc⟩
  have HR2 : Hid (z = false → oneG (hdrs D) F T = false → mv = rv ∧ 16 = rc) := Lib.hid fun h h' => by
    have h2 : ¬ (z || oneG (hdrs D) F T) = true := by rw [h, h']; decide
    rw [if_neg h2] at hrv hrc
    exact ⟨hrv, hrc⟩
  clear hrv hrc
  have HOFM : Hid (∀ u ∈ [fv, mv], u.oneCell' = true) := Lib.hid fun u hu => by
    simp only [List.mem_cons, List.not_mem_nil, or_false] at hu
    rcases hu with rfl | rfl
    · exact hof
    · exact hom
  have HOFT : Hid (∀ u ∈ [fv, tv], u.oneCell' = true) := Lib.hid fun u hu => by
    simp only [List.mem_cons, List.not_mem_nil, or_false] at hu
    rcases hu with rfl | rfl
    · exact hof
    · exact hot
  go_enter Tryz.func58, Tryz.ntmps58
  go_upto_region 1 with fail
  generalize ((w.alloc (.cells #[fv, mv] 91)).alloc (.cells #[tv] 52)).alloc (.cells #[.slice none 0 0, .slice none 0 0] 91) = W0 at HB0 ⊢
  go_upto_region 2 with (first
    | (refine wpl_tip rfl _ rfl _ rfl _ HB0.out.t ?_)
    | (refine wpl_tipf rfl _ rfl w.heap.size 0 rfl _ _ fv rfl HB0.out.x ?_)
    | (go_at_call 47; refine (HMY.out _ HB0.out.below).mono ?_; rintro e w1 ⟨rfl, hb1⟩; have HB1 := Lib.hid (HB0.out.next hb1); clear hb1))
  rcases HEC.out with ⟨rfl, rfl⟩ | ⟨rfl, h1, rfl⟩ | ⟨rfl, h1, rfl⟩
  · obtain ⟨rfl, rfl⟩ := HR1.out (.inl rfl)
    clear HR1 HR2 HEC
    go_upto_region 4 with (first
      | (refine wpl_tip (by kernel_rfl) _ rfl _ rfl _ HB1.out.t ?_)
      | (go_at_call 30; refine (HZ.out _ HB1.out.below).mono ?_; rintro e w2 ⟨rfl, hb2⟩; have HB2 := Lib.hid (HB1.out.next hb2); clear hb2))
    go_upto_region 5 with (first
      | (refine wpl_tip rfl _ rfl _ rfl _ HB2.out.t ?_)
      | (refine wpl_tipsetC rfl (.tmp 24) (.tmp 23) rfl w.heap.size 1 rfl tv rfl hot _ _ HB2.out.x mv rfl #[fv, tv] rfl ?_))
    have HB3 : Hid (Below w.heap.size w (w2.setRow w.heap.size #[fv, tv]) ∧ (w2.setRow w.heap.size #[fv, tv]).heap[w.heap.size]? = some (.cells #[fv, tv] 91 (0, 0)) ∧ (w2.setRow w.heap.size #[fv, tv]).heap[w.heap.size + 2]? = some (.cells #[.slice none 0 0, .slice none 0 0] 91 (0, 0))) := Lib.hid ⟨below_setRow HB2.out.below (Nat.le_refl _) _, setRow_heap _ _ _ _ _ _ HB2.out.x, (heap_setRow_ne _ _ _ _ (by omega)).trans HB2.out.r⟩
    generalize w2.setRow w.heap.size #[fv, tv] = W3 at HB3 ⊢
    go_wp2_with (first
      | (refine wpl_load rfl 91 (.tmp 3) rfl w.heap.size 0 rfl [fv, tv] _ (fun j u hu => by rw [Nat.zero_add]; exact cell_block HB3.out.2.1 (by simpa using hu)) Tryz.underlying91 rfl pt_size ?_)
      | (refine wpl_store_row rfl 91 (.tmp 6) (.tmp 25) rfl (w.heap.size + 2) rfl [fv, tv] rfl _ 91 HB3.out.2.2 rfl HOFT.out pt_size ?_))
    (try simp only [Exit.inBlock, Exit.then])
    refine bodyPost_ret (results_row_tmp rfl _ _ (w.heap.size + 2) 91 #[fv, tv] (0, 0) _ rfl (setRow_heap _ (w.heap.size + 2) _ _ _ _ HB3.out.2.2) Tryz.underlying91 rfl pt_size _ rfl) rfl ?_
    exact ⟨rfl, below_setRow HB3.out.1 (by omega) _⟩
  · obtain ⟨rfl, rfl⟩ := HR1.out (.inr h1)
    clear HR1 HR2 HEC h1
    go_upto_region 5 with (first
      | (refine wpl_tip rfl _ rfl _ rfl _ HB1.out.t ?_)
      | (refine wpl_tipsetC rfl (.tmp 24) (.tmp 23) rfl w.heap.size 1 rfl tv rfl hot _ _ HB1.out.x mv rfl #[fv, tv] rfl ?_))
    have HB3 : Hid (Below w.heap.size w (w1.setRow w.heap.size #[fv, tv]) ∧ (w1.setRow w.heap.size #[fv, tv]).heap[w.heap.size]? = some (.cells #[fv, tv] 91 (0, 0)) ∧ (w1.setRow w.heap.size #[fv, tv]).heap[w.heap.size + 2]? = some (.cells #[.slice none 0 0, .slice none 0 0] 91 (0, 0))) := Lib.hid ⟨below_setRow HB1.out.below (Nat.le_refl _) _, setRow_heap _ _ _ _ _ _ HB1.out.x, (heap_setRow_ne _ _ _ _ (by omega)).trans HB1.out.r⟩
    generalize w1.setRow w.heap.size #[fv, tv] = W3 at HB3 ⊢
    go_wp2_with (first
      | (refine wpl_load rfl 91 (.tmp 3) rfl w.heap.size 0 rfl [fv, tv] _ (fun j u hu => by rw [Nat.zero_add]; exact cell_block HB3.out.2.1 (by simpa using hu)) Tryz.underlying91 rfl pt_size ?_)
      | (refine wpl_store_row rfl 91 (.tmp 6) (.tmp 25) rfl (w.heap.size + 2) rfl [fv, tv] rfl _ 91 HB3.out.2.2 rfl HOFT.out pt_size ?_))
    (try simp only [Exit.inBlock, Exit.then])
    refine bodyPost_ret (results_row_tmp rfl _ _ (w.heap.size + 2) 91 #[fv, tv] (0, 0) _ rfl (setRow_heap _ (w.heap.size + 2) _ _ _ _ HB3.out.2.2) Tryz.underlying91 rfl pt_size _ rfl) rfl ?_
    exact ⟨rfl, below_setRow HB3.out.1 (by omega) _⟩
  · obtain ⟨rfl, rfl⟩ := HR2.out rfl h1
    clear HR1 HR2 HEC h1
    go_wp2_with (first
      | (refine wpl_tip (by kernel_rfl) _ rfl _ rfl _ HB1.out.t ?_)
      | (go_at_call 30; refine (HZ.out _ HB1.out.below).mono ?_; rintro e w2 ⟨rfl, hb2⟩; have HB2 := Lib.hid (HB1.out.next hb2); clear hb2)
      | (refine wpl_load rfl 91 (.tmp 3) rfl w.heap.size 0 rfl [fv, mv] _ (fun j u hu => by rw [Nat.zero_add]; exact cell_block HB2.out.x (by simpa using hu)) Tryz.underlying91 rfl pt_size ?_)
      | (refine wpl_store_row rfl 91 (.tmp 6) (.tmp 21) rfl (w.heap.size + 2) rfl [fv, mv] rfl _ 91 HB2.out.r rfl HOFM.out pt_size ?_))
    (try simp only [Exit.inBlock, Exit.then])
    refine bodyPost_ret (results_row_tmp rfl _ _ (w.heap.size + 2) 91 #[fv, mv] (0, 0) _ rfl (setRow_heap _ (w.heap.size + 2) _ _ _ _ HB2.out.r) Tryz.underlying91 rfl pt_size _ rfl) rfl ?_
    exact ⟨rfl, below_setRow HB2.out.below (by omega) _⟩

set_option maxRecDepth 100000 in
set_option maxHeartbeats 2000000 in
/-- MarkPoints' own function: is one of both behind the other one? -/
theorem one18_any (w : World) (g : Nat) (D : List LB) (L : List LRH) (hB : Both D L) (vl : Value) (ok okx oky : Nat → Prop) (hg : w.cell? ⟨g, 0, none⟩ = some vl) (hl : Sl rbE ok w vl L) (hat : ∀ y ∈ L, y.At ok w) (x : LNS) (hx : x.At okx w) (T : List ID) (hT : NamT (hdrs D) x.ns T) (hn : NamedIn L x.ns) (y : LNS) (hy : y.At oky w) (F : List ID) (hF : NamT (hdrs D) y.ns F) (hnF : NamedIn L y.ns) (hDL : D.length ≤ 1000000) :
    Calls Tryz.prog 55 #[x.v, y.v, .pointer (some ⟨g, 0, none⟩)] w fun e w' => e = .returned (.bool (oneG (hdrs D) T F)) ∧ Below w.heap.size w w' := by
  have H1 := Lib.hid fun (W : World) (hb : Below w.heap.size w W) => descends14_any W D L hB vl ok okx oky (hl.below hb) (fun y hy => Sl.below (hat y hy) hb) x (Sl.below hx hb) T hT hn y (Sl.below hy hb) F hF hDL
  have H2 := Lib.hid fun (W : World) (hb : Below w.heap.size w W) => descends14_any W D L hB vl ok oky okx (hl.below hb) (fun y hy => Sl.below (hat y hy) hb) y (Sl.below hy hb) F hF hnF x (Sl.below hx hb) T hT hDL
  obtain ⟨Al, cl, rfl, -, -⟩ := hl.form
  clear hB hl hat hx hT hn hy hF hnF
  unfold oneG
  generalize descG (hdrs D) T F = d1 at H1 ⊢
  generalize descG (hdrs D) F T = d2 at H2 ⊢
  obtain ⟨xn, xA, xc⟩ := x
  obtain ⟨yn, yA, yc⟩ := y
  go_enter Tryz.func55, Tryz.ntmps55
  cases d1 with
  | true =>
    go_wp2_with (go_at_call 56; refine (H1.out _ (Below.refl _ _)).mono ?_; rintro e w1 ⟨rfl, hb1⟩; have HB1 := Lib.hid hb1; clear hb1)
    go_ret
    exact ⟨rfl, HB1.out⟩
  | false =>
    go_wp2_with (first
      | (go_at_call 56; refine (H2.out _ HB1.out).mono ?_; rintro e w2 ⟨rfl, hb2⟩; have HB2 := Lib.hid (HB1.out.trans (hb2.mono HB1.out.size)); clear hb2)
      | (go_at_call 56; refine (H1.out _ (Below.refl _ _)).mono ?_; rintro e w1 ⟨rfl, hb1⟩; have HB1 := Lib.hid hb1; have hg1 := (hb1.cell (cell_lt hg)).trans hg; clear hb1))
    go_ret
    exact ⟨rfl, HB2.out⟩
end Go.Proofs.YtcohdfkdhdhegaaGreatDoor
namespace Go.Proofs.YtcohdfkdhdhegaaGreatDoor
open Go.RowKit Go.Maps

theorem and_ex (x y : Int) : ∃ r : Int, ∀ (P : Program) (o : Oper) (a : Act) (w : World) (t T : TypeId) (px py : Operand), o.op = .binOp .and t px py T → a.eval px = .int .i64 x → a.eval py = .int .i64 y → (execOp a.eval o).run P w = .ok (.value (.int .i64 r)) w := by
  refine ⟨IntKind.i64.wrap ((BitVec.ofInt IntKind.i64.bits x &&& BitVec.ofInt IntKind.i64.bits y).toNat : Int), fun P o a w t T px py ho hx hy => ?_⟩
  unfold execOp
  simp only [ho, hx, hy, eqGuard, binOp]
  simp [Op.intBits]
end Go.Proofs.YtcohdfkdhdhegaaGreatDoor
