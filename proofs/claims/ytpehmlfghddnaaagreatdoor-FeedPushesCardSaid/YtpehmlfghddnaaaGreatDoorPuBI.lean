/- feed.Feed.Take, Start. feed.NewHub, Hub.Join, Feed.Start. feed.Hub.Join. One of all tipsets, by a number: coxswainlaw14.Of at names, MarkFloors' own function. A feed beside the ways: what lies apart from its block and its row. coxswainlaw23.awake. coxswainlaw23.pick. coxswainlaw23.Ways: the key of a tipset's parents, by the document's blocks. feed.Fold, over the document's ways. The head behind a move's events, in plain words. A slice is asked whether it is none. -/
import Derived.Test.YtpehmlfghddnaaaGreatDoorPuAU
import Derived.Test.YtpehmlfghddnaaaGreatDoorPuBD
import Derived.Test.YtpehmlfghddnaaaGreatDoorPuBH
import Derived.Shelf.SlicesE.Clone
import Derived.Laws.Cover3
namespace Go.Proofs.YtpehmlfghddnaaaGreatDoor
open Go.RowKit Go.Maps Go.Shelf

def lcE_ren : Go.Shelf.Ren := ⟨fun | 41 => 169 | n => n, fun | 22 => 109 | 23 => 117 | 4 => 4 | n => n, fun | n => n⟩
theorem lcE : Go.Proofs.SlLaysE0.n41 Tryz.prog lcE_ren := {
  mixed := by kernel_rfl
  f41 := ⟨Tryz.f169.name, by decide, Tryz.func169.trans (congrArg some (by kernel_rfl))⟩
  t4 := Tryz.underlying4
  a4 := Tryz.isAgg4
  z4 := Tryz.sizeOf4
  v4 := Tryz.zeroValue4
  t22 := Tryz.underlying109
  a22 := Tryz.isAgg109
  z22 := Tryz.sizeOf109
  v22 := Tryz.zeroValue109 }
theorem clone_evs (w : World) (v : Value) (ys : List Ev) (ok : Nat → Prop) (hl : Sl evE ok w v ys) (hlen : ys.length ≤ 1000000000) :
    Calls Tryz.prog 169 #[v] w fun e w' => ∃ v', e = .returned v' ∧ w'.ownsRow w.heap.size 117 3 v' ys.length (evE.flat ys) ∧ Below w.heap.size w w' :=
  clone_gen (E := evE) lcE _ 32 ev_info (by kernel_rfl) Tryz.sizeOf117 hl (by omega) (by omega)

set_option maxRecDepth 100000 in
set_option maxHeartbeats 4000000 in
theorem take_any (w : World) (base f : Nat) (v : Value) (evs : List Ev) (most : Int) (st : Value) (hF : FeedAt base w f v evs most st) (hbase : base ≤ w.heap.size) (n : Int) (k : Nat) (hk : (k : Int) = max 0 (min n evs.length)) :
    Calls Tryz.prog 82 #[.pointer (some ⟨f, 0, none⟩), .int .i64 n] w fun e w' => ∃ v1 v2, e = .returned v1 ∧ Sl evE (fun i => w.heap.size ≤ i) w' v1 (evs.take k) ∧ FeedAt base w' f v2 (evs.drop k) most st ∧ Chg (fun i => i = f) w w' ∧ (∀ i, v2.ownBlock = some i → w.heap.size ≤ i) := by
  have hkl : k ≤ evs.length := by omega
  have hlen := hF.len
  obtain ⟨A, c, rfl, hc⟩ := own_slice hF.row
  have hR := Sl.of_own (E := evE) hF.row
  have hc0 : w.cell? ⟨f, 0, none⟩ = some (.slice A evs.length c) := cell_block hF.blk rfl
  have H1 : Hid (Calls Tryz.prog 169 #[.slice A k c] w fun e w' => ∃ v', e = .returned v' ∧ w'.ownsRow w.heap.size 117 3 v' (evs.take k).length (evE.flat (evs.take k)) ∧ Below w.heap.size w w') := Lib.hid (clone_evs w _ _ _ (hR.take hkl) (by rw [List.length_take]; omega))
  have H2 : Hid (∀ W, Below w.heap.size w W → Calls Tryz.prog 169 #[.slice (if c = k then A else A.map (·.add (k * 3))) (evs.length - k) (c - k)] W fun e w' => ∃ v', e = .returned v' ∧ w'.ownsRow W.heap.size 117 3 v' (evs.drop k).length (evE.flat (evs.drop k)) ∧ Below W.heap.size W w') := Lib.hid fun W hb => clone_evs W _ _ _ ((hR.below hb).drop hkl) (by rw [List.length_drop]; omega)
  have HF := Lib.hid hF
  have hce : evs.length ≤ c := hR.len.2.1
  have hlt := hF.lt
  clear hF hR hc
  go_enter Tryz.func82, Tryz.ntmps82
  go_upto_region 2 with fail
  rw [← hk]
  clear hk
  have hnc : (k : Int).toNat = k := Int.toNat_natCast k
  by_cases hck : c = k
  · have hck' := hck.symm
    clear hck
    subst hck'
    have hk0 : evs.length - k = 0 := by omega
    have H3 : Hid (∀ W, Below w.heap.size w W → Calls Tryz.prog 169 #[.slice A 0 0] W fun e w' => ∃ v', e = .returned v' ∧ w'.ownsRow W.heap.size 117 3 v' 0 (evE.flat (evs.drop k)) ∧ Below W.heap.size W w') := Lib.hid fun W hb => by
      have := H2.out W hb
      rw [List.length_drop] at this
      rw [if_pos rfl, hk0, Nat.sub_self] at this
      exact this
    clear H2
    go_wp2_with (first
      | (go_at_call 169; refine (H3.out _ HB1.out).mono ?_; clear H3; rintro e w2 ⟨v2, rfl, ho2, hb2⟩; obtain ⟨A2, c2, rfl, -⟩ := own_slice ho2; have HO2 := Lib.hid ho2; have HB2 := Lib.hid (HB1.out.trans (hb2.mono HB1.out.size)); have HBB := Lib.hid hb2; have HF2 := Lib.hid (HF.out.below HB2.out); clear ho2 hb2)
      | (go_at_call 169; refine H1.out.mono ?_; clear H1; rintro e w1 ⟨v1, rfl, ho1, hb1⟩; have HO1 := Lib.hid ho1; have HB1 := Lib.hid hb1; have hc1 := (hb1.cell (cell_lt hc0)).trans hc0; clear ho1 hb1)
      | (refine wpl_setEvs rfl (.tmp 30) (.tmp 28) rfl f rfl _ _ _ _ rfl rfl HF2.out.blk ?_))
    go_ret
    have hz := HB1.out.size
    have hgo : ∀ i, (Value.slice A2 0 c2).ownBlock = some i → w1.heap.size ≤ i ∧ i < w2.heap.size := fun i hi => own_lt HO2.out i hi
    refine ⟨v1, _, rfl, ?_, ⟨setRow_heap _ _ _ _ _ _ HF2.out.blk, by rw [List.length_drop, hk0]; exact own_setRow _ (own_low HO2.out (Nat.le_trans hbase hz)) fun i hi => by have := (hgo i hi).1; omega, fun e => by have := (hgo f e).1; omega, by rw [List.length_drop]; omega⟩, ⟨HB2.out.os, HB2.out.tape, HB2.out.output, by have := HB2.out.size; simpa using this, fun i hi hs => (heap_setRow_ne _ _ _ _ hs).trans (HB2.out.block i hi)⟩, fun i hi => Nat.le_trans hz (hgo i hi).1⟩
    exact (((Sl.of_own (E := evE) HO1.out).below HBB.out).mono fun i hi => (own_lt HO1.out i hi).1) |>.fr ⟨by simp, fun i hi hl => heap_setRow_ne _ _ _ _ (by omega)⟩
  · have H3 : Hid (∀ W, Below w.heap.size w W → Calls Tryz.prog 169 #[.slice (A.map (·.add (k * 3))) (evs.length - k) (c - k)] W fun e w' => ∃ v', e = .returned v' ∧ w'.ownsRow W.heap.size 117 3 v' (evs.length - k) (evE.flat (evs.drop k)) ∧ Below W.heap.size W w') := Lib.hid fun W hb => by
      have := H2.out W hb
      rw [List.length_drop] at this
      rw [if_neg hck] at this
      exact this
    clear H2
    go_wp2_with (first
      | (go_at_call 169; refine (H3.out _ HB1.out).mono ?_; clear H3; rintro e w2 ⟨v2, rfl, ho2, hb2⟩; obtain ⟨A2, c2, rfl, -⟩ := own_slice ho2; have HO2 := Lib.hid ho2; have HB2 := Lib.hid (HB1.out.trans (hb2.mono HB1.out.size)); have HBB := Lib.hid hb2; have HF2 := Lib.hid (HF.out.below HB2.out); clear ho2 hb2)
      | (go_at_call 169; refine H1.out.mono ?_; clear H1; rintro e w1 ⟨v1, rfl, ho1, hb1⟩; have HO1 := Lib.hid ho1; have HB1 := Lib.hid hb1; have hc1 := (hb1.cell (cell_lt hc0)).trans hc0; clear ho1 hb1)
      | (refine wpl_setEvs rfl (.tmp 30) (.tmp 28) rfl f rfl _ _ _ _ rfl rfl HF2.out.blk ?_))
    go_ret
    have hz := HB1.out.size
    have hgo : ∀ i, (Value.slice A2 (evs.length - k) c2).ownBlock = some i → w1.heap.size ≤ i ∧ i < w2.heap.size := fun i hi => own_lt HO2.out i hi
    refine ⟨v1, _, rfl, ?_, ⟨setRow_heap _ _ _ _ _ _ HF2.out.blk, by rw [List.length_drop]; exact own_setRow _ (own_low HO2.out (Nat.le_trans hbase hz)) fun i hi => by have := (hgo i hi).1; omega, fun e => by have := (hgo f e).1; omega, by rw [List.length_drop]; omega⟩, ⟨HB2.out.os, HB2.out.tape, HB2.out.output, by have := HB2.out.size; simpa using this, fun i hi hs => (heap_setRow_ne _ _ _ _ hs).trans (HB2.out.block i hi)⟩, fun i hi => Nat.le_trans hz (hgo i hi).1⟩
    exact (((Sl.of_own (E := evE) HO1.out).below HBB.out).mono fun i hi => (own_lt HO1.out i hi).1) |>.fr ⟨by simp, fun i hi hl => heap_setRow_ne _ _ _ _ (by omega)⟩
end Go.Proofs.YtpehmlfghddnaaaGreatDoor
namespace Go.Proofs.YtpehmlfghddnaaaGreatDoor
open Go.RowKit Go.Maps

/-- All feeds by their numbers. -/
structure HubAt (w : World) (h b n : Nat) (f : Lit → Option Value) (next : Int) : Prop where
  blk : w.heap[h]? = some (.cells #[.map (some b), .int .i64 next] 252 (0, 0))
  map : MapV Tryz.prog 3 w b n f
theorem HubAt.below {w w' : World} {h b n : Nat} {f : Lit → Option Value} {next : Int} (x : HubAt w h b n f next) (hb : Below w.heap.size w w') : HubAt w' h b n f next :=
  ⟨(hb.block _ (Array.getElem?_eq_some_iff.1 x.blk).1).trans x.blk, x.map.below hb⟩
set_option maxRecDepth 100000 in
set_option maxHeartbeats 2000000 in
theorem newhub_any (w : World) :
    Calls Tryz.prog 114 #[] w fun e w' => ∃ h b, e = .returned (.pointer (some ⟨h, 0, none⟩)) ∧ w.heap.size ≤ h ∧ w.heap.size ≤ b ∧ HubAt w' h b 0 (fun _ => none) 0 ∧ Below w.heap.size w w' := by
  have hmm := @run_makeMap Tryz.prog
  go_enter Tryz.func114, Tryz.ntmps114
  go_wp2
  go_ret
  have hm := MapV.made Tryz.prog 3 w
  exact ⟨_, w.heap.size, rfl, by simp, Nat.le_refl _, ⟨by have := heap_alloc_new (w.alloc (.map #[] 0)) (.cells #[.map (some w.heap.size), .int .i64 0] 252); rw [World.size_alloc] at this; exact this, hm.alloc _⟩, ((Below.refl _ w).alloc (Nat.le_refl _) _).alloc (by simp) _⟩

set_option maxRecDepth 100000 in
set_option maxHeartbeats 2000000 in
theorem start_any (w : World) (base f : Nat) (v : Value) (evs : List Ev) (most : Int) (st : Value) (h : FeedAt base w f v evs most st) (h1 : st.oneCell' = true) :
    Calls Tryz.prog 88 #[.pointer (some ⟨f, 0, none⟩)] w fun e w' => e = .returned (tipV st) ∧ Below w.heap.size w w' := by
  have HF := Lib.hid h
  have hb0 : Below w.heap.size w (w.alloc (.cells #[.slice none 0 0] 27)) := (Below.refl _ w).alloc (Nat.le_refl _) _
  have HC : Hid (∀ (i : Nat) (u : Value), [st][i]? = some u → (w.alloc (.cells #[.slice none 0 0] 27)).cell? ⟨f, 2 + i, none⟩ = some u) := Lib.hid fun i u hu => by
    cases i with
    | zero => injection hu with hu; subst hu; exact cell_block (h.below hb0).blk rfl
    | succ i => cases hu
  have HG : Hid ((w.alloc (.cells #[.slice none 0 0] 27)).heap[w.heap.size]? = some (.cells #[.slice none 0 0] 27 (0, 0))) := Lib.hid (heap_alloc_new w _)
  have HB := Lib.hid hb0
  have h11 : ∀ u ∈ [st], u.oneCell' = true := by intro u hu; rw [List.mem_singleton.1 hu]; exact h1
  clear h hb0
  go_enter Tryz.func88, Tryz.ntmps88
  go_upto_region 1 with fail
  generalize w.alloc (.cells #[.slice none 0 0] 27) = W0 at HC HG HB ⊢
  go_wp2_with (first
    | (refine wpl_load rfl 27 (.tmp 5) rfl f 2 rfl [st] _ HC.out Tryz.underlying27 rfl tip_size ?_)
    | (refine wpl_tip_set rfl (.tmp 2) (.tmp 6) rfl w.heap.size rfl st _ rfl HG.out h11 ?_))
  refine bodyPost_ret (results_cell_row rfl _ _ w.heap.size 27 #[st] (0, 0) _ rfl (setRow_heap _ w.heap.size _ _ _ _ HG.out) Tryz.underlying27 rfl tip_size) rfl ?_
  exact ⟨rfl, below_setRow HB.out (Nat.le_refl _) _⟩
end Go.Proofs.YtpehmlfghddnaaaGreatDoor
namespace Go.Proofs.YtpehmlfghddnaaaGreatDoor
open Go.RowKit Go.Maps

/-- One cell of a block is set. -/
theorem wpl_setC {P : Program} {ops : Array Oper} {rest : List Oper} {o : Oper} {a : Act} {w : World} {Q : Exit → Act → World → Prop} (hgd : o.guard = none) (ty : TypeId) (x y : Operand) (ho : o.op = .store ty x y) (b i : Nat) (hx : a.eval x = .pointer (some ⟨b, i, none⟩)) (v : Value) (hy : a.eval y = v) (h1 : v.oneCell' = true) (cs : Array Value) (T : TypeId) (hb : w.heap[b]? = some (.cells cs T (0, 0))) (u : Value) (hi : cs[i]? = some u) (hs : (P.info? ty).map (·.size) = some 1) (cs' : Array Value) (hc : cs.setIfInBounds i v = cs')
    (h : wpList P ops Q rest (a.put o.dst undef) (w.setRow b cs')) : wpList P ops Q (o :: rest) a w :=
  wpList_plain hgd fun K hK => by
    have h2 := run_storeVar_cell (P := P) w ty b i v u h1 hs (cell_block hb hi) (Lib.frozen_of_heap hb i)
    rw [setCell_eq_setRow w b i _ _ _ v hb, hc] at h2
    unfold Oper.wp execOp
    simp only [ho, hx, hy, Instr.storeAt, Instr.sureAddr, Sem.run_bind, Sem.run_pure, Result.andThen_ok, h2]
    exact hK _ _ h
theorem int_size : (Tryz.prog.info? 3).map (·.size) = some 1 := by kernel_rfl

set_option maxRecDepth 100000 in
set_option maxHeartbeats 4000000 in
theorem join_any (w : World) (h b n : Nat) (f : Lit → Option Value) (next : Int) (hH : HubAt w h b n f next) (hn : n < 16) (h0 : 0 ≤ next) (h1 : next < 1000000) (most : Int) (tv : Value) (ht : tv.oneCell' = true) (base n' : Nat) (hn' : (if (f (.int .i64 next)).isSome then n else n + 1) = n') :
    Calls Tryz.prog 115 #[.pointer (some ⟨h, 0, none⟩), .int .i64 most, tipV tv] w fun e w' => e = .returned (.tuple #[.int .i64 next, .int .i64 0]) ∧ ∃ ff, w.heap.size ≤ ff ∧ FeedAt base w' ff (.slice none 0 0) [] (max 1 (min most 64)) tv ∧
      HubAt w' h b n' (updF f (.int .i64 next) (.pointer (some ⟨ff, 0, none⟩))) (next + 1) ∧ Chg (fun k => k = h ∨ k = b) w w' := by
  have hb0 : Below w.heap.size w (w.alloc (.cells #[tv] 27)) := (Below.refl _ w).alloc (Nat.le_refl _) _
  have HH := Lib.hid (hH.below hb0)
  have HG : Hid ((w.alloc (.cells #[tv] 27)).heap[w.heap.size]? = some (.cells #[tv] 27 (0, 0))) := Lib.hid (heap_alloc_new w _)
  have HB := Lib.hid hb0
  have hhlt : h < w.heap.size := (Array.getElem?_eq_some_iff.1 hH.blk).1
  have hblt : b < w.heap.size := hH.map.lt
  have hne : b ≠ h := fun e => hH.map.no_cells (by rw [e]; exact hH.blk)
  have hk : keyOf Tryz.prog 3 (.int .i64 next) = some (.int .i64 next) := keyOf_int_mk Tryz.underlying3 (by simp [Lit.wf, IntKind.min, IntKind.max, IntKind.bits, IntKind.signed]; omega)
  have HN := Lib.hid hn'
  clear hH hb0 hn'
  go_enter Tryz.func115, Tryz.ntmps115
  go_upto_region 1 with fail
  generalize w.alloc (.cells #[tv] 27) = W0 at HH HG HB ⊢
  have hlen := fun ty => HH.out.map.len Tryz.underlying159 ty
  have hc0 : W0.cell? ⟨h, 0, none⟩ = some (.map (some b)) := cell_block HH.out.blk rfl
  have hc1 : W0.cell? ⟨h, 1, none⟩ = some (.int .i64 next) := cell_block HH.out.blk rfl
  have hw : IntKind.i64.wrap (next + 1) = next + 1 := IntWalk.i64_in _ (by omega)
  go_upto_region 5 with (refine wpl_setC rfl 3 (.tmp 25) _ rfl h 1 rfl (.int .i64 (next + 1)) rfl rfl _ _ HH.out.blk _ rfl int_size #[.map (some b), .int .i64 (next + 1)] rfl ?_)
  have HX : Hid (HubAt (W0.setRow h #[.map (some b), .int .i64 (next + 1)]) h b n f (next + 1) ∧ (W0.setRow h #[.map (some b), .int .i64 (next + 1)]).heap[w.heap.size]? = some (.cells #[tv] 27 (0, 0)) ∧ Chg (fun k => k = h ∨ k = b) w (W0.setRow h #[.map (some b), .int .i64 (next + 1)])) := Lib.hid ⟨⟨setRow_heap _ _ _ _ _ _ HH.out.blk, HH.out.map.same (heap_setRow_ne _ _ _ _ hne)⟩, (heap_setRow_ne _ _ _ _ (by omega)).trans HG.out, ⟨HB.out.os, HB.out.tape, HB.out.output, by have := HB.out.size; simpa using this, fun k hk hs => (heap_setRow_ne _ _ _ _ fun e => hs (.inl e)).trans (HB.out.block k hk)⟩⟩
  generalize W0.setRow h #[.map (some b), .int .i64 (next + 1)] = W1 at HX ⊢
  clear HH HG HB hlen hc0 hc1 hw
  refine stD_ (S := (fun W' => HubAt W' h b n f (next + 1) ∧ W'.heap[w.heap.size]? = some (.cells #[tv] 27 (0, 0)) ∧ Chg (fun k => k = h ∨ k = b) w W')) [8] 9 #[false, false, false, false, false, false, false, false, false] (by kernel_rfl) rfl (by rfl) ⟨HX.out.1.below (Below.refl _ W1).drew, HX.out.2.1, HX.out.2.2.trans (Chg.of_below (Below.refl _ W1).drew)⟩ (fun hHeld => ?_)
  refine tkT_ 0 (some 26) #[true, false, false, false, false, false, false, false, false] (v := ?_) (a' := ?_) rfl rfl (by kernel_rfl) (fun _ _ _ h => h) (yieldsIf_run rfl ?_) hHeld ?_ ?_
  rotate_left
  · intro w'
    go_simp
    with_reducible rfl
  rotate_left
  · simp only [Act.put, List.setIfInBounds_toArray, List.set_cons_zero, List.set_cons_succ]
    rfl
  refine tkT_ 1 (some 27) #[true, true, false, false, false, false, false, false, false] (v := ?_) (a' := ?_) rfl rfl (by kernel_rfl) (fun _ _ _ h => h) (yieldsIf_run rfl ?_) hHeld ?_ ?_
  rotate_left
  · intro w'
    go_simp
    with_reducible rfl
  rotate_left
  · simp only [Act.put, List.setIfInBounds_toArray, List.set_cons_zero, List.set_cons_succ]
    rfl
  refine tkT_ 2 (some 28) #[true, true, true, false, false, false, false, false, false] (v := ?_) (a' := ?_) rfl rfl (by kernel_rfl) (fun _ _ _ h => h) (yieldsIf_run rfl ?_) hHeld ?_ ?_
  rotate_left
  · intro w'
    go_simp
    with_reducible rfl
  rotate_left
  · simp only [Act.put, List.setIfInBounds_toArray, List.set_cons_zero, List.set_cons_succ]
    rfl
  refine tkT_ 3 (some 29) #[true, true, true, true, false, false, false, false, false] rfl rfl (by kernel_rfl) (fun _ _ _ h => h) (yieldsIf_cell rfl 159 (.tmp 28) rfl ⟨h, 0, none⟩ rfl (.map (some b)) _ (fun W' h => cell_block h.1.blk rfl) Tryz.underlying159 rfl) hHeld (a' := ?_) ?_ ?_
  rotate_left
  · simp only [Act.put, List.setIfInBounds_toArray, List.set_cons_zero, List.set_cons_succ]
    rfl
  refine tkT_ 4 (some 30) #[true, true, true, true, true, false, false, false, false] (v := ?_) (a' := ?_) rfl rfl (by kernel_rfl) (fun _ _ _ h => h) (yieldsIf_run rfl ?_) hHeld ?_ ?_
  rotate_left
  · intro w'
    go_simp
    with_reducible rfl
  rotate_left
  · simp only [Act.put, List.setIfInBounds_toArray, List.set_cons_zero, List.set_cons_succ]
    rfl
  refine tkT_ 5 (some 31) #[true, true, true, true, true, true, false, false, false] (v := ?_) (a' := ?_) rfl rfl (by kernel_rfl) (fun _ _ _ h => h) (yieldsIf_run rfl ?_) hHeld ?_ ?_
  rotate_left
  · intro w'
    go_simp
    with_reducible rfl
  rotate_left
  · simp only [Act.put, List.setIfInBounds_toArray, List.set_cons_zero, List.set_cons_succ]
    rfl
  refine tkT_ 6 (some 32) #[true, true, true, true, true, true, true, false, false] rfl rfl (by kernel_rfl) (fun _ _ _ h => h) (yieldsIf_tipb rfl (.tmp 5) rfl w.heap.size rfl tv (fun W' h => h.2.1)) hHeld (a' := ?_) ?_ ?_
  rotate_left
  · simp only [Act.put, List.setIfInBounds_toArray, List.set_cons_zero, List.set_cons_succ]
    rfl
  refine callD_ 7 (some 33) #[true, true, true, true, true, true, true, true, false] rfl rfl (by kernel_rfl) rfl 80 _ (by kernel_rfl) (fnew_any _ most tv ht base) ?_
  rintro e w2 ⟨ff, rfl, hff, hf2, hb2⟩
  have HF2 := Lib.hid hf2
  have HX2 := Lib.hid (And.intro (hHeld.1.below hb2) (And.intro ((hb2.block _ (Array.getElem?_eq_some_iff.1 hHeld.2.1).1).trans hHeld.2.1) (hHeld.2.2.trans (Chg.of_below hb2))))
  have hff2 : w.heap.size ≤ ff := Nat.le_trans hHeld.2.2.size hff
  refine ⟨_, rfl, HX2.out, fun hHeld => ⟨?_, ?_, ?_⟩⟩
  rotate_left
  · simp only [Act.put, List.setIfInBounds_toArray, List.set_cons_zero, List.set_cons_succ]
    rfl
  refine sstepD_ 8 #[true, true, true, true, true, true, true, true, true] rfl rfl (by kernel_rfl) rfl (exec_updV (key := .int .i64 next) (v := .pointer (some ⟨ff, 0, none⟩)) HX2.out.1.map lawInt Tryz.underlying159 (by omega) (.tmp 29) (.tmp 30) (.tmp 33) rfl rfl rfl hk rfl) ?_
  rintro w3 ⟨hm3, hg3⟩
  refine ⟨(fun h => absurd (by decide) h), ?_⟩
  refine doneD_ (by kernel_rfl) ?_ _
  change Exit.then _ _ _ _ _
  go_wp2
  refine bodyPost_ret (results_tmp2 rfl _ _ _) rfl ?_
  have hfb : ff < w2.heap.size := HF2.out.lt
  refine ⟨rfl, ff, hff2, ⟨(hg3.block _ hfb fun e => by injection e with e; omega).trans HF2.out.blk, ⟨rfl, .inl ⟨rfl, rfl⟩⟩, HF2.out.ne, HF2.out.len⟩, ⟨(hg3.block _ (Nat.lt_of_lt_of_le hhlt HX2.out.2.2.size) fun e => by injection e with e; exact hne e.symm).trans HX2.out.1.blk, by have := hm3; rw [HN.out] at this; exact this⟩, ?_⟩
  exact HX2.out.2.2.step (Chg.row hg3) fun k hk => by injection hk with hk; exact .inl (.inr hk.symm)
end Go.Proofs.YtpehmlfghddnaaaGreatDoor
namespace Go.Proofs.YtpehmlfghddnaaaGreatDoor
open Go.RowKit Go.Maps

/-- A dag, the document's list, and all tipsets that are named in it. -/
structure AllAt (ok : Nat → Prop) (w : World) (p b1 b2 : Nat) (D : List LB) (L : List LRH) (va : Value) (all : List LNS) : Prop where
  dag : DagAt ok w p b1 b2 D
  fine : FineD D
  both : Both D L
  row : Sl nsE ok w va all
  at_ : ∀ x ∈ all, x.At ok w ∧ NamedIn L x.ns
  root : Rooted all
  len : all.length ≤ 1000
section
variable {ok ok' : Nat → Prop} {w w' : World} {p b1 b2 : Nat} {D : List LB} {L : List LRH} {va : Value} {all : List LNS}
theorem AllAt.pos (h : AllAt ok w p b1 b2 D L va all) : 0 < all.length := h.root.pos
theorem AllAt.below (h : AllAt ok w p b1 b2 D L va all) (hb : Below w.heap.size w w') : AllAt ok w' p b1 b2 D L va all :=
  ⟨h.dag.below hb, h.fine, h.both, h.row.below hb, fun x hx => ⟨Sl.below (h.at_ x hx).1 hb, (h.at_ x hx).2⟩, h.root, h.len⟩
theorem AllAt.mono (h : AllAt ok w p b1 b2 D L va all) (hk : ∀ k, ok k → ok' k) : AllAt ok' w p b1 b2 D L va all :=
  ⟨h.dag.mono hk, h.fine, h.both, h.row.mono hk, fun x hx => ⟨Sl.mono (h.at_ x hx).1 hk, (h.at_ x hx).2⟩, h.root, h.len⟩
theorem AllAt.fr (h : AllAt ok w p b1 b2 D L va all) (hf : Fr ok w w') : AllAt ok w' p b1 b2 D L va all :=
  ⟨h.dag.fr hf, h.fine, h.both, h.row.fr hf, fun x hx => ⟨Sl.fr (h.at_ x hx).1 hf, (h.at_ x hx).2⟩, h.root, h.len⟩
theorem AllAt.old (h : AllAt ok w p b1 b2 D L va all) : AllAt (fun k => ok k ∧ k < w.heap.size) w p b1 b2 D L va all :=
  ⟨h.dag.old, h.fine, h.both, h.row.old, fun x hx => ⟨Sl.old (h.at_ x hx).1, (h.at_ x hx).2⟩, h.root, h.len⟩
end
theorem exec_rem {o : Oper} {a : Act} {w : World} (ty T : TypeId) (px py : Operand) (ho : o.op = .binOp .rem ty px py T) (x y : Int) (hx : a.eval px = .int .i64 x) (hy : a.eval py = .int .i64 y) (h0 : y ≠ 0) (_h1 : I64 (x.tmod y)) : (execOp a.eval o).run Tryz.prog w = .ok (.value (.int .i64 (x.tmod y))) w := by
  unfold execOp
  simp only [ho, hx, hy]
  go_simp
theorem pick_ix2 (x : Int) (n : Nat) (h0 : 0 < n) (h1 : n ≤ 1000) : ∃ r : Int, x.tmod n = r ∧ -(n : Int) < r ∧ r < n ∧ ∃ j : Nat, j < n ∧ (r + n).tmod n = (j : Int) := by
  have b1 : x.tmod n < n := Int.tmod_lt_of_pos x (by omega)
  have b2 : -(n : Int) < x.tmod n := by
    have := Int.tmod_lt_of_pos (-x) (b := (n : Int)) (by omega)
    rw [Int.neg_tmod] at this
    omega
  obtain ⟨j, hj, he⟩ := pick_ix x n h0 h1
  rw [IntWalk.wrap64_in _ (by omega)] at he
  exact ⟨_, rfl, b2, b1, j, hj, he⟩
section
variable {S : World → Prop} {ops : Array Oper}
end

end Go.Proofs.YtpehmlfghddnaaaGreatDoor
namespace Go.Proofs.YtpehmlfghddnaaaGreatDoor
open Go.RowKit Go.Maps

/-- What is not a feed's, nor a variable's. -/
def okF (f : Nat) (v : Value) (x : Option Nat) (k : Nat) : Prop := (k ≠ f ∧ some k ≠ v.ownBlock) ∧ some k ≠ x
/-- A feed is written. -/
structure Mv (f : Nat) (v v' : Value) (W W' : World) : Prop where
  chg : Chg (fun k => k = f ∨ v.ownBlock = some k) W W'
  own : ∀ b, v'.ownBlock = some b → v.ownBlock = some b ∨ W.heap.size ≤ b
section
variable {f : Nat} {v v' v2 : Value} {W W' W2 : World} {x : Option Nat}
theorem Mv.fr (m : Mv f v v' W W') {ok : Nat → Prop} (hk : ∀ k, ok k → okF f v x k) : Fr ok W W' := m.chg.fr fun k hk' hs => hs.elim (hk k hk').1.1 fun e => (hk k hk').1.2 e.symm
theorem Mv.low (m : Mv f v v' W W') (k : Nat) (h : okF f v x k ∧ k < W.heap.size) : okF f v' x k :=
  ⟨⟨h.1.1.1, fun e => (m.own k e.symm).elim (fun e' => h.1.1.2 e'.symm) fun hk => by omega⟩, h.1.2⟩
theorem Mv.blk (m : Mv f v v' W W') {g : Nat} {o : Obj} (h : W.heap[g]? = some o) (hg : g ≠ f ∧ some g ≠ v.ownBlock) : W'.heap[g]? = some o ∧ (g ≠ f ∧ some g ≠ v'.ownBlock) :=
  ⟨(m.chg.block g (Array.getElem?_eq_some_iff.1 h).1 fun hs => hs.elim hg.1 fun e => hg.2 e.symm).trans h, hg.1, fun e => (m.own g e.symm).elim (fun e' => hg.2 e'.symm) fun hk => by have := (Array.getElem?_eq_some_iff.1 h).1; omega⟩
theorem Mv.tip (m : Mv f v v' W W') {G : List Hdr} {t : Value} {T : List ID} (h : TipIs (okF f v x) W G t T) : TipIs (okF f v' x) W' G t T :=
  (h.old.fr (m.fr fun _ h => h.1)).mono m.low
theorem Mv.all (m : Mv f v v' W W') {p b1 b2 : Nat} {D : List LB} {L : List LRH} {va : Value} {all : List LNS} (h : AllAt (okF f v x) W p b1 b2 D L va all) : AllAt (okF f v' x) W' p b1 b2 D L va all :=
  (h.old.fr (m.fr fun _ h => h.1)).mono m.low
theorem Mv.of_below (h : Below W.heap.size W W') : Mv f v v W W' := ⟨Chg.of_below h, fun _ e => .inl e⟩
theorem okF_new {ok : Nat → Prop} (hx : ∀ k, ok k → some k ≠ x) (hf : W.heap.size ≤ f) (k : Nat) (h : ok k ∧ k < W.heap.size) : okF f (.slice none 0 0) x k := ⟨⟨by omega, fun e => by cases e⟩, hx k h.1⟩
end
theorem PathAt.fr {ok : Nat → Prop} {w w' : World} {pp p b1 b2 : Nat} {D : List LB} (h : PathAt ok w pp p b1 b2 D) (hf : Fr ok w w') (hp : ok pp) : PathAt ok w' pp p b1 b2 D :=
  ⟨by
    have hl := cell_lt h.toD
    have h1 := h.toD
    unfold World.cell? at h1 ⊢
    rw [hf.2 pp hp hl]
    exact h1, h.dag.fr hf, h.fine, h.good⟩
theorem PathAt.mono {ok ok' : Nat → Prop} {w : World} {pp p b1 b2 : Nat} {D : List LB} (h : PathAt ok w pp p b1 b2 D) (hk : ∀ k, ok k → ok' k) : PathAt ok' w pp p b1 b2 D := ⟨h.toD, h.dag.mono hk, h.fine, h.good⟩
theorem PathAt.old {ok : Nat → Prop} {w : World} {pp p b1 b2 : Nat} {D : List LB} (h : PathAt ok w pp p b1 b2 D) : PathAt (fun k => ok k ∧ k < w.heap.size) w pp p b1 b2 D := ⟨h.toD, h.dag.old, h.fine, h.good⟩
/-- Ways, and a feed beside them. -/
structure FdS (w W : World) (pp p b1 b2 : Nat) (D : List LB) (f : Nat) (v : Value) (x : Option Nat) (evs : List Ev) (most : Int) (st : Value) : Prop where
  path : PathAt (okF f v x) W pp p b1 b2 D
  at_ : okF f v x pp
  bx : ∀ b, x = some b → (b ≠ f ∧ some b ≠ v.ownBlock) ∧ w.heap.size ≤ b ∧ b < W.heap.size
  feed : FeedAt w.heap.size W f v evs most st
  flo : w.heap.size ≤ f
  below : Below w.heap.size w W
  len : D.length ≤ 1000000
section
variable {w W W' : World} {pp p b1 b2 : Nat} {D : List LB} {f : Nat} {v v' : Value} {evs evs' : List Ev} {most : Int} {st : Value} {x : Option Nat}
theorem FdS.mv (h : FdS w W pp p b1 b2 D f v x evs most st) (m : Mv f v v' W W') (hf : FeedAt w.heap.size W' f v' evs' most st) : FdS w W' pp p b1 b2 D f v' x evs' most st where
  path := (h.path.old.fr (m.fr fun _ h => h.1) ⟨h.at_, cell_lt h.path.toD⟩).mono m.low
  at_ := m.low _ ⟨h.at_, cell_lt h.path.toD⟩
  bx := fun b e => ⟨⟨(h.bx b e).1.1, fun e' => (m.own b e'.symm).elim (fun e2 => (h.bx b e).1.2 e2.symm) fun hk => by have := (h.bx b e).2.2; omega⟩, (h.bx b e).2.1, Nat.lt_of_lt_of_le (h.bx b e).2.2 m.chg.size⟩
  feed := hf
  flo := h.flo
  below := h.below.trans (m.chg.below h.below.size fun k hk => by rcases hk with rfl | hk; exact h.flo; exact (own_lt h.feed.row k hk).1)
  len := h.len
theorem FdS.next (h : FdS w W pp p b1 b2 D f v x evs most st) (hb : Below W.heap.size W W') : FdS w W' pp p b1 b2 D f v x evs most st := h.mv (.of_below hb) (h.feed.below hb)
/-- The variable is written. -/
theorem FdS.set {b : Nat} (h : FdS w W pp p b1 b2 D f v (some b) evs most st) (cs : Array Value) : FdS w (W.setRow b cs) pp p b1 b2 D f v (some b) evs most st := by
  have hb := h.bx b rfl
  have hf : Fr (okF f v (some b)) W (W.setRow b cs) := ⟨by simp, fun k hk _ => heap_setRow_ne _ _ _ _ fun e => hk.2 (by rw [e])⟩
  refine ⟨h.path.fr hf h.at_, h.at_, fun b' e => ⟨(h.bx b' e).1, (h.bx b' e).2.1, by simpa using (h.bx b' e).2.2⟩, ⟨(heap_setRow_ne _ _ _ _ hb.1.1.symm).trans h.feed.blk, own_setRow _ h.feed.row fun k hk e => hb.1.2 (by rw [← e]; exact hk.symm), h.feed.ne, h.feed.len⟩, h.flo, below_setRow h.below hb.2.1 _, h.len⟩
theorem newS {okx : Nat → Prop} (h : PathAt okx W pp p b1 b2 D) (hw : Below w.heap.size w W) (hlen : D.length ≤ 1000000) (hx : ∀ k, okx k → some k ≠ x) (hpx : some pp ≠ x) (hbx : ∀ b, x = some b → w.heap.size ≤ b ∧ b < W.heap.size) (n : Int) (tv : Value) (h1 : tv.oneCell' = true) :
    Calls Tryz.prog 80 #[.int .i64 n, tipV tv] W fun e w' => ∃ f, e = .returned (.pointer (some ⟨f, 0, none⟩)) ∧ W.heap.size ≤ f ∧ FdS w w' pp p b1 b2 D f (.slice none 0 0) x [] (max 1 (min n 64)) tv ∧ Below W.heap.size W w' := by
  refine (fnew_any W n tv h1 w.heap.size).mono ?_
  rintro e w' ⟨f, rfl, hf, hF, hb⟩
  exact ⟨f, rfl, hf, ⟨(h.old.mono (okF_new hx hf)).below hb, ⟨⟨by have := cell_lt h.toD; omega, fun e => by cases e⟩, hpx⟩, fun b e => ⟨⟨by have := (hbx b e).2; omega, fun e => by cases e⟩, (hbx b e).1, Nat.lt_of_lt_of_le (hbx b e).2 hb.size⟩, hF, Nat.le_trans hw.size hf, hw.trans (hb.mono hw.size), hlen⟩, hb⟩
theorem pushS (h : FdS w W pp p b1 b2 D f v x evs most st) {av bv : Value} {A B : List ID} (hA : TipOf (hdrs D) A) (ha : TipIs (okF f v x) W (hdrs D) av A) (hB : TipOf (hdrs D) B) (hb : TipIs (okF f v x) W (hdrs D) bv B) (hmost : most ≤ 1000) (hevs : evs.length ≤ 1000) :
    Calls Tryz.prog 85 #[.pointer (some ⟨f, 0, none⟩), .pointer (some ⟨pp, 0, none⟩), tipV av, tipV bv] W fun e w' => ∃ (v' : Value) (bo : Bool),
      (bo = true ↔ (evs.length : Int) + ((aboveG (hdrs D) A (commG (hdrs D) A B)).length + (aboveG (hdrs D) B (commG (hdrs D) A B)).length) ≤ most) ∧ e = .returned (.bool bo) ∧ Mv f v v' W w' ∧
      FdS w w' pp p b1 b2 D f v' x (if bo = true then evs ++ (aboveG (hdrs D) A (commG (hdrs D) A B)).map (evOf (hdrs D) 1) ++ (aboveG (hdrs D) B (commG (hdrs D) A B)).reverse.map (evOf (hdrs D) 2) else [evOf (hdrs D) 3 B]) most st := by
  refine (push_any W pp p b1 b2 D _ _ _ h.path av A hA ha bv B hB hb h.len w.heap.size f v evs most st h.feed h.below.size (fun k hk => ?_) hmost hevs).mono ?_
  · rcases hk with hk | hk | hk | rfl
    · exact hk.1
    · exact hk.1
    · exact hk.1
    · exact h.at_.1
  · rintro e w' ⟨v', bo, hbo, rfl, hc, ho, hF⟩
    have m : Mv f v v' W w' := ⟨hc, fun b hb => by
      rcases ho with ho | ⟨b', ho, hz⟩
      · rw [ho] at hb; exact .inl hb
      · rw [ho] at hb; cases hb; exact .inr hz⟩
    exact ⟨v', bo, hbo, rfl, m, h.mv m hF⟩
theorem takeS (h : FdS w W pp p b1 b2 D f v x evs most st) (n : Int) (k : Nat) (hk : (k : Int) = max 0 (min n evs.length)) :
    Calls Tryz.prog 82 #[.pointer (some ⟨f, 0, none⟩), .int .i64 n] W fun e w' => ∃ v1 v', e = .returned v1 ∧ Sl evE (fun i => W.heap.size ≤ i) w' v1 (evs.take k) ∧ Mv f v v' W w' ∧ FdS w w' pp p b1 b2 D f v' x (evs.drop k) most st := by
  refine (take_any W w.heap.size f v evs most st h.feed h.below.size n k hk).mono ?_
  rintro e w' ⟨v1, v2, rfl, h1, hF, hc, ho⟩
  have m : Mv f v v2 W w' := ⟨⟨hc.os, hc.tape, hc.output, hc.size, fun i hi hs => hc.block i hi fun e => hs (.inl e)⟩, fun b hb => .inr (ho b hb)⟩
  exact ⟨v1, v2, rfl, h1, m, h.mv m hF⟩
theorem lenS (h : FdS w W pp p b1 b2 D f v x evs most st) :
    Calls Tryz.prog 87 #[.pointer (some ⟨f, 0, none⟩)] W fun e w' => e = .returned (.int .i64 (evs.length : Int)) ∧ W = w' := flen_any W _ f v evs most st h.feed
theorem aboveG_self {G : List Hdr} (g : GoodG G) {T : List ID} (h : TipOf G T) : aboveG G T T = [] := by
  rcases g.par_or h with rfl | ⟨hp, -, -⟩
  · have : chainG G [rootID] = [rootID] :: (if parG G [rootID] = [] then [] else chainG G (parG G [rootID])) := g.chain_step h
    exact aboveG_split (pre := []) this.symm (by simp)
  · exact aboveG_split (pre := []) (g.chain_cons h hp).symm (by simp)
end
end Go.Proofs.YtpehmlfghddnaaaGreatDoor
namespace Go.Proofs.YtpehmlfghddnaaaGreatDoor
open Go.RowKit Go.Maps

section
variable {w W W' : World} {pp p b1 b2 : Nat} {D : List LB} {f : Nat} {v v' : Value} {evs evs' : List Ev} {most : Int} {st : Value} {x : Option Nat}
theorem pushSelf (h : FdS w W pp p b1 b2 D f v x [] most st) {av bv : Value} {A : List ID} (hA : TipOf (hdrs D) A) (ha : TipIs (okF f v x) W (hdrs D) av A) (hb : TipIs (okF f v x) W (hdrs D) bv A) (h0 : 0 ≤ most) (hmost : most ≤ 1000) :
    Calls Tryz.prog 85 #[.pointer (some ⟨f, 0, none⟩), .pointer (some ⟨pp, 0, none⟩), tipV av, tipV bv] W fun e w' => ∃ v', e = .returned (.bool true) ∧ Mv f v v' W w' ∧ FdS w w' pp p b1 b2 D f v' x [] most st := by
  refine (pushS h hA ha hA hb hmost (by simp)).mono ?_
  rintro e w' ⟨v', bo, hbo, rfl, hm, hF⟩
  rw [h.path.good.comm_self hA, aboveG_self h.path.good hA] at hbo hF
  have hbt : bo = true := hbo.2 (by simpa using h0)
  subst hbt
  exact ⟨v', rfl, hm, by simpa using hF⟩
theorem FdS.up (h : FdS w W pp p b1 b2 D f v x evs most st) (k : Nat) (hk : W.heap.size ≤ k) : okF f v x k :=
  ⟨⟨by have := h.feed.lt; omega, fun e => by have := (own_lt h.feed.row k e.symm).2; omega⟩, fun e => by have := (h.bx k e.symm).2.2; omega⟩
end

set_option maxRecDepth 100000 in
set_option maxHeartbeats 4000000 in
theorem awake23_any (w : World) (ht : Tab w) :
    Calls Tryz.prog 79 #[] w fun e w' => e = .returned (.bool true) ∧ Below w.heap.size w w' := by
  have HT := Lib.hid ht
  clear ht
  have GG : GoodG [genH] := .start
  have GR : TipOf [genH] [rootID] := GG.root_tip
  have hg0 : hgtG [genH] [rootID] = 0 := GG.root_hgt
  go_enter Tryz.func79, Tryz.ntmps79
  go_upto_region 6 with (first
    | (go_at_call 80; refine (newS (w := w) (x := none) HP3.out HB3.out (by have := HL1.out; omega) (fun _ _ e => by cases e) (fun e => by cases e) (fun _ e => by cases e) 3 t1 (HT3.out.one _ List.mem_cons_self)).mono ?_; rintro e w4 ⟨f, rfl, hf, hF, hb4⟩; have HF4 := Lib.hid hF; have HT4 := Lib.hid (((HT3.out.old.mono (okF_new (x := none) (fun _ _ e => by cases e) hf))).below hb4); clear hF hf hb4)
    | (go_at_call 33; refine (dnew_any w HT.out).mono ?_; rintro e w1 ⟨p, b1, b2, D, rfl, hb1, hd1, hf1, hh1, hl1⟩; have HB1 := Lib.hid hb1; have HH1 := Lib.hid hh1; have HL1 := Lib.hid hl1; have HP1 := Lib.hid (pnew_any w1 p b1 b2 D _ hd1 hf1 (by show GoodG (hdrs D); rw [hh1]; exact .start) 4); clear hb1 hd1 hf1 hh1 hl1)
    | (go_at_call 65; refine HP1.out.mono ?_; rintro e w2 ⟨pp, rfl, hpp, hp2, hb2⟩; have HPA := Lib.hid hp2; have HB2 := Lib.hid (HB1.out.trans (hb2.mono HB1.out.size)); clear hb2 hp2 hpp)
    | (go_at_call 73; refine (gen_is w2 (HT.out.below HB2.out) GG).mono ?_; rintro e w3 ⟨t1, rfl, ht3, hb3⟩; have HT3 := Lib.hid ht3; have HB3 := Lib.hid (HB2.out.trans (hb3.mono HB2.out.size)); have HP3 := Lib.hid (HPA.out.below hb3); clear hb3 ht3))
  clear HP3 HPA HP1 HB1 HB2 HB3 HT3 HL1
  obtain ⟨mo, hmo⟩ : ∃ mo : Int, max 1 (min 3 64) = mo := ⟨_, rfl⟩
  have hm3 : mo = 3 := by omega
  rw [hmo, hm3] at HF4
  clear hmo hm3 mo
  have HS2 := Lib.hid fun (W : World) (hb : Below w4.heap.size w4 W) => (show FdS w W pp p b1 b2 D f (.slice none 0 0) none [] 3 t1 ∧ TipIs (okF f (.slice none 0 0) none) W [genH] t1 [rootID] from ⟨HF4.out.next hb, HT4.out.below hb⟩)
  go_upto_region 10 with (first
    | (go_at_call 115; refine (join_any w6 h b 0 _ 0 HU6.out (by decide) (by decide) (by decide) 3 t2 (HT6.out.one _ List.mem_cons_self) 0 1 rfl).mono ?_; rintro e w7 ⟨rfl, ff, -, -, -, hc7⟩; have HB7 := Lib.hid (HB6.out.trans (hc7.below HB6.out.size fun k hk => hk.elim (fun e => e ▸ HHB.out.1) fun e => e ▸ HHB.out.2)); clear hc7)
    | (go_at_call 114; refine (newhub_any w4).mono ?_; rintro e w5 ⟨h, b, rfl, hh, hb, hH, hb5⟩; have HU5 := Lib.hid hH; have HHB := Lib.hid (And.intro hh hb); have HB5 := Lib.hid hb5; clear hH hb5 hh hb)
    | (go_at_call 73; refine (gen_is w5 (HT.out.below (HF4.out.next HB5.out).below) GG).mono ?_; rintro e w6 ⟨t2, rfl, ht6, hb6⟩; have HT6 := Lib.hid ht6; have HB6 := Lib.hid (HB5.out.trans (hb6.mono HB5.out.size)); have HU6 := Lib.hid (HU5.out.below hb6); clear hb6 ht6))
  have HF7 := Lib.hid (HF4.out.next HB7.out)
  have HT7 := Lib.hid (HT4.out.below HB7.out)
  clear HF4 HT4 HB5 HB6 HB7 HU5 HU6 HHB HT6 HS2
  go_wp2_with (first
    | (go_at_call 62; refine (height_is HT11.out GR).mono ?_; rw [hg0]; rintro e w12 ⟨rfl, hb12⟩; have HB12 := Lib.hid (HF11.out.next hb12).below; clear hb12)
    | (go_at_call 88; refine (start_any w10 _ f _ _ _ _ HF10.out.feed (HT10.out.one _ List.mem_cons_self)).mono ?_; rintro e w11 ⟨rfl, hb11⟩; have HT11 := Lib.hid (HT10.out.below hb11); have HF11 := Lib.hid (HF10.out.next hb11); clear hb11)
    | (go_at_call 87; refine (lenS HF10.out).mono ?_; rintro e w10b ⟨rfl, rfl⟩)
    | (go_at_call 85; refine (pushSelf HF9.out (A := [rootID]) (by rw [HH1.out]; exact GR) (by rw [HH1.out]; exact HTa.out) (by rw [HH1.out]; exact HTb.out) (by decide) (by decide)).mono ?_; rintro e w10 ⟨v', rfl, hm, hF⟩; have HF10 := Lib.hid hF; have HT10 := Lib.hid (hm.tip HT9.out); clear hm hF)
    | (go_at_call 73; refine (gen_is w8 (HT.out.below HF8.out.below) GG).mono ?_; rintro e w9 ⟨t4, rfl, ht9, hb9⟩; have HTb := Lib.hid (ht9.mono HF8.out.up); have HTa := Lib.hid (HT8a.out.below hb9); have HF9 := Lib.hid (HF8.out.next hb9); have HT9 := Lib.hid (HT8.out.below hb9); clear hb9 ht9)
    | (go_at_call 73; refine (gen_is w7 (HT.out.below HF7.out.below) GG).mono ?_; rintro e w8 ⟨t3, rfl, ht8, hb8⟩; have HT8a := Lib.hid (ht8.mono HF7.out.up); have HF8 := Lib.hid (HF7.out.next hb8); have HT8 := Lib.hid (HT7.out.below hb8); clear hb8 ht8))
  go_ret
  exact ⟨rfl, HB12.out⟩
end Go.Proofs.YtpehmlfghddnaaaGreatDoor
namespace Go.Proofs.YtpehmlfghddnaaaGreatDoor
open Go.RowKit Go.Maps

/-- An operation by what it answers. -/
theorem wpl_exec {P : Program} {ops : Array Oper} {rest : List Oper} {o : Oper} {a : Act} {w : World} {Q : Exit → Act → World → Prop} (hgd : o.guard = none) (v : Value) (h1 : (execOp a.eval o).run P w = .ok (.value v) w)
    (h : wpList P ops Q rest (a.put o.dst v) w) : wpList P ops Q (o :: rest) a w :=
  wpList_plain hgd fun K hK => by
    unfold Oper.wp
    rw [h1]
    exact hK _ _ h

set_option maxRecDepth 100000 in
set_option maxHeartbeats 2000000 in
theorem pick_any (w : World) (ok : Nat → Prop) (va : Value) (all : List LNS) (hva : Sl nsE ok w va all) (hpos : 0 < all.length) (hlen : all.length ≤ 1000) (x : Int) :
    Calls Tryz.prog 83 #[va, .int .i64 x] w fun e w' => (∃ z ∈ all, e = .returned z.v) ∧ w = w' := by
  obtain ⟨r, hr, r1, r2, j, hj, hidx⟩ := pick_ix2 x all.length hpos hlen
  obtain ⟨z, hz⟩ : ∃ z, all[j]? = some z := ⟨_, List.getElem?_eq_getElem hj⟩
  have hzm := List.mem_of_getElem? hz
  obtain ⟨A, c, rfl, hc, hm⟩ := hva.form
  obtain ⟨bz, oz, rfl, hbz, -, hcz⟩ := hva.at_ j z hz
  have hcell : w.cell? ⟨bz, oz + j, none⟩ = some z.v := by have := hcz 0 _ rfl; rwa [Nat.add_zero, show nsE.k = 1 from rfl, Nat.mul_one] at this
  obtain ⟨n, hn⟩ : ∃ n, all.length = n := ⟨_, rfl⟩
  rw [hn] at hr r1 r2 hj hidx hpos hlen ⊢
  have hw1 : IntKind.i64.wrap (r + n) = r + n := IntWalk.i64_in _ (by omega)
  have HZ := Lib.hid hzm
  have HR := Lib.hid hr
  have HI := Lib.hid hidx
  clear hva hz hcz hzm hr hidx hm
  go_enter Tryz.func83, Tryz.ntmps83
  go_wp2_with (first
    | (refine wpl_exec rfl (.int .i64 r) ((exec_rem 3 3 (.tmp 6) (.tmp 8) rfl x n rfl rfl (by omega) (by rw [HR.out]; constructor <;> omega)).trans (by rw [HR.out])) ?_)
    | (refine wpl_exec rfl (.int .i64 (j : Int)) ((exec_rem 3 3 (.tmp 12) (.tmp 14) rfl (r + n) n rfl rfl (by omega) (by rw [HI.out]; constructor <;> omega)).trans (by rw [HI.out])) ?_))
  go_ret
  exact ⟨⟨z, HZ.out, rfl⟩, rfl⟩
end Go.Proofs.YtpehmlfghddnaaaGreatDoor
namespace Go.Proofs.YtpehmlfghddnaaaGreatDoor
open Go.RowKit Go.Maps

end Go.Proofs.YtpehmlfghddnaaaGreatDoor
namespace Go.Proofs.YtpehmlfghddnaaaGreatDoor
open Go.RowKit Go.Maps

end Go.Proofs.YtpehmlfghddnaaaGreatDoor
namespace Go.Proofs.YtpehmlfghddnaaaGreatDoor
open Go.RowKit Go.Maps

section
variable {G : List Hdr} {ways : ByteArray → ByteArray}
end
end Go.Proofs.YtpehmlfghddnaaaGreatDoor
namespace Go.Proofs.YtpehmlfghddnaaaGreatDoor
open Go.RowKit Go.Maps
end Go.Proofs.YtpehmlfghddnaaaGreatDoor
