/- feed.Feed.Push. -/
import Derived.Test.YtpehmlfghddnaaaGreatDoorPuBG
namespace Go.Proofs.YtpehmlfghddnaaaGreatDoor
open Go.RowKit Go.Maps

/-- A feed's row of events is set. -/
theorem run_setEvs (w : World) (f : Nat) (v v1 x y : Value) (h1 : v1.oneCell' = true) (hf : w.heap[f]? = some (.cells #[v, x, y] 226 (0, 0))) : (storeVar 109 ⟨f, 0, none⟩ v1).run Tryz.prog w = .ok () (w.setRow f #[v1, x, y]) := by
  have h2 := run_storeVar_cell (P := Tryz.prog) w 109 f 0 v1 v h1 evs_size (cell_block hf rfl) (Lib.frozen_of_heap hf 0)
  rw [setCell_eq_setRow w f 0 _ _ _ v1 hf] at h2
  exact h2
/-- What lies while a feed is pushed to. -/
structure PuI (base : Nat) (w1 W : World) (f : Nat) (v0 v : Value) (evs : List Ev) (most : Int) (st : Value) : Prop where
  chg : Chg (fun k => k = f ∨ v0.ownBlock = some k) w1 W
  feed : FeedAt base W f v evs most st
  own : v.ownBlock = v0.ownBlock ∨ ∃ b, v.ownBlock = some b ∧ w1.heap.size ≤ b
section
variable {base : Nat} {w1 W W' : World} {f : Nat} {v0 v : Value} {evs : List Ev} {most : Int} {st : Value}
theorem PuI.next (h : PuI base w1 W f v0 v evs most st) (hb : Below W.heap.size W W') : PuI base w1 W' f v0 v evs most st :=
  ⟨h.chg.trans (Chg.of_below hb), h.feed.below hb, h.own⟩
/-- Behind an append, and the store of it. -/
theorem PuI.app (h : PuI base w1 W f v0 v evs most st) (_hbase : base ≤ w1.heap.size) (hfl : f < w1.heap.size) {W2 : World} {v2 : Value} {x : Ev} (ho : W2.ownsRow base 117 3 v2 (evs.length + 1) (evE.flat evs ++ x.cells)) (hg : W.grownBy W2 v.ownBlock) (hat : v2.ownBlock = v.ownBlock ∨ ∃ b, v2.ownBlock = some b ∧ W.heap.size ≤ b) (hlen : evs.length + 1 ≤ 100000000) :
    PuI base w1 (W2.setRow f #[v2, .int .i64 most, st]) f v0 v2 (evs ++ [x]) most st := by
  have hsz : w1.heap.size ≤ W.heap.size := h.chg.size
  have hown : v2.ownBlock = v0.ownBlock ∨ ∃ b, v2.ownBlock = some b ∧ w1.heap.size ≤ b := by
    rcases hat with he | ⟨b, he, hb⟩
    · rw [he]; exact h.own
    · exact .inr ⟨b, he, Nat.le_trans hsz hb⟩
  have hne : v2.ownBlock ≠ some f := by
    rcases hat with he | ⟨b, he, hb⟩
    · rw [he]; exact h.feed.ne
    · rw [he]; intro e; cases e; omega
  have hfb : W2.heap[f]? = some (.cells #[v, .int .i64 most, st] 226 (0, 0)) := (hg.block _ h.feed.lt fun e => h.feed.ne e.symm).trans h.feed.blk
  refine ⟨h.chg.step (S := fun k => k = f ∨ v.ownBlock = some k) ⟨by have := hg.os; simpa using this, by have := hg.tape; simpa using this, by have := hg.output; simpa using this, by have := hg.size; simpa using this, fun k hk hs => (heap_setRow_ne _ _ _ _ fun e => hs (.inl e)).trans (hg.block k hk fun e => hs (.inr e.symm))⟩ fun k hk => ?_, ⟨setRow_heap _ _ _ _ _ _ hfb, ?_, hne, by rw [List.length_append]; exact hlen⟩, hown⟩
  · rcases hk with hk | hk
    · exact .inl (.inl hk)
    · rcases h.own with he | ⟨b, he, hb⟩
      · rw [he] at hk; exact .inl (.inr hk)
      · rw [he] at hk; cases hk; exact .inr hb
  · rw [List.length_append, evE.flat_append, evE.flat_one]
    exact own_setRow _ ho fun k hk e => hne (by rw [← e]; exact hk)
end
theorem wpl_setEvs {ops : Array Oper} {rest : List Oper} {o : Oper} {a : Act} {w : World} {Q : Exit → Act → World → Prop} (hgd : o.guard = none) (x y : Operand) (ho : o.op = .store 109 x y) (f : Nat) (hx : a.eval x = .pointer (some ⟨f, 0, none⟩)) (v1 v u u' : Value) (hy : a.eval y = v1) (h1 : v1.oneCell' = true) (hf : w.heap[f]? = some (.cells #[v, u, u'] 226 (0, 0)))
    (h : wpList Tryz.prog ops Q rest (a.put o.dst undef) (w.setRow f #[v1, u, u'])) : wpList Tryz.prog ops Q (o :: rest) a w :=
  wpList_plain hgd fun K hK => by
    unfold Oper.wp execOp
    simp only [ho, hx, hy, Instr.storeAt, Instr.sureAddr, Sem.run_bind, Sem.run_pure, Result.andThen_ok, run_setEvs w f v v1 u u' h1 hf]
    exact hK _ _ h
theorem evZ_cells : (Value.agg #[.int .i64 0, .string ⟨#[]⟩, .int .i64 0]).cells.size = 3 := by kernel_rfl

set_option maxRecDepth 100000 in
set_option maxHeartbeats 8000000 in
theorem push_any (w : World) (pp p b1 b2 : Nat) (D : List LB) (okx ok ok2 : Nat → Prop) (h : PathAt okx w pp p b1 b2 D) (av : Value) (A : List ID) (hA : TipOf (hdrs D) A) (hw : TipIs ok w (hdrs D) av A) (bv : Value) (B : List ID) (hB : TipOf (hdrs D) B) (hv : TipIs ok2 w (hdrs D) bv B) (hlen : D.length ≤ 1000000)
    (base f : Nat) (v : Value) (evs : List Ev) (most : Int) (st : Value) (hF : FeedAt base w f v evs most st) (hbase : base ≤ w.heap.size) (hdis : ∀ k, (ok k ∨ ok2 k ∨ okx k ∨ k = pp) → k ≠ f ∧ some k ≠ v.ownBlock) (hmost : most ≤ 1000) (hevs : evs.length ≤ 1000) :
    Calls Tryz.prog 85 #[.pointer (some ⟨f, 0, none⟩), .pointer (some ⟨pp, 0, none⟩), tipV av, tipV bv] w fun e w' => ∃ (v' : Value) (bo : Bool),
      (bo = true ↔ (evs.length : Int) + ((aboveG (hdrs D) A (commG (hdrs D) A B)).length + (aboveG (hdrs D) B (commG (hdrs D) A B)).length) ≤ most) ∧ e = .returned (.bool bo) ∧ Chg (fun k => k = f ∨ v.ownBlock = some k) w w' ∧ (v'.ownBlock = v.ownBlock ∨ ∃ b, v'.ownBlock = some b ∧ w.heap.size ≤ b) ∧
      FeedAt base w' f v' (if bo = true then evs ++ (aboveG (hdrs D) A (commG (hdrs D) A B)).map (evOf (hdrs D) 1) ++ (aboveG (hdrs D) B (commG (hdrs D) A B)).reverse.map (evOf (hdrs D) 2) else [evOf (hdrs D) 3 B]) most st := by
  obtain ⟨dn, hdn⟩ : ∃ dn, aboveG (hdrs D) A (commG (hdrs D) A B) = dn := ⟨_, rfl⟩
  obtain ⟨up, hup⟩ : ∃ up, aboveG (hdrs D) B (commG (hdrs D) A B) = up := ⟨_, rfl⟩
  have HBT : Hid (∀ W, Below w.heap.size w W → Calls Tryz.prog 89 #[.pointer (some ⟨pp, 0, none⟩), tipV av, tipV bv] W fun e w' => ∃ (dv uv : Value) (ds us : List (Value × List ID)), e = .returned (.tuple #[dv, uv]) ∧ TipsAt (fun k => k ≠ f ∧ some k ≠ v.ownBlock) w' (hdrs D) dv ds ∧ TipsAt (fun k => k ≠ f ∧ some k ≠ v.ownBlock) w' (hdrs D) uv us ∧ ds.map Prod.snd = dn ∧ us.map Prod.snd = up.reverse ∧ Below W.heap.size W w') := Lib.hid fun W hb => by
    have hz := hb.size
    have hlt := hF.lt
    refine (between_any W pp p b1 b2 D okx ok ok2 (h.below hb) av A hA (hw.below hb) bv B hB (hv.below hb) hlen).mono ?_
    rintro e w' ⟨dv, uv, ds, us, rfl, h1, h2, h3, h4, h5⟩
    have hk : ∀ k, (ok k ∨ ok2 k ∨ okx k ∨ k = pp ∨ W.heap.size ≤ k) → k ≠ f ∧ some k ≠ v.ownBlock := fun k hk => by
      rcases hk with hk | hk | hk | hk | hk
      · exact hdis k (.inl hk)
      · exact hdis k (.inr (.inl hk))
      · exact hdis k (.inr (.inr (.inl hk)))
      · exact hdis k (.inr (.inr (.inr hk)))
      · refine ⟨by omega, fun e => ?_⟩
        have := (own_lt hF.row k e.symm).2
        omega
    exact ⟨dv, uv, ds, us, rfl, h1.mono hk, h2.mono hk, h3.trans hdn, h4.trans (by rw [hup]), h5⟩
  have HBV : Hid (∀ W, Below w.heap.size w W → TipIs ok2 W (hdrs D) bv B) := Lib.hid fun W hb => hv.below hb
  have HDU : Hid (dn.length ≤ 1000000 ∧ up.length ≤ 1000000) := Lib.hid (by
    have hD : (hdrs D).length ≤ 1000000 := by simpa [hdrs] using hlen
    rw [← hdn, ← hup]
    unfold aboveG
    exact ⟨Nat.le_trans (List.takeWhile_sublist _).length_le (Nat.le_trans (h.good.chain_len hA) hD), Nat.le_trans (List.takeWhile_sublist _).length_le (Nat.le_trans (h.good.chain_len hB) hD)⟩)
  rw [hdn, hup]
  have HB0 := Lib.hid (Box2.mk2 w av bv)
  have HF := Lib.hid hF
  clear h hw hv hdis hdn hup hF hlen
  go_enter Tryz.func85, Tryz.ntmps85
  go_upto_region 1 with fail
  generalize (w.alloc (.cells #[av] 27)).alloc (.cells #[bv] 27) = W0 at HB0 ⊢
  go_upto_region 2 with (first
    | (refine wpl_tip rfl _ rfl _ rfl _ HB0.out.b0 ?_)
    | (refine wpl_tip rfl _ rfl _ rfl _ HB0.out.b1 ?_)
    | (go_at_call 89; refine (HBT.out _ HB0.out.below).mono ?_; rintro e w1 ⟨dv, uv, ds, us, rfl, hds, hus, hdm, hum, hb1⟩; have HDS := Lib.hid hds; have HUS := Lib.hid hus; have HDM := Lib.hid hdm; have HUM := Lib.hid hum; have HB1 := Lib.hid (HB0.out.next hb1); obtain ⟨Ad, cd, rfl, -⟩ := hds.row.form; obtain ⟨Au, cu, rfl, -⟩ := hus.row.form; clear hb1 hds hus hdm hum))
  have hz1 := HB1.out.below.size
  have HF1 := Lib.hid (HF.out.below HB1.out.below)
  have HCH0 : Hid (Chg (fun k => k = f ∨ v.ownBlock = some k) w w1) := Lib.hid (Chg.of_below HB1.out.below)
  have HP0 : Hid (PuI base w1 w1 f v v evs most st) := Lib.hid ⟨Chg.refl _ _, HF1.out, .inl rfl⟩
  have HND : Hid (dn.length = ds.length ∧ up.length = us.length) := Lib.hid ⟨by rw [← HDM.out, List.length_map], by have := congrArg List.length HUM.out; simpa using this.symm⟩
  have hb1s : base ≤ w1.heap.size := Nat.le_trans hbase hz1
  obtain ⟨Av, cv, rfl, -⟩ := own_slice HF1.out.row
  have hdl : ds.length ≤ 1000000 := by rw [← HND.out.1]; exact HDU.out.1
  have hul : us.length ≤ 1000000 := by rw [← HND.out.2]; exact HDU.out.2
  by_cases hfit : (evs.length : Int) + ds.length + us.length ≤ most
  · have hfit2 : ¬ (most < (evs.length : Int) + ds.length + us.length) := by omega
    refine st_ (S := (fun W' => W'.heap[f]? = some (.cells #[.slice Av evs.length cv, .int .i64 most, st] 226 (0, 0)))) 16 #[false, false, false, false, false, false, false, false, false, false, false, false, false, false, false, false] (by kernel_rfl) rfl (by rfl) HF1.out.blk (fun hHeld => ?_)
    refine tk_ 0 (some 22) #[true, false, false, false, false, false, false, false, false, false, false, false, false, false, false, false] (v := ?_) (a' := ?_) rfl rfl (by kernel_rfl) (fun _ _ _ h => h) (yieldsIf_run rfl ?_) hHeld ?_ ?_
    rotate_left
    · intro w'
      go_simp
      with_reducible rfl
    rotate_left
    · simp only [Act.put, List.setIfInBounds_toArray, List.set_cons_zero, List.set_cons_succ]
      rfl
    refine tk_ 1 (some 23) #[true, true, false, false, false, false, false, false, false, false, false, false, false, false, false, false] (v := ?_) (a' := ?_) rfl rfl (by kernel_rfl) (fun _ _ _ h => h) (yieldsIf_run rfl ?_) hHeld ?_ ?_
    rotate_left
    · intro w'
      go_simp
      with_reducible rfl
    rotate_left
    · simp only [Act.put, List.setIfInBounds_toArray, List.set_cons_zero, List.set_cons_succ]
      rfl
    refine tk_ 2 (some 24) #[true, true, true, false, false, false, false, false, false, false, false, false, false, false, false, false] (v := ?_) (a' := ?_) rfl rfl (by kernel_rfl) (fun _ _ _ h => h) (yieldsIf_run rfl ?_) hHeld ?_ ?_
    rotate_left
    · intro w'
      go_simp
      with_reducible rfl
    rotate_left
    · simp only [Act.put, List.setIfInBounds_toArray, List.set_cons_zero, List.set_cons_succ]
      rfl
    refine tk_ 3 (some 25) #[true, true, true, true, false, false, false, false, false, false, false, false, false, false, false, false] rfl rfl (by kernel_rfl) (fun _ _ _ h => h) (yieldsIf_cell rfl 109 (.tmp 24) rfl ⟨f, 0, none⟩ rfl (.slice Av evs.length cv) _ (fun W' h => cell_block h rfl) Tryz.underlying109 rfl) hHeld (a' := ?_) ?_ ?_
    rotate_left
    · simp only [Act.put, List.setIfInBounds_toArray, List.set_cons_zero, List.set_cons_succ]
      rfl
    refine tk_ 4 (some 26) #[true, true, true, true, true, false, false, false, false, false, false, false, false, false, false, false] (v := ?_) (a' := ?_) rfl rfl (by kernel_rfl) (fun _ _ _ h => h) (yieldsIf_run rfl ?_) hHeld ?_ ?_
    rotate_left
    · intro w'
      go_simp
      with_reducible rfl
    rotate_left
    · simp only [Act.put, List.setIfInBounds_toArray, List.set_cons_zero, List.set_cons_succ]
      rfl
    refine tk_ 5 (some 27) #[true, true, true, true, true, true, false, false, false, false, false, false, false, false, false, false] (v := ?_) (a' := ?_) rfl rfl (by kernel_rfl) (fun _ _ _ h => h) (yieldsIf_run rfl ?_) hHeld ?_ ?_
    rotate_left
    · intro w'
      go_simp
      with_reducible rfl
    rotate_left
    · simp only [Act.put, List.setIfInBounds_toArray, List.set_cons_zero, List.set_cons_succ]
      rfl
    refine tk_ 6 (some 28) #[true, true, true, true, true, true, true, false, false, false, false, false, false, false, false, false] (v := ?_) (a' := ?_) rfl rfl (by kernel_rfl) (fun _ _ _ h => h) (yieldsIf_run rfl ?_) hHeld ?_ ?_
    rotate_left
    · intro w'
      go_simp
      with_reducible rfl
    rotate_left
    · simp only [Act.put, List.setIfInBounds_toArray, List.set_cons_zero, List.set_cons_succ]
      rfl
    refine tk_ 7 (some 29) #[true, true, true, true, true, true, true, true, false, false, false, false, false, false, false, false] rfl rfl (by kernel_rfl) (fun _ _ _ h => h) (yieldsIf_run (v := .int .i64 (evs.length + ds.length)) rfl fun W' => (show _ = Result.ok (Next.value (.int .i64 (IntKind.i64.wrap ((evs.length : Int) + ds.length)))) W' from rfl).trans (by rw [IntWalk.i64_in _ (by omega)])) hHeld (a' := ?_) ?_ ?_
    rotate_left
    · simp only [Act.put, List.setIfInBounds_toArray, List.set_cons_zero, List.set_cons_succ]
      rfl
    refine tk_ 8 (some 30) #[true, true, true, true, true, true, true, true, true, false, false, false, false, false, false, false] (v := ?_) (a' := ?_) rfl rfl (by kernel_rfl) (fun _ _ _ h => h) (yieldsIf_run rfl ?_) hHeld ?_ ?_
    rotate_left
    · intro w'
      go_simp
      with_reducible rfl
    rotate_left
    · simp only [Act.put, List.setIfInBounds_toArray, List.set_cons_zero, List.set_cons_succ]
      rfl
    refine tk_ 9 (some 31) #[true, true, true, true, true, true, true, true, true, true, false, false, false, false, false, false] (v := ?_) (a' := ?_) rfl rfl (by kernel_rfl) (fun _ _ _ h => h) (yieldsIf_run rfl ?_) hHeld ?_ ?_
    rotate_left
    · intro w'
      go_simp
      with_reducible rfl
    rotate_left
    · simp only [Act.put, List.setIfInBounds_toArray, List.set_cons_zero, List.set_cons_succ]
      rfl
    refine tk_ 10 (some 32) #[true, true, true, true, true, true, true, true, true, true, true, false, false, false, false, false] rfl rfl (by kernel_rfl) (fun _ _ _ h => h) (yieldsIf_run (v := .int .i64 (evs.length + ds.length + us.length)) rfl fun W' => (show _ = Result.ok (Next.value (.int .i64 (IntKind.i64.wrap ((evs.length : Int) + ds.length + us.length)))) W' from rfl).trans (by rw [IntWalk.i64_in _ (by omega)])) hHeld (a' := ?_) ?_ ?_
    rotate_left
    · simp only [Act.put, List.setIfInBounds_toArray, List.set_cons_zero, List.set_cons_succ]
      rfl
    refine tk_ 11 (some 33) #[true, true, true, true, true, true, true, true, true, true, true, true, false, false, false, false] (v := ?_) (a' := ?_) rfl rfl (by kernel_rfl) (fun _ _ _ h => h) (yieldsIf_run rfl ?_) hHeld ?_ ?_
    rotate_left
    · intro w'
      go_simp
      with_reducible rfl
    rotate_left
    · simp only [Act.put, List.setIfInBounds_toArray, List.set_cons_zero, List.set_cons_succ]
      rfl
    refine tk_ 12 (some 34) #[true, true, true, true, true, true, true, true, true, true, true, true, true, false, false, false] (v := ?_) (a' := ?_) rfl rfl (by kernel_rfl) (fun _ _ _ h => h) (yieldsIf_run rfl ?_) hHeld ?_ ?_
    rotate_left
    · intro w'
      go_simp
      with_reducible rfl
    rotate_left
    · simp only [Act.put, List.setIfInBounds_toArray, List.set_cons_zero, List.set_cons_succ]
      rfl
    refine tk_ 13 (some 35) #[true, true, true, true, true, true, true, true, true, true, true, true, true, true, false, false] (v := ?_) (a' := ?_) rfl rfl (by kernel_rfl) (fun _ _ _ h => h) (yieldsIf_run rfl ?_) hHeld ?_ ?_
    rotate_left
    · intro w'
      go_simp
      with_reducible rfl
    rotate_left
    · simp only [Act.put, List.setIfInBounds_toArray, List.set_cons_zero, List.set_cons_succ]
      rfl
    refine tk_ 14 (some 36) #[true, true, true, true, true, true, true, true, true, true, true, true, true, true, true, false] rfl rfl (by kernel_rfl) (fun _ _ _ h => h) (yieldsIf_cell rfl 3 (.tmp 35) rfl ⟨f, 1, none⟩ rfl (.int .i64 most) _ (fun W' h => cell_block h rfl) Tryz.underlying3 rfl) hHeld (a' := ?_) ?_ ?_
    rotate_left
    · simp only [Act.put, List.setIfInBounds_toArray, List.set_cons_zero, List.set_cons_succ]
      rfl
    refine tk_ 15 (some 37) #[true, true, true, true, true, true, true, true, true, true, true, true, true, true, true, true] rfl rfl (by kernel_rfl) (fun _ _ _ h => h) (yieldsIf_run (v := .bool false) rfl fun W' => by go_simp) hHeld (a' := ?_) ?_ ?_
    rotate_left
    · simp only [Act.put, List.setIfInBounds_toArray, List.set_cons_zero, List.set_cons_succ]
      rfl
    refine wpAnyH_done (by kernel_rfl) ?_ _
    change Exit.then _ _ _ _ _
    have hf1lt := HF1.out.lt
    go_wp2
    go_loopw [46] (fun c W => ∃ (j : Nat) (v' : Value), j ≤ ds.length ∧ c = .int .i64 (j : Int) ∧ PuI base w1 W f (.slice Av evs.length cv) v' (evs ++ (ds.take j).map fun x => evOf (hdrs D) 1 x.2) most st) (fun c _ => ds.length - (intOf c).toNat)
    case atStart => exact ⟨0, _, by omega, rfl, by simpa using HP0.out.next (Below.refl _ w1).drew⟩
    case round =>
      obtain ⟨j, v', hj, rfl, hI⟩ := hrel
      have HI := Lib.hid hI
      clear hI
      by_cases hjd : j < ds.length
      · obtain ⟨x, hx⟩ : ∃ x, ds[j]? = some x := ⟨_, List.getElem?_eq_getElem hjd⟩
        have hxm := List.mem_of_getElem? hx
        have HT := Lib.hid (HDS.out.old.fr (HI.out.chg.fr (ok := fun k => (k ≠ f ∧ some k ≠ (Value.slice Av evs.length cv).ownBlock) ∧ k < w1.heap.size) fun k hk hs => hs.elim hk.1.1 fun e => hk.1.2 e.symm))
        obtain ⟨bz, oz, rfl, hbz, -, hcz⟩ := HT.out.row.at_ j x hx
        have HXI := Lib.hid (HT.out.is x hxm)
        have hx1 := HXI.out.1.one
        have hcz2 : wr.cell? ⟨bz, oz + j, none⟩ = some x.1 := by
          have := hcz 0 _ rfl
          rw [Nat.add_zero, show tpE.k = 1 from rfl, Nat.mul_one, if_pos (hx1 x.1 (by simp))] at this
          exact this
        have HCZ : Hid (∀ (i : Nat) (u : Value), [x.1][i]? = some u → wr.cell? ⟨bz, oz + j + i, none⟩ = some u) := Lib.hid fun i u hu => by
          cases i with
          | zero => injection hu with hu; subst hu; exact hcz2
          | succ i => cases hu
        have hmap : (ds.take (j + 1)).map (fun x => evOf (hdrs D) 1 x.2) = (ds.take j).map (fun x => evOf (hdrs D) 1 x.2) ++ [evOf (hdrs D) 1 x.2] := by
          rw [List.take_add_one, hx]; simp
        have HMAP := Lib.hid hmap
        obtain ⟨es, hes⟩ : ∃ es, evs ++ (ds.take j).map (fun x => evOf (hdrs D) 1 x.2) = es := ⟨_, rfl⟩
        have hesl : es.length + 1 ≤ 3000000 := by rw [← hes]; simp; omega
        rw [hes] at HI
        have HES := Lib.hid hes
        clear hcz hcz2 hx hmap hes hxm
        obtain ⟨Aw, cw, rfl, -⟩ := own_slice HI.out.feed.row
        have hbx : Below wr.heap.size wr (wr.alloc (.cells #[x.1] 27)) := (Below.refl _ _).alloc (Nat.le_refl _) _
        have HIx := Lib.hid (HI.out.next hbx)
        have HXx := Lib.hid (HXI.out.1.below hbx)
        have HGx : Hid ((wr.alloc (.cells #[x.1] 27)).heap[wr.heap.size]? = some (.cells #[x.1] 27 (0, 0))) := Lib.hid (heap_alloc_new wr _)
        have hob : (Value.slice Aw es.length cw).ownBlock ≠ some wr.heap.size := fun e => by have := (own_lt HI.out.feed.row _ e).2; omega
        clear hbx
        go_upto_region 8 with (first
          | (refine wpl_load rfl 27 (.tmp 48) rfl bz _ rfl [x.1] _ HCZ.out Tryz.underlying27 rfl tip_size ?_)
          | (refine wpl_store_new rfl 27 _ _ rfl rfl [x.1] rfl _ _ rfl hx1 tip_size ?_))
        generalize wr.alloc (.cells #[x.1] 27) = W2 at HIx HXx HGx ⊢
        generalize wr.heap.size = gb at HGx hob ⊢
        refine stD_ (S := (fun W' => W'.heap[f]? = some (.cells #[.slice Aw es.length cw, .int .i64 most, st] 226 (0, 0)) ∧ W'.heap[gb]? = some (.cells #[x.1] 27 (0, 0)))) [11] 12 #[false, false, false, false, false, false, false, false, false, false, false, false] (by kernel_rfl) rfl (by rfl) ⟨HIx.out.feed.blk, HGx.out⟩ (fun hHeld => ?_)
        refine tkT_ 0 (some 50) #[true, false, false, false, false, false, false, false, false, false, false, false] (v := ?_) (a' := ?_) rfl rfl (by kernel_rfl) (fun _ _ _ h => h) (yieldsIf_run rfl ?_) hHeld ?_ ?_
        rotate_left
        · intro w'
          go_simp
          with_reducible rfl
        rotate_left
        · simp only [Act.put, List.setIfInBounds_toArray, List.set_cons_zero, List.set_cons_succ]
          rfl
        refine tkT_ 1 (some 51) #[true, true, false, false, false, false, false, false, false, false, false, false] (v := ?_) (a' := ?_) rfl rfl (by kernel_rfl) (fun _ _ _ h => h) (yieldsIf_run rfl ?_) hHeld ?_ ?_
        rotate_left
        · intro w'
          go_simp
          with_reducible rfl
        rotate_left
        · simp only [Act.put, List.setIfInBounds_toArray, List.set_cons_zero, List.set_cons_succ]
          rfl
        refine tkT_ 2 (some 52) #[true, true, true, false, false, false, false, false, false, false, false, false] (v := ?_) (a' := ?_) rfl rfl (by kernel_rfl) (fun _ _ _ h => h) (yieldsIf_run rfl ?_) hHeld ?_ ?_
        rotate_left
        · intro w'
          go_simp
          with_reducible rfl
        rotate_left
        · simp only [Act.put, List.setIfInBounds_toArray, List.set_cons_zero, List.set_cons_succ]
          rfl
        refine tkT_ 3 (some 53) #[true, true, true, true, false, false, false, false, false, false, false, false] (v := ?_) (a' := ?_) rfl rfl (by kernel_rfl) (fun _ _ _ h => h) (yieldsIf_run rfl ?_) hHeld ?_ ?_
        rotate_left
        · intro w'
          go_simp
          with_reducible rfl
        rotate_left
        · simp only [Act.put, List.setIfInBounds_toArray, List.set_cons_zero, List.set_cons_succ]
          rfl
        refine tkT_ 4 (some 54) #[true, true, true, true, true, false, false, false, false, false, false, false] rfl rfl (by kernel_rfl) (fun _ _ _ h => h) (yieldsIf_cell rfl 109 (.tmp 53) rfl ⟨f, 0, none⟩ rfl (.slice Aw es.length cw) _ (fun W' h => cell_block h.1 rfl) Tryz.underlying109 rfl) hHeld (a' := ?_) ?_ ?_
        rotate_left
        · simp only [Act.put, List.setIfInBounds_toArray, List.set_cons_zero, List.set_cons_succ]
          rfl
        refine tkT_ 5 (some 55) #[true, true, true, true, true, true, false, false, false, false, false, false] rfl rfl (by kernel_rfl) (fun _ _ _ h => h) (yieldsIf_tipb rfl (.tmp 12) rfl gb rfl x.1 (fun W' h => h.2)) hHeld (a' := ?_) ?_ ?_
        rotate_left
        · simp only [Act.put, List.setIfInBounds_toArray, List.set_cons_zero, List.set_cons_succ]
          rfl
        refine callD_ 6 (some 56) #[true, true, true, true, true, true, true, false, false, false, false, false] rfl rfl (by kernel_rfl) rfl 170 _ (by kernel_rfl) (fof_any W2.drew 1 x.1 x.2 (hdrs D) _ HXI.out.2 (HXx.out.below (Below.refl _ W2).drew)) ?_
        rintro e w4 ⟨rfl, hb4⟩
        have hbW : Below W2.heap.size W2 w4 := (Below.refl _ W2).drew.trans hb4
        have HI4 := Lib.hid (HIx.out.next hbW)
        have HG4 := Lib.hid ((hbW.block _ (Array.getElem?_eq_some_iff.1 HGx.out).1).trans HGx.out)
        have hb4s : base ≤ w4.heap.size := Nat.le_trans hb1s (HI4.out.chg.size)
        have hl32 : (es.length + 1) * 32 ≤ 140737488355328 := by omega
        refine ⟨_, rfl, (And.intro HI4.out.feed.blk HG4.out), fun hHeld => ⟨?_, ?_, ?_⟩⟩
        rotate_left
        · simp only [Act.put, List.setIfInBounds_toArray, List.set_cons_zero, List.set_cons_succ]
          rfl
        have hHeld := (And.intro ((heap_alloc_old w4 (.cells (evOf (hdrs D) 1 x.2).cells.toArray 117) HI4.out.feed.lt).trans HI4.out.feed.blk) ((heap_alloc_old w4 (.cells (evOf (hdrs D) 1 x.2).cells.toArray 117) (Array.getElem?_eq_some_iff.1 HG4.out).1).trans HG4.out))
        refine valD_ 7 (some 57) #[true, true, true, true, true, true, true, true, false, false, false, false] rfl rfl (by kernel_rfl) rfl ((.slice (some ⟨w4.heap.size, 0, none⟩) 1 1)) ((w4.alloc (.cells (evOf (hdrs D) 1 x.2).cells.toArray 117))) (exec_slice1 109 117 (.tmp 56) rfl (evOf (hdrs D) 1 x.2).cells.toArray rfl _ 3 32 Tryz.underlying109 ev_info evZ_cells rfl (by decide) (by decide)) (fun _ => hHeld) (a' := ?_) ?_ ?_
        rotate_left
        · simp only [Act.put, List.setIfInBounds_toArray, List.set_cons_zero, List.set_cons_succ]
          rfl
        refine stepD_ 8 (some 58) #[true, true, true, true, true, true, true, true, true, false, false, false] rfl rfl (by kernel_rfl) rfl (exec_app1 (W := w4) (evOf (hdrs D) 1 x.2).cells.toArray base (.tmp 54) (.tmp 57) 109 117 _ 3 32 rfl Tryz.underlying109 ev_info evZ_cells (by decide) (by decide) (.slice Aw es.length cw) es.length _ rfl rfl rfl (evE.one (evOf (hdrs D) 1 x.2)) HI4.out.feed.row hb4s hl32) ?_
        rintro v5 w5 ⟨ho5, hg5, hat5⟩
        have HA5 := Lib.hid (HI4.out.app hb1s (HI.out.feed.blk |> fun _ => hf1lt) ho5 hg5 hat5 (by omega))
        obtain ⟨A5, c5, rfl, -⟩ := own_slice ho5
        have HF5 := Lib.hid ((hg5.block _ HI4.out.feed.lt fun e => HI4.out.feed.ne e.symm).trans HI4.out.feed.blk)
        have HG5 := Lib.hid ((hg5.block _ (Array.getElem?_eq_some_iff.1 HG4.out).1 fun e => hob e.symm).trans HG4.out)
        have hHeld := (And.intro HF5.out HG5.out)
        refine ⟨(fun _ => hHeld), ?_, ?_, ?_⟩
        rotate_left
        · simp only [Act.put, List.setIfInBounds_toArray, List.set_cons_zero, List.set_cons_succ]
          rfl
        refine tkT_ 9 (some 59) #[true, true, true, true, true, true, true, true, true, true, false, false] (v := ?_) (a' := ?_) rfl rfl (by kernel_rfl) (fun _ _ _ h => h) (yieldsIf_run rfl ?_) hHeld ?_ ?_
        rotate_left
        · intro w'
          go_simp
          with_reducible rfl
        rotate_left
        · simp only [Act.put, List.setIfInBounds_toArray, List.set_cons_zero, List.set_cons_succ]
          rfl
        refine tkT_ 10 (some 60) #[true, true, true, true, true, true, true, true, true, true, true, false] (v := ?_) (a' := ?_) rfl rfl (by kernel_rfl) (fun _ _ _ h => h) (yieldsIf_run rfl ?_) hHeld ?_ ?_
        rotate_left
        · intro w'
          go_simp
          with_reducible rfl
        rotate_left
        · simp only [Act.put, List.setIfInBounds_toArray, List.set_cons_zero, List.set_cons_succ]
          rfl
        refine skD_ 11 #[true, true, true, true, true, true, true, true, true, true, true, true] rfl rfl (by kernel_rfl) rfl ((w5.setRow f #[.slice A5 (es.length + 1) c5, .int .i64 most, st])) (exec_store 109 (.tmp 60) (.tmp 58) rfl f 0 rfl _ rfl (run_setEvs w5 f _ _ _ _ rfl HF5.out)) (fun h => absurd (by decide) h) ?_
        refine doneD_ (by kernel_rfl) ?_ _
        change Exit.inBlock _ _ _ _ _
        go_wp2
        go_roundw
        case rel =>
          refine ⟨j + 1, .slice A5 (es.length + 1) c5, by omega, by go_num, ?_⟩
          rw [HMAP.out, ← List.append_assoc, HES.out]
          exact HA5.out
        case measure => simp [intOf]; omega
      · have hje : j = ds.length := by omega
        subst hje
        rw [List.take_length] at HI
        obtain ⟨Aw0, cw0, rfl, -⟩ := own_slice HI.out.feed.row
        go_wp2
        go_loopw [64] (fun c W => ∃ (j : Nat) (v' : Value), j ≤ us.length ∧ c = .int .i64 (j : Int) ∧ PuI base w1 W f (.slice Av evs.length cv) v' ((evs ++ ds.map fun x => evOf (hdrs D) 1 x.2) ++ (us.take j).map fun x => evOf (hdrs D) 2 x.2) most st) (fun c _ => us.length - (intOf c).toNat)
        case atStart => exact ⟨0, _, by omega, rfl, by simpa using HI.out⟩
        case round =>
          obtain ⟨j, v', hj, rfl, hI⟩ := hrel
          have HI := Lib.hid hI
          clear hI
          by_cases hjd : j < us.length
          · obtain ⟨x, hx⟩ : ∃ x, us[j]? = some x := ⟨_, List.getElem?_eq_getElem hjd⟩
            have hxm := List.mem_of_getElem? hx
            have HT := Lib.hid (HUS.out.old.fr (HI.out.chg.fr (ok := fun k => (k ≠ f ∧ some k ≠ (Value.slice Av evs.length cv).ownBlock) ∧ k < w1.heap.size) fun k hk hs => hs.elim hk.1.1 fun e => hk.1.2 e.symm))
            obtain ⟨bz, oz, rfl, hbz, -, hcz⟩ := HT.out.row.at_ j x hx
            have HXI := Lib.hid (HT.out.is x hxm)
            have hx1 := HXI.out.1.one
            have hcz2 : wr.cell? ⟨bz, oz + j, none⟩ = some x.1 := by
              have := hcz 0 _ rfl
              rw [Nat.add_zero, show tpE.k = 1 from rfl, Nat.mul_one, if_pos (hx1 x.1 (by simp))] at this
              exact this
            have HCZ : Hid (∀ (i : Nat) (u : Value), [x.1][i]? = some u → wr.cell? ⟨bz, oz + j + i, none⟩ = some u) := Lib.hid fun i u hu => by
              cases i with
              | zero => injection hu with hu; subst hu; exact hcz2
              | succ i => cases hu
            have hmap : (us.take (j + 1)).map (fun x => evOf (hdrs D) 2 x.2) = (us.take j).map (fun x => evOf (hdrs D) 2 x.2) ++ [evOf (hdrs D) 2 x.2] := by
              rw [List.take_add_one, hx]; simp
            have HMAP := Lib.hid hmap
            obtain ⟨es, hes⟩ : ∃ es, (evs ++ ds.map fun x => evOf (hdrs D) 1 x.2) ++ (us.take j).map (fun x => evOf (hdrs D) 2 x.2) = es := ⟨_, rfl⟩
            have hesl : es.length + 1 ≤ 3000000 := by rw [← hes]; simp; omega
            rw [hes] at HI
            have HES := Lib.hid hes
            clear hcz hcz2 hx hmap hes hxm
            obtain ⟨Aw, cw, rfl, -⟩ := own_slice HI.out.feed.row
            have hbx : Below wr.heap.size wr (wr.alloc (.cells #[x.1] 27)) := (Below.refl _ _).alloc (Nat.le_refl _) _
            have HIx := Lib.hid (HI.out.next hbx)
            have HXx := Lib.hid (HXI.out.1.below hbx)
            have HGx : Hid ((wr.alloc (.cells #[x.1] 27)).heap[wr.heap.size]? = some (.cells #[x.1] 27 (0, 0))) := Lib.hid (heap_alloc_new wr _)
            have hob : (Value.slice Aw es.length cw).ownBlock ≠ some wr.heap.size := fun e => by have := (own_lt HI.out.feed.row _ e).2; omega
            clear hbx
            go_upto_region 13 with (first
              | (refine wpl_load rfl 27 (.tmp 66) rfl bz _ rfl [x.1] _ HCZ.out Tryz.underlying27 rfl tip_size ?_)
              | (refine wpl_store_new rfl 27 _ _ rfl rfl [x.1] rfl _ _ rfl hx1 tip_size ?_))
            generalize wr.alloc (.cells #[x.1] 27) = W2 at HIx HXx HGx ⊢
            generalize wr.heap.size = gb at HGx hob ⊢
            refine stD_ (S := (fun W' => W'.heap[f]? = some (.cells #[.slice Aw es.length cw, .int .i64 most, st] 226 (0, 0)) ∧ W'.heap[gb]? = some (.cells #[x.1] 27 (0, 0)))) [11] 12 #[false, false, false, false, false, false, false, false, false, false, false, false] (by kernel_rfl) rfl (by rfl) ⟨HIx.out.feed.blk, HGx.out⟩ (fun hHeld => ?_)
            refine tkT_ 0 (some 68) #[true, false, false, false, false, false, false, false, false, false, false, false] (v := ?_) (a' := ?_) rfl rfl (by kernel_rfl) (fun _ _ _ h => h) (yieldsIf_run rfl ?_) hHeld ?_ ?_
            rotate_left
            · intro w'
              go_simp
              with_reducible rfl
            rotate_left
            · simp only [Act.put, List.setIfInBounds_toArray, List.set_cons_zero, List.set_cons_succ]
              rfl
            refine tkT_ 1 (some 69) #[true, true, false, false, false, false, false, false, false, false, false, false] (v := ?_) (a' := ?_) rfl rfl (by kernel_rfl) (fun _ _ _ h => h) (yieldsIf_run rfl ?_) hHeld ?_ ?_
            rotate_left
            · intro w'
              go_simp
              with_reducible rfl
            rotate_left
            · simp only [Act.put, List.setIfInBounds_toArray, List.set_cons_zero, List.set_cons_succ]
              rfl
            refine tkT_ 2 (some 70) #[true, true, true, false, false, false, false, false, false, false, false, false] (v := ?_) (a' := ?_) rfl rfl (by kernel_rfl) (fun _ _ _ h => h) (yieldsIf_run rfl ?_) hHeld ?_ ?_
            rotate_left
            · intro w'
              go_simp
              with_reducible rfl
            rotate_left
            · simp only [Act.put, List.setIfInBounds_toArray, List.set_cons_zero, List.set_cons_succ]
              rfl
            refine tkT_ 3 (some 71) #[true, true, true, true, false, false, false, false, false, false, false, false] (v := ?_) (a' := ?_) rfl rfl (by kernel_rfl) (fun _ _ _ h => h) (yieldsIf_run rfl ?_) hHeld ?_ ?_
            rotate_left
            · intro w'
              go_simp
              with_reducible rfl
            rotate_left
            · simp only [Act.put, List.setIfInBounds_toArray, List.set_cons_zero, List.set_cons_succ]
              rfl
            refine tkT_ 4 (some 72) #[true, true, true, true, true, false, false, false, false, false, false, false] rfl rfl (by kernel_rfl) (fun _ _ _ h => h) (yieldsIf_cell rfl 109 (.tmp 71) rfl ⟨f, 0, none⟩ rfl (.slice Aw es.length cw) _ (fun W' h => cell_block h.1 rfl) Tryz.underlying109 rfl) hHeld (a' := ?_) ?_ ?_
            rotate_left
            · simp only [Act.put, List.setIfInBounds_toArray, List.set_cons_zero, List.set_cons_succ]
              rfl
            refine tkT_ 5 (some 73) #[true, true, true, true, true, true, false, false, false, false, false, false] rfl rfl (by kernel_rfl) (fun _ _ _ h => h) (yieldsIf_tipb rfl (.tmp 14) rfl gb rfl x.1 (fun W' h => h.2)) hHeld (a' := ?_) ?_ ?_
            rotate_left
            · simp only [Act.put, List.setIfInBounds_toArray, List.set_cons_zero, List.set_cons_succ]
              rfl
            refine callD_ 6 (some 74) #[true, true, true, true, true, true, true, false, false, false, false, false] rfl rfl (by kernel_rfl) rfl 170 _ (by kernel_rfl) (fof_any W2.drew 2 x.1 x.2 (hdrs D) _ HXI.out.2 (HXx.out.below (Below.refl _ W2).drew)) ?_
            rintro e w4 ⟨rfl, hb4⟩
            have hbW : Below W2.heap.size W2 w4 := (Below.refl _ W2).drew.trans hb4
            have HI4 := Lib.hid (HIx.out.next hbW)
            have HG4 := Lib.hid ((hbW.block _ (Array.getElem?_eq_some_iff.1 HGx.out).1).trans HGx.out)
            have hb4s : base ≤ w4.heap.size := Nat.le_trans hb1s (HI4.out.chg.size)
            have hl32 : (es.length + 1) * 32 ≤ 140737488355328 := by omega
            refine ⟨_, rfl, (And.intro HI4.out.feed.blk HG4.out), fun hHeld => ⟨?_, ?_, ?_⟩⟩
            rotate_left
            · simp only [Act.put, List.setIfInBounds_toArray, List.set_cons_zero, List.set_cons_succ]
              rfl
            have hHeld := (And.intro ((heap_alloc_old w4 (.cells (evOf (hdrs D) 2 x.2).cells.toArray 117) HI4.out.feed.lt).trans HI4.out.feed.blk) ((heap_alloc_old w4 (.cells (evOf (hdrs D) 2 x.2).cells.toArray 117) (Array.getElem?_eq_some_iff.1 HG4.out).1).trans HG4.out))
            refine valD_ 7 (some 75) #[true, true, true, true, true, true, true, true, false, false, false, false] rfl rfl (by kernel_rfl) rfl ((.slice (some ⟨w4.heap.size, 0, none⟩) 1 1)) ((w4.alloc (.cells (evOf (hdrs D) 2 x.2).cells.toArray 117))) (exec_slice1 109 117 (.tmp 74) rfl (evOf (hdrs D) 2 x.2).cells.toArray rfl _ 3 32 Tryz.underlying109 ev_info evZ_cells rfl (by decide) (by decide)) (fun _ => hHeld) (a' := ?_) ?_ ?_
            rotate_left
            · simp only [Act.put, List.setIfInBounds_toArray, List.set_cons_zero, List.set_cons_succ]
              rfl
            refine stepD_ 8 (some 76) #[true, true, true, true, true, true, true, true, true, false, false, false] rfl rfl (by kernel_rfl) rfl (exec_app1 (W := w4) (evOf (hdrs D) 2 x.2).cells.toArray base (.tmp 72) (.tmp 75) 109 117 _ 3 32 rfl Tryz.underlying109 ev_info evZ_cells (by decide) (by decide) (.slice Aw es.length cw) es.length _ rfl rfl rfl (evE.one (evOf (hdrs D) 2 x.2)) HI4.out.feed.row hb4s hl32) ?_
            rintro v5 w5 ⟨ho5, hg5, hat5⟩
            have HA5 := Lib.hid (HI4.out.app hb1s (HI.out.feed.blk |> fun _ => hf1lt) ho5 hg5 hat5 (by omega))
            obtain ⟨A5, c5, rfl, -⟩ := own_slice ho5
            have HF5 := Lib.hid ((hg5.block _ HI4.out.feed.lt fun e => HI4.out.feed.ne e.symm).trans HI4.out.feed.blk)
            have HG5 := Lib.hid ((hg5.block _ (Array.getElem?_eq_some_iff.1 HG4.out).1 fun e => hob e.symm).trans HG4.out)
            have hHeld := (And.intro HF5.out HG5.out)
            refine ⟨(fun _ => hHeld), ?_, ?_, ?_⟩
            rotate_left
            · simp only [Act.put, List.setIfInBounds_toArray, List.set_cons_zero, List.set_cons_succ]
              rfl
            refine tkT_ 9 (some 77) #[true, true, true, true, true, true, true, true, true, true, false, false] (v := ?_) (a' := ?_) rfl rfl (by kernel_rfl) (fun _ _ _ h => h) (yieldsIf_run rfl ?_) hHeld ?_ ?_
            rotate_left
            · intro w'
              go_simp
              with_reducible rfl
            rotate_left
            · simp only [Act.put, List.setIfInBounds_toArray, List.set_cons_zero, List.set_cons_succ]
              rfl
            refine tkT_ 10 (some 78) #[true, true, true, true, true, true, true, true, true, true, true, false] (v := ?_) (a' := ?_) rfl rfl (by kernel_rfl) (fun _ _ _ h => h) (yieldsIf_run rfl ?_) hHeld ?_ ?_
            rotate_left
            · intro w'
              go_simp
              with_reducible rfl
            rotate_left
            · simp only [Act.put, List.setIfInBounds_toArray, List.set_cons_zero, List.set_cons_succ]
              rfl
            refine skD_ 11 #[true, true, true, true, true, true, true, true, true, true, true, true] rfl rfl (by kernel_rfl) rfl ((w5.setRow f #[.slice A5 (es.length + 1) c5, .int .i64 most, st])) (exec_store 109 (.tmp 78) (.tmp 76) rfl f 0 rfl _ rfl (run_setEvs w5 f _ _ _ _ rfl HF5.out)) (fun h => absurd (by decide) h) ?_
            refine doneD_ (by kernel_rfl) ?_ _
            change Exit.inBlock _ _ _ _ _
            go_wp2
            go_roundw
            case rel =>
              refine ⟨j + 1, .slice A5 (es.length + 1) c5, by omega, by go_num, ?_⟩
              rw [HMAP.out, ← List.append_assoc, HES.out]
              exact HA5.out
            case measure => simp [intOf]; omega
          · have hje : j = us.length := by omega
            subst hje
            have HJ := Lib.hid (show PuI base w1 wr f (.slice Av evs.length cv) v' ((evs ++ ds.map fun x => evOf (hdrs D) 1 x.2) ++ us.map fun x => evOf (hdrs D) 2 x.2) most st from by have := HI.out; rw [List.take_length] at this; exact this)
            go_wp2
            go_ret
            refine ⟨v', true, ?_, rfl, HCH0.out.trans HJ.out.chg, ?_, ?_⟩
            · rw [HND.out.1, HND.out.2]; constructor
              · intro _; omega
              · intro _; rfl
            · rcases HJ.out.own with he | ⟨b, he, hb⟩
              · exact .inl he
              · exact .inr ⟨b, he, Nat.le_trans hz1 hb⟩
            · rw [if_pos rfl, ← HDM.out, ← HUM.out, List.map_map, List.map_map]
              exact HJ.out.feed
  · have hfit2 : most < (evs.length : Int) + ds.length + us.length := by omega
    refine st_ (S := (fun W' => W'.heap[f]? = some (.cells #[.slice Av evs.length cv, .int .i64 most, st] 226 (0, 0)))) 16 #[false, false, false, false, false, false, false, false, false, false, false, false, false, false, false, false] (by kernel_rfl) rfl (by rfl) HF1.out.blk (fun hHeld => ?_)
    refine tk_ 0 (some 22) #[true, false, false, false, false, false, false, false, false, false, false, false, false, false, false, false] (v := ?_) (a' := ?_) rfl rfl (by kernel_rfl) (fun _ _ _ h => h) (yieldsIf_run rfl ?_) hHeld ?_ ?_
    rotate_left
    · intro w'
      go_simp
      with_reducible rfl
    rotate_left
    · simp only [Act.put, List.setIfInBounds_toArray, List.set_cons_zero, List.set_cons_succ]
      rfl
    refine tk_ 1 (some 23) #[true, true, false, false, false, false, false, false, false, false, false, false, false, false, false, false] (v := ?_) (a' := ?_) rfl rfl (by kernel_rfl) (fun _ _ _ h => h) (yieldsIf_run rfl ?_) hHeld ?_ ?_
    rotate_left
    · intro w'
      go_simp
      with_reducible rfl
    rotate_left
    · simp only [Act.put, List.setIfInBounds_toArray, List.set_cons_zero, List.set_cons_succ]
      rfl
    refine tk_ 2 (some 24) #[true, true, true, false, false, false, false, false, false, false, false, false, false, false, false, false] (v := ?_) (a' := ?_) rfl rfl (by kernel_rfl) (fun _ _ _ h => h) (yieldsIf_run rfl ?_) hHeld ?_ ?_
    rotate_left
    · intro w'
      go_simp
      with_reducible rfl
    rotate_left
    · simp only [Act.put, List.setIfInBounds_toArray, List.set_cons_zero, List.set_cons_succ]
      rfl
    refine tk_ 3 (some 25) #[true, true, true, true, false, false, false, false, false, false, false, false, false, false, false, false] rfl rfl (by kernel_rfl) (fun _ _ _ h => h) (yieldsIf_cell rfl 109 (.tmp 24) rfl ⟨f, 0, none⟩ rfl (.slice Av evs.length cv) _ (fun W' h => cell_block h rfl) Tryz.underlying109 rfl) hHeld (a' := ?_) ?_ ?_
    rotate_left
    · simp only [Act.put, List.setIfInBounds_toArray, List.set_cons_zero, List.set_cons_succ]
      rfl
    refine tk_ 4 (some 26) #[true, true, true, true, true, false, false, false, false, false, false, false, false, false, false, false] (v := ?_) (a' := ?_) rfl rfl (by kernel_rfl) (fun _ _ _ h => h) (yieldsIf_run rfl ?_) hHeld ?_ ?_
    rotate_left
    · intro w'
      go_simp
      with_reducible rfl
    rotate_left
    · simp only [Act.put, List.setIfInBounds_toArray, List.set_cons_zero, List.set_cons_succ]
      rfl
    refine tk_ 5 (some 27) #[true, true, true, true, true, true, false, false, false, false, false, false, false, false, false, false] (v := ?_) (a' := ?_) rfl rfl (by kernel_rfl) (fun _ _ _ h => h) (yieldsIf_run rfl ?_) hHeld ?_ ?_
    rotate_left
    · intro w'
      go_simp
      with_reducible rfl
    rotate_left
    · simp only [Act.put, List.setIfInBounds_toArray, List.set_cons_zero, List.set_cons_succ]
      rfl
    refine tk_ 6 (some 28) #[true, true, true, true, true, true, true, false, false, false, false, false, false, false, false, false] (v := ?_) (a' := ?_) rfl rfl (by kernel_rfl) (fun _ _ _ h => h) (yieldsIf_run rfl ?_) hHeld ?_ ?_
    rotate_left
    · intro w'
      go_simp
      with_reducible rfl
    rotate_left
    · simp only [Act.put, List.setIfInBounds_toArray, List.set_cons_zero, List.set_cons_succ]
      rfl
    refine tk_ 7 (some 29) #[true, true, true, true, true, true, true, true, false, false, false, false, false, false, false, false] rfl rfl (by kernel_rfl) (fun _ _ _ h => h) (yieldsIf_run (v := .int .i64 (evs.length + ds.length)) rfl fun W' => (show _ = Result.ok (Next.value (.int .i64 (IntKind.i64.wrap ((evs.length : Int) + ds.length)))) W' from rfl).trans (by rw [IntWalk.i64_in _ (by omega)])) hHeld (a' := ?_) ?_ ?_
    rotate_left
    · simp only [Act.put, List.setIfInBounds_toArray, List.set_cons_zero, List.set_cons_succ]
      rfl
    refine tk_ 8 (some 30) #[true, true, true, true, true, true, true, true, true, false, false, false, false, false, false, false] (v := ?_) (a' := ?_) rfl rfl (by kernel_rfl) (fun _ _ _ h => h) (yieldsIf_run rfl ?_) hHeld ?_ ?_
    rotate_left
    · intro w'
      go_simp
      with_reducible rfl
    rotate_left
    · simp only [Act.put, List.setIfInBounds_toArray, List.set_cons_zero, List.set_cons_succ]
      rfl
    refine tk_ 9 (some 31) #[true, true, true, true, true, true, true, true, true, true, false, false, false, false, false, false] (v := ?_) (a' := ?_) rfl rfl (by kernel_rfl) (fun _ _ _ h => h) (yieldsIf_run rfl ?_) hHeld ?_ ?_
    rotate_left
    · intro w'
      go_simp
      with_reducible rfl
    rotate_left
    · simp only [Act.put, List.setIfInBounds_toArray, List.set_cons_zero, List.set_cons_succ]
      rfl
    refine tk_ 10 (some 32) #[true, true, true, true, true, true, true, true, true, true, true, false, false, false, false, false] rfl rfl (by kernel_rfl) (fun _ _ _ h => h) (yieldsIf_run (v := .int .i64 (evs.length + ds.length + us.length)) rfl fun W' => (show _ = Result.ok (Next.value (.int .i64 (IntKind.i64.wrap ((evs.length : Int) + ds.length + us.length)))) W' from rfl).trans (by rw [IntWalk.i64_in _ (by omega)])) hHeld (a' := ?_) ?_ ?_
    rotate_left
    · simp only [Act.put, List.setIfInBounds_toArray, List.set_cons_zero, List.set_cons_succ]
      rfl
    refine tk_ 11 (some 33) #[true, true, true, true, true, true, true, true, true, true, true, true, false, false, false, false] (v := ?_) (a' := ?_) rfl rfl (by kernel_rfl) (fun _ _ _ h => h) (yieldsIf_run rfl ?_) hHeld ?_ ?_
    rotate_left
    · intro w'
      go_simp
      with_reducible rfl
    rotate_left
    · simp only [Act.put, List.setIfInBounds_toArray, List.set_cons_zero, List.set_cons_succ]
      rfl
    refine tk_ 12 (some 34) #[true, true, true, true, true, true, true, true, true, true, true, true, true, false, false, false] (v := ?_) (a' := ?_) rfl rfl (by kernel_rfl) (fun _ _ _ h => h) (yieldsIf_run rfl ?_) hHeld ?_ ?_
    rotate_left
    · intro w'
      go_simp
      with_reducible rfl
    rotate_left
    · simp only [Act.put, List.setIfInBounds_toArray, List.set_cons_zero, List.set_cons_succ]
      rfl
    refine tk_ 13 (some 35) #[true, true, true, true, true, true, true, true, true, true, true, true, true, true, false, false] (v := ?_) (a' := ?_) rfl rfl (by kernel_rfl) (fun _ _ _ h => h) (yieldsIf_run rfl ?_) hHeld ?_ ?_
    rotate_left
    · intro w'
      go_simp
      with_reducible rfl
    rotate_left
    · simp only [Act.put, List.setIfInBounds_toArray, List.set_cons_zero, List.set_cons_succ]
      rfl
    refine tk_ 14 (some 36) #[true, true, true, true, true, true, true, true, true, true, true, true, true, true, true, false] rfl rfl (by kernel_rfl) (fun _ _ _ h => h) (yieldsIf_cell rfl 3 (.tmp 35) rfl ⟨f, 1, none⟩ rfl (.int .i64 most) _ (fun W' h => cell_block h rfl) Tryz.underlying3 rfl) hHeld (a' := ?_) ?_ ?_
    rotate_left
    · simp only [Act.put, List.setIfInBounds_toArray, List.set_cons_zero, List.set_cons_succ]
      rfl
    refine tk_ 15 (some 37) #[true, true, true, true, true, true, true, true, true, true, true, true, true, true, true, true] rfl rfl (by kernel_rfl) (fun _ _ _ h => h) (yieldsIf_run (v := .bool true) rfl fun W' => by go_simp) hHeld (a' := ?_) ?_ ?_
    rotate_left
    · simp only [Act.put, List.setIfInBounds_toArray, List.set_cons_zero, List.set_cons_succ]
      rfl
    refine wpAnyH_done (by kernel_rfl) ?_ _
    change Exit.then _ _ _ _ _
    have HBVx := Lib.hid (HBV.out _ HB1.out.below)
    have hz2 : Below w1.heap.size w1 w1.drew := (Below.refl _ w1).drew
    have HOV := Lib.hid (fof_any w1.drew 3 bv B (hdrs D) _ hB (HBVx.out.below hz2))
    have HBX := Lib.hid (HB1.out.next hz2)
    go_wp2_with (first
      | (refine wpl_tip rfl _ rfl _ rfl _ HBX.out.b1 ?_)
      | (go_at_call 170; refine HOV.out.mono ?_; rintro e w4 ⟨rfl, hb4⟩; have HF4 := Lib.hid ((HF1.out.below hz2).below hb4); have HB4 := Lib.hid (hz2.trans hb4); clear hb4)
      | (refine wpl_slice1 rfl 109 117 (.tmp 40) rfl (evOf (hdrs D) 3 B).cells.toArray rfl _ 3 32 Tryz.underlying109 ev_info evZ_cells rfl (by decide) (by decide) ?_)
      | (refine wpl_setEvs rfl (.tmp 43) (.tmp 41) rfl f rfl _ _ _ _ rfl rfl ((heap_alloc_old w4 (.cells (evOf (hdrs D) 3 B).cells.toArray 117) HF4.out.lt).trans HF4.out.blk) ?_))
    go_ret
    have hba : Below w4.heap.size w4 (w4.alloc (.cells (evOf (hdrs D) 3 B).cells.toArray 117)) := (Below.refl _ _).alloc (Nat.le_refl _) _
    have hFa := HF4.out.below hba
    have hg : Below w.heap.size w w4 := HB1.out.below.trans (HB4.out.mono hz1)
    have hz4 := hg.size
    have hgA := hg.trans (hba.mono hz4)
    have hlt4 : f < w4.heap.size := HF4.out.lt
    refine ⟨.slice (some ⟨w4.heap.size, 0, none⟩) 1 1, false, ?_, rfl, ⟨?_, ?_, ?_, ?_, fun k hk hs => ?_⟩, .inr ⟨w4.heap.size, rfl, hz4⟩, ?_⟩
    · rw [HND.out.1, HND.out.2]
      constructor
      · intro e; cases e
      · intro e; omega
    · exact hgA.os
    · exact hgA.tape
    · exact hgA.output
    · simp; omega
    · exact (heap_setRow_ne _ _ _ _ fun e => hs (.inl e)).trans ((hba.block k (by omega)).trans (hg.block k hk))
    · rw [if_neg (by decide)]
      refine ⟨setRow_heap _ _ _ _ _ _ hFa.blk, own_setRow _ ?_ fun k hk => ?_, fun e => ?_, by simp⟩
      · rw [evE.flat_one]
        exact ⟨rfl, .inr ⟨w4.heap.size, 1, (evOf (hdrs D) 3 B).cells.toArray, rfl, Nat.le_trans hbase hz4, heap_alloc_new w4 _, Nat.le_refl _, by decide, rfl, rfl⟩⟩
      · have : w4.heap.size = k := Option.some.inj hk
        omega
      · have : w4.heap.size = f := Option.some.inj e
        omega
end Go.Proofs.YtpehmlfghddnaaaGreatDoor
