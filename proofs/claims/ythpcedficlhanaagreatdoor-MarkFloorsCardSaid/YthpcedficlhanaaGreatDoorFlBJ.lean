/- The genesis tipset in a dag. One of all tipsets, by a number: coxswainlaw14.Of at names, MarkFloors' own function. 'd, l, all := Made(..)', whichever of them are variables that are made at any time. coxswainlaw18.awake. -/
import Derived.Test.YthpcedficlhanaaGreatDoorFlBI
namespace Go.Proofs.YthpcedficlhanaaGreatDoor
open Go.RowKit Go.Maps

theorem tip_single {G : List Hdr} {i : ID} (hh : hasG G i = true) : TipOf G [i] := by
  obtain ⟨x, hx⟩ := hasG_get hh
  refine ⟨rfl, by simp, by simp, ?_⟩
  unfold tipG
  rw [if_pos (by simp [hh])]
  have hv : ([i].filterMap fun i => (getG G i).map blkG) = [blkG x] := by simp [hx]
  rw [hv, if_pos (tipB_one _)]
theorem GoodG.root {G : List Hdr} (g : GoodG G) : hasG G rootID = true := hasG_iff.2 ⟨genH, g.gen, rfl⟩
theorem GoodG.root_tip {G : List Hdr} (g : GoodG G) : TipOf G [rootID] := tip_single g.root
theorem GoodG.root_get {G : List Hdr} (g : GoodG G) : getG G rootID = some genH := by
  induction g with
  | start =>
    unfold getG
    rw [List.find?_cons_of_pos (by simp [rootID])]
  | add g _ ih => rw [getG_app g.root]; exact ih
theorem gen_is (w : World) (ht : Tab w) {G : List Hdr} (g : GoodG G) :
    Calls Tryz.prog 71 #[] w fun e w' => ∃ t, e = .returned (tipV t) ∧ TipIs (fun k => w.heap.size ≤ k) w' G t [rootID] ∧ Below w.heap.size w w' := by
  refine (tgenesis_any w ht).mono ?_
  rintro e w' ⟨t, y, hy, rfl, h1, h2, hb⟩
  refine ⟨t, rfl, ⟨[⟨rootID, y⟩], ⟨h1, by simp⟩, rfl, fun b hb => ?_⟩, hb⟩
  rw [List.mem_singleton.1 hb]
  exact ⟨by show getG G rootID = some y.h; rw [hy]; exact g.root_get, h2⟩
theorem descG_self {G : List Hdr} (g : GoodG G) {T : List ID} (h : TipOf G T) : descG G T T = true := descG_iff.2 (g.chain_self h)
end Go.Proofs.YthpcedficlhanaaGreatDoor
namespace Go.Proofs.YthpcedficlhanaaGreatDoor
open Go.RowKit Go.Maps

theorem of_is (w : World) (p b1 b2 : Nat) (D : List LB) (okx ok : Nat → Prop) (L : List LRH) (h : DagAt okx w p b1 b2 D) (hf : FineD D) (hB : Both D L) (x : LNS) (hx : x.At ok w) (hn : NamedIn L x.ns) :
    ∃ T : List ID, TipOf (hdrs D) T ∧ x.ns = T.map Subtype.val ∧ Calls Tryz.prog 65 #[.pointer (some ⟨p, 0, none⟩), x.v] w fun e w' => ∃ t, e = .returned (tipV t) ∧ TipIs (fun k => w.heap.size ≤ k ∨ okx k) w' (hdrs D) t T ∧ Below w.heap.size w w' := by
  obtain ⟨T, hT, hk, hxT⟩ := named_tip hB hn
  refine ⟨T, hT, hxT, (of14_any w p b1 b2 D okx ok h hf x hx T hT hxT hk).mono ?_⟩
  rintro e w' ⟨t, rfl, ht, hb⟩
  exact ⟨t, rfl, TipIs.of_set h.ids (.inr hT) (h.below hb) ht, hb⟩
/-- A dag, the document's list, and all tipsets that are named in it. -/
structure AllAt (ok : Nat → Prop) (w : World) (p b1 b2 : Nat) (D : List LB) (L : List LRH) (va : Value) (all : List LNS) : Prop where
  dag : DagAt ok w p b1 b2 D
  fine : FineD D
  both : Both D L
  row : Sl nsE ok w va all
  at_ : ∀ x ∈ all, x.At ok w ∧ NamedIn L x.ns
  pos : 0 < all.length
  len : all.length ≤ 1000
section
variable {ok ok' : Nat → Prop} {w w' : World} {p b1 b2 : Nat} {D : List LB} {L : List LRH} {va : Value} {all : List LNS}
theorem AllAt.below (h : AllAt ok w p b1 b2 D L va all) (hb : Below w.heap.size w w') : AllAt ok w' p b1 b2 D L va all :=
  ⟨h.dag.below hb, h.fine, h.both, h.row.below hb, fun x hx => ⟨Sl.below (h.at_ x hx).1 hb, (h.at_ x hx).2⟩, h.pos, h.len⟩
theorem AllAt.mono (h : AllAt ok w p b1 b2 D L va all) (hk : ∀ k, ok k → ok' k) : AllAt ok' w p b1 b2 D L va all :=
  ⟨h.dag.mono hk, h.fine, h.both, h.row.mono hk, fun x hx => ⟨Sl.mono (h.at_ x hx).1 hk, (h.at_ x hx).2⟩, h.pos, h.len⟩
theorem AllAt.fr (h : AllAt ok w p b1 b2 D L va all) (hf : Fr ok w w') : AllAt ok w' p b1 b2 D L va all :=
  ⟨h.dag.fr hf, h.fine, h.both, h.row.fr hf, fun x hx => ⟨Sl.fr (h.at_ x hx).1 hf, (h.at_ x hx).2⟩, h.pos, h.len⟩
theorem AllAt.old (h : AllAt ok w p b1 b2 D L va all) : AllAt (fun k => ok k ∧ k < w.heap.size) w p b1 b2 D L va all :=
  ⟨h.dag.old, h.fine, h.both, h.row.old, fun x hx => ⟨Sl.old (h.at_ x hx).1, (h.at_ x hx).2⟩, h.pos, h.len⟩
end
theorem exec_rem {o : Oper} {a : Act} {w : World} (ty T : TypeId) (px py : Operand) (ho : o.op = .binOp .rem ty px py T) (x y : Int) (hx : a.eval px = .int .i64 x) (hy : a.eval py = .int .i64 y) (h0 : y ≠ 0) (h1 : I64 (x.tmod y)) : (execOp a.eval o).run Tryz.prog w = .ok (.value (.int .i64 (x.tmod y))) w := by
  unfold execOp
  simp only [ho, hx, hy]
  go_simp
theorem pick_ix2 (x : Int) (n : Nat) (h0 : 0 < n) (h1 : n ≤ 1000) : ∃ r : Int, x.tmod n = r ∧ -(n : Int) < r ∧ r < n ∧ ∃ j : Nat, j < n ∧ (r + n).tmod n = (j : Int) := by
  have b1 : x.tmod n < n := Int.tmod_lt_of_pos x (by omega)
  have b2 : -(n : Int) < x.tmod n := by
    have := Int.tmod_lt_of_pos (-x) (b := (n : Int)) (by omega)
    rw [Int.neg_tmod] at this
    omega
  obtain ⟨j, hj, he⟩ := pick_ix x n h0 h1
  rw [IntWalk.wrap64_in _ (by omega)] at he
  exact ⟨_, rfl, b2, b1, j, hj, he⟩
section
variable {S : World → Prop} {ops : Array Oper}
theorem yieldsIf_rem {o : Oper} {a : Act} (hw : Region.wanted o (yielded ops a.tmps) = true) (ty T : TypeId) (px py : Operand) (ho : o.op = .binOp .rem ty px py T) (x y z : Int) (hx : a.eval px = .int .i64 x) (hy : a.eval py = .int .i64 y) (h0 : y ≠ 0) (hz : x.tmod y = z) (h1 : I64 z) : YieldsIf Tryz.prog ops S o (.int .i64 z) a :=
  yieldsIf_of hw fun w _ => by rw [exec_rem ty T px py ho x y hx hy h0 (by rw [hz]; exact h1), hz]
end

set_option maxRecDepth 100000 in
set_option maxHeartbeats 2000000 in
theorem of18_any (w : World) (gd ga p b1 b2 : Nat) (D : List LB) (L : List LRH) (ok : Nat → Prop) (va : Value) (all : List LNS) (hd : w.cell? ⟨gd, 0, none⟩ = some (.pointer (some ⟨p, 0, none⟩))) (ha : w.cell? ⟨ga, 0, none⟩ = some va) (h : AllAt ok w p b1 b2 D L va all) (x : Int) :
    Calls Tryz.prog 64 #[.int .i64 x, .pointer (some ⟨gd, 0, none⟩), .pointer (some ⟨ga, 0, none⟩)] w fun e w' => ∃ t T, e = .returned (tipV t) ∧ TipOf (hdrs D) T ∧ TipIs (fun k => w.heap.size ≤ k ∨ ok k) w' (hdrs D) t T ∧ Below w.heap.size w w' := by
  obtain ⟨r, hr, r1, r2, j, hj, hidx⟩ := pick_ix2 x all.length h.pos h.len
  obtain ⟨z, hz⟩ : ∃ z, all[j]? = some z := ⟨_, List.getElem?_eq_getElem hj⟩
  have hzm := List.mem_of_getElem? hz
  obtain ⟨A, c, rfl, hc, hm⟩ := h.row.form
  obtain ⟨bz, oz, rfl, hbz, -, hcz⟩ := h.row.at_ j z hz
  have HOF : Hid (∀ W, Below w.heap.size w W → ∃ T : List ID, TipOf (hdrs D) T ∧ Calls Tryz.prog 65 #[.pointer (some ⟨p, 0, none⟩), z.v] W fun e w' => ∃ t, e = .returned (tipV t) ∧ TipIs (fun k => W.heap.size ≤ k ∨ (ok k ∧ k < w.heap.size)) w' (hdrs D) t T ∧ Below W.heap.size W w') := Lib.hid fun W hb => by
    have h2 := h.old.below hb
    obtain ⟨T, h3, -, h4⟩ := of_is W p b1 b2 D _ _ L h2.dag h2.fine h2.both z (h2.at_ z hzm).1 (h2.at_ z hzm).2
    exact ⟨T, h3, h4⟩
  have hcell : w.cell? ⟨bz, oz + j, none⟩ = some z.v := by have := hcz 0 _ rfl; rwa [Nat.add_zero, show nsE.k = 1 from rfl, Nat.mul_one] at this
  have hpos := h.pos
  have hlen := h.len
  obtain ⟨n, hn⟩ : ∃ n, all.length = n := ⟨_, rfl⟩
  rw [hn] at hr r1 r2 hj hidx ha hpos hlen
  have hb0 : Below w.heap.size w (w.alloc (.cells #[.slice none 0 0] 28)) := (Below.refl _ w).alloc (Nat.le_refl _) _
  have HD := Lib.hid ((hb0.cell (cell_lt hd)).trans hd)
  have HA := Lib.hid ((hb0.cell (cell_lt ha)).trans ha)
  have HC := Lib.hid ((hb0.cell (cell_lt hcell)).trans hcell)
  have HB0 := Lib.hid hb0
  have HG0 : Hid ((w.alloc (.cells #[.slice none 0 0] 28)).heap[w.heap.size]? = some (.cells #[.slice none 0 0] 28 (0, 0))) := Lib.hid (heap_alloc_new w _)
  clear h hz hzm hcz hcell hd ha hb0 hc hm hbz hn
  go_enter Tryz.func64, Tryz.ntmps64
  go_upto_region 1 with fail
  generalize w.alloc (.cells #[.slice none 0 0] 28) = W0 at HD HA HC HB0 HG0 ⊢
  have HLT : Hid (w.heap.size < W0.heap.size) := Lib.hid (Array.getElem?_eq_some_iff.1 HG0.out).1
  refine stD_ (S := (fun W' => Below W0.heap.size W0 W')) [15] 16 #[false, false, false, false, false, false, false, false, false, false, false, false, false, false, false, false] (by kernel_rfl) rfl (by rfl) (Below.refl _ W0).drew (fun hHeld => ?_)
  refine tkD_ 0 (some 5) #[true, false, false, false, false, false, false, false, false, false, false, false, false, false, false, false] rfl rfl (by kernel_rfl) (fun _ _ _ h => h) (yieldsIf_cell rfl 56 (.tmp 1) rfl ⟨gd, 0, none⟩ rfl (.pointer (some ⟨p, 0, none⟩)) _ (fun W' h => (h.cell (cell_lt HD.out)).trans HD.out) Tryz.underlying56 rfl) hHeld (a' := ?_) ?_ ?_
  rotate_left
  · simp only [Act.put, List.setIfInBounds_toArray, List.set_cons_zero, List.set_cons_succ]
    rfl
  refine tkD_ 1 (some 6) #[true, true, false, false, false, false, false, false, false, false, false, false, false, false, false, false] rfl rfl (by kernel_rfl) (fun _ _ _ h => h) (yieldsIf_cell rfl 89 (.tmp 2) rfl ⟨ga, 0, none⟩ rfl (.slice (some ⟨bz, oz, none⟩) n c) _ (fun W' h => (h.cell (cell_lt HA.out)).trans HA.out) Tryz.underlying89 rfl) hHeld (a' := ?_) ?_ ?_
  rotate_left
  · simp only [Act.put, List.setIfInBounds_toArray, List.set_cons_zero, List.set_cons_succ]
    rfl
  refine tkD_ 2 (some 7) #[true, true, true, false, false, false, false, false, false, false, false, false, false, false, false, false] (v := ?_) (a' := ?_) rfl rfl (by kernel_rfl) (fun _ _ _ h => h) (yieldsIf_run rfl ?_) hHeld ?_ ?_
  rotate_left
  · intro w'
    go_simp
    with_reducible rfl
  rotate_left
  · simp only [Act.put, List.setIfInBounds_toArray, List.set_cons_zero, List.set_cons_succ]
    rfl
  refine tkD_ 3 (some 8) #[true, true, true, true, false, false, false, false, false, false, false, false, false, false, false, false] rfl rfl (by kernel_rfl) (fun _ _ _ h => h) (yieldsIf_cell rfl 89 (.tmp 2) rfl ⟨ga, 0, none⟩ rfl (.slice (some ⟨bz, oz, none⟩) n c) _ (fun W' h => (h.cell (cell_lt HA.out)).trans HA.out) Tryz.underlying89 rfl) hHeld (a' := ?_) ?_ ?_
  rotate_left
  · simp only [Act.put, List.setIfInBounds_toArray, List.set_cons_zero, List.set_cons_succ]
    rfl
  refine tkD_ 4 (some 9) #[true, true, true, true, true, false, false, false, false, false, false, false, false, false, false, false] (v := ?_) (a' := ?_) rfl rfl (by kernel_rfl) (fun _ _ _ h => h) (yieldsIf_run rfl ?_) hHeld ?_ ?_
  rotate_left
  · intro w'
    go_simp
    with_reducible rfl
  rotate_left
  · simp only [Act.put, List.setIfInBounds_toArray, List.set_cons_zero, List.set_cons_succ]
    rfl
  refine tkD_ 5 (some 10) #[true, true, true, true, true, true, false, false, false, false, false, false, false, false, false, false] rfl rfl (by kernel_rfl) (fun _ _ _ h => h) (yieldsIf_rem rfl 3 3 (.tmp 7) (.tmp 9) rfl x n r rfl rfl (by omega) hr (by constructor <;> omega)) hHeld (a' := ?_) ?_ ?_
  rotate_left
  · simp only [Act.put, List.setIfInBounds_toArray, List.set_cons_zero, List.set_cons_succ]
    rfl
  refine tkD_ 6 (some 11) #[true, true, true, true, true, true, true, false, false, false, false, false, false, false, false, false] rfl rfl (by kernel_rfl) (fun _ _ _ h => h) (yieldsIf_cell rfl 89 (.tmp 2) rfl ⟨ga, 0, none⟩ rfl (.slice (some ⟨bz, oz, none⟩) n c) _ (fun W' h => (h.cell (cell_lt HA.out)).trans HA.out) Tryz.underlying89 rfl) hHeld (a' := ?_) ?_ ?_
  rotate_left
  · simp only [Act.put, List.setIfInBounds_toArray, List.set_cons_zero, List.set_cons_succ]
    rfl
  refine tkD_ 7 (some 12) #[true, true, true, true, true, true, true, true, false, false, false, false, false, false, false, false] (v := ?_) (a' := ?_) rfl rfl (by kernel_rfl) (fun _ _ _ h => h) (yieldsIf_run rfl ?_) hHeld ?_ ?_
  rotate_left
  · intro w'
    go_simp
    with_reducible rfl
  rotate_left
  · simp only [Act.put, List.setIfInBounds_toArray, List.set_cons_zero, List.set_cons_succ]
    rfl
  refine tkD_ 8 (some 13) #[true, true, true, true, true, true, true, true, true, false, false, false, false, false, false, false] rfl rfl (by kernel_rfl) (fun _ _ _ h => h) (yieldsIf_run (v := .int .i64 (r + n)) rfl fun W' => (show _ = Result.ok (Next.value (.int .i64 (IntKind.i64.wrap (r + n)))) W' from rfl).trans (by rw [IntWalk.i64_in _ (by omega)])) hHeld (a' := ?_) ?_ ?_
  rotate_left
  · simp only [Act.put, List.setIfInBounds_toArray, List.set_cons_zero, List.set_cons_succ]
    rfl
  refine tkD_ 9 (some 14) #[true, true, true, true, true, true, true, true, true, true, false, false, false, false, false, false] rfl rfl (by kernel_rfl) (fun _ _ _ h => h) (yieldsIf_cell rfl 89 (.tmp 2) rfl ⟨ga, 0, none⟩ rfl (.slice (some ⟨bz, oz, none⟩) n c) _ (fun W' h => (h.cell (cell_lt HA.out)).trans HA.out) Tryz.underlying89 rfl) hHeld (a' := ?_) ?_ ?_
  rotate_left
  · simp only [Act.put, List.setIfInBounds_toArray, List.set_cons_zero, List.set_cons_succ]
    rfl
  refine tkD_ 10 (some 15) #[true, true, true, true, true, true, true, true, true, true, true, false, false, false, false, false] (v := ?_) (a' := ?_) rfl rfl (by kernel_rfl) (fun _ _ _ h => h) (yieldsIf_run rfl ?_) hHeld ?_ ?_
  rotate_left
  · intro w'
    go_simp
    with_reducible rfl
  rotate_left
  · simp only [Act.put, List.setIfInBounds_toArray, List.set_cons_zero, List.set_cons_succ]
    rfl
  refine tkD_ 11 (some 16) #[true, true, true, true, true, true, true, true, true, true, true, true, false, false, false, false] rfl rfl (by kernel_rfl) (fun _ _ _ h => h) (yieldsIf_rem rfl 3 3 (.tmp 13) (.tmp 15) rfl (r + n) n j rfl rfl (by omega) hidx (by constructor <;> omega)) hHeld (a' := ?_) ?_ ?_
  rotate_left
  · simp only [Act.put, List.setIfInBounds_toArray, List.set_cons_zero, List.set_cons_succ]
    rfl
  refine tkD_ 12 (some 17) #[true, true, true, true, true, true, true, true, true, true, true, true, true, false, false, false] (v := ?_) (a' := ?_) rfl rfl (by kernel_rfl) (fun _ _ _ h => h) (yieldsIf_run rfl ?_) hHeld ?_ ?_
  rotate_left
  · intro w'
    go_simp
    with_reducible rfl
  rotate_left
  · simp only [Act.put, List.setIfInBounds_toArray, List.set_cons_zero, List.set_cons_succ]
    rfl
  refine tkD_ 13 (some 18) #[true, true, true, true, true, true, true, true, true, true, true, true, true, true, false, false] rfl rfl (by kernel_rfl) (fun _ _ _ h => h) (yieldsIf_cell rfl 51 (.tmp 17) rfl ⟨bz, oz + j, none⟩ rfl z.v _ (fun W' h => (h.cell (cell_lt HC.out)).trans HC.out) Tryz.underlying51 rfl) hHeld (a' := ?_) ?_ ?_
  rotate_left
  · simp only [Act.put, List.setIfInBounds_toArray, List.set_cons_zero, List.set_cons_succ]
    rfl
  refine callD_ 14 (some 19) #[true, true, true, true, true, true, true, true, true, true, true, true, true, true, true, false] rfl rfl (by kernel_rfl) rfl 65 _ (by kernel_rfl) ((HOF.out _ (HB0.out.trans (hHeld.mono HB0.out.size))).choose_spec.2) ?_
  rintro e w1 ⟨t, rfl, ht, hb1⟩
  have HT := Lib.hid ht
  have HB1 := Lib.hid (hHeld.trans (hb1.mono hHeld.size))
  have HTO := Lib.hid (HOF.out _ (HB0.out.trans (hHeld.mono HB0.out.size))).choose_spec.1
  have HSZ := Lib.hid hHeld.size
  have HG1 : Hid (w1.heap[w.heap.size]? = some (.cells #[.slice none 0 0] 28 (0, 0))) := Lib.hid ((HB1.out.block _ HLT.out).trans HG0.out)
  refine ⟨_, rfl, HB1.out, fun hHeld => ⟨?_, ?_, ?_⟩⟩
  rotate_left
  · simp only [Act.put, List.setIfInBounds_toArray, List.set_cons_zero, List.set_cons_succ]
    rfl
  refine skD_ 15 #[true, true, true, true, true, true, true, true, true, true, true, true, true, true, true, true] rfl rfl (by kernel_rfl) rfl ((w1.setRow w.heap.size #[t])) (exec_store 28 (.tmp 4) (.tmp 19) rfl w.heap.size 0 rfl _ rfl (run_storeVar_block w1 w.heap.size 28 28 [t] #[.slice none 0 0] HG1.out rfl HT.out.one tip_size)) (fun h => absurd (by decide) h) ?_
  refine doneD_ (by kernel_rfl) ?_ _
  change Exit.then _ _ _ _ _
  go_wp2
  refine bodyPost_ret (results_cell_row rfl _ _ w.heap.size 28 #[t] (0, 0) _ rfl (setRow_heap _ w.heap.size _ _ _ _ HG1.out) Tryz.underlying28 rfl tip_size) rfl ?_
  have hlt : w.heap.size < W0.drew.heap.size := Nat.lt_of_lt_of_le HLT.out HSZ.out
  refine ⟨t, _, rfl, HTO.out, (HT.out.set (fun k hk => ?_) _).mono fun k hk => ?_, below_setRow (HB0.out.trans (HB1.out.mono HB0.out.size)) (Nat.le_refl _) _⟩
  · rcases hk with hk | hk <;> omega
  · rcases hk with hk | hk
    · exact .inl (by omega)
    · exact .inr hk.1
end Go.Proofs.YthpcedficlhanaaGreatDoor
namespace Go.Proofs.YthpcedficlhanaaGreatDoor
open Go.RowKit Go.Maps

theorem run_storeVar_one {P : Program} (w : World) (g : Nat) (ty T : TypeId) (v u : Value) (hg : w.heap[g]? = some (.cells #[u] T (0, 0))) (h1 : v.oneCell' = true) (hi : (P.info? ty).map (·.size) = some 1) :
    (storeVar ty ⟨g, 0, none⟩ v).run P w = .ok () (w.setRow g #[v]) := by
  have hv : v.cells = #[v] := by cases v <;> first | rfl | cases h1
  cases hq : P.info? ty with
  | none => simp [hq] at hi
  | some i =>
    have hs : i.size = [v].length := by simpa [hq] using hi
    have := run_storeCells_from (P := P) g T [v] 0 #[u] w hg (by simp) (fun u hu => by rw [List.mem_singleton.1 hu]; exact h1)
    simpa [storeVar, sizeOf, typeInfo, hq, hs, hv] using this
theorem exec_extract {P : Program} {o : Oper} {a : Act} {w : World} (x : Operand) (k : Nat) (ho : o.op = .extract x k) (vs : Array Value) (hx : a.eval x = .tuple vs) (v : Value) (hv : vs[k]? = some v) : (execOp a.eval o).run P w = .ok (.value v) w := by
  unfold execOp
  simp [ho, hx, Instr.extract, hv, Sem.run_bind]
def FP.all (p b1 b2 : Nat) (D : List LB) (L : List LRH) (va : Value) (all : List LNS) : FP := ⟨fun ok w => AllAt ok w p b1 b2 D L va all, fun hf h => h.fr hf, fun h => h.old, fun hk h => h.mono hk⟩
/-- The document's list, as it lies. -/
def FP.lst (vl : Value) (L : List LRH) : FP := ⟨fun ok w => Sl rbE ok w vl L ∧ ∀ y ∈ L, y.At ok w, fun hf h => ⟨h.1.fr hf, fun y hy => Sl.fr (h.2 y hy) hf⟩, fun h => ⟨h.1.old, fun y hy => Sl.old (h.2 y hy)⟩, fun hk h => ⟨h.1.mono hk, fun y hy => Sl.mono (h.2 y hy) hk⟩⟩
structure MadeZ where
  p : Nat
  b1 : Nat
  b2 : Nat
  D : List LB
  L : List LRH
  vl : Value
  va : Value
  all : List LNS
/-- What Made answers. -/
def madeK (x : Value) : FP := FP.ex fun z : MadeZ => (FP.pure (x = .tuple #[.pointer (some ⟨z.p, 0, none⟩), z.vl, z.va])).and ((FP.all z.p z.b1 z.b2 z.D z.L z.va z.all).and (FP.lst z.vl z.L))
theorem madeK_iff {x : Value} {ok : Nat → Prop} {w : World} : (madeK x).K ok w ↔ ∃ z : MadeZ, x = .tuple #[.pointer (some ⟨z.p, 0, none⟩), z.vl, z.va] ∧ AllAt ok w z.p z.b1 z.b2 z.D z.L z.va z.all ∧ Sl rbE ok w z.vl z.L ∧ ∀ y ∈ z.L, y.At ok w := Iff.rfl
def rowsMade (c m e0 e1 e2 : Nat) : List RowE :=
  [(c, [], fun vs => madeK (vs c)), (m, [c], fun vs => FP.pure (vs m = vs c)),
   (e0, [m], fun vs => FP.pure (∀ x y z, vs m = .tuple #[x, y, z] → vs e0 = x)), (e1, [m], fun vs => FP.pure (∀ x y z, vs m = .tuple #[x, y, z] → vs e1 = y)), (e2, [m], fun vs => FP.pure (∀ x y z, vs m = .tuple #[x, y, z] → vs e2 = z))]
theorem rowsMade_hR (c m e0 e1 e2 : Nat) : ∀ r ∈ rowsMade c m e0 e1 e2, ∀ i v vs, i ≠ r.1 → i ∉ r.2.1 → r.2.2 (upd vs i v) = r.2.2 vs := by
  intro r hr i v vs h1 h2
  simp only [rowsMade, List.mem_cons, List.not_mem_nil, or_false] at hr
  rcases hr with rfl | rfl | rfl | rfl | rfl
  · show madeK (upd vs i v c) = madeK (vs c)
    rw [upd_ne (Ne.symm h1)]
  all_goals
    have h3 : c = c := rfl
    have h2' := fun e => h2 (List.mem_singleton.2 e)
    simp only [upd_ne (Ne.symm h1), upd_ne (Ne.symm h2')]
theorem made_is (w : World) (t : Value) (l : List LSD) (ok ok' : Nat → Prop) (hl : Sl sdE ok w t l) (hf : ∀ y ∈ l, y.At ok' w ∧ SeedOk y.s) (n : Nat) (hn : n ≤ 100) (ht : Tab w) :
    Calls Tryz.prog 62 #[t, .int .i64 n] w fun e w' => ∃ v, e = .returned v ∧ Below w.heap.size w w' ∧ (madeK v).K (fun k => w.heap.size ≤ k) w' := by
  refine (made_any2 w t l ok ok' hl hf n hn ht).mono ?_
  rintro e w' ⟨p, b1, b2, D, vh, hs, vl, L, va, all, rfl, hm, hL, hva, hall, hp, hal⟩
  exact ⟨_, rfl, hm.below, madeK_iff.2 ⟨⟨p, b1, b2, D, L, vl, va, all⟩, rfl, ⟨hm.dag, hm.fine, hm.both, hva, hall, hp, by show all.length ≤ 1000; omega⟩, hm.list, hm.lat⟩⟩
end Go.Proofs.YthpcedficlhanaaGreatDoor
namespace Go.Proofs.YthpcedficlhanaaGreatDoor
open Go.RowKit Go.Maps

/-- A tipset in a variable. -/
structure Box1 (w W : World) (g : Nat) (v : Value) : Prop where
  below : Below w.heap.size w W
  b0 : W.heap[g]? = some (.cells #[v] 28 (0, 0))
theorem Box1.next {w W W' : World} {g : Nat} {v : Value} (h : Box1 w W g v) (hb : Below W.heap.size W W') : Box1 w W' g v :=
  ⟨h.below.trans (hb.mono h.below.size), (hb.block _ (Array.getElem?_eq_some_iff.1 h.b0).1).trans h.b0⟩

set_option maxRecDepth 100000 in
set_option maxHeartbeats 4000000 in
theorem awake18_any (w : World) (ht : Tab w) :
    Calls Tryz.prog 61 #[] w fun e w' => e = .returned (.bool true) ∧ Below w.heap.size w w' := by
  have HT := Lib.hid ht
  clear ht
  have GG : GoodG [genH] := .start
  have GR : TipOf [genH] [rootID] := GG.root_tip
  go_enter Tryz.func61, Tryz.ntmps61
  go_upto_region 5 with (first
    | (go_at_call 36; refine (dnew_any w HT.out).mono ?_; rintro e w1 ⟨p, b1, b2, D, rfl, hb1, hd1, hf1, hh1, hl1⟩; have HB1 := Lib.hid hb1; have HD1 := Lib.hid hd1; have HF1 := Lib.hid hf1; have HH1 := Lib.hid hh1; have HP1 := Lib.hid (pnew_any w1 p b1 b2 D _ hd1 hf1 (by show GoodG (hdrs D); rw [hh1]; exact .start) 4); clear hb1 hd1 hf1 hh1 hl1)
    | (go_at_call 63; refine HP1.out.mono ?_; rintro e w2 ⟨pp, rfl, hpp, hp2, hb2⟩; have HPA := Lib.hid hp2; have HB2 := Lib.hid (HB1.out.trans (hb2.mono HB1.out.size)); clear hb2 hp2 hpp))
  go_upto_region 6 with (first
    | (go_at_call 71; refine (gen_is w2 (HT.out.below HB2.out) GG).mono ?_; rintro e w3 ⟨t, rfl, ht3, hb3⟩; have HT3 := Lib.hid ht3; have HB3 := Lib.hid (HB2.out.trans (hb3.mono HB2.out.size)); have HP3 := Lib.hid (HPA.out.below hb3); clear hb3 ht3)
    | (refine wpl_store_new rfl 28 _ _ rfl rfl [t] rfl _ _ rfl HT3.out.one tip_size ?_))
  have hb4 : Below w3.heap.size w3 (w3.alloc (.cells #[t] 28)) := (Below.refl _ _).alloc (Nat.le_refl _) _
  have HX : Hid (Box1 w (w3.alloc (.cells #[t] 28)) w3.heap.size t ∧ PathAt (fun k => w.heap.size ≤ k) (w3.alloc (.cells #[t] 28)) pp p b1 b2 D ∧ TipIs (fun k => w2.heap.size ≤ k) (w3.alloc (.cells #[t] 28)) [genH] t [rootID]) :=
    Lib.hid ⟨⟨HB3.out.alloc HB3.out.size _, heap_alloc_new w3 _⟩, HP3.out.below hb4, HT3.out.below hb4⟩
  clear hb4
  generalize w3.alloc (.cells #[t] 28) = W0 at HX ⊢
  generalize w3.heap.size = g at HX ⊢
  have hG : hdrs D = [genH] := HH1.out
  obtain ⟨kg, hkg⟩ : ∃ kg, keyB [rootID] = kg := ⟨_, rfl⟩
  have HK : Hid (∀ W, Below W0.heap.size W0 W → Calls Tryz.prog 34 #[tipV t] W fun e w' => e = .returned (.string kg) ∧ Below W.heap.size W w') := Lib.hid fun W hb => by rw [← hkg]; exact key_is (HX.out.2.2.below hb) (.inr GR)
  have HFL : Hid (∀ W, Below W0.heap.size W0 W → Calls Tryz.prog 68 #[.pointer (some ⟨pp, 0, none⟩), tipV t, tipV (.slice none 0 0)] W fun e w' => e = .returned (tipV t) ∧ Below W.heap.size W w') := Lib.hid fun W hb => by
    have h1 := mfloor_any W pp p b1 b2 D _ _ (fun _ => True) (HX.out.2.1.below hb) t [rootID] (by rw [hG]; exact GR) (by rw [hG]; exact HX.out.2.2.below hb) (.slice none 0 0) [] (.inl rfl) TipIs.zero
    rw [if_neg (by simp)] at h1
    exact h1
  have HM7 : Hid (∀ W, Below W0.heap.size W0 W → Calls Tryz.prog 66 #[.pointer (some ⟨pp, 0, none⟩), tipV t, tipV (.slice none 0 0)] W fun e w' => e = .returned (.int .i64 7) ∧ Below W.heap.size W w') := Lib.hid fun W hb => by
    have h1 := may_any W pp p b1 b2 D _ _ (fun _ => True) (HX.out.2.1.below hb) t [rootID] (by rw [hG]; exact GR) (by rw [hG]; exact HX.out.2.2.below hb) (.slice none 0 0) [] (.inl rfl) TipIs.zero
    rw [if_pos rfl] at h1
    exact h1
  have HM0 : Hid (∀ W, Below W0.heap.size W0 W → Calls Tryz.prog 66 #[.pointer (some ⟨pp, 0, none⟩), tipV t, tipV t] W fun e w' => e = .returned (.int .i64 0) ∧ Below W.heap.size W w') := Lib.hid fun W hb => by
    have h1 := may_any W pp p b1 b2 D _ _ _ (HX.out.2.1.below hb) t [rootID] (by rw [hG]; exact GR) (by rw [hG]; exact HX.out.2.2.below hb) t [rootID] (.inr (by rw [hG]; exact GR)) (by rw [hG]; exact HX.out.2.2.below hb)
    rw [if_neg (by simp), if_pos (by rw [hG, descG_self GG GR]; rfl)] at h1
    exact h1
  have HB := Lib.hid HX.out.1
  clear HX hkg hG GR GG HB1 HD1 HF1 HH1 HPA HB2 HT3 HB3 HP3 HP1
  refine st_ (S := (fun W' => Box1 W0 W' g t)) 27 #[false, false, false, false, false, false, false, false, false, false, false, false, false, false, false, false, false, false, false, false, false, false, false, false, false, false, false] (by kernel_rfl) rfl (by rfl) ⟨(Below.refl _ W0).drew, HB.out.b0⟩ (fun hHeld => ?_)
  refine tk_ 0 (some 10) #[true, false, false, false, false, false, false, false, false, false, false, false, false, false, false, false, false, false, false, false, false, false, false, false, false, false, false] (v := ?_) (a' := ?_) rfl rfl (by kernel_rfl) (fun _ _ _ h => h) (yieldsIf_run rfl ?_) hHeld ?_ ?_
  rotate_left
  · intro w'
    go_simp
    with_reducible rfl
  rotate_left
  · simp only [Act.put, List.setIfInBounds_toArray, List.set_cons_zero, List.set_cons_succ]
    rfl
  refine tk_ 1 (some 11) #[true, true, false, false, false, false, false, false, false, false, false, false, false, false, false, false, false, false, false, false, false, false, false, false, false, false, false] (v := ?_) (a' := ?_) rfl rfl (by kernel_rfl) (fun _ _ _ h => h) (yieldsIf_run rfl ?_) hHeld ?_ ?_
  rotate_left
  · intro w'
    go_simp
    with_reducible rfl
  rotate_left
  · simp only [Act.put, List.setIfInBounds_toArray, List.set_cons_zero, List.set_cons_succ]
    rfl
  refine tk_ 2 (some 12) #[true, true, true, false, false, false, false, false, false, false, false, false, false, false, false, false, false, false, false, false, false, false, false, false, false, false, false] (v := ?_) (a' := ?_) rfl rfl (by kernel_rfl) (fun _ _ _ h => h) (yieldsIf_run rfl ?_) hHeld ?_ ?_
  rotate_left
  · intro w'
    go_simp
    with_reducible rfl
  rotate_left
  · simp only [Act.put, List.setIfInBounds_toArray, List.set_cons_zero, List.set_cons_succ]
    rfl
  refine tk_ 3 (some 13) #[true, true, true, true, false, false, false, false, false, false, false, false, false, false, false, false, false, false, false, false, false, false, false, false, false, false, false] (v := ?_) (a' := ?_) rfl rfl (by kernel_rfl) (fun _ _ _ h => h) (yieldsIf_run rfl ?_) hHeld ?_ ?_
  rotate_left
  · intro w'
    go_simp
    with_reducible rfl
  rotate_left
  · simp only [Act.put, List.setIfInBounds_toArray, List.set_cons_zero, List.set_cons_succ]
    rfl
  refine tk_ 4 (some 14) #[true, true, true, true, true, false, false, false, false, false, false, false, false, false, false, false, false, false, false, false, false, false, false, false, false, false, false] rfl rfl (by kernel_rfl) (fun _ _ _ h => h) (yieldsIf_tipb rfl (.tmp 3) rfl g rfl t (fun W' h => h.b0)) hHeld (a' := ?_) ?_ ?_
  rotate_left
  · simp only [Act.put, List.setIfInBounds_toArray, List.set_cons_zero, List.set_cons_succ]
    rfl
  refine tk_ 5 (some 15) #[true, true, true, true, true, true, false, false, false, false, false, false, false, false, false, false, false, false, false, false, false, false, false, false, false, false, false] (v := ?_) (a' := ?_) rfl rfl (by kernel_rfl) (fun _ _ _ h => h) (yieldsIf_run rfl ?_) hHeld ?_ ?_
  rotate_left
  · intro w'
    go_simp
    with_reducible rfl
  rotate_left
  · simp only [Act.put, List.setIfInBounds_toArray, List.set_cons_zero, List.set_cons_succ]
    rfl
  refine tk_ 8 (some 18) #[true, true, true, true, true, true, false, false, true, false, false, false, false, false, false, false, false, false, false, false, false, false, false, false, false, false, false] rfl rfl (by kernel_rfl) (fun _ _ _ h => h) (yieldsIf_tipb rfl (.tmp 3) rfl g rfl t (fun W' h => h.b0)) hHeld (a' := ?_) ?_ ?_
  rotate_left
  · simp only [Act.put, List.setIfInBounds_toArray, List.set_cons_zero, List.set_cons_succ]
    rfl
  refine call_ 6 (some 16) #[true, true, true, true, true, true, true, false, true, false, false, false, false, false, false, false, false, false, false, false, false, false, false, false, false, false, false] rfl rfl (by kernel_rfl) rfl 68 _ (by kernel_rfl) (HFL.out _ hHeld.below) ?_
  rintro e w4 ⟨rfl, hb4⟩
  have HB4 := Lib.hid (hHeld.next hb4)
  refine ⟨_, rfl, HB4.out, fun hHeld => ⟨?_, ?_, ?_⟩⟩
  rotate_left
  · simp only [Act.put, List.setIfInBounds_toArray, List.set_cons_zero, List.set_cons_succ]
    rfl
  refine call_ 7 (some 17) #[true, true, true, true, true, true, true, true, true, false, false, false, false, false, false, false, false, false, false, false, false, false, false, false, false, false, false] rfl rfl (by kernel_rfl) rfl 34 _ (by kernel_rfl) (HK.out _ hHeld.below) ?_
  rintro e w5 ⟨rfl, hb5⟩
  have HB5 := Lib.hid (hHeld.next hb5)
  refine ⟨_, rfl, HB5.out, fun hHeld => ⟨?_, ?_, ?_⟩⟩
  rotate_left
  · simp only [Act.put, List.setIfInBounds_toArray, List.set_cons_zero, List.set_cons_succ]
    rfl
  refine call_ 9 (some 19) #[true, true, true, true, true, true, true, true, true, true, false, false, false, false, false, false, false, false, false, false, false, false, false, false, false, false, false] rfl rfl (by kernel_rfl) rfl 34 _ (by kernel_rfl) (HK.out _ hHeld.below) ?_
  rintro e w6 ⟨rfl, hb6⟩
  have HB6 := Lib.hid (hHeld.next hb6)
  refine ⟨_, rfl, HB6.out, fun hHeld => ⟨?_, ?_, ?_⟩⟩
  rotate_left
  · simp only [Act.put, List.setIfInBounds_toArray, List.set_cons_zero, List.set_cons_succ]
    rfl
  refine tk_ 10 (some 20) #[true, true, true, true, true, true, true, true, true, true, true, false, false, false, false, false, false, false, false, false, false, false, false, false, false, false, false] (v := ?_) (a' := ?_) rfl rfl (by kernel_rfl) (fun _ _ _ h => h) (yieldsIf_run rfl ?_) hHeld ?_ ?_
  rotate_left
  · intro w'
    go_simp
    with_reducible rfl
  rotate_left
  · simp only [Act.put, List.setIfInBounds_toArray, List.set_cons_zero, List.set_cons_succ]
    rfl
  refine tk_ 11 (some 21) #[true, true, true, true, true, true, true, true, true, true, true, true, false, false, false, false, false, false, false, false, false, false, false, false, false, false, false] (v := ?_) (a' := ?_) rfl rfl (by kernel_rfl) (fun _ _ _ h => h) (yieldsIf_run rfl ?_) hHeld ?_ ?_
  rotate_left
  · intro w'
    go_simp
    with_reducible rfl
  rotate_left
  · simp only [Act.put, List.setIfInBounds_toArray, List.set_cons_zero, List.set_cons_succ]
    rfl
  refine tk_ 12 (some 22) #[true, true, true, true, true, true, true, true, true, true, true, true, true, false, false, false, false, false, false, false, false, false, false, false, false, false, false] (v := ?_) (a' := ?_) rfl rfl (by kernel_rfl) (fun _ _ _ h => h) (yieldsIf_run rfl ?_) hHeld ?_ ?_
  rotate_left
  · intro w'
    go_simp
    with_reducible rfl
  rotate_left
  · simp only [Act.put, List.setIfInBounds_toArray, List.set_cons_zero, List.set_cons_succ]
    rfl
  refine tk_ 13 (some 23) #[true, true, true, true, true, true, true, true, true, true, true, true, true, true, false, false, false, false, false, false, false, false, false, false, false, false, false] (v := ?_) (a' := ?_) rfl rfl (by kernel_rfl) (fun _ _ _ h => h) (yieldsIf_run rfl ?_) hHeld ?_ ?_
  rotate_left
  · intro w'
    go_simp
    with_reducible rfl
  rotate_left
  · simp only [Act.put, List.setIfInBounds_toArray, List.set_cons_zero, List.set_cons_succ]
    rfl
  refine tk_ 14 (some 24) #[true, true, true, true, true, true, true, true, true, true, true, true, true, true, true, false, false, false, false, false, false, false, false, false, false, false, false] rfl rfl (by kernel_rfl) (fun _ _ _ h => h) (yieldsIf_tipb rfl (.tmp 3) rfl g rfl t (fun W' h => h.b0)) hHeld (a' := ?_) ?_ ?_
  rotate_left
  · simp only [Act.put, List.setIfInBounds_toArray, List.set_cons_zero, List.set_cons_succ]
    rfl
  refine tk_ 15 (some 25) #[true, true, true, true, true, true, true, true, true, true, true, true, true, true, true, true, false, false, false, false, false, false, false, false, false, false, false] (v := ?_) (a' := ?_) rfl rfl (by kernel_rfl) (fun _ _ _ h => h) (yieldsIf_run rfl ?_) hHeld ?_ ?_
  rotate_left
  · intro w'
    go_simp
    with_reducible rfl
  rotate_left
  · simp only [Act.put, List.setIfInBounds_toArray, List.set_cons_zero, List.set_cons_succ]
    rfl
  refine call_ 16 (some 26) #[true, true, true, true, true, true, true, true, true, true, true, true, true, true, true, true, true, false, false, false, false, false, false, false, false, false, false] rfl rfl (by kernel_rfl) rfl 66 _ (by kernel_rfl) (HM7.out _ hHeld.below) ?_
  rintro e w7 ⟨rfl, hb7⟩
  have HB7 := Lib.hid (hHeld.next hb7)
  refine ⟨_, rfl, HB7.out, fun hHeld => ⟨?_, ?_, ?_⟩⟩
  rotate_left
  · simp only [Act.put, List.setIfInBounds_toArray, List.set_cons_zero, List.set_cons_succ]
    rfl
  refine tk_ 17 (some 27) #[true, true, true, true, true, true, true, true, true, true, true, true, true, true, true, true, true, true, false, false, false, false, false, false, false, false, false] (v := ?_) (a' := ?_) rfl rfl (by kernel_rfl) (fun _ _ _ h => h) (yieldsIf_run rfl ?_) hHeld ?_ ?_
  rotate_left
  · intro w'
    go_simp
    with_reducible rfl
  rotate_left
  · simp only [Act.put, List.setIfInBounds_toArray, List.set_cons_zero, List.set_cons_succ]
    rfl
  refine tk_ 18 (some 28) #[true, true, true, true, true, true, true, true, true, true, true, true, true, true, true, true, true, true, true, false, false, false, false, false, false, false, false] (v := ?_) (a' := ?_) rfl rfl (by kernel_rfl) (fun _ _ _ h => h) (yieldsIf_run rfl ?_) hHeld ?_ ?_
  rotate_left
  · intro w'
    go_simp
    with_reducible rfl
  rotate_left
  · simp only [Act.put, List.setIfInBounds_toArray, List.set_cons_zero, List.set_cons_succ]
    rfl
  refine tk_ 19 (some 29) #[true, true, true, true, true, true, true, true, true, true, true, true, true, true, true, true, true, true, true, true, false, false, false, false, false, false, false] (v := ?_) (a' := ?_) rfl rfl (by kernel_rfl) (fun _ _ _ h => h) (yieldsIf_run rfl ?_) hHeld ?_ ?_
  rotate_left
  · intro w'
    go_simp
    with_reducible rfl
  rotate_left
  · simp only [Act.put, List.setIfInBounds_toArray, List.set_cons_zero, List.set_cons_succ]
    rfl
  refine tk_ 20 (some 30) #[true, true, true, true, true, true, true, true, true, true, true, true, true, true, true, true, true, true, true, true, true, false, false, false, false, false, false] (v := ?_) (a' := ?_) rfl rfl (by kernel_rfl) (fun _ _ _ h => h) (yieldsIf_run rfl ?_) hHeld ?_ ?_
  rotate_left
  · intro w'
    go_simp
    with_reducible rfl
  rotate_left
  · simp only [Act.put, List.setIfInBounds_toArray, List.set_cons_zero, List.set_cons_succ]
    rfl
  refine tk_ 21 (some 31) #[true, true, true, true, true, true, true, true, true, true, true, true, true, true, true, true, true, true, true, true, true, true, false, false, false, false, false] rfl rfl (by kernel_rfl) (fun _ _ _ h => h) (yieldsIf_tipb rfl (.tmp 3) rfl g rfl t (fun W' h => h.b0)) hHeld (a' := ?_) ?_ ?_
  rotate_left
  · simp only [Act.put, List.setIfInBounds_toArray, List.set_cons_zero, List.set_cons_succ]
    rfl
  refine tk_ 22 (some 32) #[true, true, true, true, true, true, true, true, true, true, true, true, true, true, true, true, true, true, true, true, true, true, true, false, false, false, false] rfl rfl (by kernel_rfl) (fun _ _ _ h => h) (yieldsIf_tipb rfl (.tmp 3) rfl g rfl t (fun W' h => h.b0)) hHeld (a' := ?_) ?_ ?_
  rotate_left
  · simp only [Act.put, List.setIfInBounds_toArray, List.set_cons_zero, List.set_cons_succ]
    rfl
  refine call_ 23 (some 33) #[true, true, true, true, true, true, true, true, true, true, true, true, true, true, true, true, true, true, true, true, true, true, true, true, false, false, false] rfl rfl (by kernel_rfl) rfl 66 _ (by kernel_rfl) (HM0.out _ hHeld.below) ?_
  rintro e w8 ⟨rfl, hb8⟩
  have HB8 := Lib.hid (hHeld.next hb8)
  refine ⟨_, rfl, HB8.out, fun hHeld => ⟨?_, ?_, ?_⟩⟩
  rotate_left
  · simp only [Act.put, List.setIfInBounds_toArray, List.set_cons_zero, List.set_cons_succ]
    rfl
  refine tk_ 24 (some 34) #[true, true, true, true, true, true, true, true, true, true, true, true, true, true, true, true, true, true, true, true, true, true, true, true, true, false, false] (v := ?_) (a' := ?_) rfl rfl (by kernel_rfl) (fun _ _ _ h => h) (yieldsIf_run rfl ?_) hHeld ?_ ?_
  rotate_left
  · intro w'
    go_simp
    with_reducible rfl
  rotate_left
  · simp only [Act.put, List.setIfInBounds_toArray, List.set_cons_zero, List.set_cons_succ]
    rfl
  refine tk_ 25 (some 35) #[true, true, true, true, true, true, true, true, true, true, true, true, true, true, true, true, true, true, true, true, true, true, true, true, true, true, false] (v := ?_) (a' := ?_) rfl rfl (by kernel_rfl) (fun _ _ _ h => h) (yieldsIf_run rfl ?_) hHeld ?_ ?_
  rotate_left
  · intro w'
    go_simp
    with_reducible rfl
  rotate_left
  · simp only [Act.put, List.setIfInBounds_toArray, List.set_cons_zero, List.set_cons_succ]
    rfl
  refine tk_ 26 (some 0) #[true, true, true, true, true, true, true, true, true, true, true, true, true, true, true, true, true, true, true, true, true, true, true, true, true, true, true] (v := ?_) (a' := ?_) rfl rfl (by kernel_rfl) (fun _ _ _ h => h) (yieldsIf_run rfl ?_) hHeld ?_ ?_
  rotate_left
  · intro w'
    go_simp
    with_reducible rfl
  rotate_left
  · simp only [Act.put, List.setIfInBounds_toArray, List.set_cons_zero, List.set_cons_succ]
    rfl
  refine wpAnyH_done (by kernel_rfl) ?_ _
  change Exit.then _ _ _ _ _
  go_wp2
  go_ret
  exact ⟨rfl, HB.out.below.trans (HB8.out.below.mono HB.out.below.size)⟩
end Go.Proofs.YthpcedficlhanaaGreatDoor
