/- dag.Dag: put. -/
import Derived.Test.YtcohdfkdhdhegaaGreatDoorPbAK
import Derived.Test.YtcohdfkdhdhegaaGreatDoorPbAL
namespace Go.Proofs.YtcohdfkdhdhegaaGreatDoor
open Go.RowKit Go.Maps

theorem more_compareD (W : World) (x y : ID) : Calls Tryz.prog 109 (#[.agg (idE.enc x).toArray, .agg (idE.enc y).toArray] ++ #[]) W fun e w' => e = .returned (.int .i64 (cmpI x y)) ∧ More W w' :=
  dagCompare_any W x y
theorem sortD_id (w : World) (v : Value) (l : List ID) (base : Nat) (T : TypeId) (h : w.ownsRow base T 32 v l.length (idE.flat l)) (hlen : l.length ≤ 4294967296) :
    Calls Tryz.prog 108 #[v, .func (.func 109) #[] #[]] w fun e w' => e = .returned (.tuple #[]) ∧ w'.ownsRow base T 32 v l.length (idE.flat (sortI l)) ∧ w.grownBy w' v.ownBlock :=
  (sort_gen (E := idE) lsI Tryz.isAgg66 Tryz.sizeOf66 cmpI swo_cmpI 109 #[] (enters_of Tryz.func109 (by kernel_rfl) rfl) more_compareD h (by omega)).mono fun e w' ⟨he, zs, hp, hr, ho, hg⟩ => by
    rw [sortI_risen hp hr] at ho
    exact ⟨he, ho, hg⟩

/-! ### one block more, in plain words -/
theorem blkF_add {D : List LB} {x : LB} (h : hasB D x.id = false) : updF (blkF D) (idK x.id) x.v = blkF (D ++ [x]) := by
  funext k
  unfold updF blkF
  rw [List.find?_append]
  by_cases e : k = idK x.id
  · subst e
    rw [if_pos rfl]
    have hn : (D.find? fun y => @decide (idK y.id = idK x.id) (Classical.propDecidable _)) = none := by
      rw [List.find?_eq_none]
      intro y hy he
      have he : idK y.id = idK x.id := by simpa using he
      have h1 := idK_iff.1 he
      unfold hasB at h
      rw [List.any_eq_false] at h
      exact h y hy (by simp [h1])
    rw [hn]
    simp
  · rw [if_neg e]
    have : ([x].find? fun y => @decide (idK y.id = k) (Classical.propDecidable _)) = none := by
      simp [Ne.symm e]
    rw [this, Option.or_none]
theorem famL_add (D : List LB) (x : LB) : sortI (famL D (famS x.x.h) ++ [x.id]) = famL (D ++ [x]) (famS x.x.h) := by
  unfold famL
  rw [List.filter_append, List.map_append]
  simp only [List.filter_cons, decide_true, if_true, List.filter_nil, List.map_cons, List.map_nil]
  exact sortI_of_perm ((sortI_perm _).append_right _)
theorem famL_other (D : List LB) (x : LB) (s : ByteArray) (h : famS x.x.h ≠ s) : famL (D ++ [x]) s = famL D s := by
  unfold famL
  rw [List.filter_append]
  simp [h]
theorem famL_none (D : List LB) (s : ByteArray) (h : ∀ x ∈ D, famS x.x.h ≠ s) : famL D s = [] := by
  unfold famL
  rw [List.filter_eq_nil_iff.2 fun x hx => by simp [h x hx]]
  rfl
theorem famL_length (D : List LB) (s : ByteArray) : (famL D s).length ≤ D.length := by
  unfold famL
  rw [(sortI_perm _).length_eq, List.length_map]
  exact List.length_filter_le _ _
/-- What a family holds, a slice in any case. -/
theorem FamAt.get {ok : Nat → Prop} {w : World} {D : List LB} {F : Lit → Option Value} (h : FamAt ok w D F) (s : ByteArray) : Sl idE ok w ((F (strK s)).getD (.slice none 0 0)) (famL D s) := by
  rcases h s with ⟨h1, h2⟩ | ⟨v, h1, h2, -⟩
  · rw [h1, famL_none D s h2]; exact Sl.nil _ _ _
  · rw [h1]; exact h2
theorem FamAt.put {ok ok' : Nat → Prop} {w w' : World} {D : List LB} {F : Lit → Option Value} (h : FamAt ok w D F) (x : LB) (v : Value) (hk : ∀ v l, Sl idE ok w v l → Sl idE ok' w' v l) (hv : Sl idE ok' w' v (famL (D ++ [x]) (famS x.x.h))) : FamAt ok' w' (D ++ [x]) (updF F (strK (famS x.x.h)) v) := by
  intro s
  unfold updF
  by_cases e : strK s = strK (famS x.x.h)
  · obtain rfl := strK_inj e
    rw [if_pos rfl]
    exact .inr ⟨v, rfl, hv, x, by simp, rfl⟩
  · have hne : famS x.x.h ≠ s := fun e' => e (by rw [e'])
    rw [if_neg e]
    rcases h s with ⟨h1, h2⟩ | ⟨u, h1, h2, z, hz, hzs⟩
    · refine .inl ⟨h1, fun y hy => ?_⟩
      rcases List.mem_append.1 hy with hy | hy
      · exact h2 y hy
      · rw [List.mem_singleton] at hy; subst hy; exact hne
    · exact .inr ⟨u, h1, by rw [famL_other D x s hne]; exact hk u _ h2, z, List.mem_append.2 (.inl hz), hzs⟩

/-- What holds while a block is put. -/
structure PutS (w W : World) (p b1 b2 g : Nat) (B : Lit → Option Value) (nb : Nat) (F : Lit → Option Value) (n : Nat) (x : LB) : Prop where
  cell : W.heap[p]? = some (.cells #[.map (some b1), .map (some b2)] 132 (0, 0))
  blocks : MapV Tryz.prog 66 W b1 nb B
  fams : MapV Tryz.prog 9 W b2 n F
  box : W.heap[g]? = some (.cells x.cells.toArray 71 (0, 0))
  chg : Chg (two b1 b2) w W
  lt : p < w.heap.size ∧ b1 < w.heap.size ∧ b2 < w.heap.size ∧ w.heap.size ≤ g
section
variable {w W W' : World} {p b1 b2 g : Nat} {B B' F F' : Lit → Option Value} {nb nb' n n' : Nat} {x : LB}
theorem PutS.step (h : PutS w W p b1 b2 g B nb F n x) {S : Nat → Prop} (hc : Chg S W W') (hS : ∀ k, S k → two b1 b2 k ∨ w.heap.size ≤ k) (hg : ¬ S g) (hb : MapV Tryz.prog 66 W' b1 nb' B') (hf : MapV Tryz.prog 9 W' b2 n' F') : PutS w W' p b1 b2 g B' nb' F' n' x where
  cell := (hc.block p (Array.getElem?_eq_some_iff.1 h.cell).1 fun hs => by
    rcases hS p hs with (e | e) | h2
    · subst e; exact h.blocks.no_cells h.cell
    · subst e; exact h.fams.no_cells h.cell
    · have := h.lt.1; omega).trans h.cell
  blocks := hb
  fams := hf
  box := (hc.block g (Array.getElem?_eq_some_iff.1 h.box).1 hg).trans h.box
  chg := h.chg.step hc hS
  lt := h.lt
theorem PutS.below (h : PutS w W p b1 b2 g B nb F n x) (hb : Below W.heap.size W W') : PutS w W' p b1 b2 g B nb F n x :=
  h.step (S := fun _ => False) (Chg.of_below hb) (fun _ h => h.elim) (fun h => h) (h.blocks.below hb) (h.fams.below hb)
theorem PutS.g_lt (h : PutS w W p b1 b2 g B nb F n x) : g < W.heap.size := (Array.getElem?_eq_some_iff.1 h.box).1
theorem PutS.own (h : PutS w W p b1 b2 g B nb F n x) {v : Value} (hg : W.grownBy W' v.ownBlock) (hv : ∀ k, v.ownBlock = some k → w.heap.size ≤ k ∧ k ≠ g) : PutS w W' p b1 b2 g B nb F n x :=
  h.step (Chg.row hg) (fun k hk => .inr (hv k hk).1) (fun hk => (hv g hk).2 rfl) (h.blocks.kept hg fun e => by have := (hv b1 e.symm).1; have := h.lt.2.1; omega) (h.fams.kept hg fun e => by have := (hv b2 e.symm).1; have := h.lt.2.2.1; omega)
theorem PutS.one (h : PutS w W p b1 b2 g B nb F n x) (hne : b1 ≠ b2) (hg : W.grownBy W' (some b1)) (hb : MapV Tryz.prog 66 W' b1 nb' B') : PutS w W' p b1 b2 g B' nb' F n x :=
  h.step (Chg.row hg) (fun k hk => by injection hk with hk; exact .inl (.inl hk.symm)) (fun hk => by injection hk with hk; have := h.lt.2.1; have := h.lt.2.2.2; omega) hb (h.fams.kept hg fun e => by injection e with e; exact hne e.symm)
theorem PutS.two_ (h : PutS w W p b1 b2 g B nb F n x) (hne : b1 ≠ b2) (hg : W.grownBy W' (some b2)) (hf : MapV Tryz.prog 9 W' b2 n' F') : PutS w W' p b1 b2 g B nb F' n' x :=
  h.step (Chg.row hg) (fun k hk => by injection hk with hk; exact .inl (.inr hk.symm)) (fun hk => by injection hk with hk; have := h.lt.2.2.1; have := h.lt.2.2.2; omega) (h.blocks.kept hg fun e => by injection e with e; exact hne e) hf
theorem PutS.drew (h : PutS w W p b1 b2 g B nb F n x) : PutS w W.drew p b1 b2 g B nb F n x := h.below (Below.refl _ W).drew
theorem PutS.alloc (h : PutS w W p b1 b2 g B nb F n x) (o : Obj) : PutS w (W.alloc o) p b1 b2 g B nb F n x := h.below ((Below.refl _ W).alloc (Nat.le_refl _) o)
theorem PutS.hold (h : PutS w W p b1 b2 g B nb F n x) : HoldB W g x := fun j u hu => cell_block h.box (by simpa using hu)
end
theorem exec_updV {P : Program} {k t e : TypeId} {w : World} {b n : Nat} {f : Lit → Option Value} {o : Oper} {a : Act} (h : MapV P k w b n f) (K : Keyed P k) (ht : P.underlying t = some (.map k e)) (hn : n < 1099511627776) (m x y : Operand) (ho : o.op = .mapUpdate t m x y) (hm : a.eval m = .map (some b)) {key : Value} {kl : Lit} (hx : a.eval x = key) (hkey : keyOf P k key = some kl) {v : Value} (hy : a.eval y = v) :
    ∃ w', (execOp a.eval o).run P w = .ok .skip w' ∧ (MapV P k w' b (if (f kl).isSome then n else n + 1) (updF f kl v) ∧ w.grownBy w' (some b)) := by
  obtain ⟨w', hr, r1, r2, -⟩ := h.update K ht hn hkey v
  refine ⟨w', ?_, r1, r2⟩
  unfold execOp
  simp only [ho, hm, hx, hy, Sem.run_bind, hr, Result.andThen_ok, Sem.run_pure]
theorem famS_size (h : Hdr) (hk : h.Ok) : (famS h).size ≤ maxLen := by
  have h1 : (famS h).size = (famB h).length := rfl
  have h2 := numB_length h.height.toNat
  have h3 := numB_length h.power.toNat
  have h4 := keyB_size h.parents
  have h5 : h.parents.length ≤ 1048576 := hk.parents
  have h6 := numB_length (keyB h.parents).size
  rw [h1, famB, List.length_append, List.length_append, textB, List.length_append]
  have h7 : (keyB h.parents).data.toList.length = (keyB h.parents).size := by simp
  unfold maxLen
  omega

theorem own_low {w : World} {base base' : Nat} {e : TypeId} {size : Nat} {v : Value} {n : Nat} {xs : List Value} (h : w.ownsRow base e size v n xs) (hb : base' ≤ base) : w.ownsRow base' e size v n xs :=
  ⟨h.1, h.2.imp id fun ⟨g, cap, cur, h1, h2, h3⟩ => ⟨g, cap, cur, h1, Nat.le_trans hb h2, h3⟩⟩
theorem own_ge {W : World} {base : Nat} {e : TypeId} {size : Nat} {v : Value} {n : Nat} {xs : List Value} (h : W.ownsRow base e size v n xs) : ∀ k, v.ownBlock = some k → base ≤ k := by
  intro k hk
  rcases h.2 with ⟨rfl, -⟩ | ⟨g, cap, cur, rfl, hb, -⟩
  · cases hk
  · injection hk with hk
    subst hk
    exact hb

set_option maxRecDepth 100000 in
set_option maxHeartbeats 4000000 in
theorem put_any (w : World) (p b1 b2 : Nat) (D : List LB) (ok : Nat → Prop) (h : DagAt ok w p b1 b2 D) (x : LB) (okx : Nat → Prop) (hx : x.x.At okx w) (hid : x.id = hdrID x.x.h) (hok : x.x.h.Ok) (hnd : x.x.h.parents.Nodup) (hnew : hasB D x.id = false) (hlen : D.length ≤ 1000000) :
    Calls Tryz.prog 82 #[.pointer (some ⟨p, 0, none⟩), .agg x.cells.toArray] w fun e w' => e = .returned (.tuple #[]) ∧ Chg (two b1 b2) w w' ∧ DagAt (fun k => ok k ∨ okx k ∨ w.heap.size ≤ k) w' p b1 b2 (D ++ [x]) := by
  obtain ⟨n, F, hn, hF, hA⟩ := h.fams
  obtain ⟨f, hf⟩ : ∃ f, famS x.x.h = f := ⟨_, rfl⟩
  have hfz : f.size ≤ maxLen := by rw [← hf]; exact famS_size _ hok
  have hS0 : PutS w (w.alloc (.cells x.cells.toArray 71)) p b1 b2 w.heap.size (blkF D) D.length F n x :=
    ⟨(heap_alloc_old w _ h.lt.1).trans h.cell, h.blocks.alloc _, hF.alloc _, heap_alloc_new w _, Chg.of_below ((Below.refl _ w).alloc (Nat.le_refl _) _), h.lt.1, h.lt.2.1, h.lt.2.2, Nat.le_refl _⟩
  have HS0 := Lib.hid hS0
  have HD := Lib.hid h
  have HX := Lib.hid hx
  have HID := Lib.hid hid
  have HOK := Lib.hid hok
  have HND := Lib.hid hnd
  have HNW := Lib.hid hnew
  have HL := Lib.hid hlen
  have HA := Lib.hid hA
  have HN := Lib.hid hn
  have HFF := Lib.hid hf
  have HFZ := Lib.hid hfz
  clear h hx hid hok hnd hnew hlen hA hF hS0 hn hf hfz
  go_enter Tryz.func82, Tryz.ntmps82
  go_upto_region 1 with fail
  change Code.wp _ _ _ _ (w.alloc (.cells x.cells.toArray 71))
  have HX0 : Hid (x.x.At okx (w.alloc (.cells x.cells.toArray 71))) := Lib.hid (Sl.below HX.out ((Below.refl _ w).alloc (Nat.le_refl _) _))
  generalize w.alloc (.cells x.cells.toArray 71) = W0 at HS0 HX0 ⊢
  go_upto_region 2 with (first
    | (refine wpl_load rfl 41 (.tmp 6) rfl w.heap.size 32 rfl x.x.cells _ HS0.out.hold.hdr Tryz.underlying41 rfl hdr_size ?_)
    | (go_at_call 135; refine (family_any _ x.x okx HX0.out HOK.out HND.out).mono ?_; rintro e w1 ⟨rfl, hb1⟩; have HS1 := Lib.hid (HS0.out.below hb1); clear hb1))
  obtain ⟨A, c, hxv⟩ : ∃ A c, x.x.v = .slice A x.x.h.parents.length c := ⟨_, _, rfl⟩
  have hff : (⟨(famB x.x.h).toArray⟩ : ByteArray) = f := HFF.out
  rw [hff]
  have HS1d := Lib.hid HS1.out.drew
  have hkb : (blkF D (idK x.id)).isSome = false := by rw [blkF_has]; exact HNW.out
  have HKB := Lib.hid hkb
  clear hkb hxv hff
  go_cut [] from 9 to 15 (fun W => PutS w W p b1 b2 w.heap.size (blkF (D ++ [x])) (D ++ [x]).length F n x)
  case first =>
    refine stD_ (S := (fun W' => PutS w W' p b1 b2 w.heap.size (blkF D) D.length F n x)) [7] 8 (bt 0 8) (by kernel_rfl) rfl (by rfl) HS1d.out (fun hHeld => ?_)
    refine tkD_ 0 (some 9) (bt 1 7) (v := ?_) (a' := ?_) rfl rfl (by kernel_rfl) (fun _ _ _ h => h) (yieldsIf_run rfl ?_) hHeld ?_ ?_
    rotate_left
    · intro w'
      go_simp
      with_reducible rfl
    rotate_left
    · simp only [Act.put, List.setIfInBounds_toArray, List.set_cons_zero, List.set_cons_succ]
      rfl
    refine tkD_ 1 (some 10) (bt 2 6) (v := ?_) (a' := ?_) rfl rfl (by kernel_rfl) (fun _ _ _ h => h) (yieldsIf_run rfl ?_) hHeld ?_ ?_
    rotate_left
    · intro w'
      go_simp
      with_reducible rfl
    rotate_left
    · simp only [Act.put, List.setIfInBounds_toArray, List.set_cons_zero, List.set_cons_succ]
      rfl
    refine tkD_ 2 (some 11) (bt 3 5) (v := ?_) (a' := ?_) rfl rfl (by kernel_rfl) (fun _ _ _ h => h) (yieldsIf_run rfl ?_) hHeld ?_ ?_
    rotate_left
    · intro w'
      go_simp
      with_reducible rfl
    rotate_left
    · simp only [Act.put, List.setIfInBounds_toArray, List.set_cons_zero, List.set_cons_succ]
      rfl
    refine tkD_ 3 (some 12) (bt 4 4) rfl rfl (by kernel_rfl) (fun _ _ _ h => h) (yieldsIf_cell rfl 129 (.tmp 11) rfl ⟨p, 0, none⟩ rfl (.map (some b1)) _ (fun W' h => cell_block h.cell rfl) Tryz.underlying129 rfl) hHeld (a' := ?_) ?_ ?_
    rotate_left
    · simp only [Act.put, List.setIfInBounds_toArray, List.set_cons_zero, List.set_cons_succ]
      rfl
    refine tkD_ 4 (some 13) (bt 5 3) (v := ?_) (a' := ?_) rfl rfl (by kernel_rfl) (fun _ _ _ h => h) (yieldsIf_run rfl ?_) hHeld ?_ ?_
    rotate_left
    · intro w'
      go_simp
      with_reducible rfl
    rotate_left
    · simp only [Act.put, List.setIfInBounds_toArray, List.set_cons_zero, List.set_cons_succ]
      rfl
    refine tkD_ 5 (some 14) (bt 6 2) rfl rfl (by kernel_rfl) (fun _ _ _ h => h) (yieldsIf_load rfl 66 (.tmp 13) rfl w.heap.size 0 rfl (idc x.id) _ (fun W' h => h.hold.id) Tryz.underlying66 rfl (by rw [idc_length]; exact id_size)) hHeld (a' := ?_) ?_ ?_
    rotate_left
    · simp only [Act.put, List.setIfInBounds_toArray, List.set_cons_zero, List.set_cons_succ]
      rfl
    refine tkD_ 6 (some 15) (bt 7 1) rfl rfl (by kernel_rfl) (fun _ _ _ h => h) (yieldsIf_load rfl 71 (.tmp 3) rfl w.heap.size 0 rfl x.cells _ (fun W' h j u hu => by rw [Nat.zero_add]; exact h.hold j u hu) Tryz.underlying71 rfl (by rw [LB.cells_length]; exact block_size)) hHeld (a' := ?_) ?_ ?_
    rotate_left
    · simp only [Act.put, List.setIfInBounds_toArray, List.set_cons_zero, List.set_cons_succ]
      rfl
    refine sstepD_ 7 (bt 8 0) rfl rfl (by kernel_rfl) rfl (exec_updV (key := .agg (idc x.id).toArray) (v := .agg x.cells.toArray) HS1d.out.blocks lawID Tryz.underlying129 (by have := HL.out; omega) (.tmp 12) (.tmp 14) (.tmp 15) rfl rfl rfl (keyOf_id x.id) rfl) ?_
    rintro w2 ⟨hm2, hg2⟩
    refine ⟨(fun h => absurd (by decide) h), ?_⟩
    refine doneD_ (by kernel_rfl) ?_ _
    go_wp2
    go_meet
    case rel =>
      have h2 := HS1d.out.one HD.out.ne hg2 hm2
      rw [HKB.out] at h2
      simp only [Bool.false_eq_true, if_false] at h2
      have h3 : updF (blkF D) (idK x.id) (.agg x.cells.toArray) = blkF (D ++ [x]) := blkF_add HNW.out
      rw [h3] at h2
      rw [List.length_append]
      exact h2
  case rest =>
  have HS2 := Lib.hid hcut
  clear hcut
  obtain ⟨L, hL⟩ : ∃ L, famL D f = L := ⟨_, rfl⟩
  obtain ⟨u, hu⟩ : ∃ u, (F (strK f)).getD (.slice none 0 0) = u := ⟨_, rfl⟩
  have hSu : Sl idE ok w u L := by rw [← hL, ← hu]; exact HA.out.get f
  obtain ⟨Au, cu, hAu, -⟩ := hSu.form
  have hLl : L.length ≤ 1000000 := by rw [← hL]; have := famL_length D f; have := HL.out; omega
  have HLL := Lib.hid hL
  have HUU := Lib.hid hu
  have HSU : Hid (∀ W, PutS w W p b1 b2 w.heap.size (blkF (D ++ [x])) (D ++ [x]).length F n x → Sl idE ok W u L) := Lib.hid fun W h => hSu.chg h.chg HD.out.no_row
  subst hAu
  clear hL hu hSu
  go_upto_region 3 with fail
  have HS2d := Lib.hid HS2.out.drew
  go_cut [5] from 16 to 26 (fun v W => PutS w W p b1 b2 w.heap.size (blkF (D ++ [x])) (D ++ [x]).length F n x ∧ W.ownsRow w.heap.size 66 32 v (L.length + 1) (idE.flat (L ++ [x.id])) ∧ ∀ k, v.ownBlock = some k → w.heap.size < k)
  case first =>
    refine stD_ (S := (fun W' => PutS w W' p b1 b2 w.heap.size (blkF (D ++ [x])) (D ++ [x]).length F n x)) [11] 12 (bt 0 12) (by kernel_rfl) rfl (by rfl) HS2d.out (fun hHeld => ?_)
    refine tkD_ 0 (some 16) (bt 1 11) (v := ?_) (a' := ?_) rfl rfl (by kernel_rfl) (fun _ _ _ h => h) (yieldsIf_run rfl ?_) hHeld ?_ ?_
    rotate_left
    · intro w'
      go_simp
      with_reducible rfl
    rotate_left
    · simp only [Act.put, List.setIfInBounds_toArray, List.set_cons_zero, List.set_cons_succ]
      rfl
    refine tkD_ 1 (some 17) (bt 2 10) (v := ?_) (a' := ?_) rfl rfl (by kernel_rfl) (fun _ _ _ h => h) (yieldsIf_run rfl ?_) hHeld ?_ ?_
    rotate_left
    · intro w'
      go_simp
      with_reducible rfl
    rotate_left
    · simp only [Act.put, List.setIfInBounds_toArray, List.set_cons_zero, List.set_cons_succ]
      rfl
    refine tkD_ 2 (some 18) (bt 3 9) (v := ?_) (a' := ?_) rfl rfl (by kernel_rfl) (fun _ _ _ h => h) (yieldsIf_run rfl ?_) hHeld ?_ ?_
    rotate_left
    · intro w'
      go_simp
      with_reducible rfl
    rotate_left
    · simp only [Act.put, List.setIfInBounds_toArray, List.set_cons_zero, List.set_cons_succ]
      rfl
    refine tkD_ 3 (some 19) (bt 4 8) rfl rfl (by kernel_rfl) (fun _ _ _ h => h) (yieldsIf_cell rfl 130 (.tmp 18) rfl ⟨p, 1, none⟩ rfl (.map (some b2)) _ (fun W' h => cell_block h.cell rfl) Tryz.underlying130 rfl) hHeld (a' := ?_) ?_ ?_
    rotate_left
    · simp only [Act.put, List.setIfInBounds_toArray, List.set_cons_zero, List.set_cons_succ]
      rfl
    refine tkD_ 4 (some 20) (bt 5 7) (v := ?_) (a' := ?_) rfl rfl (by kernel_rfl) (fun _ _ _ h => h) (yieldsIf_run rfl ?_) hHeld ?_ ?_
    rotate_left
    · intro w'
      go_simp
      with_reducible rfl
    rotate_left
    · simp only [Act.put, List.setIfInBounds_toArray, List.set_cons_zero, List.set_cons_succ]
      rfl
    refine tkD_ 5 (some 21) (bt 6 6) rfl rfl (by kernel_rfl) (fun _ _ _ h => h) (yieldsIf_of (v := .slice Au L.length cu) rfl fun W' h => (exec_lookV (key := .string f) h.fams lawStr Tryz.underlying130 (zeroIDs W') (.tmp 19) (.tmp 20) rfl rfl rfl (keyOf_str f HFZ.out)).trans (by rw [HUU.out])) hHeld (a' := ?_) ?_ ?_
    rotate_left
    · simp only [Act.put, List.setIfInBounds_toArray, List.set_cons_zero, List.set_cons_succ]
      rfl
    refine tkD_ 7 (some 23) #[true, true, true, true, true, true, false, true, false, false, false, false] (v := ?_) (a' := ?_) rfl rfl (by kernel_rfl) (fun _ _ _ h => h) (yieldsIf_run rfl ?_) hHeld ?_ ?_
    rotate_left
    · intro w'
      go_simp
      with_reducible rfl
    rotate_left
    · simp only [Act.put, List.setIfInBounds_toArray, List.set_cons_zero, List.set_cons_succ]
      rfl
    refine tkD_ 8 (some 24) #[true, true, true, true, true, true, false, true, true, false, false, false] rfl rfl (by kernel_rfl) (fun _ _ _ h => h) (yieldsIf_load rfl 66 (.tmp 23) rfl w.heap.size 0 rfl (idc x.id) _ (fun W' h => h.hold.id) Tryz.underlying66 rfl (by rw [idc_length]; exact id_size)) hHeld (a' := ?_) ?_ ?_
    rotate_left
    · simp only [Act.put, List.setIfInBounds_toArray, List.set_cons_zero, List.set_cons_succ]
      rfl
    refine forkD_ 6 9 (by kernel_rfl) ?_ ?_
    · refine fcallD_ 6 (some 22) #[true, true, true, true, true, true, true, true, true, false, false, false] rfl rfl (by kernel_rfl) rfl 107 _ (by kernel_rfl) (clone_id _ _ L _ (HSU.out _ hHeld) (by omega)) ?_
      rintro e w3 ⟨v3, rfl, ho3, hb3⟩
      have hHeld := hHeld.below hb3
      refine ⟨_, rfl, fun _ => hHeld, ?_, ?_, ?_⟩
      rotate_left
      · simp only [Act.put, List.setIfInBounds_toArray, List.set_cons_zero, List.set_cons_succ]
        rfl
      have hHeld := hHeld.alloc (.cells (idc x.id).toArray 66)
      refine valD_ 9 (some 25) (bt 10 2) rfl rfl (by kernel_rfl) rfl ((.slice (some ⟨w3.heap.size, 0, none⟩) 1 1)) ((w3.alloc (.cells (idc x.id).toArray 66))) (exec_slice1 39 66 (.tmp 24) rfl (idc x.id).toArray rfl _ 32 32 Tryz.underlying39 id_info idZ_cells (by rw [List.size_toArray, idc_length]) (by decide) (by decide)) (fun _ => hHeld) (a' := ?_) ?_ ?_
      rotate_left
      · simp only [Act.put, List.setIfInBounds_toArray, List.set_cons_zero, List.set_cons_succ]
        rfl
      refine stepD_ 10 (some 26) (bt 11 1) rfl rfl (by kernel_rfl) rfl (exec_appS wc.drew.heap.size (.tmp 22) (.tmp 25) 39 66 _ 32 32 rfl Tryz.underlying39 id_info idZ_cells (by decide) (by decide) v3 L.length (idE.flat L) rfl w3.heap.size 0 1 1 rfl (idc x.id) (by rw [idc_length]) (fun j z hz => by rw [Nat.zero_add]; exact cell_block (heap_alloc_new w3 _) (by simpa using hz)) (idE.one x.id) (ho3.alloc _) (Nat.le_trans hb3.size (by simp)) (by omega)) ?_
      rintro v4 w4 ⟨ho4, hg4, hat4⟩
      have hge := own_ge ho3
      have hsz := hb3.size
      have hgl := HS2d.out.g_lt
      have hv3 : ∀ k, v3.ownBlock = some k → w.heap.size ≤ k ∧ k ≠ w.heap.size := fun k hk => by (have h0 := hge k hk; (try simp only [World.size_alloc] at h0); omega)
      have hv4 : ∀ k, v4.ownBlock = some k → w.heap.size < k := fun k hk => by (rcases hat4 with h | ⟨b, h, hle⟩ <;> rw [h] at hk <;> first | (have h0 := hge k hk; (try simp only [World.size_alloc] at h0); omega) | (injection hk with hk; subst hk; (try simp only [World.size_alloc] at hle hsz); omega))
      have hHeld := hHeld.own hg4 hv3
      refine ⟨(fun _ => hHeld), ?_, ?_, ?_⟩
      rotate_left
      · simp only [Act.put, List.setIfInBounds_toArray, List.set_cons_zero, List.set_cons_succ]
        rfl
      refine valD_ 11 (some 5) (bt 12 0) rfl rfl (by kernel_rfl) rfl (v4) (w4) (by go_simp) (fun h => absurd (by decide) h) (a' := ?_) ?_ ?_
      rotate_left
      · simp only [Act.put, List.setIfInBounds_toArray, List.set_cons_zero, List.set_cons_succ]
        rfl
      refine doneD_ (by kernel_rfl) ?_ _
      change Exit.then _ _ _ _ _
      go_wp2
      go_meet
      case rel => exact ⟨hHeld, own_low (by rw [idE.flat_append, idE.flat_one]; exact ho4) (by (try simp only [World.size_alloc]); have := HS2d.out.g_lt; omega), hv4⟩
    · have hHeld := hHeld.alloc (.cells (idc x.id).toArray 66)
      refine fvalD_ 9 (some 25) #[true, true, true, true, true, true, false, true, true, true, false, false] rfl rfl (by kernel_rfl) rfl ((.slice (some ⟨wc.drew.heap.size, 0, none⟩) 1 1)) ((wc.drew.alloc (.cells (idc x.id).toArray 66))) (exec_slice1 39 66 (.tmp 24) rfl (idc x.id).toArray rfl _ 32 32 Tryz.underlying39 id_info idZ_cells (by rw [List.size_toArray, idc_length]) (by decide) (by decide)) (fun _ => hHeld) (a' := ?_) ?_ ?_
      rotate_left
      · simp only [Act.put, List.setIfInBounds_toArray, List.set_cons_zero, List.set_cons_succ]
        rfl
      refine callD_ 6 (some 22) (bt 10 2) rfl rfl (by kernel_rfl) rfl 107 _ (by kernel_rfl) (clone_id _ _ L _ (HSU.out _ hHeld) (by omega)) ?_
      rintro e w3 ⟨v3, rfl, ho3, hb3⟩
      have hbx := (hb3.block wc.drew.heap.size (by simp)).trans (heap_alloc_new wc.drew (.cells (idc x.id).toArray 66))
      refine ⟨_, rfl, hHeld.below hb3, fun hHeld => ⟨?_, ?_, ?_⟩⟩
      rotate_left
      · simp only [Act.put, List.setIfInBounds_toArray, List.set_cons_zero, List.set_cons_succ]
        rfl
      refine stepD_ 10 (some 26) (bt 11 1) rfl rfl (by kernel_rfl) rfl (exec_appS (wc.drew.alloc (.cells (idc x.id).toArray 66)).heap.size (.tmp 22) (.tmp 25) 39 66 _ 32 32 rfl Tryz.underlying39 id_info idZ_cells (by decide) (by decide) v3 L.length (idE.flat L) rfl wc.drew.heap.size 0 1 1 rfl (idc x.id) (by rw [idc_length]) (fun j z hz => by rw [Nat.zero_add]; exact cell_block hbx (by simpa using hz)) (idE.one x.id) ho3 hb3.size (by omega)) ?_
      rintro v4 w4 ⟨ho4, hg4, hat4⟩
      have hge := own_ge ho3
      have hsz := hb3.size
      have hgl := HS2d.out.g_lt
      have hv3 : ∀ k, v3.ownBlock = some k → w.heap.size ≤ k ∧ k ≠ w.heap.size := fun k hk => by (have h0 := hge k hk; (try simp only [World.size_alloc] at h0); omega)
      have hv4 : ∀ k, v4.ownBlock = some k → w.heap.size < k := fun k hk => by (rcases hat4 with h | ⟨b, h, hle⟩ <;> rw [h] at hk <;> first | (have h0 := hge k hk; (try simp only [World.size_alloc] at h0); omega) | (injection hk with hk; subst hk; (try simp only [World.size_alloc] at hle hsz); omega))
      have hHeld := hHeld.own hg4 hv3
      refine ⟨(fun _ => hHeld), ?_, ?_, ?_⟩
      rotate_left
      · simp only [Act.put, List.setIfInBounds_toArray, List.set_cons_zero, List.set_cons_succ]
        rfl
      refine valD_ 11 (some 5) (bt 12 0) rfl rfl (by kernel_rfl) rfl (v4) (w4) (by go_simp) (fun h => absurd (by decide) h) (a' := ?_) ?_ ?_
      rotate_left
      · simp only [Act.put, List.setIfInBounds_toArray, List.set_cons_zero, List.set_cons_succ]
        rfl
      refine doneD_ (by kernel_rfl) ?_ _
      change Exit.then _ _ _ _ _
      go_wp2
      go_meet
      case rel => exact ⟨hHeld, own_low (by rw [idE.flat_append, idE.flat_one]; exact ho4) (by (try simp only [World.size_alloc]); have := HS2d.out.g_lt; omega), hv4⟩
  case rest =>
  obtain ⟨h3, ho3, hv3⟩ := hcut
  have HS3 := Lib.hid h3
  have HO3 := Lib.hid ho3
  have HV3 := Lib.hid hv3
  clear h3 ho3 hv3
  obtain ⟨A5, c5, hu5⟩ : ∃ A c, u5 = .slice A (L.length + 1) c := (Sl.of_own (E := idE) (ys := L ++ [x.id]) (by rw [List.length_append, List.length_singleton]; exact HO3.out)).form.imp fun A h => h.imp fun c h => by rw [h.1, List.length_append, List.length_singleton]
  subst hu5
  go_upto_region 5 with (go_at_call 108; refine (sortD_id _ _ (L ++ [x.id]) w.heap.size 66 (by rw [List.length_append, List.length_singleton]; exact HO3.out) (by rw [List.length_append, List.length_singleton]; omega)).mono ?_; rintro e w4 ⟨rfl, ho4, hg4⟩)
  have hS4 : PutS w w4 p b1 b2 w.heap.size (blkF (D ++ [x])) (D ++ [x]).length F n x := HS3.out.own hg4 fun k hk => by have := HV3.out k hk; omega
  have hl4 : sortI (L ++ [x.id]) = famL (D ++ [x]) f := by rw [← HLL.out, ← HFF.out]; exact famL_add D x
  rw [hl4] at ho4
  have hl5 : (L ++ [x.id]).length = (famL (D ++ [x]) f).length := by rw [← hl4, (sortI_perm _).length_eq]
  rw [hl5] at ho4
  have hs4 : Sl idE (fun k => ok k ∨ okx k ∨ w.heap.size ≤ k) w4 (.slice A5 (L.length + 1) c5) (famL (D ++ [x]) f) := (Sl.of_own ho4).mono fun k hk => .inr (.inr (by have := HV3.out k hk; omega))
  have HS4 := Lib.hid hS4
  have HR4 := Lib.hid hs4
  clear hS4 hs4 ho4 hl4 hl5 hg4
  have hc4 : w4.cell? ⟨p, 1, none⟩ = some (.map (some b2)) := cell_block HS4.out.cell rfl
  go_wp2_with (refine wpl_updV (key := .string f) (v := .slice A5 (L.length + 1) c5) HS4.out.fams lawStr Tryz.underlying130 (by have := HN.out; have := HL.out; omega) rfl (.tmp 32) (.tmp 33) (.tmp 34) rfl rfl rfl (keyOf_str f HFZ.out) rfl ?_; intro w5 hm5 hg5 hz5)
  have hS5 := HS4.out.two_ HD.out.ne hg5 hm5
  have hk5 : ∀ v (l : List ID), Sl idE ok w v l → Sl idE (fun k => ok k ∨ okx k ∨ w.heap.size ≤ k) w5 v l := fun v l h => (h.chg hS5.chg HD.out.no_row).mono fun k hk => .inl hk
  have hs5 : Sl idE (fun k => ok k ∨ okx k ∨ w.heap.size ≤ k) w5 (.slice A5 (L.length + 1) c5) (famL (D ++ [x]) f) := HR4.out.chg (Chg.row hg5) fun k hk cs T fr hh => by
    injection hk with hk
    subst hk
    exact HS4.out.fams.no_cells hh
  refine ⟨rfl, .tuple #[], by kernel_rfl, rfl, hS5.chg, ⟨hS5.cell, hS5.blocks, ⟨_, _, ?_, hS5.fams, ?_⟩, HD.out.ne, ⟨.inl HD.out.here.1, .inl HD.out.here.2.1, .inl HD.out.here.2.2⟩, ?_, ?_⟩⟩
  · rw [List.length_append, List.length_singleton]
    have := HN.out
    split <;> omega
  · rw [← HFF.out] at hs5 ⊢
    exact HA.out.put x _ hk5 hs5
  · intro y hy
    rcases List.mem_append.1 hy with hy | hy
    · exact (Sl.chg (HD.out.at_ y hy) hS5.chg HD.out.no_row).mono fun k hk => .inl hk
    · rw [List.mem_singleton] at hy
      subst hy
      exact (Sl.chg HX.out hS5.chg HD.out.no_row).mono fun k hk => .inr (.inl hk)
  · intro y hy
    rcases List.mem_append.1 hy with hy | hy
    · exact HD.out.ids y hy
    · rw [List.mem_singleton] at hy
      subst hy
      exact HID.out
end Go.Proofs.YtcohdfkdhdhegaaGreatDoor
