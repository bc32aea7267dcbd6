/- coxswainlaw08.Right; coxswainlaw05.Name of 0. -/
import Derived.Test.YthpcedficlhanaaGreatDoorFlAO
namespace Go.Proofs.YthpcedficlhanaaGreatDoor
open Go.RowKit

def name0 : ID := ⟨⟨(Array.replicate 32 0).setIfInBounds 31 255⟩, by simp [ByteArray.size]⟩
theorem name0_cells : (Array.replicate 32 (.int .u8 0)).setIfInBounds 31 (.int .u8 (bits .xor .u8 IntKind.u8.max 0)) = (idc name0).toArray := by kernel_rfl
set_option maxRecDepth 100000 in
set_option maxHeartbeats 1000000 in
theorem name_zero (w : World) : Calls Tryz.prog 147 #[.int .u8 0] w fun e w' => ∃ s : ByteArray, s.size = 32 ∧ e = .returned (.string s) ∧ Below w.heap.size w w' := by
  have hmk : ∀ w : World, (Instr.makeSlice 133 (.int .i64 32) (.int .i64 32)).run Tryz.prog w = .ok (.slice (some ⟨w.heap.size, 0, none⟩) 32 32) (w.alloc (.cells (Array.replicate 32 (.int .u8 0)) 5)) := fun w => by kernel_rfl
  go_enter Tryz.func147, Tryz.ntmps147
  have hcv : ∀ w : World, (convert 133 9 (.slice (some ⟨w.heap.size, 0, none⟩) 32 32)).run Tryz.prog (w.alloc (.cells ((Array.replicate 32 (.int .u8 0)).setIfInBounds 31 (.int .u8 (bits .xor .u8 IntKind.u8.max 0))) 5)) = .ok (.string name0.1) (w.alloc (.cells ((Array.replicate 32 (.int .u8 0)).setIfInBounds 31 (.int .u8 (bits .xor .u8 IntKind.u8.max 0))) 5)) := fun w => by
    rw [name0_cells]
    exact conv_id _ w.heap.size 0 name0 (bytesAt_new w _ _)
  go_wp2
  go_ret
  exact ⟨_, name0.2, rfl, (Below.refl _ w).alloc (Nat.le_refl _) _⟩

/-- What Right answers. -/
structure RightH (h : RH) : Prop where
  h0 : 1 ≤ h.height
  h1 : h.height ≤ 1073741824
  m0 : 0 ≤ h.miner
  m1 : h.miner ≤ 63
  w0 : 1 ≤ h.wins
  w1 : h.wins ≤ 8
  p0 : 2 ≤ h.power
  p1 : h.power ≤ 4611686018427387904
  s0 : 0 ≤ h.salt
  s1 : h.salt ≤ 65535
  t : h.ticket.size ≤ 8
  pl : h.parents.length ≤ 5
  pz : ∀ p ∈ h.parents, p.size = 32
  pn : h.parents.Nodup
def aggB (d : TypeDesc) : Bool := match d with | .struct _ | .array _ _ => true | _ => false
theorem load_cell {P : Program} (w : World) (ty : TypeId) (ad : Addr) (v : Value) (d : TypeDesc) (hc : w.cell? ad = some v) (hu : P.underlying ty = some d) (hd : aggB d = false) : (loadVar ty ad).run P w = .ok v w :=
  Go.Proofs.YthpcedficlhanaaGreatDoor.run_loadVar_cell w ty ad v d hc hu (by cases d <;> first | rfl | cases hd)
structure RS (w W : World) (h : RH) (v : Value) : Prop where
  cell : W.heap[w.heap.size]? = some (.cells (LRH.arr h v) 53 (0, 0))
  res : W.heap[w.heap.size + 1]? = some (.cells zRH 53 (0, 0))
  below : Below w.heap.size w W
  sl : Sl strE (fun k => w.heap.size + 2 ≤ k) W v h.parents
section
variable {w W : World} {h h' : RH} {v v' u : Value} {j : Nat}
theorem RS.set (H : RS w W h v) (he : (LRH.arr h v).setIfInBounds j u = LRH.arr h' v) (hp : h'.parents = h.parents) : RS w (W.setCell ⟨w.heap.size, j, none⟩ u) h' v where
  cell := by rw [← he]; exact heap_setCell_at W w.heap.size j _ _ _ u H.cell
  res := (Below.heap_setCell _ _ _ _ (by simp)).trans H.res
  below := H.below.setCell (p := ⟨w.heap.size, j, none⟩) (Nat.le_refl _) _
  sl := by rw [hp]; exact H.sl.fr ((Fr.refl _ W).setCell (p := ⟨w.heap.size, j, none⟩) (fun h => by have h : w.heap.size + 2 ≤ w.heap.size := h; omega) _)
theorem RS.setP (H : RS w W h v) (q : List ByteArray) (hs : Sl strE (fun k => w.heap.size + 2 ≤ k) W v' q) : RS w (W.setCell ⟨w.heap.size, 5, none⟩ v') { h with parents := q } v' where
  cell := heap_setCell_at W w.heap.size 5 _ _ _ v' H.cell
  res := (Below.heap_setCell _ _ _ _ (by simp)).trans H.res
  below := H.below.setCell (p := ⟨w.heap.size, 5, none⟩) (Nat.le_refl _) _
  sl := hs.fr ((Fr.refl _ W).setCell (p := ⟨w.heap.size, 5, none⟩) (fun h => by have h : w.heap.size + 2 ≤ w.heap.size := h; omega) _)
theorem RS.under (H : RS w W h v) {W' : World} (hb : Below W.heap.size W W') : RS w W' h v :=
  have hz : w.heap.size + 1 < W.heap.size := (Array.getElem?_eq_some_iff.1 H.res).1
  ⟨(hb.block _ (Nat.lt_of_succ_lt hz)).trans H.cell, (hb.block _ hz).trans H.res, H.below.trans (hb.mono H.below.size), H.sl.below hb⟩
variable {ops : Array Oper} {rest : List Oper} {o : Oper} {a : Act} {Q : Exit → Act → World → Prop}
set_option maxRecDepth 100000 in
theorem wpl_rl (H : RS w W h v) (j : Nat) (hgd : o.guard = none) (ty : TypeId) (x : Operand) (ho : o.op = .load ty x) (hx : a.eval x = .pointer (some ⟨w.heap.size, j, none⟩)) (u : Value) (hu : (LRH.arr h v)[j]? = some u) (d : TypeDesc) (hd : Tryz.prog.underlying ty = some d) (hn : aggB d = false)
    (hK : wpList Tryz.prog ops Q rest (a.put o.dst u) W) : wpList Tryz.prog ops Q (o :: rest) a W :=
  wpList_plain hgd fun K hK' => by
    unfold Oper.wp execOp
    simp only [ho, hx, Instr.loadAt, Instr.sureAddr, Sem.run_bind, Sem.run_pure, Result.andThen_ok, load_cell W ty _ u d (cell_block H.cell hu) hd hn]
    exact hK' _ _ hK
set_option maxRecDepth 100000 in
theorem wpl_rs (H : RS w W h v) (j : Nat) (hgd : o.guard = none) (ty : TypeId) (x y : Operand) (ho : o.op = .store ty x y) (hx : a.eval x = .pointer (some ⟨w.heap.size, j, none⟩)) (u : Value) (hy : a.eval y = u) (h1 : u.oneCell' = true) (hi : (Tryz.prog.info? ty).map (·.size) = some 1) (old : Value) (hold : (LRH.arr h v)[j]? = some old) (h' : RH) (he : (LRH.arr h v).setIfInBounds j u = LRH.arr h' v) (hp : h'.parents = h.parents)
    (hK : ∀ W', RS w W' h' v → wpList Tryz.prog ops Q rest (a.put o.dst undef) W') : wpList Tryz.prog ops Q (o :: rest) a W :=
  wpList_plain hgd fun K hK' => by
    unfold Oper.wp execOp
    simp only [ho, hx, hy, Instr.storeAt, Instr.sureAddr, Sem.run_bind, Sem.run_pure, Result.andThen_ok, Go.Proofs.YthpcedficlhanaaGreatDoor.run_storeVar_cell W ty w.heap.size j u old h1 hi (cell_block H.cell hold) (Lib.frozen_of_heap H.cell j)]
    exact hK' _ _ (hK _ (H.set he hp))
set_option maxRecDepth 100000 in
theorem wpl_rsP (H : RS w W h v) (hgd : o.guard = none) (x y : Operand) (ho : o.op = .store 51 x y) (hx : a.eval x = .pointer (some ⟨w.heap.size, 5, none⟩)) (hy : a.eval y = v') (h1 : v'.oneCell' = true) (hi : (Tryz.prog.info? 51).map (·.size) = some 1) (q : List ByteArray) (hs : Sl strE (fun k => w.heap.size + 2 ≤ k) W v' q)
    (hK : ∀ W', RS w W' { h with parents := q } v' → wpList Tryz.prog ops Q rest (a.put o.dst undef) W') : wpList Tryz.prog ops Q (o :: rest) a W :=
  wpList_plain hgd fun K hK' => by
    unfold Oper.wp execOp
    simp only [ho, hx, hy, Instr.storeAt, Instr.sureAddr, Sem.run_bind, Sem.run_pure, Result.andThen_ok, Go.Proofs.YthpcedficlhanaaGreatDoor.run_storeVar_cell W 51 w.heap.size 5 v' v h1 hi (cell_block H.cell rfl) (Lib.frozen_of_heap H.cell 5)]
    exact hK' _ _ (hK _ (H.setP q hs))
end
section
variable {w W : World} {h h' : RH} {v v' u : Value} {j : Nat}
variable {ops : Array Oper} {rest : List Oper} {o : Oper} {a : Act} {Q : Exit → Act → World → Prop}
theorem wpl_rlN (H : RS w W h v) (j : Nat) (N : Option Tmp) (hN : o.dst = N) (hgd : o.guard = none) (ty : TypeId) (x : Operand) (ho : o.op = .load ty x) (hx : a.eval x = .pointer (some ⟨w.heap.size, j, none⟩)) (u : Value) (hu : (LRH.arr h v)[j]? = some u) (d : TypeDesc) (hd : Tryz.prog.underlying ty = some d) (hn : aggB d = false)
    {a' : Act} (ha : a.put N u = a') (hK : wpList Tryz.prog ops Q rest a' W) : wpList Tryz.prog ops Q (o :: rest) a W := by
  subst ha
  subst hN
  exact wpl_rl H j hgd ty x ho hx u hu d hd hn hK
theorem wpl_rsN (H : RS w W h v) (j : Nat) (hN : o.dst = none) (hgd : o.guard = none) (ty : TypeId) (x y : Operand) (ho : o.op = .store ty x y) (hx : a.eval x = .pointer (some ⟨w.heap.size, j, none⟩)) (u : Value) (hy : a.eval y = u) (h1 : u.oneCell' = true) (hi : (Tryz.prog.info? ty).map (·.size) = some 1) (old : Value) (hold : (LRH.arr h v)[j]? = some old) (h' : RH) (he : (LRH.arr h v).setIfInBounds j u = LRH.arr h' v) (hp : h'.parents = h.parents)
    (hK : ∀ W', RS w W' h' v → wpList Tryz.prog ops Q rest a W') : wpList Tryz.prog ops Q (o :: rest) a W :=
  wpl_rs H j hgd ty x y ho hx u hy h1 hi old hold h' he hp (by rw [hN]; exact hK)
theorem wpl_rsPN (H : RS w W h v) (hN : o.dst = none) (hgd : o.guard = none) (x y : Operand) (ho : o.op = .store 51 x y) (hx : a.eval x = .pointer (some ⟨w.heap.size, 5, none⟩)) (hy : a.eval y = v') (h1 : v'.oneCell' = true) (q : List ByteArray) (hs : Sl strE (fun k => w.heap.size + 2 ≤ k) W v' q)
    (hK : ∀ W', RS w W' { h with parents := q } v' → wpList Tryz.prog ops Q rest a W') : wpList Tryz.prog ops Q (o :: rest) a W :=
  wpl_rsP H hgd x y ho hx hy h1 (by kernel_rfl) q hs (by rw [hN]; exact hK)
end
theorem str1_info : (Tryz.prog.info? 9).map (fun i => (i.zero, i.size, i.bytes)) = some (some (.string ⟨#[]⟩), 1, 16) := by kernel_rfl
theorem run_str1 (w : World) (s : ByteArray) : (Instr.buildSlice 51 1 #[(0, .string s)]).run Tryz.prog w = .ok (.slice (some ⟨w.heap.size, 0, none⟩) 1 1) (w.alloc (.cells #[.string s] 9)) := by
  obtain ⟨ie, hie, hzz⟩ := Option.map_eq_some_iff.1 str1_info
  simp only [Prod.mk.injEq] at hzz
  obtain ⟨h1, h2, -⟩ := hzz
  have hf := Great.fill_flat [.string s] ((Array.range (1 * ie.size)).map ((Value.string ⟨#[]⟩).cells[· % (Value.string ⟨#[]⟩).cells.size]!)) (fun v hv => by rw [List.mem_singleton] at hv; subst hv; rfl) (by simp [h2])
  refine run_buildSlice w _ 9 1 _ _ ie _ Tryz.underlying51 hie h1 (by omega) (by omega) ?_
  rw [h2] at hf ⊢
  exact hf
theorem wpl_str1 {ops : Array Oper} {rest : List Oper} {o : Oper} {a : Act} {w : World} {Q : Exit → Act → World → Prop} (hgd : o.guard = none) (x : Operand) (ho : o.op = .buildSlice 51 1 #[(0, x)]) (s : ByteArray) (hx : a.eval x = .string s)
    (h : wpList Tryz.prog ops Q rest (a.put o.dst (.slice (some ⟨w.heap.size, 0, none⟩) 1 1)) (w.alloc (.cells #[.string s] 9))) : wpList Tryz.prog ops Q (o :: rest) a w :=
  wpList_plain hgd fun K hK => by
    unfold Oper.wp execOp
    simp only [ho, List.map_toArray, List.map_cons, List.map_nil, hx, Sem.run_bind, run_str1, Result.andThen_ok, Sem.run_pure]
    exact hK _ _ h
theorem str_nil {s : ByteArray} (h : s.size = 0) : s = ⟨#[]⟩ := by
  obtain ⟨d⟩ := s
  have h : d.size = 0 := h
  rw [Array.size_eq_zero_iff.1 h]
theorem str_pos {s : ByteArray} (h : 0 < s.size) : (s.toList == []) = false := by
  have : s.toList.length = s.size := by rw [ByteArray.toList_eq s]; simp
  cases hs : s.toList with
  | nil => rw [hs] at this; simp at this; omega
  | cons a l => rfl
theorem str_pos' {s : ByteArray} (h : 0 < s.size) : s.toList.isEmpty = false := by
  have := str_pos h
  cases hs : s.toList with
  | nil => rw [hs] at this; cases this
  | cons a l => rfl
theorem i_size : (Tryz.prog.info? 3).map (·.size) = some 1 := by kernel_rfl
theorem u_size : (Tryz.prog.info? 35).map (·.size) = some 1 := by kernel_rfl
theorem s_size : (Tryz.prog.info? 9).map (·.size) = some 1 := by kernel_rfl
theorem sl_size : (Tryz.prog.info? 51).map (·.size) = some 1 := by kernel_rfl

set_option maxRecDepth 100000 in
set_option maxHeartbeats 1000000 in
theorem right_any (w : World) (x : LRH) (ok : Nat → Prop) (hx : SlW strE ok w x.v x.h.parents) (ht : x.h.ticket.size ≤ 140737488351232) (hp0 : 0 ≤ x.h.power) (hp1 : x.h.power ≤ 18446744073709551615) :
    Calls Tryz.prog 90 #[.agg x.cells.toArray] w fun e w' => ∃ y : LRH, RightH y.h ∧ e = .returned (.agg y.cells.toArray) ∧ y.At (fun k => w.heap.size ≤ k) w' ∧ Below w.heap.size w w' := by
  have HX := Lib.hid hx
  have HTS := Lib.hid ht
  have HP : Hid (fewH x.h = fewH x.h) := Lib.hid rfl
  obtain ⟨⟨height, miner, ticket, wins, power, parents, salt⟩, hH⟩ : ∃ H, H = fewH x.h := ⟨_, rfl⟩
  have HH := Lib.hid hH
  have hpz : ∀ p ∈ parents, p.size = 32 := by
    have : parents = (fewH x.h).parents := by rw [← hH]
    rw [this]
    intro p hp
    obtain ⟨s, -, rfl⟩ := List.mem_map.1 hp
    exact (idOf s).2
  have hpl : parents.length ≤ 7 := by
    have : parents = (fewH x.h).parents := by rw [← hH]
    rw [this]
    show ((x.h.parents.take 7).map _).length ≤ 7
    rw [List.length_map, List.length_take]; omega
  have hpw : power = x.h.power := by
    have : power = (fewH x.h).power := by rw [← hH]
    rw [this]; rfl
  have htk : ticket.size ≤ 10 := by
    have : ticket = (fewH x.h).ticket := by rw [← hH]
    rw [this]
    exact cutS_le _ _
  rw [← hpw] at hp0 hp1
  have hb0 : ((w.alloc (.cells x.cells.toArray 53)).alloc (.cells zRH 53)).heap[w.heap.size]? = some (.cells x.cells.toArray 53 (0, 0)) := by rw [heap_alloc_if, if_neg (by simp), heap_alloc_if, if_pos rfl]
  have hb1 : ((w.alloc (.cells x.cells.toArray 53)).alloc (.cells zRH 53)).heap[w.heap.size + 1]? = some (.cells zRH 53 (0, 0)) := by rw [heap_alloc_if, if_pos (by simp)]
  have hB0 : Below w.heap.size w ((w.alloc (.cells x.cells.toArray 53)).alloc (.cells zRH 53)) := ((Below.refl _ w).alloc (Nat.le_refl _) _).alloc (by simp) _
  have HB0 := Lib.hid hB0
  have HK0 := Lib.hid hb0
  have HK1 := Lib.hid hb1
  have HPZ := Lib.hid hpz
  clear hx ht hH hpz hpw hb0 hb1 hB0 HP
  have hql : (sortT parents).length ≤ 7 := by have := sortT_length parents; omega
  have hbw := and_low wins 3 7 (by decide) (by decide)
  have hw0 : 0 ≤ bits .and .i64 wins 7 := by rw [hbw]; omega
  have hw7 : bits .and .i64 wins 7 ≤ 7 := by rw [hbw]; omega
  clear hbw
  have hww : IntKind.i64.wrap (1 + bits .and .i64 wins 7) = 1 + bits .and .i64 wins 7 := IntWalk.i64_in _ (by omega)
  go_enter Tryz.func90, Tryz.ntmps90
  go_upto_region 2 with (first
    | (refine wpl_load rfl 53 (.tmp 1) rfl w.heap.size 0 rfl x.cells _ (fun j u hu => by rw [Nat.zero_add]; exact cell_block HK0.out (by simpa using hu)) Tryz.underlying53 rfl rh_size ?_)
    | (go_at_call 146; refine (few_any _ x ok (HX.out.below HB0.out) HTS.out).mono ?_; rintro e w1 ⟨⟨yh, yA, yc⟩, hyh, rfl, hya, hb1⟩; obtain rfl : yh = ⟨height, miner, ticket, wins, power, parents, salt⟩ := hyh.trans HH.out.symm; have HYA : Hid (Sl strE (fun k => w.heap.size + 2 ≤ k) w1 (.slice yA parents.length yc) parents) := Lib.hid (Sl.mono hya fun k hk => by simp only [World.size_alloc] at hk; omega); have HB1 : Hid (Below w.heap.size w w1) := Lib.hid (HB0.out.trans (hb1.mono (by simp only [World.size_alloc]; omega))); have HG1 : Hid (w1.heap[w.heap.size]? = some (.cells x.cells.toArray 53 (0, 0))) := Lib.hid ((hb1.block _ (by simp only [World.size_alloc]; omega)).trans HK0.out); have HZ1 : Hid (w1.heap[w.heap.size + 1]? = some (.cells zRH 53 (0, 0))) := Lib.hid ((hb1.block _ (by simp only [World.size_alloc]; omega)).trans HK1.out); clear hyh hya hb1)
    | (refine wpl_store_row rfl 53 (.tmp 1) (.tmp 4) rfl w.heap.size rfl [.int .i64 height, .int .i64 miner, .string ticket, .int .i64 wins, .int .u64 power, .slice yA parents.length yc, .int .i64 salt] rfl _ 53 HG1.out rfl (by simp [Value.oneCell']) rh_size ?_; have HR : Hid (RS w (w1.setRow w.heap.size [.int .i64 height, .int .i64 miner, .string ticket, .int .i64 wins, .int .u64 power, .slice yA parents.length yc, .int .i64 salt].toArray) ⟨height, miner, ticket, wins, power, parents, salt⟩ (.slice yA parents.length yc)) := Lib.hid ⟨setRow_heap w1 w.heap.size _ _ _ _ HG1.out, (heap_setRow_ne _ _ _ _ (by omega)).trans HZ1.out, below_setRow HB1.out (Nat.le_refl w.heap.size) _, HYA.out.fr ⟨by simp, fun k hk _ => heap_setRow_ne _ _ _ _ (by omega)⟩⟩; generalize w1.setRow w.heap.size [.int .i64 height, .int .i64 miner, .string ticket, .int .i64 wins, .int .u64 power, .slice yA parents.length yc, .int .i64 salt].toArray = W2 at HR ⊢))
  refine wp_region_lit ?_
  refine lin_ (some 5) rfl rfl (v := (.pointer (some ⟨w.heap.size, 0, none⟩))) (by kernel_rfl) (a' := ?_) ?_ ?_
  rotate_left
  · simp only [Act.put, List.setIfInBounds_toArray, List.set_cons_zero, List.set_cons_succ]
    rfl
  refine wpl_rlN HR.out 0 (some 6) rfl rfl 3 (.tmp 5) rfl (by kernel_rfl) (.int .i64 height) (by kernel_rfl) _ Tryz.underlying3 rfl (a' := ?_) ?_ ?_
  rotate_left
  focus (simp only [Act.put, List.setIfInBounds_toArray, List.set_cons_zero, List.set_cons_succ]; rfl)
  refine lin_ (some 7) rfl rfl (v := ?_) ?_ (a' := ?_) ?_ ?_
  rotate_left
  · go_simp
    with_reducible rfl
  rotate_left
  · simp only [Act.put, List.setIfInBounds_toArray, List.set_cons_zero, List.set_cons_succ]
    rfl
  refine lin_ (some 8) rfl rfl (v := ?_) ?_ (a' := ?_) ?_ ?_
  rotate_left
  · go_simp
    with_reducible rfl
  rotate_left
  · simp only [Act.put, List.setIfInBounds_toArray, List.set_cons_zero, List.set_cons_succ]
    rfl
  refine lin_ (some 9) rfl rfl (v := (.pointer (some ⟨w.heap.size, 1, none⟩))) (by kernel_rfl) (a' := ?_) ?_ ?_
  rotate_left
  · simp only [Act.put, List.setIfInBounds_toArray, List.set_cons_zero, List.set_cons_succ]
    rfl
  refine wpl_rlN HR.out 1 (some 10) rfl rfl 3 (.tmp 9) rfl (by kernel_rfl) (.int .i64 miner) (by kernel_rfl) _ Tryz.underlying3 rfl (a' := ?_) ?_ ?_
  rotate_left
  focus (simp only [Act.put, List.setIfInBounds_toArray, List.set_cons_zero, List.set_cons_succ]; rfl)
  refine lin_ (some 11) rfl rfl (v := ?_) ?_ (a' := ?_) ?_ ?_
  rotate_left
  · go_simp
    with_reducible rfl
  rotate_left
  · simp only [Act.put, List.setIfInBounds_toArray, List.set_cons_zero, List.set_cons_succ]
    rfl
  refine lin_ (some 12) rfl rfl (v := (.pointer (some ⟨w.heap.size, 3, none⟩))) (by kernel_rfl) (a' := ?_) ?_ ?_
  rotate_left
  · simp only [Act.put, List.setIfInBounds_toArray, List.set_cons_zero, List.set_cons_succ]
    rfl
  refine wpl_rlN HR.out 3 (some 13) rfl rfl 3 (.tmp 12) rfl (by kernel_rfl) (.int .i64 wins) (by kernel_rfl) _ Tryz.underlying3 rfl (a' := ?_) ?_ ?_
  rotate_left
  focus (simp only [Act.put, List.setIfInBounds_toArray, List.set_cons_zero, List.set_cons_succ]; rfl)
  refine lin_ (some 14) rfl rfl (v := ?_) ?_ (a' := ?_) ?_ ?_
  rotate_left
  · go_simp
    with_reducible rfl
  rotate_left
  · simp only [Act.put, List.setIfInBounds_toArray, List.set_cons_zero, List.set_cons_succ]
    rfl
  refine lin_ (some 15) rfl rfl (v := ?_) ?_ (a' := ?_) ?_ ?_
  rotate_left
  · go_simp
    with_reducible rfl
  rotate_left
  · simp only [Act.put, List.setIfInBounds_toArray, List.set_cons_zero, List.set_cons_succ]
    rfl
  refine lin_ (some 16) rfl rfl (v := (.pointer (some ⟨w.heap.size, 6, none⟩))) (by kernel_rfl) (a' := ?_) ?_ ?_
  rotate_left
  · simp only [Act.put, List.setIfInBounds_toArray, List.set_cons_zero, List.set_cons_succ]
    rfl
  refine wpl_rlN HR.out 6 (some 17) rfl rfl 3 (.tmp 16) rfl (by kernel_rfl) (.int .i64 salt) (by kernel_rfl) _ Tryz.underlying3 rfl (a' := ?_) ?_ ?_
  rotate_left
  focus (simp only [Act.put, List.setIfInBounds_toArray, List.set_cons_zero, List.set_cons_succ]; rfl)
  refine lin_ (some 18) rfl rfl (v := ?_) ?_ (a' := ?_) ?_ ?_
  rotate_left
  · go_simp
    with_reducible rfl
  rotate_left
  · simp only [Act.put, List.setIfInBounds_toArray, List.set_cons_zero, List.set_cons_succ]
    rfl
  refine lin_ (some 19) rfl rfl (v := (.pointer (some ⟨w.heap.size, 0, none⟩))) (by kernel_rfl) (a' := ?_) ?_ ?_
  rotate_left
  · simp only [Act.put, List.setIfInBounds_toArray, List.set_cons_zero, List.set_cons_succ]
    rfl
  refine wpl_rsN HR.out 0 rfl rfl 3 (.tmp 19) (.tmp 8) rfl (by kernel_rfl) (.int .i64 (max 1 (min height 1073741824))) (by kernel_rfl) rfl i_size _ rfl ⟨(max 1 (min height 1073741824)), miner, ticket, wins, power, parents, salt⟩ rfl rfl ?_
  intro W3 hr3
  clear HR
  have HR := Lib.hid hr3
  clear hr3
  refine lin_ (some 20) rfl rfl (v := (.pointer (some ⟨w.heap.size, 1, none⟩))) (by kernel_rfl) (a' := ?_) ?_ ?_
  rotate_left
  · simp only [Act.put, List.setIfInBounds_toArray, List.set_cons_zero, List.set_cons_succ]
    rfl
  refine wpl_rsN HR.out 1 rfl rfl 3 (.tmp 20) (.tmp 11) rfl (by kernel_rfl) (.int .i64 (bits .and .i64 miner 63)) (by kernel_rfl) rfl i_size _ rfl ⟨(max 1 (min height 1073741824)), (bits .and .i64 miner 63), ticket, wins, power, parents, salt⟩ rfl rfl ?_
  intro W3 hr3
  clear HR
  have HR := Lib.hid hr3
  clear hr3
  refine lin_ (some 21) rfl rfl (v := (.pointer (some ⟨w.heap.size, 3, none⟩))) (by kernel_rfl) (a' := ?_) ?_ ?_
  rotate_left
  · simp only [Act.put, List.setIfInBounds_toArray, List.set_cons_zero, List.set_cons_succ]
    rfl
  refine wpl_rsN HR.out 3 rfl rfl 3 (.tmp 21) (.tmp 15) rfl (by kernel_rfl) (.int .i64 (1 + bits .and .i64 wins 7)) (by kernel_rfl) rfl i_size _ rfl ⟨(max 1 (min height 1073741824)), (bits .and .i64 miner 63), ticket, (1 + bits .and .i64 wins 7), power, parents, salt⟩ rfl rfl ?_
  intro W3 hr3
  clear HR
  have HR := Lib.hid hr3
  clear hr3
  refine lin_ (some 22) rfl rfl (v := (.pointer (some ⟨w.heap.size, 6, none⟩))) (by kernel_rfl) (a' := ?_) ?_ ?_
  rotate_left
  · simp only [Act.put, List.setIfInBounds_toArray, List.set_cons_zero, List.set_cons_succ]
    rfl
  refine wpl_rsN HR.out 6 rfl rfl 3 (.tmp 22) (.tmp 18) rfl (by kernel_rfl) (.int .i64 (bits .and .i64 salt 65535)) (by kernel_rfl) rfl i_size _ rfl ⟨(max 1 (min height 1073741824)), (bits .and .i64 miner 63), ticket, (1 + bits .and .i64 wins 7), power, parents, (bits .and .i64 salt 65535)⟩ rfl rfl ?_
  intro W3 hr3
  clear HR
  have HR := Lib.hid hr3
  clear hr3
  refine wpList_nil ?_
  go_upto_region 3 with fail
  refine wp_region_lit ?_
  refine lin_ (some 23) rfl rfl (v := (.pointer (some ⟨w.heap.size, 4, none⟩))) (by kernel_rfl) (a' := ?_) ?_ ?_
  rotate_left
  · simp only [Act.put, List.setIfInBounds_toArray, List.set_cons_zero, List.set_cons_succ]
    rfl
  refine wpl_rlN HR.out 4 (some 24) rfl rfl 35 (.tmp 23) rfl (by kernel_rfl) (.int .u64 power) (by kernel_rfl) _ Tryz.underlying35 rfl (a' := ?_) ?_ ?_
  rotate_left
  focus (simp only [Act.put, List.setIfInBounds_toArray, List.set_cons_zero, List.set_cons_succ]; rfl)
  refine lin_ (some 25) rfl rfl (v := ?_) ?_ (a' := ?_) ?_ ?_
  rotate_left
  · go_simp
    with_reducible rfl
  rotate_left
  · simp only [Act.put, List.setIfInBounds_toArray, List.set_cons_zero, List.set_cons_succ]
    rfl
  refine lin_ (some 26) rfl rfl (v := ?_) ?_ (a' := ?_) ?_ ?_
  rotate_left
  · go_simp
    with_reducible rfl
  rotate_left
  · simp only [Act.put, List.setIfInBounds_toArray, List.set_cons_zero, List.set_cons_succ]
    rfl
  refine lin_ (some 27) rfl rfl (v := (.pointer (some ⟨w.heap.size, 4, none⟩))) (by kernel_rfl) (a' := ?_) ?_ ?_
  rotate_left
  · simp only [Act.put, List.setIfInBounds_toArray, List.set_cons_zero, List.set_cons_succ]
    rfl
  refine wpl_rsN HR.out 4 rfl rfl 35 (.tmp 27) (.tmp 26) rfl (by kernel_rfl) (.int .u64 (max 2 (min power 4611686018427387904))) (by kernel_rfl) rfl u_size _ rfl ⟨(max 1 (min height 1073741824)), (bits .and .i64 miner 63), ticket, (1 + bits .and .i64 wins 7), (max 2 (min power 4611686018427387904)), parents, (bits .and .i64 salt 65535)⟩ rfl rfl ?_
  intro W3 hr3
  clear HR
  have HR := Lib.hid hr3
  clear hr3
  refine wpList_nil ?_
  go_step
  go_step
  go_step
  go_cut [] from 3 (fun W => ∃ tk : ByteArray, tk.size ≤ 10 ∧ 0 < tk.size ∧ RS w W ⟨max 1 (min height 1073741824), bits .and .i64 miner 63, tk, 1 + bits .and .i64 wins 7, max 2 (min power 4611686018427387904), parents, bits .and .i64 salt 65535⟩ (.slice yA parents.length yc))
  case first =>
    rcases Nat.eq_zero_or_pos ticket.size with h0 | hpos
    · obtain rfl : ticket = ⟨#[]⟩ := str_nil h0
      go_upto_region 4 with fail
      refine wp_region_lit ?_
      refine lin_ (some 28) rfl rfl (v := (.pointer (some ⟨w.heap.size, 2, none⟩))) (by kernel_rfl) (a' := ?_) ?_ ?_
      rotate_left
      · simp only [Act.put, List.setIfInBounds_toArray, List.set_cons_zero, List.set_cons_succ]
        rfl
      refine wpl_rlN HR.out 2 (some 29) rfl rfl 9 (.tmp 28) rfl (by kernel_rfl) (.string ⟨#[]⟩) (by kernel_rfl) _ Tryz.underlying9 rfl (a' := ?_) ?_ ?_
      rotate_left
      focus (simp only [Act.put, List.setIfInBounds_toArray, List.set_cons_zero, List.set_cons_succ]; rfl)
      refine lin_ (some 30) rfl rfl (v := (.bool true)) (by kernel_rfl) (a' := ?_) ?_ ?_
      rotate_left
      · simp only [Act.put, List.setIfInBounds_toArray, List.set_cons_zero, List.set_cons_succ]
        rfl
      refine wpList_nil ?_
      go_upto_region 5 with fail
      refine wp_region_lit ?_
      refine lin_ (some 31) rfl rfl (v := (.pointer (some ⟨w.heap.size, 2, none⟩))) (by kernel_rfl) (a' := ?_) ?_ ?_
      rotate_left
      · simp only [Act.put, List.setIfInBounds_toArray, List.set_cons_zero, List.set_cons_succ]
        rfl
      refine wpl_rsN HR.out 2 rfl rfl 9 (.tmp 31) (.const (.string ⟨#[116]⟩)) rfl (by kernel_rfl) (.string ⟨#[116]⟩) (by kernel_rfl) rfl s_size _ rfl ⟨(max 1 (min height 1073741824)), (bits .and .i64 miner 63), ⟨#[116]⟩, (1 + bits .and .i64 wins 7), (max 2 (min power 4611686018427387904)), parents, (bits .and .i64 salt 65535)⟩ rfl rfl ?_
      intro W3 hr3
      clear HR
      have HR := Lib.hid hr3
      clear hr3
      refine wpList_nil ?_
      go_wp2
      go_meet
      case rel => exact ⟨_, by decide, by decide, HR.out⟩
    · have hte := str_pos hpos
      have hti := str_pos' hpos
      go_upto_region 4 with fail
      refine wp_region_lit ?_
      refine lin_ (some 28) rfl rfl (v := (.pointer (some ⟨w.heap.size, 2, none⟩))) (by kernel_rfl) (a' := ?_) ?_ ?_
      rotate_left
      · simp only [Act.put, List.setIfInBounds_toArray, List.set_cons_zero, List.set_cons_succ]
        rfl
      refine wpl_rlN HR.out 2 (some 29) rfl rfl 9 (.tmp 28) rfl (by kernel_rfl) (.string ticket) (by kernel_rfl) _ Tryz.underlying9 rfl (a' := ?_) ?_ ?_
      rotate_left
      focus (simp only [Act.put, List.setIfInBounds_toArray, List.set_cons_zero, List.set_cons_succ]; rfl)
      refine lin_ (some 30) rfl rfl (v := .bool false) ?_ (a' := ?_) ?_ ?_
      focus go_simp
      rotate_left
      focus (simp only [Act.put, List.setIfInBounds_toArray, List.set_cons_zero, List.set_cons_succ]; rfl)
      refine wpList_nil ?_
      go_wp2
      go_meet
      case rel => exact ⟨_, htk, hpos, HR.out⟩
  case rest =>
  obtain ⟨tk, htk1, htk2, hr⟩ := hcut
  clear HR
  have HR := Lib.hid hr
  clear hr
  go_step
  go_step
  go_cut [] from 3 (fun W => ∃ tk : ByteArray, tk.size ≤ 8 ∧ RS w W ⟨max 1 (min height 1073741824), bits .and .i64 miner 63, tk, 1 + bits .and .i64 wins 7, max 2 (min power 4611686018427387904), parents, bits .and .i64 salt 65535⟩ (.slice yA parents.length yc))
  case first =>
    rcases Nat.lt_or_ge 8 tk.size with h8 | h8
    · have hI : (8 : Int) < tk.size := by omega
      go_upto_region 6 with fail
      refine wp_region_lit ?_
      refine lin_ (some 32) rfl rfl (v := (.pointer (some ⟨w.heap.size, 2, none⟩))) (by kernel_rfl) (a' := ?_) ?_ ?_
      rotate_left
      · simp only [Act.put, List.setIfInBounds_toArray, List.set_cons_zero, List.set_cons_succ]
        rfl
      refine wpl_rlN HR.out 2 (some 33) rfl rfl 9 (.tmp 32) rfl (by kernel_rfl) (.string tk) (by kernel_rfl) _ Tryz.underlying9 rfl (a' := ?_) ?_ ?_
      rotate_left
      focus (simp only [Act.put, List.setIfInBounds_toArray, List.set_cons_zero, List.set_cons_succ]; rfl)
      refine lin_ (some 34) rfl rfl (v := ?_) ?_ (a' := ?_) ?_ ?_
      rotate_left
      · go_simp
        with_reducible rfl
      rotate_left
      · simp only [Act.put, List.setIfInBounds_toArray, List.set_cons_zero, List.set_cons_succ]
        rfl
      refine lin_ (some 35) rfl rfl (v := .bool true) ?_ (a' := ?_) ?_ ?_
      focus (go_simp; done)
      rotate_left
      focus (simp only [Act.put, List.setIfInBounds_toArray, List.set_cons_zero, List.set_cons_succ]; rfl)
      refine wpList_nil ?_
      go_upto_region 7 with fail
      refine wp_region_lit ?_
      refine lin_ (some 36) rfl rfl (v := (.pointer (some ⟨w.heap.size, 2, none⟩))) (by kernel_rfl) (a' := ?_) ?_ ?_
      rotate_left
      · simp only [Act.put, List.setIfInBounds_toArray, List.set_cons_zero, List.set_cons_succ]
        rfl
      refine wpl_rlN HR.out 2 (some 37) rfl rfl 9 (.tmp 36) rfl (by kernel_rfl) (.string tk) (by kernel_rfl) _ Tryz.underlying9 rfl (a' := ?_) ?_ ?_
      rotate_left
      focus (simp only [Act.put, List.setIfInBounds_toArray, List.set_cons_zero, List.set_cons_succ]; rfl)
      refine lin_ (some 38) rfl rfl (v := .string (tk.extract 0 8)) ?_ (a' := ?_) ?_ ?_
      focus (go_simp; intro h; omega)
      rotate_left
      focus (simp only [Act.put, List.setIfInBounds_toArray, List.set_cons_zero, List.set_cons_succ]; rfl)
      refine lin_ (some 39) rfl rfl (v := (.pointer (some ⟨w.heap.size, 2, none⟩))) (by kernel_rfl) (a' := ?_) ?_ ?_
      rotate_left
      · simp only [Act.put, List.setIfInBounds_toArray, List.set_cons_zero, List.set_cons_succ]
        rfl
      refine wpl_rsN HR.out 2 rfl rfl 9 (.tmp 39) (.tmp 38) rfl (by kernel_rfl) (.string (tk.extract 0 8)) (by kernel_rfl) rfl s_size _ rfl ⟨max 1 (min height 1073741824), bits .and .i64 miner 63, ((tk.extract 0 8)), 1 + bits .and .i64 wins 7, max 2 (min power 4611686018427387904), parents, bits .and .i64 salt 65535⟩ rfl rfl ?_
      intro W3 hr3
      clear HR
      have HR := Lib.hid hr3
      clear hr3
      refine wpList_nil ?_
      go_wp2
      go_meet
      case rel => exact ⟨_, by rw [ByteArray.size_extract]; omega, HR.out⟩
    · have hI : (tk.size : Int) ≤ 8 := by omega
      go_upto_region 6 with fail
      refine wp_region_lit ?_
      refine lin_ (some 32) rfl rfl (v := (.pointer (some ⟨w.heap.size, 2, none⟩))) (by kernel_rfl) (a' := ?_) ?_ ?_
      rotate_left
      · simp only [Act.put, List.setIfInBounds_toArray, List.set_cons_zero, List.set_cons_succ]
        rfl
      refine wpl_rlN HR.out 2 (some 33) rfl rfl 9 (.tmp 32) rfl (by kernel_rfl) (.string tk) (by kernel_rfl) _ Tryz.underlying9 rfl (a' := ?_) ?_ ?_
      rotate_left
      focus (simp only [Act.put, List.setIfInBounds_toArray, List.set_cons_zero, List.set_cons_succ]; rfl)
      refine lin_ (some 34) rfl rfl (v := ?_) ?_ (a' := ?_) ?_ ?_
      rotate_left
      · go_simp
        with_reducible rfl
      rotate_left
      · simp only [Act.put, List.setIfInBounds_toArray, List.set_cons_zero, List.set_cons_succ]
        rfl
      refine lin_ (some 35) rfl rfl (v := .bool false) ?_ (a' := ?_) ?_ ?_
      focus (go_simp; done)
      rotate_left
      focus (simp only [Act.put, List.setIfInBounds_toArray, List.set_cons_zero, List.set_cons_succ]; rfl)
      refine wpList_nil ?_
      go_wp2
      go_meet
      case rel => exact ⟨_, h8, HR.out⟩
  case rest =>
  obtain ⟨tk, ht8, hr⟩ := hcut
  clear HR
  have HR := Lib.hid hr
  clear hr
  go_step
  go_step
  go_cut [] from 3 (fun W => ∃ A c, RS w W ⟨max 1 (min height 1073741824), bits .and .i64 miner 63, tk, 1 + bits .and .i64 wins 7, max 2 (min power 4611686018427387904), (sortT parents), bits .and .i64 salt 65535⟩ (.slice A (sortT parents).length c))
  case first =>
    go_wp2_with (first
      | (refine wpl_rlN HR.out 5 (some 41) rfl rfl 51 (.tmp 40) rfl (by kernel_rfl) (.slice yA parents.length yc) (by kernel_rfl) _ Tryz.underlying51 rfl (a' := ?_) ?_ ?_; rotate_left; focus (simp only [Act.put, List.setIfInBounds_toArray, List.set_cons_zero, List.set_cons_succ]; rfl))
      | (go_at_call 52; refine (sort_str _ (.slice yA parents.length yc) parents _ HR.out.sl (by omega)).mono ?_; rintro e w3 ⟨v3, rfl, hr3, hb3⟩; obtain ⟨A3, c3, rfl, hc3⟩ := own_slice hr3; have hr4 := HR.out.under hb3; have hlow := HR.out.res; clear HR; have HR := Lib.hid hr4; have HL3 : Hid (Sl strE (fun k => w.heap.size + 2 ≤ k) w3 (.slice A3 (sortT parents).length c3) (sortT parents)) := Lib.hid (hr3.sl.mono fun k hk => by have := (Array.getElem?_eq_some_iff.1 hlow).1; omega); clear hr3 hb3 hr4 hlow)
      | (refine wpl_rsPN HR.out rfl rfl (.tmp 43) (.tmp 42) rfl rfl rfl rfl (sortT parents) HL3.out ?_; intro W4 hr4; clear HR; have HR := Lib.hid hr4; clear hr4))
    go_meet
    case rel => exact ⟨_, _, HR.out⟩
  case rest =>
  obtain ⟨A3, c3, hr⟩ := hcut
  clear HR
  have HR := Lib.hid hr
  clear hr
  obtain ⟨-, hc3, hc4⟩ := HR.out.sl.len
  go_step
  go_step
  go_cut [] from 3 (fun W => ∃ A c q, q.length ≤ 5 ∧ (∃ m, q = (sortT parents).take m) ∧ RS w W ⟨max 1 (min height 1073741824), bits .and .i64 miner 63, tk, 1 + bits .and .i64 wins 7, max 2 (min power 4611686018427387904), q, bits .and .i64 salt 65535⟩ (.slice A q.length c))
  case first =>
    rcases Nat.lt_or_ge 5 (sortT parents).length with h8 | h8
    · have hI : (5 : Int) < (sortT parents).length := by omega
      have hq : ((sortT parents).take 5).length = 5 := by rw [List.length_take]; omega
      have hc5 : (5 : Int) ≤ c3 := by omega
      go_upto_region 9 with fail
      refine wp_region_lit ?_
      refine lin_ (some 44) rfl rfl (v := (.pointer (some ⟨w.heap.size, 5, none⟩))) (by kernel_rfl) (a' := ?_) ?_ ?_
      rotate_left
      · simp only [Act.put, List.setIfInBounds_toArray, List.set_cons_zero, List.set_cons_succ]
        rfl
      refine wpl_rlN HR.out 5 (some 45) rfl rfl 51 (.tmp 44) rfl (by kernel_rfl) (.slice A3 (sortT parents).length c3) (by kernel_rfl) _ Tryz.underlying51 rfl (a' := ?_) ?_ ?_
      rotate_left
      focus (simp only [Act.put, List.setIfInBounds_toArray, List.set_cons_zero, List.set_cons_succ]; rfl)
      refine lin_ (some 46) rfl rfl (v := ?_) ?_ (a' := ?_) ?_ ?_
      rotate_left
      · go_simp
        with_reducible rfl
      rotate_left
      · simp only [Act.put, List.setIfInBounds_toArray, List.set_cons_zero, List.set_cons_succ]
        rfl
      refine lin_ (some 47) rfl rfl (v := .bool true) ?_ (a' := ?_) ?_ ?_
      focus (go_simp; done)
      rotate_left
      focus (simp only [Act.put, List.setIfInBounds_toArray, List.set_cons_zero, List.set_cons_succ]; rfl)
      refine wpList_nil ?_
      go_upto_region 10 with fail
      refine wp_region_lit ?_
      refine lin_ (some 48) rfl rfl (v := (.pointer (some ⟨w.heap.size, 5, none⟩))) (by kernel_rfl) (a' := ?_) ?_ ?_
      rotate_left
      · simp only [Act.put, List.setIfInBounds_toArray, List.set_cons_zero, List.set_cons_succ]
        rfl
      refine wpl_rlN HR.out 5 (some 49) rfl rfl 51 (.tmp 48) rfl (by kernel_rfl) (.slice A3 (sortT parents).length c3) (by kernel_rfl) _ Tryz.underlying51 rfl (a' := ?_) ?_ ?_
      rotate_left
      focus (simp only [Act.put, List.setIfInBounds_toArray, List.set_cons_zero, List.set_cons_succ]; rfl)
      refine lin_ (some 50) rfl rfl (v := .slice A3 5 c3) ?_ (a' := ?_) ?_ ?_
      focus (go_simp; done)
      rotate_left
      focus (simp only [Act.put, List.setIfInBounds_toArray, List.set_cons_zero, List.set_cons_succ]; rfl)
      refine lin_ (some 51) rfl rfl (v := (.pointer (some ⟨w.heap.size, 5, none⟩))) (by kernel_rfl) (a' := ?_) ?_ ?_
      rotate_left
      · simp only [Act.put, List.setIfInBounds_toArray, List.set_cons_zero, List.set_cons_succ]
        rfl
      refine wpl_rsPN HR.out rfl rfl (.tmp 51) (.tmp 50) rfl rfl (by kernel_rfl) (v' := (.slice A3 5 c3)) rfl ((sortT parents).take 5) (HR.out.sl.take (by omega)) ?_
      intro W4 hr4
      clear HR
      have HR := Lib.hid hr4
      clear hr4
      refine wpList_nil ?_
      go_wp2
      go_meet
      case rel => exact ⟨A3, c3, (sortT parents).take 5, by omega, ⟨5, rfl⟩, by rw [hq]; exact HR.out⟩
    · have hI : ((sortT parents).length : Int) ≤ 5 := by omega
      go_upto_region 9 with fail
      refine wp_region_lit ?_
      refine lin_ (some 44) rfl rfl (v := (.pointer (some ⟨w.heap.size, 5, none⟩))) (by kernel_rfl) (a' := ?_) ?_ ?_
      rotate_left
      · simp only [Act.put, List.setIfInBounds_toArray, List.set_cons_zero, List.set_cons_succ]
        rfl
      refine wpl_rlN HR.out 5 (some 45) rfl rfl 51 (.tmp 44) rfl (by kernel_rfl) (.slice A3 (sortT parents).length c3) (by kernel_rfl) _ Tryz.underlying51 rfl (a' := ?_) ?_ ?_
      rotate_left
      focus (simp only [Act.put, List.setIfInBounds_toArray, List.set_cons_zero, List.set_cons_succ]; rfl)
      refine lin_ (some 46) rfl rfl (v := ?_) ?_ (a' := ?_) ?_ ?_
      rotate_left
      · go_simp
        with_reducible rfl
      rotate_left
      · simp only [Act.put, List.setIfInBounds_toArray, List.set_cons_zero, List.set_cons_succ]
        rfl
      refine lin_ (some 47) rfl rfl (v := .bool false) ?_ (a' := ?_) ?_ ?_
      focus (go_simp; done)
      rotate_left
      focus (simp only [Act.put, List.setIfInBounds_toArray, List.set_cons_zero, List.set_cons_succ]; rfl)
      refine wpList_nil ?_
      go_wp2
      go_meet
      case rel => exact ⟨A3, c3, sortT parents, h8, ⟨_, (List.take_length).symm⟩, HR.out⟩
  case rest =>
  obtain ⟨A4, c4, q, hq5, hqm, hr⟩ := hcut
  clear HR
  have HR := Lib.hid hr
  clear hr
  obtain ⟨-, hc5, hc6⟩ := HR.out.sl.len
  go_step
  go_step
  go_cut [] from 3 (fun W => ∃ A c p, p.length ≤ 5 ∧ (∀ x ∈ p, x.size = 32) ∧ p.Nodup ∧ RS w W ⟨max 1 (min height 1073741824), bits .and .i64 miner 63, tk, 1 + bits .and .i64 wins 7, max 2 (min power 4611686018427387904), p, bits .and .i64 salt 65535⟩ (.slice A p.length c))
  case first =>
    rcases Nat.eq_zero_or_pos q.length with h8 | h8
    · have hI : (q.length : Int) = 0 := by omega
      go_upto_region 11 with fail
      refine wp_region_lit ?_
      refine lin_ (some 52) rfl rfl (v := (.pointer (some ⟨w.heap.size, 5, none⟩))) (by kernel_rfl) (a' := ?_) ?_ ?_
      rotate_left
      · simp only [Act.put, List.setIfInBounds_toArray, List.set_cons_zero, List.set_cons_succ]
        rfl
      refine wpl_rlN HR.out 5 (some 53) rfl rfl 51 (.tmp 52) rfl (by kernel_rfl) (.slice A4 q.length c4) (by kernel_rfl) _ Tryz.underlying51 rfl (a' := ?_) ?_ ?_
      rotate_left
      focus (simp only [Act.put, List.setIfInBounds_toArray, List.set_cons_zero, List.set_cons_succ]; rfl)
      refine lin_ (some 54) rfl rfl (v := ?_) ?_ (a' := ?_) ?_ ?_
      rotate_left
      · go_simp
        with_reducible rfl
      rotate_left
      · simp only [Act.put, List.setIfInBounds_toArray, List.set_cons_zero, List.set_cons_succ]
        rfl
      refine lin_ (some 55) rfl rfl (v := .bool true) ?_ (a' := ?_) ?_ ?_
      focus (go_simp; done)
      rotate_left
      focus (simp only [Act.put, List.setIfInBounds_toArray, List.set_cons_zero, List.set_cons_succ]; rfl)
      refine wpList_nil ?_
      go_wp2_with (first
        | (go_at_call 147; refine (name_zero _).mono ?_; rintro e w5 ⟨s5, hs5, rfl, hb5⟩; have hr5 := HR.out.under hb5; have HR5 : Hid (RS w (w5.alloc (.cells #[.string s5] 9)) ⟨max 1 (min height 1073741824), bits .and .i64 miner 63, tk, 1 + bits .and .i64 wins 7, max 2 (min power 4611686018427387904), q, bits .and .i64 salt 65535⟩ (.slice A4 q.length c4)) := Lib.hid (hr5.under ((Below.refl _ _).alloc (Nat.le_refl _) _)); have HS5 : Hid (Sl strE (fun k => w.heap.size + 2 ≤ k) (w5.alloc (.cells #[.string s5] 9)) (.slice (some ⟨w5.heap.size, 0, none⟩) 1 1) [s5]) := Lib.hid ((Sl.of_block (E := strE) (ys := [s5]) (n := 1) (c := 1) (heap_alloc_new w5 _) rfl rfl (Nat.le_refl _) (by omega)).mono fun k hk => by have := (Array.getElem?_eq_some_iff.1 hr5.res).1; omega); clear hr5 hb5)
        | (refine wpl_str1 rfl (.tmp 56) rfl s5 rfl ?_)
        | (refine wpl_rsPN HR5.out rfl rfl (.tmp 58) (.tmp 57) rfl rfl rfl rfl [s5] HS5.out ?_; intro W4 hr4; clear HR; have HR := Lib.hid hr4; clear hr4))
      go_meet
      case rel => exact ⟨_, _, [s5], by simp, by intro x hx; rw [List.mem_singleton.1 hx]; exact hs5, by simp, HR.out⟩
    · have hI : ¬ q = [] := by rintro rfl; simp at h8
      go_upto_region 11 with fail
      refine wp_region_lit ?_
      refine lin_ (some 52) rfl rfl (v := (.pointer (some ⟨w.heap.size, 5, none⟩))) (by kernel_rfl) (a' := ?_) ?_ ?_
      rotate_left
      · simp only [Act.put, List.setIfInBounds_toArray, List.set_cons_zero, List.set_cons_succ]
        rfl
      refine wpl_rlN HR.out 5 (some 53) rfl rfl 51 (.tmp 52) rfl (by kernel_rfl) (.slice A4 q.length c4) (by kernel_rfl) _ Tryz.underlying51 rfl (a' := ?_) ?_ ?_
      rotate_left
      focus (simp only [Act.put, List.setIfInBounds_toArray, List.set_cons_zero, List.set_cons_succ]; rfl)
      refine lin_ (some 54) rfl rfl (v := ?_) ?_ (a' := ?_) ?_ ?_
      rotate_left
      · go_simp
        with_reducible rfl
      rotate_left
      · simp only [Act.put, List.setIfInBounds_toArray, List.set_cons_zero, List.set_cons_succ]
        rfl
      refine lin_ (some 55) rfl rfl (v := .bool false) ?_ (a' := ?_) ?_ ?_
      focus (go_simp; done)
      rotate_left
      focus (simp only [Act.put, List.setIfInBounds_toArray, List.set_cons_zero, List.set_cons_succ]; rfl)
      refine wpList_nil ?_
      go_wp2
      go_meet
      case rel =>
        obtain ⟨m, rfl⟩ := hqm
        exact ⟨A4, c4, (sortT parents).take m, hq5, fun x hx => HPZ.out x (sortT_mem _ x (List.mem_of_mem_take hx)), (sortT_nodup _).sublist (List.take_sublist _ _), HR.out⟩
  case rest =>
  obtain ⟨A5, c5, p, hp5, hp32, hpn, hr⟩ := hcut
  clear HR
  have HR := Lib.hid hr
  clear hr
  have HY : Hid (∀ j u, (LRH.cells ⟨⟨max 1 (min height 1073741824), bits .and .i64 miner 63, tk, 1 + bits .and .i64 wins 7, max 2 (min power 4611686018427387904), p, bits .and .i64 salt 65535⟩, A5, c5⟩)[j]? = some u → wc.cell? ⟨w.heap.size, 0 + j, none⟩ = some u) := Lib.hid fun j u hu => by
    rw [Nat.zero_add]
    exact cell_block HR.out.cell (by simpa [LRH.arr, LRH.cells, LRH.v] using hu)
  go_wp2_with (first
    | (refine wpl_load rfl 53 (.tmp 1) rfl w.heap.size 0 rfl (LRH.cells ⟨⟨max 1 (min height 1073741824), bits .and .i64 miner 63, tk, 1 + bits .and .i64 wins 7, max 2 (min power 4611686018427387904), p, bits .and .i64 salt 65535⟩, A5, c5⟩) _ HY.out Tryz.underlying53 rfl rh_size ?_)
    | (refine wpl_store_row rfl 53 (.tmp 2) (.tmp 59) rfl (w.heap.size + 1) rfl (LRH.cells ⟨⟨max 1 (min height 1073741824), bits .and .i64 miner 63, tk, 1 + bits .and .i64 wins 7, max 2 (min power 4611686018427387904), p, bits .and .i64 salt 65535⟩, A5, c5⟩) rfl _ 53 HR.out.res rfl (lrhE.one _) rh_size ?_))
  (try simp only [Exit.inBlock, Exit.then])
  refine bodyPost_ret (results_cell_row rfl _ _ (w.heap.size + 1) 53 (LRH.cells ⟨⟨max 1 (min height 1073741824), bits .and .i64 miner 63, tk, 1 + bits .and .i64 wins 7, max 2 (min power 4611686018427387904), p, bits .and .i64 salt 65535⟩, A5, c5⟩).toArray (0, 0) _ rfl (setRow_heap _ (w.heap.size + 1) _ _ _ _ HR.out.res) Tryz.underlying53 rfl rh_size) rfl ?_
  refine ⟨⟨⟨max 1 (min height 1073741824), bits .and .i64 miner 63, tk, 1 + bits .and .i64 wins 7, max 2 (min power 4611686018427387904), p, bits .and .i64 salt 65535⟩, A5, c5⟩, ?_, rfl, ?_, below_setRow HR.out.below (Nat.le_succ _) _⟩
  · have hbm := and_low miner 6 63 (by decide) (by decide)
    have hbs := and_low salt 16 65535 (by decide) (by decide)
    exact ⟨by show 1 ≤ max 1 (min height 1073741824); omega, by show max 1 (min height 1073741824) ≤ 1073741824; omega, by show 0 ≤ bits .and .i64 miner 63; omega, by show bits .and .i64 miner 63 ≤ 63; omega, by show 1 ≤ 1 + bits .and .i64 wins 7; omega, by show 1 + bits .and .i64 wins 7 ≤ 8; omega, by show 2 ≤ max 2 (min power 4611686018427387904); omega, by show max 2 (min power 4611686018427387904) ≤ 4611686018427387904; omega, by show 0 ≤ bits .and .i64 salt 65535; omega, by show bits .and .i64 salt 65535 ≤ 65535; omega, ht8, hp5, hp32, hpn⟩
  · exact (HR.out.sl.fr (ok := fun k => w.heap.size + 2 ≤ k) ⟨by simp, fun k hk _ => heap_setRow_ne _ _ _ _ (by omega)⟩).mono fun k hk => by omega
end Go.Proofs.YthpcedficlhanaaGreatDoor
