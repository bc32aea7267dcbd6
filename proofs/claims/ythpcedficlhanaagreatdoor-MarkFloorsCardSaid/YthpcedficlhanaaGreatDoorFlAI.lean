/- What a tipset tells. Height, Power, Parents of a tipset. Key, Wins, Ticket, Blocks of a tipset. tipset.Compare; what it stands on. -/
import Derived.Test.YthpcedficlhanaaGreatDoorFlAH
import Derived.Great.FillDense
import Derived.Great.BuildSlice
namespace Go.Proofs.YthpcedficlhanaaGreatDoor
open Go.RowKit

/-- A tipset's value, and the blocks that it leads to. -/
def TipAt (ok : Nat → Prop) (w : World) (t : Value) (l : List LB) : Prop := Sl lbE ok w t l ∧ l.length ≤ 5
theorem TipAt.below {ok : Nat → Prop} {w w' : World} {t : Value} {l : List LB} (h : TipAt ok w t l) (hb : Below w.heap.size w w') : TipAt ok w' t l := ⟨h.1.below hb, h.2⟩

set_option maxRecDepth 100000 in
set_option maxHeartbeats 1000000 in
theorem zero_any (w : World) (t : Value) (l : List LB) (ok : Nat → Prop) (h : TipAt ok w t l) :
    Calls Tryz.prog 55 #[tipV t] w fun e w' => e = .returned (.bool (decide (l.length = 0))) ∧ Below w.heap.size w w' := by
  obtain ⟨A, c, rfl, hc, hm⟩ := h.1.form
  have hl5 := h.2
  clear h
  go_enter Tryz.func55, Tryz.ntmps55
  go_wp2
  go_ret
  refine ⟨?_, (Below.refl _ w).alloc (Nat.le_refl _) _⟩
  have : ((l.length : Int) == 0) = decide (l.length = 0) := by rw [Bool.eq_iff_iff]; simp
  rw [this]
  rfl

theorem zero_no (w : World) (t : Value) (l : List LB) (ok : Nat → Prop) (h : TipAt ok w t l) (hp : 0 < l.length) :
    Calls Tryz.prog 55 #[tipV t] w fun e w' => e = .returned (.bool false) ∧ Below w.heap.size w w' :=
  (zero_any w t l ok h).mono fun _ _ ⟨he, hb⟩ => ⟨by rw [decide_eq_false (by omega)] at he; exact he, hb⟩

def firstL (l : List LB) : LB := l.headD lbZ
set_option maxRecDepth 100000 in
set_option maxHeartbeats 1000000 in
theorem first_any (w : World) (t : Value) (l : List LB) (ok : Nat → Prop) (h : TipAt ok w t l) :
    Calls Tryz.prog 101 #[tipV t] w fun e w' => e = .returned (.agg (firstL l).cells.toArray) ∧ Below w.heap.size w w' := by
  obtain ⟨A, c, rfl, hc, hm⟩ := h.1.form
  have HT := Lib.hid h
  have hl5 := h.2
  clear h
  have hB0 : Below w.heap.size w ((w.alloc (.cells #[.slice A l.length c] 28)).alloc (.cells lbZ.cells.toArray 40)) := ((Below.refl _ w).alloc (Nat.le_refl _) _).alloc (by simp) _
  have hz0 : ((w.alloc (.cells #[.slice A l.length c] 28)).alloc (.cells lbZ.cells.toArray 40)).heap[w.heap.size + 1]? = some (.cells lbZ.cells.toArray 40 (0, 0)) := by rw [heap_alloc_if, if_pos (by simp)]
  have hc0 : ((w.alloc (.cells #[.slice A l.length c] 28)).alloc (.cells lbZ.cells.toArray 40)).cell? ⟨w.heap.size, 0, none⟩ = some (.slice A l.length c) := cell_block (fr := (0, 0)) (T := 28) (by rw [heap_alloc_if, if_neg (by simp), heap_alloc_if, if_pos rfl]) rfl
  have hsz : w.heap.size + 1 < ((w.alloc (.cells #[.slice A l.length c] 28)).alloc (.cells lbZ.cells.toArray 40)).heap.size := by simp
  have HB0 := Lib.hid hB0
  have HZ0 := Lib.hid hz0
  have HC0 := Lib.hid hc0
  have HS0 := Lib.hid hsz
  clear hB0 hz0 hc0 hsz
  go_enter Tryz.func101, Tryz.ntmps101
  rcases Nat.eq_zero_or_pos l.length with h0 | hp
  · have hl : l = [] := List.eq_nil_of_length_eq_zero h0
    subst hl
    go_wp2_with (first
      | (go_at_call 55; refine (zero_any _ _ [] ok (HT.out.below HB0.out)).mono ?_; rintro e w1 ⟨rfl, hb1⟩; have HB1 : Hid (Below w.heap.size w w1) := HB0.out.trans (hb1.mono HB0.out.size); have HZ1 : Hid (w1.heap[w.heap.size + 1]? = some (.cells lbZ.cells.toArray 40 (0, 0))) := (hb1.block _ HS0.out).trans HZ0.out; clear hb1)
      | (refine wpl_store_row rfl 40 (.tmp 2) (.tmp 5) rfl (w.heap.size + 1) rfl lbZ.cells rfl _ 40 HZ1.out (by simp) lbZ.cells_one (by rw [LB.cells_length]; exact block_size) ?_))
    (try simp only [Exit.inBlock, Exit.then])
    refine bodyPost_ret (results_cell_row rfl _ _ (w.heap.size + 1) 40 lbZ.cells.toArray (0, 0) _ rfl (setRow_heap w1 (w.heap.size + 1) _ _ _ _ HZ1.out) Tryz.underlying40 rfl (by rw [List.size_toArray, LB.cells_length]; exact block_size)) rfl ?_
    exact ⟨rfl, below_setRow HB1.out (Nat.le_succ _) _⟩
  · obtain ⟨x, hx⟩ : ∃ x, l[0]? = some x := ⟨_, List.getElem?_eq_getElem hp⟩
    have hf : firstL l = x := by cases l with | nil => cases hx | cons y l => simpa [firstL] using hx
    rw [hf]
    clear hf
    obtain ⟨b, off, rfl, -, -, -⟩ := HT.out.1.at_ 0 x hx
    have HX := Lib.hid hx
    clear hx
    go_wp2_with (first
      | (go_at_call 55; refine (zero_no _ _ l ok (HT.out.below HB0.out) hp).mono ?_; rintro e w1 ⟨rfl, hb1⟩; have HB1 : Hid (Below w.heap.size w w1) := HB0.out.trans (hb1.mono HB0.out.size); have HZ1 : Hid (w1.heap[w.heap.size + 1]? = some (.cells lbZ.cells.toArray 40 (0, 0))) := (hb1.block _ HS0.out).trans HZ0.out; have hc1 : w1.cell? ⟨w.heap.size, 0, none⟩ = some (.slice (some ⟨b, off, none⟩) l.length c) := (hb1.cell (p := ⟨w.heap.size, 0, none⟩) (Nat.lt_of_succ_lt HS0.out)).trans HC0.out; have HX1 : Hid (∀ j u, x.cells[j]? = some u → w1.cell? ⟨b, off + j, none⟩ = some u) := (fun j u hu => by obtain ⟨b', off', he, -, -, hcx⟩ := (HT.out.1.below HB1.out).at_ 0 x HX.out; injection he with he; injection he with e1 e2; subst e1; subst e2; simpa using hcx j u hu); clear hb1)
      | (refine wpl_load rfl 40 (.tmp 8) rfl b _ rfl x.cells _ HX1.out Tryz.underlying40 rfl (by rw [LB.cells_length]; exact block_size) ?_)
      | (refine wpl_store_row rfl 40 (.tmp 2) (.tmp 9) rfl (w.heap.size + 1) rfl x.cells rfl _ 40 HZ1.out (by rw [List.size_toArray, LB.cells_length, LB.cells_length]) x.cells_one (by rw [LB.cells_length]; exact block_size) ?_))
    (try simp only [Exit.inBlock, Exit.then])
    refine bodyPost_ret (results_cell_row rfl _ _ (w.heap.size + 1) 40 x.cells.toArray (0, 0) _ rfl (setRow_heap w1 (w.heap.size + 1) _ _ _ _ HZ1.out) Tryz.underlying40 rfl (by rw [List.size_toArray, LB.cells_length]; exact block_size)) rfl ?_
    exact ⟨rfl, below_setRow HB1.out (Nat.le_succ _) _⟩
end Go.Proofs.YthpcedficlhanaaGreatDoor
namespace Go.Proofs.YthpcedficlhanaaGreatDoor
open Go.RowKit

section
variable {P : Program} {ops : Array Oper} {rest : List Oper} {o : Oper} {a : Act} {w : World} {Q : Exit → Act → World → Prop}
theorem wpl_field (hgd : o.guard = none) (ty : TypeId) (k : Nat) (x : Operand) (ho : o.op = .field ty x k) (v r : Value) (hx : a.eval x = v) (hr : (Instr.field ty v k).run P w = .ok r w)
    (h : wpList P ops Q rest (a.put o.dst r) w) : wpList P ops Q (o :: rest) a w :=
  wpList_plain hgd fun K hK => by
    unfold Oper.wp execOp
    simp only [ho, hx, Sem.run_bind, hr, Result.andThen_ok, Sem.run_pure]
    exact hK _ _ h
end
set_option maxRecDepth 100000 in
theorem part_header (x : LB) (w : World) : (part 38 x.cells.toArray 32).run Tryz.prog w = .ok (.agg x.x.cells.toArray) w := by
  have ha : (isAgg 38).run Tryz.prog w = .ok true w := by kernel_rfl
  have hs : (sizeOf 38).run Tryz.prog w = .ok 7 w := by kernel_rfl
  have he : x.cells.toArray.extract 32 (32 + 7) = x.x.cells.toArray := by
    apply Array.toList_inj.1
    simp only [Array.toList_extract, List.extract_eq_take_drop]
    rw [show x.cells = idc x.id ++ x.x.cells from rfl, List.drop_left' (idc_length x.id)]
    rfl
  simp only [part, Sem.run_bind, ha, hs, Result.andThen_ok, if_true, Sem.run_pure, he]
set_option maxRecDepth 100000 in
theorem field_header (x : LB) (w : World) : (Instr.field 40 (.agg x.cells.toArray) 1).run Tryz.prog w = .ok (.agg x.x.cells.toArray) w := by
  have hp := part_header x w
  unfold Instr.field
  rw [Sem.run_bind, run_underlying Tryz.underlying40 w]
  exact hp

set_option maxRecDepth 100000 in
set_option maxHeartbeats 1000000 in
theorem height_any (w : World) (t : Value) (l : List LB) (ok : Nat → Prop) (h : TipAt ok w t l) :
    Calls Tryz.prog 25 #[tipV t] w fun e w' => e = .returned (.int .i64 (firstL l).x.h.height) ∧ Below w.heap.size w w' := by
  have HT := Lib.hid h
  clear h
  go_enter Tryz.func25, Tryz.ntmps25
  go_wp2_with (first
    | (go_at_call 101; refine (first_any _ _ l ok (HT.out.below ((Below.refl _ w).alloc (Nat.le_refl _) _))).mono ?_; rintro e w1 ⟨rfl, hb1⟩; have HB1 : Hid (Below w.heap.size w w1) := ((Below.refl _ w).alloc (Nat.le_refl _) _).trans (hb1.mono (by simp)); clear hb1)
    | (refine wpl_field rfl 40 1 (.tmp 4) rfl _ _ rfl (field_header _ _) ?_)
    | (refine wpl_field rfl 38 0 (.tmp 5) rfl _ (.int .i64 (firstL l).x.h.height) rfl (by kernel_rfl) ?_))
  go_ret
  exact ⟨rfl, HB1.out⟩
set_option maxRecDepth 100000 in
set_option maxHeartbeats 1000000 in
theorem power_any (w : World) (t : Value) (l : List LB) (ok : Nat → Prop) (h : TipAt ok w t l) :
    Calls Tryz.prog 26 #[tipV t] w fun e w' => e = .returned (.int .u64 (firstL l).x.h.power) ∧ Below w.heap.size w w' := by
  have HT := Lib.hid h
  clear h
  go_enter Tryz.func26, Tryz.ntmps26
  go_wp2_with (first
    | (go_at_call 101; refine (first_any _ _ l ok (HT.out.below ((Below.refl _ w).alloc (Nat.le_refl _) _))).mono ?_; rintro e w1 ⟨rfl, hb1⟩; have HB1 : Hid (Below w.heap.size w w1) := ((Below.refl _ w).alloc (Nat.le_refl _) _).trans (hb1.mono (by simp)); clear hb1)
    | (refine wpl_field rfl 40 1 (.tmp 4) rfl _ _ rfl (field_header _ _) ?_)
    | (refine wpl_field rfl 38 4 (.tmp 5) rfl _ (.int .u64 (firstL l).x.h.power) rfl (by kernel_rfl) ?_))
  go_ret
  exact ⟨rfl, HB1.out⟩
theorem firstL_ok {ok : Nat → Prop} {w : World} {l : List LB} (h : Okay ok w l) : (firstL l).x.At ok w ∧ (firstL l).x.h.Ok ∧ (firstL l).x.h.parents.Nodup := by
  cases l with
  | nil => exact ⟨Sl.nil _ _ _, ⟨⟨by decide, by decide⟩, ⟨by decide, by decide⟩, ⟨by decide, by decide⟩, ⟨by decide, by decide⟩, by decide, by decide, by show (0 : Nat) ≤ 1048576; omega, by show (0 : Nat) ≤ 1048576; omega⟩, List.nodup_nil⟩
  | cons x l => exact h x (by simp)
set_option maxRecDepth 100000 in
set_option maxHeartbeats 1000000 in
theorem parents_any (w : World) (t : Value) (l : List LB) (ok ok' : Nat → Prop) (h : TipAt ok w t l) (hk : Okay ok' w l) :
    Calls Tryz.prog 27 #[tipV t] w fun e w' => e = .returned (.string (keyB (firstL l).x.h.parents)) ∧ Below w.heap.size w w' := by
  obtain ⟨hx, hok, hn⟩ := firstL_ok hk
  have HT := Lib.hid h
  have HX := Lib.hid hx
  have hpl : (firstL l).x.h.parents.length ≤ 4294967296 := by have h : _ ≤ 1048576 := hok.parents; omega
  have HN := Lib.hid hn
  clear h hk hx hok hn
  go_enter Tryz.func27, Tryz.ntmps27
  go_wp2_with (first
    | (go_at_call 101; refine (first_any _ _ l ok (HT.out.below ((Below.refl _ w).alloc (Nat.le_refl _) _))).mono ?_; rintro e w1 ⟨rfl, hb1⟩; have HB1 : Hid (Below w.heap.size w w1) := ((Below.refl _ w).alloc (Nat.le_refl _) _).trans (hb1.mono (by simp)); clear hb1)
    | (refine wpl_field rfl 40 1 (.tmp 4) rfl _ _ rfl (field_header _ _) ?_)
    | (refine wpl_field rfl 38 5 (.tmp 5) rfl _ (firstL l).x.v rfl (by kernel_rfl) ?_)
    | (go_at_call 44; refine (key_any _ _ _ _ (HX.out.below HB1.out) hpl HN.out).mono ?_; rintro e w2 ⟨rfl, hb2⟩; have HB2 : Hid (Below w.heap.size w w2) := HB1.out.trans (hb2.mono HB1.out.size); clear hb2))
  go_ret
  exact ⟨rfl, HB2.out⟩
end Go.Proofs.YthpcedficlhanaaGreatDoor
namespace Go.Proofs.YthpcedficlhanaaGreatDoor
open Go.RowKit

section
variable {P : Program} {ops : Array Oper} {rest : List Oper} {o : Oper} {a : Act} {w : World} {Q : Exit → Act → World → Prop}
/-- A slice literal of one struct or array. -/
theorem run_slice1 (w : World) (t e : TypeId) (cs : Array Value) (z : Value) (size bytes : Nat) (hu : P.underlying t = some (.slice e)) (hinfo : (P.info? e).map (fun i => (i.zero, i.size, i.bytes)) = some (some z, size, bytes)) (hz : z.cells.size = size) (hv : cs.size = size) (h0 : 0 < size) (hs : size ≤ 1000) :
    (Instr.buildSlice t 1 #[(0, .agg cs)]).run P w = .ok (.slice (some ⟨w.heap.size, 0, none⟩) 1 1) (w.alloc (.cells cs e)) := by
  obtain ⟨ie, hie, hzz⟩ := Option.map_eq_some_iff.1 hinfo
  simp only [Prod.mk.injEq] at hzz
  obtain ⟨h1, h2, -⟩ := hzz
  have hf := Great.fill_whole h0 [.agg cs] ((Array.range (1 * ie.size)).map (z.cells[· % z.cells.size]!)) (fun v hv' => by rw [List.mem_singleton] at hv'; subst hv'; exact hv) (by simp [h2])
  refine run_buildSlice w t e 1 _ cs ie z hu hie h1 (by omega) (by omega) ?_
  rw [h2] at hf ⊢
  refine Eq.trans ?_ (hf.trans (by simp [Value.cells]))
  rfl
theorem exec_slice1 (t e : TypeId) (x : Operand) (ho : o.op = .buildSlice t 1 #[(0, x)]) (cs : Array Value) (hx : a.eval x = .agg cs) (z : Value) (size bytes : Nat) (hu : P.underlying t = some (.slice e)) (hinfo : (P.info? e).map (fun i => (i.zero, i.size, i.bytes)) = some (some z, size, bytes)) (hz : z.cells.size = size) (hv : cs.size = size) (h0 : 0 < size) (hs : size ≤ 1000) :
    (execOp a.eval o).run P w = .ok (.value (.slice (some ⟨w.heap.size, 0, none⟩) 1 1)) (w.alloc (.cells cs e)) := by
  unfold execOp
  simp only [ho, List.map_toArray, List.map_cons, List.map_nil, hx, Sem.run_bind, run_slice1 w t e cs z size bytes hu hinfo hz hv h0 hs, Result.andThen_ok, Sem.run_pure]
theorem wpl_slice1 (hgd : o.guard = none) (t e : TypeId) (x : Operand) (ho : o.op = .buildSlice t 1 #[(0, x)]) (cs : Array Value) (hx : a.eval x = .agg cs) (z : Value) (size bytes : Nat) (hu : P.underlying t = some (.slice e)) (hinfo : (P.info? e).map (fun i => (i.zero, i.size, i.bytes)) = some (some z, size, bytes)) (hz : z.cells.size = size) (hv : cs.size = size) (h0 : 0 < size) (hs : size ≤ 1000)
    (h : wpList P ops Q rest (a.put o.dst (.slice (some ⟨w.heap.size, 0, none⟩) 1 1)) (w.alloc (.cells cs e))) : wpList P ops Q (o :: rest) a w :=
  wpList_plain hgd fun K hK => by
    unfold Oper.wp execOp
    simp only [ho, List.map_toArray, List.map_cons, List.map_nil, hx, Sem.run_bind, run_slice1 w t e cs z size bytes hu hinfo hz hv h0 hs, Result.andThen_ok, Sem.run_pure]
    exact hK _ _ h
end

theorem idZ_cells : (Value.agg (Array.replicate 32 (.int .u8 0))).cells.size = 32 := by simp [Value.cells]
/-- What holds while a tipset's blocks are gone over: a block has been laid. -/
structure Laid (w wr W : World) (x : LB) : Prop where
  below : Below w.heap.size w W
  hold : HoldB W wr.heap.size x
  size : W.heap.size = wr.heap.size + 1
  old : Below wr.heap.size wr W
theorem Laid.start {w wr : World} (hb : Below w.heap.size w wr) (x : LB) : Laid w wr (wr.alloc (.cells x.cells.toArray 40)) x :=
  ⟨hb.alloc hb.size _, fun j u hu => cell_block (fr := (0, 0)) (T := 40) (heap_alloc_new wr _) (by simpa using hu), by simp, (Below.refl _ _).alloc (Nat.le_refl _) _⟩

set_option maxRecDepth 100000 in
set_option maxHeartbeats 2000000 in
theorem tkey_any (w : World) (t : Value) (l : List LB) (ok : Nat → Prop) (h : TipAt ok w t l) (hn : (l.map LB.id).Nodup) :
    Calls Tryz.prog 34 #[tipV t] w fun e w' => e = .returned (.string (keyB (l.map LB.id))) ∧ Below w.heap.size w w' := by
  obtain ⟨A, c, rfl, hc, hm⟩ := h.1.form
  have HT := Lib.hid h
  have hl5 := h.2
  have HN := Lib.hid hn
  clear h hn
  go_enter Tryz.func34, Tryz.ntmps34
  go_wp2
  go_loopw [3, 9] (fun v ci wr => ∃ i : Nat, i ≤ l.length ∧ ci = .int .i64 i ∧ wr.ownsRow w.heap.size 34 32 v i (idE.flat ((l.take i).map LB.id)) ∧ Below w.heap.size w wr) (fun _ ci _ => l.length - (intOf ci).toNat)
  case atStart => exact ⟨0, Nat.zero_le _, rfl, World.ownsRow_nil _ _ _ _, (Below.refl _ w).alloc (Nat.le_refl _) _⟩
  case round =>
    obtain ⟨i, hi, rfl, hO, hB⟩ := hrel
    have hsz := hB.size
    have HO := Lib.hid hO
    have HB := Lib.hid hB
    clear hO hB
    by_cases hlt : i < l.length
    · obtain ⟨x, hx⟩ : ∃ x, l[i]? = some x := ⟨_, List.getElem?_eq_getElem hlt⟩
      obtain ⟨b, off, rfl, hbl, -, hcx⟩ := (HT.out.below HB.out).1.at_ i x hx
      have HX := Lib.hid hcx
      have HXI := Lib.hid hx
      have HL := Lib.hid (Laid.start HB.out x)
      have HO1 : Hid ((wr.alloc (.cells x.cells.toArray 40)).ownsRow w.heap.size 34 32 u3 i (idE.flat ((l.take i).map LB.id))) := Lib.hid (HO.out.alloc _)
      clear hcx hx
      go_wp2_with (first
        | (refine wpl_load rfl 40 (.tmp 11) rfl b _ rfl x.cells _ HX.out Tryz.underlying40 rfl (by rw [LB.cells_length]; exact block_size) ?_)
        | (refine wpl_store_new rfl 40 _ _ rfl rfl x.cells rfl _ _ (by rw [LB.cells_length]; rfl) x.cells_one (by rw [LB.cells_length]; exact block_size) ?_; generalize (wr.alloc (.cells x.cells.toArray 40)) = W1 at HL HO1 ⊢)
        | (refine wpl_load rfl 34 (.tmp 14) rfl wr.heap.size 0 rfl (idc x.id) _ HL.out.hold.id Tryz.underlying34 rfl (by rw [idc_length]; exact id_size) ?_)
        | (refine wpl_slice1 rfl 36 34 (.tmp 15) rfl (idc x.id).toArray rfl _ 32 32 Tryz.underlying36 id_info idZ_cells (by rw [List.size_toArray, idc_length]) (by decide) (by decide) ?_)
        | (at_builtin; refine wpl_app1 (idc x.id).toArray w.heap.size rfl (.tmp 13) (.tmp 16) 36 34 _ 32 32 rfl Tryz.underlying36 id_info idZ_cells (by decide) (by decide) u3 i _ rfl rfl (by rw [List.size_toArray, idc_length]) (fun u hu => idE.one x.id u hu) HO1.out HL.out.below.size (by omega) ?_; intro v' w3 ho3 hg3 hat3; have hB3 := below_grown_own HL.out.below HO1.out (Nat.le_refl _) HL.out.below.size hg3))
      go_roundw
      case rel =>
        refine ⟨i + 1, by omega, by go_num, ?_, hB3⟩
        rw [List.take_add_one, HXI.out, List.map_append, idE.flat_append]
        simp only [Option.toList_some, List.map_cons, List.map_nil, idE.flat_one]
        exact ho3
      case measure => simp [intOf]; omega
    · have hin : i = l.length := by omega
      subst hin
      have hS := Sl.of_own (E := idE) (ys := l.map LB.id) (v := u3) (w := wr) (base := w.heap.size) (T := 34) (by have h1 := HO.out; rw [List.take_length] at h1; rw [List.length_map]; exact h1)
      have HK := Lib.hid (key_any wr u3 (l.map LB.id) _ hS (by rw [List.length_map]; omega) HN.out)
      clear hS
      go_wp2_with (go_at_call 44; refine HK.out.mono ?_; rintro e w4 ⟨rfl, hb4⟩)
      go_ret
      exact ⟨rfl, HB.out.trans (hb4.mono HB.out.size)⟩

def winsN (l : List LB) (i : Nat) : Int := ((l.take i).map fun b => b.x.h.wins).sum
theorem winsN_succ (l : List LB) (i : Nat) (x : LB) (hx : l[i]? = some x) : winsN l (i + 1) = winsN l i + x.x.h.wins := by
  unfold winsN
  rw [List.take_add_one, hx]
  simp
theorem winsN_bound (l : List LB) (h : ∀ x ∈ l, 0 ≤ x.x.h.wins ∧ x.x.h.wins ≤ 1000) (i : Nat) : 0 ≤ winsN l i ∧ winsN l i ≤ 1000 * i := by
  induction i with
  | zero => simp [winsN]
  | succ i ih =>
    rcases hx : l[i]? with _ | x
    · have : l.take (i + 1) = l.take i := by rw [List.take_add_one, hx]; simp
      have h2 : winsN l (i + 1) = winsN l i := by unfold winsN; rw [this]
      rw [h2]
      omega
    · rw [winsN_succ l i x hx]
      have := h x (List.mem_of_getElem? hx)
      omega
theorem LB.cells_wins (x : LB) : x.cells[35]? = some (.int .i64 x.x.h.wins) := x.cells_hdr 3 _ rfl
theorem LB.cells_ticket (x : LB) : x.cells[34]? = some (.string x.x.h.ticket) := x.cells_hdr 2 _ rfl
theorem LB.cells_parents (x : LB) : x.cells[37]? = some x.x.v := x.cells_hdr 5 _ rfl

set_option maxRecDepth 100000 in
set_option maxHeartbeats 2000000 in
theorem wins_any (w : World) (t : Value) (l : List LB) (ok : Nat → Prop) (h : TipAt ok w t l) (hw : ∀ x ∈ l, 0 ≤ x.x.h.wins ∧ x.x.h.wins ≤ 1000) :
    Calls Tryz.prog 29 #[tipV t] w fun e w' => e = .returned (.int .i64 (winsN l l.length)) ∧ Below w.heap.size w w' := by
  obtain ⟨A, c, rfl, hc, hm⟩ := h.1.form
  have HT := Lib.hid h
  have hl5 := h.2
  have HW := Lib.hid hw
  clear h hw
  go_enter Tryz.func29, Tryz.ntmps29
  go_wp2
  go_loopw [3, 9] (fun v ci wr => ∃ i : Nat, i ≤ l.length ∧ ci = .int .i64 i ∧ v = .int .i64 (winsN l i) ∧ Below w.heap.size w wr) (fun _ ci _ => l.length - (intOf ci).toNat)
  case atStart => exact ⟨0, Nat.zero_le _, rfl, rfl, (Below.refl _ w).alloc (Nat.le_refl _) _⟩
  case round =>
    obtain ⟨i, hi, rfl, rfl, hB⟩ := hrel
    have hsz := hB.size
    have HB := Lib.hid hB
    clear hB
    obtain ⟨hs0, hs1⟩ := winsN_bound l HW.out i
    by_cases hlt : i < l.length
    · obtain ⟨x, hx⟩ : ∃ x, l[i]? = some x := ⟨_, List.getElem?_eq_getElem hlt⟩
      obtain ⟨b, off, rfl, hbl, -, hcx⟩ := (HT.out.below HB.out).1.at_ i x hx
      obtain ⟨hw0, hw1⟩ := HW.out x (List.mem_of_getElem? hx)
      have HX := Lib.hid hcx
      have HE := Lib.hid (winsN_succ l i x hx)
      have HL := Lib.hid (Laid.start HB.out x)
      clear hcx hx
      go_wp2_with (first
        | (refine wpl_load rfl 40 (.tmp 11) rfl b _ rfl x.cells _ HX.out Tryz.underlying40 rfl (by rw [LB.cells_length]; exact block_size) ?_)
        | (refine wpl_store_new rfl 40 _ _ rfl rfl x.cells rfl _ _ (by rw [LB.cells_length]; rfl) x.cells_one (by rw [LB.cells_length]; exact block_size) ?_; generalize (wr.alloc (.cells x.cells.toArray 40)) = W1 at HL ⊢; have hcw : W1.cell? ⟨wr.heap.size, 35, none⟩ = some (.int .i64 x.x.h.wins) := HL.out.hold 35 _ x.cells_wins))
      go_roundw
      case rel => exact ⟨i + 1, by omega, by go_num, by rw [HE.out], HL.out.below⟩
      case measure => simp [intOf]; omega
    · have hin : i = l.length := by omega
      subst hin
      go_wp2
      go_ret
      exact ⟨rfl, HB.out⟩

/-- The lesser text. -/
def minT (s t : ByteArray) : ByteArray := if Op.bytesLess s.toList t.toList || s.toList == t.toList then s else t
theorem run_min_str {P : Program} (w : World) (ts : Array TypeId) (ty : TypeId) (s t : ByteArray) : (Builtin.min_ ts ty #[.string s, .string t]).run P w = .ok (.string (minT s t)) w := by
  simp only [Builtin.min_, Builtin.min2, List.foldlM_cons, List.foldlM_nil, Op.stringOp, minT]
  cases Op.bytesLess s.toList t.toList || s.toList == t.toList <;> simp [Sem.run_bind, asBool]
def ticketN (l : List LB) (i : Nat) : ByteArray := (l.take i).foldl (fun s b => minT s b.x.h.ticket) (firstL l).x.h.ticket
theorem ticketN_succ (l : List LB) (i : Nat) (x : LB) (hx : l[i]? = some x) : ticketN l (i + 1) = minT (ticketN l i) x.x.h.ticket := by
  unfold ticketN
  rw [List.take_add_one, hx]
  simp

set_option maxRecDepth 100000 in
set_option maxHeartbeats 2000000 in
theorem ticket_any (w : World) (t : Value) (l : List LB) (ok : Nat → Prop) (h : TipAt ok w t l) :
    Calls Tryz.prog 30 #[tipV t] w fun e w' => e = .returned (.string (ticketN l l.length)) ∧ Below w.heap.size w w' := by
  obtain ⟨A, c, rfl, hc, hm⟩ := h.1.form
  have HT := Lib.hid h
  have hl5 := h.2
  clear h
  go_enter Tryz.func30, Tryz.ntmps30
  go_wp2_with (first
    | (go_at_call 101; refine (first_any _ _ l ok (HT.out.below ((Below.refl _ w).alloc (Nat.le_refl _) _))).mono ?_; rintro e w1 ⟨rfl, hb1⟩; have HB1 : Hid (Below w.heap.size w w1) := ((Below.refl _ w).alloc (Nat.le_refl _) _).trans (hb1.mono (by simp)); have hc1 : w1.cell? ⟨w.heap.size, 0, none⟩ = some (.slice A l.length c) := (hb1.cell (p := ⟨w.heap.size, 0, none⟩) (by simp)).trans (cell_block (heap_alloc_new w _) rfl); clear hb1)
    | (refine wpl_field rfl 40 1 (.tmp 7) rfl _ _ rfl (field_header _ _) ?_)
    | (refine wpl_field rfl 38 2 (.tmp 8) rfl _ (.string (firstL l).x.h.ticket) rfl (by kernel_rfl) ?_))
  go_loopw [3, 13] (fun v ci wr => ∃ i : Nat, i ≤ l.length ∧ ci = .int .i64 i ∧ v = .string (ticketN l i) ∧ Below w.heap.size w wr) (fun _ ci _ => l.length - (intOf ci).toNat)
  case atStart => exact ⟨0, Nat.zero_le _, rfl, rfl, HB1.out⟩
  case round =>
    obtain ⟨i, hi, rfl, rfl, hB⟩ := hrel
    have hsz := hB.size
    have HB := Lib.hid hB
    clear hB
    by_cases hlt : i < l.length
    · obtain ⟨x, hx⟩ : ∃ x, l[i]? = some x := ⟨_, List.getElem?_eq_getElem hlt⟩
      obtain ⟨b, off, rfl, hbl, -, hcx⟩ := (HT.out.below HB.out).1.at_ i x hx
      have HX := Lib.hid hcx
      have HL := Lib.hid (Laid.start HB.out x)
      have HE := Lib.hid (ticketN_succ l i x hx)
      have hmin := fun (W : World) => run_min_str (P := Tryz.prog) W #[9, 9] 9 (ticketN l i) x.x.h.ticket
      clear hcx hx
      go_wp2_with (first
        | (refine wpl_load rfl 40 (.tmp 15) rfl b _ rfl x.cells _ HX.out Tryz.underlying40 rfl (by rw [LB.cells_length]; exact block_size) ?_)
        | (refine wpl_store_new rfl 40 _ _ rfl rfl x.cells rfl _ _ (by rw [LB.cells_length]; rfl) x.cells_one (by rw [LB.cells_length]; exact block_size) ?_; generalize (wr.alloc (.cells x.cells.toArray 40)) = W1 at HL ⊢; have hcw : W1.cell? ⟨wr.heap.size, 34, none⟩ = some (.string x.x.h.ticket) := HL.out.hold 34 _ x.cells_ticket))
      go_roundw
      case rel => exact ⟨i + 1, by omega, by go_num, by rw [HE.out], HL.out.below⟩
      case measure => simp [intOf]; omega
    · have hin : i = l.length := by omega
      subst hin
      go_wp2
      go_ret
      exact ⟨rfl, HB.out⟩
end Go.Proofs.YthpcedficlhanaaGreatDoor
namespace Go.Proofs.YthpcedficlhanaaGreatDoor
open Go.RowKit

set_option maxRecDepth 100000 in
set_option maxHeartbeats 1000000 in
theorem isNaN_any (w : World) (s : ByteArray) : Calls Tryz.prog 155 #[.string s] w fun e w' => e = .returned (.bool false) ∧ w = w' := by
  go_enter Tryz.func155, Tryz.ntmps155
  go_wp2
  go_ret
  exact ⟨by simp, rfl⟩
/-- Which text is the greater. -/
def cmpS (s t : ByteArray) : Int := if Op.bytesLess s.toList t.toList then -1 else if s.toList == t.toList then 0 else 1
set_option maxRecDepth 100000 in
set_option maxHeartbeats 1000000 in
theorem cmpCompare_any (w : World) (s t : ByteArray) : Calls Tryz.prog 105 #[.string s, .string t] w fun e w' => e = .returned (.int .i64 (cmpS s t)) ∧ w = w' := by
  rcases h1 : Op.bytesLess s.toList t.toList with _ | _
  · rcases h2 : (s.toList == t.toList) with _ | _
    · have hc : cmpS s t = 1 := by simp only [cmpS, h1, h2]; rfl
      have HC := Lib.hid hc
      clear hc
      go_enter Tryz.func105, Tryz.ntmps105
      go_wp2_with (go_at_call 155; refine (isNaN_any _ _).mono ?_; rintro e w1 ⟨rfl, rfl⟩)
      go_ret
      exact ⟨by rw [HC.out]; rfl, rfl⟩
    · have hc : cmpS s t = 0 := by simp only [cmpS, h1, h2]; rfl
      have HC := Lib.hid hc
      clear hc
      go_enter Tryz.func105, Tryz.ntmps105
      go_wp2_with (go_at_call 155; refine (isNaN_any _ _).mono ?_; rintro e w1 ⟨rfl, rfl⟩)
      go_ret
      exact ⟨by rw [HC.out]; rfl, rfl⟩
  · have hc : cmpS s t = -1 := by simp [cmpS, h1]
    have HC := Lib.hid hc
    clear hc
    go_enter Tryz.func105, Tryz.ntmps105
    go_wp2_with (go_at_call 155; refine (isNaN_any _ _).mono ?_; rintro e w1 ⟨rfl, rfl⟩)
    go_ret
    exact ⟨by rw [HC.out]; rfl, rfl⟩

def orI (x y : Int) : Int := if x = 0 then y else x
set_option maxRecDepth 100000 in
set_option maxHeartbeats 1000000 in
theorem cmpOr_any (w : World) (b : Nat) (x y : Int) (h0 : w.cell? ⟨b, 0, none⟩ = some (.int .i64 x)) (h1 : w.cell? ⟨b, 1, none⟩ = some (.int .i64 y)) :
    Calls Tryz.prog 104 #[.slice (some ⟨b, 0, none⟩) 2 2] w fun e w' => e = .returned (.int .i64 (orI x y)) ∧ w = w' := by
  rcases hx : (x != 0) with _ | _
  · have hx0 : x = 0 := by simpa using hx
    have hr : orI x y = y := by rw [orI, if_pos hx0]
    have HR := Lib.hid hr
    clear hr hx0
    rcases hy : (y != 0) with _ | _
    · have hy0 : y = 0 := by simpa using hy
      have HY := Lib.hid hy0
      clear hy0
      go_enter Tryz.func104, Tryz.ntmps104
      go_wp2
      refine wp_loop_rounds 3 ?_
      rw [rounds_succ]
      go_wp2
      rw [rounds_succ]
      go_wp2
      rw [rounds_succ]
      go_wp2
      go_ret
      exact ⟨by rw [HR.out, HY.out]; rfl, rfl⟩
    · go_enter Tryz.func104, Tryz.ntmps104
      go_wp2
      refine wp_loop_rounds 3 ?_
      rw [rounds_succ]
      go_wp2
      rw [rounds_succ]
      go_wp2
      go_ret
      exact ⟨by rw [HR.out]; rfl, rfl⟩
  · have hx0 : ¬ x = 0 := by simpa using hx
    have hr : orI x y = x := by rw [orI, if_neg hx0]
    have HR := Lib.hid hr
    clear hr hx0
    go_enter Tryz.func104, Tryz.ntmps104
    go_wp2
    refine wp_loop_rounds 3 ?_
    rw [rounds_succ]
    go_wp2
    go_ret
    exact ⟨by rw [HR.out]; rfl, rfl⟩

section
variable {ops : Array Oper} {S : World → Prop}
/-- A load of a tipset's variable. -/
theorem yieldsIf_tip {o : Oper} {a : Act} (hw : Region.wanted o (yielded ops a.tmps) = true) (x : Operand) (ho : o.op = .load 28 x) (b : Nat) (hx : a.eval x = .pointer (some ⟨b, 0, none⟩)) (t : Value) (hc : ∀ w, S w → w.cell? ⟨b, 0, none⟩ = some t) : YieldsIf Tryz.prog ops S o (tipV t) a :=
  yieldsIf_load hw 28 x ho b 0 hx [t] _ (fun w hS j u hu => by cases j with | zero => injection hu with hu; subst hu; exact hc w hS | succ j => cases hu) Tryz.underlying28 rfl tip_size
end
theorem int2_info : (Tryz.prog.info? 3).map (fun i => (i.zero, i.size, i.bytes)) = some (some (.int .i64 0), 1, 8) := by kernel_rfl
theorem run_two (w : World) (x y : Int) : (Instr.buildSlice 67 2 #[(0, .int .i64 x), (1, .int .i64 y)]).run Tryz.prog w = .ok (.slice (some ⟨w.heap.size, 0, none⟩) 2 2) (w.alloc (.cells #[.int .i64 x, .int .i64 y] 3)) := by
  obtain ⟨ie, hie, hzz⟩ := Option.map_eq_some_iff.1 int2_info
  simp only [Prod.mk.injEq] at hzz
  obtain ⟨h1, h2, -⟩ := hzz
  have hf := Great.fill_flat [.int .i64 x, .int .i64 y] ((Array.range (2 * ie.size)).map ((Value.int .i64 0).cells[· % (Value.int .i64 0).cells.size]!)) (fun v hv => by simp only [List.mem_cons, List.not_mem_nil, or_false] at hv; rcases hv with rfl | rfl <;> rfl) (by simp [h2])
  refine run_buildSlice w _ 3 2 _ _ ie _ Tryz.underlying67 hie h1 (by omega) (by omega) ?_
  rw [h2] at hf ⊢
  exact hf

theorem exec_two {o : Oper} {a : Act} {w : World} (_h : o.op = o.op) (p q : Operand) (ho : o.op = .buildSlice 67 2 #[(0, p), (1, q)]) (x y : Int) (hp : a.eval p = .int .i64 x) (hq : a.eval q = .int .i64 y) : (execOp a.eval o).run Tryz.prog w = .ok (.value (.slice (some ⟨w.heap.size, 0, none⟩) 2 2)) (w.alloc (.cells #[.int .i64 x, .int .i64 y] 3)) := by
  unfold execOp
  simp only [ho, List.map_toArray, List.map_cons, List.map_nil, hp, hq, Sem.run_bind, run_two, Result.andThen_ok, Sem.run_pure]

set_option maxRecDepth 100000 in
set_option maxHeartbeats 2000000 in
theorem tcompare_any (w : World) (t u : Value) (l m : List LB) (ok ok' : Nat → Prop) (ht : TipAt ok w t l) (hu : TipAt ok' w u m) (hnl : (l.map LB.id).Nodup) (hnm : (m.map LB.id).Nodup) :
    Calls Tryz.prog 33 #[tipV t, tipV u] w fun e w' => e = .returned (.int .i64 (orI (cmpS (ticketN l l.length) (ticketN m m.length)) (cmpS (keyB (l.map LB.id)) (keyB (m.map LB.id))))) ∧ Below w.heap.size w w' := by
  have hB0 : Below w.heap.size w ((w.alloc (.cells #[t] 28)).alloc (.cells #[u] 28)).drew := (((Below.refl _ w).alloc (Nat.le_refl _) _).alloc (by simp) _).drew
  have hH0 : ((fun w' => w'.cell? ⟨w.heap.size, 0, none⟩ = some t ∧ w'.cell? ⟨w.heap.size + 1, 0, none⟩ = some u ∧ TipAt ok w' t l ∧ TipAt ok' w' u m ∧ Below w.heap.size w w' ∧ w.heap.size + 1 < w'.heap.size) : World → Prop) ((w.alloc (.cells #[t] 28)).alloc (.cells #[u] 28)).drew :=
    ⟨cell_block (fr := (0, 0)) (T := 28) (by show ((w.alloc _).alloc _).heap[_]? = _; rw [heap_alloc_if, if_neg (by simp), heap_alloc_if, if_pos rfl]) rfl, cell_block (fr := (0, 0)) (T := 28) (by show ((w.alloc _).alloc _).heap[_]? = _; rw [heap_alloc_if, if_pos (by simp)]) rfl, ht.below hB0, hu.below hB0, hB0, by show w.heap.size + 1 < ((w.alloc _).alloc _).heap.size; simp⟩
  have HH0 := Lib.hid hH0
  have HNL := Lib.hid hnl
  have HNM := Lib.hid hnm
  clear hB0 hH0 ht hu hnl hnm
  go_enter Tryz.func33, Tryz.ntmps33
  go_wp2
  refine st_ (S := (fun w' => w'.cell? ⟨w.heap.size, 0, none⟩ = some t ∧ w'.cell? ⟨w.heap.size + 1, 0, none⟩ = some u ∧ TipAt ok w' t l ∧ TipAt ok' w' u m ∧ Below w.heap.size w w' ∧ w.heap.size + 1 < w'.heap.size)) 13 #[false, false, false, false, false, false, false, false, false, false, false, false, false] (by kernel_rfl) rfl (by rfl) HH0.out (fun hHeld => ?_)
  refine tk_ 0 (some 5) #[true, false, false, false, false, false, false, false, false, false, false, false, false] rfl rfl (by kernel_rfl) (fun _ _ _ h => h) (yieldsIf_tip rfl (.tmp 2) rfl (w.heap.size) rfl t (fun w' h => h.1)) hHeld (a' := ?_) ?_ ?_
  rotate_left
  · simp only [Act.put, List.setIfInBounds_toArray, List.set_cons_zero, List.set_cons_succ]
    rfl
  refine tk_ 2 (some 7) #[true, false, true, false, false, false, false, false, false, false, false, false, false] rfl rfl (by kernel_rfl) (fun _ _ _ h => h) (yieldsIf_tip rfl (.tmp 3) rfl (w.heap.size + 1) rfl u (fun w' h => h.2.1)) hHeld (a' := ?_) ?_ ?_
  rotate_left
  · simp only [Act.put, List.setIfInBounds_toArray, List.set_cons_zero, List.set_cons_succ]
    rfl
  refine tk_ 5 (some 10) #[true, false, true, false, false, true, false, false, false, false, false, false, false] rfl rfl (by kernel_rfl) (fun _ _ _ h => h) (yieldsIf_tip rfl (.tmp 2) rfl (w.heap.size) rfl t (fun w' h => h.1)) hHeld (a' := ?_) ?_ ?_
  rotate_left
  · simp only [Act.put, List.setIfInBounds_toArray, List.set_cons_zero, List.set_cons_succ]
    rfl
  refine tk_ 7 (some 12) #[true, false, true, false, false, true, false, true, false, false, false, false, false] rfl rfl (by kernel_rfl) (fun _ _ _ h => h) (yieldsIf_tip rfl (.tmp 3) rfl (w.heap.size + 1) rfl u (fun w' h => h.2.1)) hHeld (a' := ?_) ?_ ?_
  rotate_left
  · simp only [Act.put, List.setIfInBounds_toArray, List.set_cons_zero, List.set_cons_succ]
    rfl
  refine call_ 1 (some 6) #[true, true, true, false, false, true, false, true, false, false, false, false, false] rfl rfl (by kernel_rfl) rfl 30 _ (by kernel_rfl) (ticket_any _ t l ok hHeld.2.2.1) ?_
  rintro e w1 ⟨rfl, hb1⟩
  refine ⟨_, rfl, ⟨(hb1.cell (p := ⟨w.heap.size, 0, none⟩) (Nat.lt_of_succ_lt hHeld.2.2.2.2.2)).trans hHeld.1, (hb1.cell (p := ⟨w.heap.size + 1, 0, none⟩) hHeld.2.2.2.2.2).trans hHeld.2.1, hHeld.2.2.1.below hb1, hHeld.2.2.2.1.below hb1, hHeld.2.2.2.2.1.trans (hb1.mono hHeld.2.2.2.2.1.size), Nat.lt_of_lt_of_le hHeld.2.2.2.2.2 hb1.size⟩, fun hHeld => ⟨?_, ?_, ?_⟩⟩
  rotate_left
  · simp only [Act.put, List.setIfInBounds_toArray, List.set_cons_zero, List.set_cons_succ]
    rfl
  refine call_ 3 (some 8) #[true, true, true, true, false, true, false, true, false, false, false, false, false] rfl rfl (by kernel_rfl) rfl 30 _ (by kernel_rfl) (ticket_any _ u m ok' hHeld.2.2.2.1) ?_
  rintro e w2 ⟨rfl, hb2⟩
  refine ⟨_, rfl, ⟨(hb2.cell (p := ⟨w.heap.size, 0, none⟩) (Nat.lt_of_succ_lt hHeld.2.2.2.2.2)).trans hHeld.1, (hb2.cell (p := ⟨w.heap.size + 1, 0, none⟩) hHeld.2.2.2.2.2).trans hHeld.2.1, hHeld.2.2.1.below hb2, hHeld.2.2.2.1.below hb2, hHeld.2.2.2.2.1.trans (hb2.mono hHeld.2.2.2.2.1.size), Nat.lt_of_lt_of_le hHeld.2.2.2.2.2 hb2.size⟩, fun hHeld => ⟨?_, ?_, ?_⟩⟩
  rotate_left
  · simp only [Act.put, List.setIfInBounds_toArray, List.set_cons_zero, List.set_cons_succ]
    rfl
  refine call_ 4 (some 9) #[true, true, true, true, true, true, false, true, false, false, false, false, false] rfl rfl (by kernel_rfl) rfl 105 _ (by kernel_rfl) (cmpCompare_any _ (ticketN l l.length) (ticketN m m.length)) ?_
  rintro e w3 ⟨rfl, rfl⟩
  refine ⟨_, rfl, hHeld, fun hHeld => ⟨?_, ?_, ?_⟩⟩
  rotate_left
  · simp only [Act.put, List.setIfInBounds_toArray, List.set_cons_zero, List.set_cons_succ]
    rfl
  refine call_ 6 (some 11) #[true, true, true, true, true, true, true, true, false, false, false, false, false] rfl rfl (by kernel_rfl) rfl 34 _ (by kernel_rfl) (tkey_any _ t l ok hHeld.2.2.1 HNL.out) ?_
  rintro e w4 ⟨rfl, hb4⟩
  refine ⟨_, rfl, ⟨(hb4.cell (p := ⟨w.heap.size, 0, none⟩) (Nat.lt_of_succ_lt hHeld.2.2.2.2.2)).trans hHeld.1, (hb4.cell (p := ⟨w.heap.size + 1, 0, none⟩) hHeld.2.2.2.2.2).trans hHeld.2.1, hHeld.2.2.1.below hb4, hHeld.2.2.2.1.below hb4, hHeld.2.2.2.2.1.trans (hb4.mono hHeld.2.2.2.2.1.size), Nat.lt_of_lt_of_le hHeld.2.2.2.2.2 hb4.size⟩, fun hHeld => ⟨?_, ?_, ?_⟩⟩
  rotate_left
  · simp only [Act.put, List.setIfInBounds_toArray, List.set_cons_zero, List.set_cons_succ]
    rfl
  refine call_ 8 (some 13) #[true, true, true, true, true, true, true, true, true, false, false, false, false] rfl rfl (by kernel_rfl) rfl 34 _ (by kernel_rfl) (tkey_any _ u m ok' hHeld.2.2.2.1 HNM.out) ?_
  rintro e w5 ⟨rfl, hb5⟩
  refine ⟨_, rfl, ⟨(hb5.cell (p := ⟨w.heap.size, 0, none⟩) (Nat.lt_of_succ_lt hHeld.2.2.2.2.2)).trans hHeld.1, (hb5.cell (p := ⟨w.heap.size + 1, 0, none⟩) hHeld.2.2.2.2.2).trans hHeld.2.1, hHeld.2.2.1.below hb5, hHeld.2.2.2.1.below hb5, hHeld.2.2.2.2.1.trans (hb5.mono hHeld.2.2.2.2.1.size), Nat.lt_of_lt_of_le hHeld.2.2.2.2.2 hb5.size⟩, fun hHeld => ⟨?_, ?_, ?_⟩⟩
  rotate_left
  · simp only [Act.put, List.setIfInBounds_toArray, List.set_cons_zero, List.set_cons_succ]
    rfl
  refine call_ 9 (some 14) #[true, true, true, true, true, true, true, true, true, true, false, false, false] rfl rfl (by kernel_rfl) rfl 105 _ (by kernel_rfl) (cmpCompare_any _ (keyB (l.map LB.id)) (keyB (m.map LB.id))) ?_
  rintro e w6 ⟨rfl, rfl⟩
  refine ⟨_, rfl, hHeld, fun hHeld => ⟨?_, ?_, ?_⟩⟩
  rotate_left
  · simp only [Act.put, List.setIfInBounds_toArray, List.set_cons_zero, List.set_cons_succ]
    rfl
  have hb7 : Below w5.heap.size w5 (w5.alloc (.cells #[.int .i64 (cmpS (ticketN l l.length) (ticketN m m.length)), .int .i64 (cmpS (keyB (l.map LB.id)) (keyB (m.map LB.id)))] 3)) := (Below.refl _ w5).alloc (Nat.le_refl _) _
  have hHeld : (fun w' => w'.cell? ⟨w.heap.size, 0, none⟩ = some t ∧ w'.cell? ⟨w.heap.size + 1, 0, none⟩ = some u ∧ TipAt ok w' t l ∧ TipAt ok' w' u m ∧ Below w.heap.size w w' ∧ w.heap.size + 1 < w'.heap.size) _ := ⟨(hb7.cell (p := ⟨w.heap.size, 0, none⟩) (Nat.lt_of_succ_lt hHeld.2.2.2.2.2)).trans hHeld.1, (hb7.cell (p := ⟨w.heap.size + 1, 0, none⟩) hHeld.2.2.2.2.2).trans hHeld.2.1, hHeld.2.2.1.below hb7, hHeld.2.2.2.1.below hb7, hHeld.2.2.2.2.1.trans (hb7.mono hHeld.2.2.2.2.1.size), Nat.lt_of_lt_of_le hHeld.2.2.2.2.2 hb7.size⟩
  refine val_ 10 (some 15) #[true, true, true, true, true, true, true, true, true, true, true, false, false] rfl rfl (by kernel_rfl) rfl (.slice (some ⟨w5.heap.size, 0, none⟩) 2 2) (w5.alloc (.cells #[.int .i64 (cmpS (ticketN l l.length) (ticketN m m.length)), .int .i64 (cmpS (keyB (l.map LB.id)) (keyB (m.map LB.id)))] 3)) (exec_two rfl (.tmp 9) (.tmp 14) rfl _ _ rfl rfl) hHeld (a' := ?_) ?_ ?_
  rotate_left
  · simp only [Act.put, List.setIfInBounds_toArray, List.set_cons_zero, List.set_cons_succ]
    rfl
  refine call_ 11 (some 16) #[true, true, true, true, true, true, true, true, true, true, true, true, false] rfl rfl (by kernel_rfl) rfl 104 _ (by kernel_rfl) (cmpOr_any _ w5.heap.size (cmpS (ticketN l l.length) (ticketN m m.length)) (cmpS (keyB (l.map LB.id)) (keyB (m.map LB.id))) (cell_block (heap_alloc_new w5 _) rfl) (cell_block (heap_alloc_new w5 _) rfl)) ?_
  rintro e w8 ⟨rfl, rfl⟩
  refine ⟨_, rfl, hHeld, fun hHeld => ⟨?_, ?_, ?_⟩⟩
  rotate_left
  · simp only [Act.put, List.setIfInBounds_toArray, List.set_cons_zero, List.set_cons_succ]
    rfl
  refine tk_ 12 (some 4) #[true, true, true, true, true, true, true, true, true, true, true, true, true] (v := ?_) (a' := ?_) rfl rfl (by kernel_rfl) (fun _ _ _ h => h) (yieldsIf_run rfl ?_) hHeld ?_ ?_
  rotate_left
  · intro w'
    go_simp
    with_reducible rfl
  rotate_left
  · simp only [Act.put, List.setIfInBounds_toArray, List.set_cons_zero, List.set_cons_succ]
    rfl
  refine wpAnyH_done (by kernel_rfl) ?_ _
  change Exit.then _ _ _ _ _
  go_wp2
  go_ret
  exact ⟨rfl, hHeld.2.2.2.2.1⟩
end Go.Proofs.YthpcedficlhanaaGreatDoor
