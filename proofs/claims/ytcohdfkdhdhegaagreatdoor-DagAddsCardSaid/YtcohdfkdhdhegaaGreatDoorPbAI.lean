/- What a tipset tells. Height, Power, Parents of a tipset. Key, Wins, Ticket, Blocks of a tipset. tipset.Compare; what it stands on. tipset.Has, Blocks, Genesis. tipset.Genesis, Blocks. tipset.New, in one contract; what it answers for blocks in another order. A dag, as the list of the headers that came in. No program in sight. -/
import Derived.Test.YtcohdfkdhdhegaaGreatDoorPbAH
import Derived.Great.FillDense
import Derived.Great.BuildSlice
namespace Go.Proofs.YtcohdfkdhdhegaaGreatDoor
open Go.RowKit

/-- A tipset's value, and the blocks that it leads to. -/
def TipAt (ok : Nat → Prop) (w : World) (t : Value) (l : List LB) : Prop := Sl lbE ok w t l ∧ l.length ≤ 5
theorem TipAt.below {ok : Nat → Prop} {w w' : World} {t : Value} {l : List LB} (h : TipAt ok w t l) (hb : Below w.heap.size w w') : TipAt ok w' t l := ⟨h.1.below hb, h.2⟩

set_option maxRecDepth 100000 in
set_option maxHeartbeats 1000000 in
theorem zero_any (w : World) (t : Value) (l : List LB) (ok : Nat → Prop) (h : TipAt ok w t l) :
    Calls Tryz.prog 30 #[tipV t] w fun e w' => e = .returned (.bool (decide (l.length = 0))) ∧ Below w.heap.size w w' := by
  obtain ⟨A, c, rfl, hc, hm⟩ := h.1.form
  have hl5 := h.2
  clear h
  go_enter Tryz.func30, Tryz.ntmps30
  go_wp2
  go_ret
  refine ⟨?_, (Below.refl _ w).alloc (Nat.le_refl _) _⟩
  have : ((l.length : Int) == 0) = decide (l.length = 0) := by rw [Bool.eq_iff_iff]; simp
  rw [this]
  rfl

theorem zero_no (w : World) (t : Value) (l : List LB) (ok : Nat → Prop) (h : TipAt ok w t l) (hp : 0 < l.length) :
    Calls Tryz.prog 30 #[tipV t] w fun e w' => e = .returned (.bool false) ∧ Below w.heap.size w w' :=
  (zero_any w t l ok h).mono fun _ _ ⟨he, hb⟩ => ⟨by rw [decide_eq_false (by omega)] at he; exact he, hb⟩

def firstL (l : List LB) : LB := l.headD lbZ
set_option maxRecDepth 100000 in
set_option maxHeartbeats 1000000 in
theorem first_any (w : World) (t : Value) (l : List LB) (ok : Nat → Prop) (h : TipAt ok w t l) :
    Calls Tryz.prog 121 #[tipV t] w fun e w' => e = .returned (.agg (firstL l).cells.toArray) ∧ Below w.heap.size w w' := by
  obtain ⟨A, c, rfl, hc, hm⟩ := h.1.form
  have HT := Lib.hid h
  have hl5 := h.2
  clear h
  have hB0 : Below w.heap.size w ((w.alloc (.cells #[.slice A l.length c] 52)).alloc (.cells lbZ.cells.toArray 71)) := ((Below.refl _ w).alloc (Nat.le_refl _) _).alloc (by simp) _
  have hz0 : ((w.alloc (.cells #[.slice A l.length c] 52)).alloc (.cells lbZ.cells.toArray 71)).heap[w.heap.size + 1]? = some (.cells lbZ.cells.toArray 71 (0, 0)) := by rw [heap_alloc_if, if_pos (by simp)]
  have hc0 : ((w.alloc (.cells #[.slice A l.length c] 52)).alloc (.cells lbZ.cells.toArray 71)).cell? ⟨w.heap.size, 0, none⟩ = some (.slice A l.length c) := cell_block (fr := (0, 0)) (T := 52) (by rw [heap_alloc_if, if_neg (by simp), heap_alloc_if, if_pos rfl]) rfl
  have hsz : w.heap.size + 1 < ((w.alloc (.cells #[.slice A l.length c] 52)).alloc (.cells lbZ.cells.toArray 71)).heap.size := by simp
  have HB0 := Lib.hid hB0
  have HZ0 := Lib.hid hz0
  have HC0 := Lib.hid hc0
  have HS0 := Lib.hid hsz
  clear hB0 hz0 hc0 hsz
  go_enter Tryz.func121, Tryz.ntmps121
  rcases Nat.eq_zero_or_pos l.length with h0 | hp
  · have hl : l = [] := List.eq_nil_of_length_eq_zero h0
    subst hl
    go_wp2_with (first
      | (go_at_call 30; refine (zero_any _ _ [] ok (HT.out.below HB0.out)).mono ?_; rintro e w1 ⟨rfl, hb1⟩; have HB1 : Hid (Below w.heap.size w w1) := HB0.out.trans (hb1.mono HB0.out.size); have HZ1 : Hid (w1.heap[w.heap.size + 1]? = some (.cells lbZ.cells.toArray 71 (0, 0))) := (hb1.block _ HS0.out).trans HZ0.out; clear hb1)
      | (refine wpl_store_row rfl 71 (.tmp 2) (.tmp 5) rfl (w.heap.size + 1) rfl lbZ.cells rfl _ 71 HZ1.out (by simp) lbZ.cells_one (by rw [LB.cells_length]; exact block_size) ?_))
    (try simp only [Exit.inBlock, Exit.then])
    refine bodyPost_ret (results_cell_row rfl _ _ (w.heap.size + 1) 71 lbZ.cells.toArray (0, 0) _ rfl (setRow_heap w1 (w.heap.size + 1) _ _ _ _ HZ1.out) Tryz.underlying71 rfl (by rw [List.size_toArray, LB.cells_length]; exact block_size)) rfl ?_
    exact ⟨rfl, below_setRow HB1.out (Nat.le_succ _) _⟩
  · obtain ⟨x, hx⟩ : ∃ x, l[0]? = some x := ⟨_, List.getElem?_eq_getElem hp⟩
    have hf : firstL l = x := by cases l with | nil => cases hx | cons y l => simpa [firstL] using hx
    rw [hf]
    clear hf
    obtain ⟨b, off, rfl, -, -, -⟩ := HT.out.1.at_ 0 x hx
    have HX := Lib.hid hx
    clear hx
    go_wp2_with (first
      | (go_at_call 30; refine (zero_no _ _ l ok (HT.out.below HB0.out) hp).mono ?_; rintro e w1 ⟨rfl, hb1⟩; have HB1 : Hid (Below w.heap.size w w1) := HB0.out.trans (hb1.mono HB0.out.size); have HZ1 : Hid (w1.heap[w.heap.size + 1]? = some (.cells lbZ.cells.toArray 71 (0, 0))) := (hb1.block _ HS0.out).trans HZ0.out; have hc1 : w1.cell? ⟨w.heap.size, 0, none⟩ = some (.slice (some ⟨b, off, none⟩) l.length c) := (hb1.cell (p := ⟨w.heap.size, 0, none⟩) (Nat.lt_of_succ_lt HS0.out)).trans HC0.out; have HX1 : Hid (∀ j u, x.cells[j]? = some u → w1.cell? ⟨b, off + j, none⟩ = some u) := (fun j u hu => by obtain ⟨b', off', he, -, -, hcx⟩ := (HT.out.1.below HB1.out).at_ 0 x HX.out; injection he with he; injection he with e1 e2; subst e1; subst e2; simpa using hcx j u hu); clear hb1)
      | (refine wpl_load rfl 71 (.tmp 8) rfl b _ rfl x.cells _ HX1.out Tryz.underlying71 rfl (by rw [LB.cells_length]; exact block_size) ?_)
      | (refine wpl_store_row rfl 71 (.tmp 2) (.tmp 9) rfl (w.heap.size + 1) rfl x.cells rfl _ 71 HZ1.out (by rw [List.size_toArray, LB.cells_length, LB.cells_length]) x.cells_one (by rw [LB.cells_length]; exact block_size) ?_))
    (try simp only [Exit.inBlock, Exit.then])
    refine bodyPost_ret (results_cell_row rfl _ _ (w.heap.size + 1) 71 x.cells.toArray (0, 0) _ rfl (setRow_heap w1 (w.heap.size + 1) _ _ _ _ HZ1.out) Tryz.underlying71 rfl (by rw [List.size_toArray, LB.cells_length]; exact block_size)) rfl ?_
    exact ⟨rfl, below_setRow HB1.out (Nat.le_succ _) _⟩
end Go.Proofs.YtcohdfkdhdhegaaGreatDoor
namespace Go.Proofs.YtcohdfkdhdhegaaGreatDoor
open Go.RowKit

section
variable {P : Program} {ops : Array Oper} {rest : List Oper} {o : Oper} {a : Act} {w : World} {Q : Exit → Act → World → Prop}
theorem wpl_field (hgd : o.guard = none) (ty : TypeId) (k : Nat) (x : Operand) (ho : o.op = .field ty x k) (v r : Value) (hx : a.eval x = v) (hr : (Instr.field ty v k).run P w = .ok r w)
    (h : wpList P ops Q rest (a.put o.dst r) w) : wpList P ops Q (o :: rest) a w :=
  wpList_plain hgd fun K hK => by
    unfold Oper.wp execOp
    simp only [ho, hx, Sem.run_bind, hr, Result.andThen_ok, Sem.run_pure]
    exact hK _ _ h
end
set_option maxRecDepth 100000 in
theorem part_header (x : LB) (w : World) : (part 41 x.cells.toArray 32).run Tryz.prog w = .ok (.agg x.x.cells.toArray) w := by
  have ha : (isAgg 41).run Tryz.prog w = .ok true w := by kernel_rfl
  have hs : (sizeOf 41).run Tryz.prog w = .ok 7 w := by kernel_rfl
  have he : x.cells.toArray.extract 32 (32 + 7) = x.x.cells.toArray := by
    apply Array.toList_inj.1
    simp only [Array.toList_extract, List.extract_eq_take_drop]
    rw [show x.cells = idc x.id ++ x.x.cells from rfl, List.drop_left' (idc_length x.id)]
    rfl
  simp only [part, Sem.run_bind, ha, hs, Result.andThen_ok, if_true, Sem.run_pure, he]
set_option maxRecDepth 100000 in
theorem field_header (x : LB) (w : World) : (Instr.field 71 (.agg x.cells.toArray) 1).run Tryz.prog w = .ok (.agg x.x.cells.toArray) w := by
  have hp := part_header x w
  unfold Instr.field
  rw [Sem.run_bind, run_underlying Tryz.underlying71 w]
  exact hp

set_option maxRecDepth 100000 in
set_option maxHeartbeats 1000000 in
theorem height_any (w : World) (t : Value) (l : List LB) (ok : Nat → Prop) (h : TipAt ok w t l) :
    Calls Tryz.prog 41 #[tipV t] w fun e w' => e = .returned (.int .i64 (firstL l).x.h.height) ∧ Below w.heap.size w w' := by
  have HT := Lib.hid h
  clear h
  go_enter Tryz.func41, Tryz.ntmps41
  go_wp2_with (first
    | (go_at_call 121; refine (first_any _ _ l ok (HT.out.below ((Below.refl _ w).alloc (Nat.le_refl _) _))).mono ?_; rintro e w1 ⟨rfl, hb1⟩; have HB1 : Hid (Below w.heap.size w w1) := ((Below.refl _ w).alloc (Nat.le_refl _) _).trans (hb1.mono (by simp)); clear hb1)
    | (refine wpl_field rfl 71 1 (.tmp 4) rfl _ _ rfl (field_header _ _) ?_)
    | (refine wpl_field rfl 41 0 (.tmp 5) rfl _ (.int .i64 (firstL l).x.h.height) rfl (by kernel_rfl) ?_))
  go_ret
  exact ⟨rfl, HB1.out⟩
theorem firstL_ok {ok : Nat → Prop} {w : World} {l : List LB} (h : Okay ok w l) : (firstL l).x.At ok w ∧ (firstL l).x.h.Ok ∧ (firstL l).x.h.parents.Nodup := by
  cases l with
  | nil => exact ⟨Sl.nil _ _ _, ⟨⟨by decide, by decide⟩, ⟨by decide, by decide⟩, ⟨by decide, by decide⟩, ⟨by decide, by decide⟩, by decide, by decide, by show (0 : Nat) ≤ 1048576; omega, by show (0 : Nat) ≤ 1048576; omega⟩, List.nodup_nil⟩
  | cons x l => exact h x (by simp)
set_option maxRecDepth 100000 in
set_option maxHeartbeats 1000000 in
theorem parents_any (w : World) (t : Value) (l : List LB) (ok ok' : Nat → Prop) (h : TipAt ok w t l) (hk : Okay ok' w l) :
    Calls Tryz.prog 100 #[tipV t] w fun e w' => e = .returned (.string (keyB (firstL l).x.h.parents)) ∧ Below w.heap.size w w' := by
  obtain ⟨hx, hok, hn⟩ := firstL_ok hk
  have HT := Lib.hid h
  have HX := Lib.hid hx
  have hpl : (firstL l).x.h.parents.length ≤ 4294967296 := by have h : _ ≤ 1048576 := hok.parents; omega
  have HN := Lib.hid hn
  clear h hk hx hok hn
  go_enter Tryz.func100, Tryz.ntmps100
  go_wp2_with (first
    | (go_at_call 121; refine (first_any _ _ l ok (HT.out.below ((Below.refl _ w).alloc (Nat.le_refl _) _))).mono ?_; rintro e w1 ⟨rfl, hb1⟩; have HB1 : Hid (Below w.heap.size w w1) := ((Below.refl _ w).alloc (Nat.le_refl _) _).trans (hb1.mono (by simp)); clear hb1)
    | (refine wpl_field rfl 71 1 (.tmp 4) rfl _ _ rfl (field_header _ _) ?_)
    | (refine wpl_field rfl 41 5 (.tmp 5) rfl _ (firstL l).x.v rfl (by kernel_rfl) ?_)
    | (go_at_call 40; refine (key_any _ _ _ _ (HX.out.below HB1.out) hpl HN.out).mono ?_; rintro e w2 ⟨rfl, hb2⟩; have HB2 : Hid (Below w.heap.size w w2) := HB1.out.trans (hb2.mono HB1.out.size); clear hb2))
  go_ret
  exact ⟨rfl, HB2.out⟩
end Go.Proofs.YtcohdfkdhdhegaaGreatDoor
namespace Go.Proofs.YtcohdfkdhdhegaaGreatDoor
open Go.RowKit

section
variable {P : Program} {ops : Array Oper} {rest : List Oper} {o : Oper} {a : Act} {w : World} {Q : Exit → Act → World → Prop}
/-- A slice literal of one struct or array. -/
theorem run_slice1 (w : World) (t e : TypeId) (cs : Array Value) (z : Value) (size bytes : Nat) (hu : P.underlying t = some (.slice e)) (hinfo : (P.info? e).map (fun i => (i.zero, i.size, i.bytes)) = some (some z, size, bytes)) (_hz : z.cells.size = size) (hv : cs.size = size) (h0 : 0 < size) (hs : size ≤ 1000) :
    (Instr.buildSlice t 1 #[(0, .agg cs)]).run P w = .ok (.slice (some ⟨w.heap.size, 0, none⟩) 1 1) (w.alloc (.cells cs e)) := by
  obtain ⟨ie, hie, hzz⟩ := Option.map_eq_some_iff.1 hinfo
  simp only [Prod.mk.injEq] at hzz
  obtain ⟨h1, h2, -⟩ := hzz
  have hf := Great.fill_whole h0 [.agg cs] ((Array.range (1 * ie.size)).map (z.cells[· % z.cells.size]!)) (fun v hv' => by rw [List.mem_singleton] at hv'; subst hv'; exact hv) (by simp [h2])
  refine run_buildSlice w t e 1 _ cs ie z hu hie h1 (by omega) (by omega) ?_
  rw [h2] at hf ⊢
  refine Eq.trans ?_ (hf.trans (by simp [Value.cells]))
  rfl
theorem exec_slice1 (t e : TypeId) (x : Operand) (ho : o.op = .buildSlice t 1 #[(0, x)]) (cs : Array Value) (hx : a.eval x = .agg cs) (z : Value) (size bytes : Nat) (hu : P.underlying t = some (.slice e)) (hinfo : (P.info? e).map (fun i => (i.zero, i.size, i.bytes)) = some (some z, size, bytes)) (hz : z.cells.size = size) (hv : cs.size = size) (h0 : 0 < size) (hs : size ≤ 1000) :
    (execOp a.eval o).run P w = .ok (.value (.slice (some ⟨w.heap.size, 0, none⟩) 1 1)) (w.alloc (.cells cs e)) := by
  unfold execOp
  simp only [ho, List.map_toArray, List.map_cons, List.map_nil, hx, Sem.run_bind, run_slice1 w t e cs z size bytes hu hinfo hz hv h0 hs, Result.andThen_ok, Sem.run_pure]
theorem wpl_slice1 (hgd : o.guard = none) (t e : TypeId) (x : Operand) (ho : o.op = .buildSlice t 1 #[(0, x)]) (cs : Array Value) (hx : a.eval x = .agg cs) (z : Value) (size bytes : Nat) (hu : P.underlying t = some (.slice e)) (hinfo : (P.info? e).map (fun i => (i.zero, i.size, i.bytes)) = some (some z, size, bytes)) (hz : z.cells.size = size) (hv : cs.size = size) (h0 : 0 < size) (hs : size ≤ 1000)
    (h : wpList P ops Q rest (a.put o.dst (.slice (some ⟨w.heap.size, 0, none⟩) 1 1)) (w.alloc (.cells cs e))) : wpList P ops Q (o :: rest) a w :=
  wpList_plain hgd fun K hK => by
    unfold Oper.wp execOp
    simp only [ho, List.map_toArray, List.map_cons, List.map_nil, hx, Sem.run_bind, run_slice1 w t e cs z size bytes hu hinfo hz hv h0 hs, Result.andThen_ok, Sem.run_pure]
    exact hK _ _ h
end

theorem idZ_cells : (Value.agg (Array.replicate 32 (.int .u8 0))).cells.size = 32 := by simp [Value.cells]
/-- What holds while a tipset's blocks are gone over: a block has been laid. -/
structure Laid (w wr W : World) (x : LB) : Prop where
  below : Below w.heap.size w W
  hold : HoldB W wr.heap.size x
  size : W.heap.size = wr.heap.size + 1
  old : Below wr.heap.size wr W
theorem Laid.start {w wr : World} (hb : Below w.heap.size w wr) (x : LB) : Laid w wr (wr.alloc (.cells x.cells.toArray 71)) x :=
  ⟨hb.alloc hb.size _, fun j u hu => cell_block (fr := (0, 0)) (T := 71) (heap_alloc_new wr _) (by simpa using hu), by simp, (Below.refl _ _).alloc (Nat.le_refl _) _⟩

set_option maxRecDepth 100000 in
set_option maxHeartbeats 2000000 in
theorem tkey_any (w : World) (t : Value) (l : List LB) (ok : Nat → Prop) (h : TipAt ok w t l) (hn : (l.map LB.id).Nodup) :
    Calls Tryz.prog 54 #[tipV t] w fun e w' => e = .returned (.string (keyB (l.map LB.id))) ∧ Below w.heap.size w w' := by
  obtain ⟨A, c, rfl, hc, hm⟩ := h.1.form
  have HT := Lib.hid h
  have hl5 := h.2
  have HN := Lib.hid hn
  clear h hn
  go_enter Tryz.func54, Tryz.ntmps54
  go_wp2
  go_loopw [3, 9] (fun v ci wr => ∃ i : Nat, i ≤ l.length ∧ ci = .int .i64 i ∧ wr.ownsRow w.heap.size 66 32 v i (idE.flat ((l.take i).map LB.id)) ∧ Below w.heap.size w wr) (fun _ ci _ => l.length - (intOf ci).toNat)
  case atStart => exact ⟨0, Nat.zero_le _, rfl, World.ownsRow_nil _ _ _ _, (Below.refl _ w).alloc (Nat.le_refl _) _⟩
  case round =>
    obtain ⟨i, hi, rfl, hO, hB⟩ := hrel
    have hsz := hB.size
    have HO := Lib.hid hO
    have HB := Lib.hid hB
    clear hO hB
    by_cases hlt : i < l.length
    · obtain ⟨x, hx⟩ : ∃ x, l[i]? = some x := ⟨_, List.getElem?_eq_getElem hlt⟩
      obtain ⟨b, off, rfl, hbl, -, hcx⟩ := (HT.out.below HB.out).1.at_ i x hx
      have HX := Lib.hid hcx
      have HXI := Lib.hid hx
      have HL := Lib.hid (Laid.start HB.out x)
      have HO1 : Hid ((wr.alloc (.cells x.cells.toArray 71)).ownsRow w.heap.size 66 32 u3 i (idE.flat ((l.take i).map LB.id))) := Lib.hid (HO.out.alloc _)
      clear hcx hx
      go_wp2_with (first
        | (refine wpl_load rfl 71 (.tmp 11) rfl b _ rfl x.cells _ HX.out Tryz.underlying71 rfl (by rw [LB.cells_length]; exact block_size) ?_)
        | (refine wpl_store_new rfl 71 _ _ rfl rfl x.cells rfl _ _ (by rw [LB.cells_length]; rfl) x.cells_one (by rw [LB.cells_length]; exact block_size) ?_; generalize (wr.alloc (.cells x.cells.toArray 71)) = W1 at HL HO1 ⊢)
        | (refine wpl_load rfl 66 (.tmp 14) rfl wr.heap.size 0 rfl (idc x.id) _ HL.out.hold.id Tryz.underlying66 rfl (by rw [idc_length]; exact id_size) ?_)
        | (refine wpl_slice1 rfl 39 66 (.tmp 15) rfl (idc x.id).toArray rfl _ 32 32 Tryz.underlying39 id_info idZ_cells (by rw [List.size_toArray, idc_length]) (by decide) (by decide) ?_)
        | (at_builtin; refine wpl_app1 (idc x.id).toArray w.heap.size rfl (.tmp 13) (.tmp 16) 39 66 _ 32 32 rfl Tryz.underlying39 id_info idZ_cells (by decide) (by decide) u3 i _ rfl rfl (by rw [List.size_toArray, idc_length]) (fun u hu => idE.one x.id u hu) HO1.out HL.out.below.size (by omega) ?_; intro v' w3 ho3 hg3 hat3; have hB3 := below_grown_own HL.out.below HO1.out (Nat.le_refl _) HL.out.below.size hg3))
      go_roundw
      case rel =>
        refine ⟨i + 1, by omega, by go_num, ?_, hB3⟩
        rw [List.take_add_one, HXI.out, List.map_append, idE.flat_append]
        simp only [Option.toList_some, List.map_cons, List.map_nil, idE.flat_one]
        exact ho3
      case measure => simp [intOf]; omega
    · have hin : i = l.length := by omega
      subst hin
      have hS := Sl.of_own (E := idE) (ys := l.map LB.id) (v := u3) (w := wr) (base := w.heap.size) (T := 66) (by have h1 := HO.out; rw [List.take_length] at h1; rw [List.length_map]; exact h1)
      have HK := Lib.hid (key_any wr u3 (l.map LB.id) _ hS (by rw [List.length_map]; omega) HN.out)
      clear hS
      go_wp2_with (go_at_call 40; refine HK.out.mono ?_; rintro e w4 ⟨rfl, hb4⟩)
      go_ret
      exact ⟨rfl, HB.out.trans (hb4.mono HB.out.size)⟩

end Go.Proofs.YtcohdfkdhdhegaaGreatDoor
namespace Go.Proofs.YtcohdfkdhdhegaaGreatDoor
open Go.RowKit

section
variable {ops : Array Oper} {S : World → Prop}
end
end Go.Proofs.YtcohdfkdhdhegaaGreatDoor
namespace Go.Proofs.YtcohdfkdhdhegaaGreatDoor
open Go.RowKit

/-- Is a block of a name among them? -/
def hasB (l : List LB) (i : ID) : Bool := l.any fun x => decide (x.id = i)
end Go.Proofs.YtcohdfkdhdhegaaGreatDoor
namespace Go.Proofs.YtcohdfkdhdhegaaGreatDoor
open Go.RowKit

theorem lbZ_cells : (Value.agg lbZ.cells.toArray).cells.size = 39 := by simp only [Value.cells, List.size_toArray, LB.cells_length]
theorem blk_info : (Tryz.prog.info? 71).map (fun i => (i.zero, i.size, i.bytes)) = some (some (.agg lbZ.cells.toArray), 39, 112) := by kernel_rfl

set_option maxRecDepth 100000 in
set_option maxHeartbeats 2000000 in
theorem tgenesis_any (w : World) (ht : Tab w) :
    Calls Tryz.prog 52 #[] w fun e w' => ∃ (t : Value) (y : LH), y.h = genH ∧ e = .returned (tipV t) ∧ Sl lbE (fun k => w.heap.size ≤ k) w' t [⟨rootID, y⟩] ∧ y.At (fun k => w.heap.size ≤ k) w' ∧ Below w.heap.size w w' := by
  have HT := Lib.hid ht
  clear ht
  go_enter Tryz.func52, Tryz.ntmps52
  go_wp2_with (first
    | (go_at_call 84; refine (genesis_any _).mono ?_; rintro e w1 ⟨rfl, hb1⟩; have HB1 : Hid (Below w.heap.size w w1) := ((Below.refl _ w).alloc (Nat.le_refl _) _).trans (hb1.mono (by simp)); have HK1 : Hid (w1.heap[w.heap.size]? = some (.cells #[.slice none 0 0] 52 (0, 0))) := (hb1.block _ (by simp)).trans (heap_alloc_new w _); clear hb1)
    | (go_at_call 83; refine (make_any _ genL (fun _ => True) (genL_at _ _) genH_ok (HT.out.below HB1.out)).mono ?_; rintro e w2 ⟨y, hyh, rfl, hy, hb2⟩; have HYH := Lib.hid hyh; have HY := Lib.hid hy; have HB2 : Hid (Below w.heap.size w w2) := HB1.out.trans (hb2.mono HB1.out.size); have HK2 : Hid (w2.heap[w.heap.size]? = some (.cells #[.slice none 0 0] 52 (0, 0))) := (hb2.block _ (Array.getElem?_eq_some_iff.1 HK1.out).1).trans HK1.out; clear hyh hy hb2)
    | (refine wpl_slice1 rfl 50 71 (.tmp 2) rfl (LB.cells ⟨hdrID genL.h, y⟩).toArray rfl _ 39 112 Tryz.underlying50 blk_info lbZ_cells (by rw [List.size_toArray, LB.cells_length]) (by decide) (by decide) ?_)
    | (refine wpl_store_row rfl 52 (.tmp 0) (.tmp 4) rfl w.heap.size rfl [.slice (some ⟨w2.heap.size, 0, none⟩) 1 1] rfl _ 52 ((heap_alloc_old w2 _ (Array.getElem?_eq_some_iff.1 HK2.out).1).trans HK2.out) rfl (by simp [Value.oneCell']) tip_size ?_))
  (try simp only [Exit.inBlock, Exit.then])
  have hlt2 := (Array.getElem?_eq_some_iff.1 HK2.out).1
  refine bodyPost_ret (results_cell_row rfl _ _ w.heap.size 52 #[.slice (some ⟨w2.heap.size, 0, none⟩) 1 1] (0, 0) _ rfl (setRow_heap _ w.heap.size _ _ _ _ ((heap_alloc_old w2 _ hlt2).trans HK2.out)) Tryz.underlying52 rfl tip_size) rfl ?_
  have hf : Fr (fun k => w.heap.size < k) w2 ((w2.alloc (.cells (LB.cells ⟨hdrID genL.h, y⟩).toArray 71)).setRow w.heap.size #[.slice (some ⟨w2.heap.size, 0, none⟩) 1 1]) :=
    ((Fr.refl _ w2).alloc _).trans ⟨by simp, fun k hk _ => heap_setRow_ne _ _ _ _ (by omega)⟩
  refine ⟨_, y, HYH.out, rfl, ?_, ?_, below_setRow (HB2.out.alloc HB2.out.size _) (Nat.le_refl _) _⟩
  · have hg : ((w2.alloc (.cells (LB.cells ⟨hdrID genL.h, y⟩).toArray 71)).setRow w.heap.size #[.slice (some ⟨w2.heap.size, 0, none⟩) 1 1]).heap[w2.heap.size]? = some (.cells (LB.cells ⟨hdrID genL.h, y⟩).toArray 71 (0, 0)) :=
      (heap_setRow_ne _ _ _ _ (by omega)).trans (heap_alloc_new w2 _)
    exact (Sl.of_block (E := lbE) (ys := [⟨rootID, y⟩]) (n := 1) (c := 1) hg (by simp only [lbE.flat_one]; rfl) rfl (Nat.le_refl _) (by omega)).mono fun k hk => by have := HB2.out.size; omega
  · have h1 : y.At (fun k => w.heap.size < k) w2 := Sl.mono HY.out fun k hk => by have h := (Array.getElem?_eq_some_iff.1 HK1.out).1; omega
    exact Sl.mono (Sl.fr h1 hf) fun k hk => Nat.le_of_lt hk

/-- A block's values, wherever its parents lie. -/
def LB.val (b : LB) : ID × Hdr := (b.id, b.x.h)
def vals (l : List LB) : List (ID × Hdr) := l.map LB.val
end Go.Proofs.YtcohdfkdhdhegaaGreatDoor
namespace Go.Proofs.YtcohdfkdhdhegaaGreatDoor
open Go.RowKit

section
variable {zs zs' : List LB}
theorem vals_get (h : vals zs = vals zs') (i : Nat) : (zs[i]?).map LB.val = (zs'[i]?).map LB.val := by
  have : (vals zs)[i]? = (vals zs')[i]? := by rw [h]
  simpa [vals] using this
theorem vals_length (h : vals zs = vals zs') : zs.length = zs'.length := by simpa [vals] using congrArg List.length h
theorem minerC_of_vals (zs : List LB) (i : Nat) (m : Int) : minerC zs i m = (((vals zs).take i).filter fun v => decide (v.2.miner = m)).length := by
  unfold minerC vals
  rw [← List.map_take, List.filter_map, List.length_map]
  rfl
theorem fits_vals {a b a' b' : Option LB} (h : a.map LB.val = a'.map LB.val) (h' : b.map LB.val = b'.map LB.val) : fits? a b = fits? a' b' := by
  cases a <;> cases a' <;> cases b <;> cases b' <;> simp only [Option.map_some, Option.map_none, Option.some.injEq, LB.val, Prod.mk.injEq, reduceCtorEq, fits?] at h h' ⊢
  unfold fitsB
  rw [h.1, h.2, h'.1, h'.2]
theorem goodN_vals (h : vals zs = vals zs') : ∀ i, goodN zs i = goodN zs' i
  | 0 => by simp only [goodN, vals_length h]
  | i + 1 => by
    rw [goodN, goodN, goodN_vals h i, fits_vals (vals_get h (i - 1)) (vals_get h i)]
    congr 2
    have hi := vals_get h i
    cases hx : zs[i]? <;> cases hy : zs'[i]? <;> rw [hx, hy] at hi <;> simp only [Option.map_some, Option.map_none, Option.some.injEq, reduceCtorEq] at hi ⊢
    rw [minerC_of_vals, minerC_of_vals, h]
    have : _ = _ := congrArg Prod.snd hi
    simp only [LB.val] at this
    rw [this]
theorem goodB_vals (h : vals zs = vals zs') : goodB zs = goodB zs' := by unfold goodB; rw [vals_length h, goodN_vals h]
theorem goodN_adj : ∀ (n : Nat), goodN zs n = true → ∀ p x y, p + 1 < n → zs[p]? = some x → zs[p + 1]? = some y → x.id ≠ y.id
  | 0, _, p, _, _, hp, _, _ => by omega
  | n + 1, h, p, x, y, hp, hx, hy => by
    rw [goodN] at h
    simp only [Bool.and_eq_true] at h
    obtain ⟨⟨h1, -⟩, h3⟩ := h
    rcases Nat.lt_or_ge (p + 1) n with hl | hl
    · exact goodN_adj n h1 p x y hl hx hy
    · obtain rfl : n = p + 1 := by omega
      rw [show p + 1 - 1 = p by omega, hx, hy] at h3
      simp [fits?, fitsB] at h3
      exact h3.1
theorem good_nodup (hr : Risen cmpL zs) (hg : goodB zs = true) : (zs.map LB.id).Nodup := by
  unfold List.Nodup
  rw [List.pairwise_map, List.pairwise_iff_getElem]
  intro i j hi hj hij he
  have h1 : i + 1 < zs.length := by omega
  have ha := goodN_adj zs.length hg i _ _ h1 (List.getElem?_eq_getElem hi) (List.getElem?_eq_getElem h1)
  have hb := hr i (i + 1) _ _ (by omega) (List.getElem?_eq_getElem hi) (List.getElem?_eq_getElem h1)
  have hc : ¬ cmpL zs[i] zs[i + 1] < 0 := by
    rcases Nat.lt_or_ge (i + 1) j with hl | hl
    · have := hr (i + 1) j _ _ hl (List.getElem?_eq_getElem h1) (List.getElem?_eq_getElem hj)
      unfold cmpL at this ⊢
      rw [he]; exact this
    · obtain rfl : j = i + 1 := by omega
      exact absurd he ha
  unfold cmpL at hb hc
  have := cmpI_swap zs[i].id zs[i + 1].id
  exact ha (cmpI_zero _ _ (by omega))
end
/-- Pairs in the order of their names. -/
theorem pairs_eq {α β : Type} : ∀ {p q : List (α × β)}, p.Perm q → p.map Prod.fst = q.map Prod.fst → (p.map Prod.fst).Nodup → p = q
  | [], [], _, _, _ => rfl
  | [], _ :: _, h, _, _ => by have := h.length_eq; simp at this
  | _ :: _, [], h, _, _ => by have := h.length_eq; simp at this
  | (a, x) :: p, (b, y) :: q, h, he, hn => by
    simp only [List.map_cons, List.cons.injEq] at he
    obtain ⟨rfl, he⟩ := he
    simp only [List.map_cons, List.nodup_cons] at hn
    have hxy : x = y := by
      have : (a, x) ∈ (a, y) :: q := h.mem_iff.1 (List.mem_cons_self)
      rcases List.mem_cons.1 this with e | hm
      · exact congrArg Prod.snd e
      · exact absurd (by rw [he]; exact List.mem_map.2 ⟨_, hm, rfl⟩) hn.1
    subst hxy
    rw [pairs_eq (List.Perm.cons_inv h) he hn.2]
/-- What New answers. -/
def Newed (l : List LB) (ec : Int) (zs : List LB) : Prop :=
  (5 < l.length ∧ ec = 4 ∧ zs = []) ∨ (l.length ≤ 5 ∧ ∃ z, z.Perm l ∧ Risen cmpL z ∧ ((goodB z = true ∧ ec = 0 ∧ zs = z) ∨ (goodB z = false ∧ ec = 15 ∧ zs = [])))
theorem Newed.mem {l zs : List LB} {ec : Int} (h : Newed l ec zs) : ∀ x ∈ zs, x ∈ l := by
  rcases h with ⟨-, -, rfl⟩ | ⟨-, z, hp, hr, ⟨hg, -, rfl⟩ | ⟨-, -, rfl⟩⟩
  · simp
  · exact fun x hx => hp.mem_iff.1 hx
  · simp
theorem sorted_ids {l z : List LB} (hp : z.Perm l) (hr : Risen cmpL z) : z.map LB.id = sortI (l.map LB.id) :=
  sortI_risen (hp.map _) fun i j x y hij hx hy => by
    rw [List.getElem?_map] at hx hy
    obtain ⟨a, ha, rfl⟩ := Option.map_eq_some_iff.1 hx
    obtain ⟨b, hb, rfl⟩ := Option.map_eq_some_iff.1 hy
    exact hr i j a b hij ha hb
theorem good_perm {l l' z z' : List LB} (hv : (vals l).Perm (vals l')) (hp : z.Perm l) (hp' : z'.Perm l') (hr : Risen cmpL z) (hr' : Risen cmpL z') (hg : goodB z = true) : vals z = vals z' := by
  have hi : (vals z).map Prod.fst = z.map LB.id := by simp [vals, LB.val, Function.comp_def]
  have hi' : (vals z').map Prod.fst = z'.map LB.id := by simp [vals, LB.val, Function.comp_def]
  have hv1 : (l.map LB.id).Perm (l'.map LB.id) := by
    have := hv.map Prod.fst
    simpa [vals, LB.val, Function.comp_def] using this
  refine pairs_eq (((hp.map LB.val).trans hv).trans (hp'.map LB.val).symm) ?_ (by rw [hi]; exact good_nodup hr hg)
  rw [hi, hi', sorted_ids hp hr, sorted_ids hp' hr', sortI_of_perm hv1]
theorem Newed.same {l l' zs zs' : List LB} {ec ec' : Int} (h : Newed l ec zs) (h' : Newed l' ec' zs') (hv : (vals l).Perm (vals l')) : ec = ec' ∧ vals zs = vals zs' := by
  have hl : l.length = l'.length := by simpa [vals] using hv.length_eq
  rcases h with ⟨h5, rfl, rfl⟩ | ⟨h5, z, hp, hr, hz⟩ <;> rcases h' with ⟨h5', rfl, rfl⟩ | ⟨h5', z', hp', hr', hz'⟩
  · exact ⟨rfl, rfl⟩
  · omega
  · omega
  · rcases hz with ⟨hg, rfl, rfl⟩ | ⟨hg, rfl, rfl⟩ <;> rcases hz' with ⟨hg', rfl, rfl⟩ | ⟨hg', rfl, rfl⟩
    · exact ⟨rfl, good_perm hv hp hp' hr hr' hg⟩
    · have := good_perm hv hp hp' hr hr' hg
      rw [goodB_vals this, hg'] at hg; cases hg
    · have := good_perm hv.symm hp' hp hr' hr hg'
      rw [goodB_vals this, hg] at hg'; cases hg'
    · exact ⟨rfl, rfl⟩
theorem new_any (w : World) (v : Value) (l : List LB) (ok : Nat → Prop) (hl : Sl lbE ok w v l) (hok : Okay ok w l) :
    Calls Tryz.prog 92 #[v] w fun e w' => ∃ ec zs t, Newed l ec zs ∧ e = .returned (.tuple #[tipV t, .int .i64 ec]) ∧ TipAt (fun k => w.heap.size ≤ k) w' t zs ∧ Below w.heap.size w w' := by
  rcases Nat.lt_or_ge 5 l.length with h5 | h5
  · exact (new_big w v l ok hl h5).mono fun e w' ⟨he, hb⟩ => ⟨4, [], .slice none 0 0, .inl ⟨h5, rfl, rfl⟩, he, ⟨Sl.nil _ _ _, by simp⟩, hb⟩
  · refine (new_few w v l ok hl hok h5).mono fun e w' ⟨z, t, hp, hr, hb, hz⟩ => ?_
    rcases hz with ⟨hg, he, hs⟩ | ⟨hg, he⟩
    · exact ⟨0, z, t, .inr ⟨h5, z, hp, hr, .inl ⟨hg, rfl, rfl⟩⟩, he, ⟨hs, by have := hp.length_eq; omega⟩, hb⟩
    · exact ⟨15, [], .slice none 0 0, .inr ⟨h5, z, hp, hr, .inr ⟨hg, rfl, rfl⟩⟩, he, ⟨Sl.nil _ _ _, by simp⟩, hb⟩
section
variable {zs zs' : List LB}
end
end Go.Proofs.YtcohdfkdhdhegaaGreatDoor
namespace Go.Proofs.YtcohdfkdhdhegaaGreatDoor

def blkG (h : Hdr) : ID × Hdr := (hdrID h, h)
def toLB (v : ID × Hdr) : LB := ⟨v.1, ⟨v.2, none, 0⟩⟩
/-- Are they a tipset, as they stand? -/
def tipB (vs : List (ID × Hdr)) : Bool := goodB (vs.map toLB)
theorem vals_toLB (vs : List (ID × Hdr)) : vals (vs.map toLB) = vs := by
  simp [vals, toLB, LB.val, Function.comp_def]
theorem tipB_vals (l : List LB) : tipB (vals l) = goodB l := goodB_vals (vals_toLB _)
theorem tipB_one (v : ID × Hdr) : tipB [v] = true := by
  simp [tipB, goodB, goodN, minerC, toLB]

def hasG (G : List Hdr) (i : ID) : Bool := G.any fun h => decide (hdrID h = i)
def getG (G : List Hdr) (i : ID) : Option Hdr := G.find? fun h => decide (hdrID h = i)
theorem getG_some {G : List Hdr} {i : ID} {h : Hdr} (e : getG G i = some h) : h ∈ G ∧ hdrID h = i := by
  have h1 := List.mem_of_find?_eq_some e
  have h2 := List.find?_some e
  exact ⟨h1, by simpa using h2⟩
theorem hasG_iff {G : List Hdr} {i : ID} : hasG G i = true ↔ ∃ h ∈ G, hdrID h = i := by simp [hasG]
theorem getG_none {G : List Hdr} {i : ID} : getG G i = none ↔ hasG G i = false := by
  simp [getG, hasG, List.find?_eq_none]
theorem hasG_get {G : List Hdr} {i : ID} (h : hasG G i = true) : ∃ x, getG G i = some x := by
  cases e : getG G i with
  | none => rw [getG_none.1 e] at h; cases h
  | some x => exact ⟨x, rfl⟩
/-- The tipset of names. -/
def tipG (G : List Hdr) (l : List ID) : Int × List (ID × Hdr) :=
  if l.all (hasG G) then (if tipB (l.filterMap fun i => (getG G i).map blkG) then (0, l.filterMap fun i => (getG G i).map blkG) else (15, [])) else (7, [])
def heightV (vs : List (ID × Hdr)) : Int := match vs with | v :: _ => v.2.height | [] => 0
/-- May a header come in? -/
def checkG (G : List Hdr) (h : Hdr) : Int :=
  if checkH h ≠ 0 then checkH h
  else if hasG G (hdrID h) then 9
  else if (tipG G h.parents).1 = 15 then 10
  else if (tipG G h.parents).1 ≠ 0 then (tipG G h.parents).1
  else if heightV (tipG G h.parents).2 ≥ h.height then 11
  else 0
def addG (G : List Hdr) (h : Hdr) : List Hdr := if checkG G h = 0 then G ++ [h] else G
/-- Whatever came in was let in. -/
inductive GoodG : List Hdr → Prop
  | start : GoodG [genH]
  | add {G : List Hdr} {h : Hdr} : GoodG G → checkG G h = 0 → GoodG (G ++ [h])
theorem GoodG.addG {G : List Hdr} (g : GoodG G) (h : Hdr) : GoodG (addG G h) := by
  unfold Proofs.YtcohdfkdhdhegaaGreatDoor.addG
  split
  · exact .add g ‹_›
  · exact g
theorem checkG_parts {G : List Hdr} {h : Hdr} (e : checkG G h = 0) : checkH h = 0 ∧ hasG G (hdrID h) = false ∧ (tipG G h.parents).1 = 0 ∧ heightV (tipG G h.parents).2 < h.height := by
  unfold checkG at e
  by_cases h1 : checkH h = 0
  · rw [if_neg (by simp [h1])] at e
    cases h2 : hasG G (hdrID h) with
    | true => rw [h2, if_pos rfl] at e; cases e
    | false =>
      rw [h2, if_neg (by simp)] at e
      by_cases h3 : (tipG G h.parents).1 = 15
      · rw [if_pos h3] at e; cases e
      · rw [if_neg h3] at e
        by_cases h4 : (tipG G h.parents).1 = 0
        · rw [if_neg (by simp [h4])] at e
          by_cases h5 : heightV (tipG G h.parents).2 ≥ h.height
          · rw [if_pos h5] at e; cases e
          · exact ⟨h1, rfl, h4, by omega⟩
        · rw [if_pos h4] at e; exact absurd e h4
  · rw [if_pos h1] at e; exact absurd e h1
end Go.Proofs.YtcohdfkdhdhegaaGreatDoor
