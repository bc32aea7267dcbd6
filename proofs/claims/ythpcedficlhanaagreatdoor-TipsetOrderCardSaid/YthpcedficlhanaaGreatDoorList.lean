/- Key, Wins, Ticket, Blocks of a tipset. -/
import Derived.Test.YthpcedficlhanaaGreatDoorTell
import Derived.Great.FillDense
import Derived.Great.BuildSlice
namespace Go.Proofs.YthpcedficlhanaaGreatDoor
open Go.RowKit

section
variable {P : Program} {ops : Array Oper} {rest : List Oper} {o : Oper} {a : Act} {w : World} {Q : Exit → Act → World → Prop}
/-- A slice literal of one struct or array. -/
theorem run_slice1 (w : World) (t e : TypeId) (cs : Array Value) (z : Value) (size bytes : Nat) (hu : P.underlying t = some (.slice e)) (hinfo : (P.info? e).map (fun i => (i.zero, i.size, i.bytes)) = some (some z, size, bytes)) (hz : z.cells.size = size) (hv : cs.size = size) (h0 : 0 < size) (hs : size ≤ 1000) :
    (Instr.buildSlice t 1 #[(0, .agg cs)]).run P w = .ok (.slice (some ⟨w.heap.size, 0, none⟩) 1 1) (w.alloc (.cells cs e)) := by
  obtain ⟨ie, hie, hzz⟩ := Option.map_eq_some_iff.1 hinfo
  simp only [Prod.mk.injEq] at hzz
  obtain ⟨h1, h2, -⟩ := hzz
  have hf := Great.fill_whole h0 [.agg cs] ((Array.range (1 * ie.size)).map (z.cells[· % z.cells.size]!)) (fun v hv' => by rw [List.mem_singleton] at hv'; subst hv'; exact hv) (by simp [h2])
  refine run_buildSlice w t e 1 _ cs ie z hu hie h1 (by omega) (by omega) ?_
  rw [h2] at hf ⊢
  refine Eq.trans ?_ (hf.trans (by simp [Value.cells]))
  rfl
theorem exec_slice1 (t e : TypeId) (x : Operand) (ho : o.op = .buildSlice t 1 #[(0, x)]) (cs : Array Value) (hx : a.eval x = .agg cs) (z : Value) (size bytes : Nat) (hu : P.underlying t = some (.slice e)) (hinfo : (P.info? e).map (fun i => (i.zero, i.size, i.bytes)) = some (some z, size, bytes)) (hz : z.cells.size = size) (hv : cs.size = size) (h0 : 0 < size) (hs : size ≤ 1000) :
    (execOp a.eval o).run P w = .ok (.value (.slice (some ⟨w.heap.size, 0, none⟩) 1 1)) (w.alloc (.cells cs e)) := by
  unfold execOp
  simp only [ho, List.map_toArray, List.map_cons, List.map_nil, hx, Sem.run_bind, run_slice1 w t e cs z size bytes hu hinfo hz hv h0 hs, Result.andThen_ok, Sem.run_pure]
theorem wpl_slice1 (hgd : o.guard = none) (t e : TypeId) (x : Operand) (ho : o.op = .buildSlice t 1 #[(0, x)]) (cs : Array Value) (hx : a.eval x = .agg cs) (z : Value) (size bytes : Nat) (hu : P.underlying t = some (.slice e)) (hinfo : (P.info? e).map (fun i => (i.zero, i.size, i.bytes)) = some (some z, size, bytes)) (hz : z.cells.size = size) (hv : cs.size = size) (h0 : 0 < size) (hs : size ≤ 1000)
    (h : wpList P ops Q rest (a.put o.dst (.slice (some ⟨w.heap.size, 0, none⟩) 1 1)) (w.alloc (.cells cs e))) : wpList P ops Q (o :: rest) a w :=
  wpList_plain hgd fun K hK => by
    unfold Oper.wp execOp
    simp only [ho, List.map_toArray, List.map_cons, List.map_nil, hx, Sem.run_bind, run_slice1 w t e cs z size bytes hu hinfo hz hv h0 hs, Result.andThen_ok, Sem.run_pure]
    exact hK _ _ h
end

theorem idZ_cells : (Value.agg (Array.replicate 32 (.int .u8 0))).cells.size = 32 := by simp [Value.cells]
/-- What holds while a tipset's blocks are gone over: a block has been laid. -/
structure Laid (w wr W : World) (x : LB) : Prop where
  below : Below w.heap.size w W
  hold : HoldB W wr.heap.size x
  size : W.heap.size = wr.heap.size + 1
  old : Below wr.heap.size wr W
theorem Laid.start {w wr : World} (hb : Below w.heap.size w wr) (x : LB) : Laid w wr (wr.alloc (.cells x.cells.toArray 40)) x :=
  ⟨hb.alloc hb.size _, fun j u hu => cell_block (fr := (0, 0)) (T := 40) (heap_alloc_new wr _) (by simpa using hu), by simp, (Below.refl _ _).alloc (Nat.le_refl _) _⟩

set_option maxRecDepth 100000 in
set_option maxHeartbeats 2000000 in
theorem tkey_any (w : World) (t : Value) (l : List LB) (ok : Nat → Prop) (h : TipAt ok w t l) (hn : (l.map LB.id).Nodup) :
    Calls Tryz.prog 34 #[tipV t] w fun e w' => e = .returned (.string (keyB (l.map LB.id))) ∧ Below w.heap.size w w' := by
  obtain ⟨A, c, rfl, hc, hm⟩ := h.1.form
  have HT := Lib.hid h
  have hl5 := h.2
  have HN := Lib.hid hn
  clear h hn
  go_enter Tryz.func34, Tryz.ntmps34
  go_wp2
  go_loopw [3, 9] (fun v ci wr => ∃ i : Nat, i ≤ l.length ∧ ci = .int .i64 i ∧ wr.ownsRow w.heap.size 34 32 v i (idE.flat ((l.take i).map LB.id)) ∧ Below w.heap.size w wr) (fun _ ci _ => l.length - (intOf ci).toNat)
  case atStart => exact ⟨0, Nat.zero_le _, rfl, World.ownsRow_nil _ _ _ _, (Below.refl _ w).alloc (Nat.le_refl _) _⟩
  case round =>
    obtain ⟨i, hi, rfl, hO, hB⟩ := hrel
    have hsz := hB.size
    have HO := Lib.hid hO
    have HB := Lib.hid hB
    clear hO hB
    by_cases hlt : i < l.length
    · obtain ⟨x, hx⟩ : ∃ x, l[i]? = some x := ⟨_, List.getElem?_eq_getElem hlt⟩
      obtain ⟨b, off, rfl, hbl, -, hcx⟩ := (HT.out.below HB.out).1.at_ i x hx
      have HX := Lib.hid hcx
      have HXI := Lib.hid hx
      have HL := Lib.hid (Laid.start HB.out x)
      have HO1 : Hid ((wr.alloc (.cells x.cells.toArray 40)).ownsRow w.heap.size 34 32 u3 i (idE.flat ((l.take i).map LB.id))) := Lib.hid (HO.out.alloc _)
      clear hcx hx
      go_wp2_with (first
        | (refine wpl_load rfl 40 (.tmp 11) rfl b _ rfl x.cells _ HX.out Tryz.underlying40 rfl (by rw [LB.cells_length]; exact block_size) ?_)
        | (refine wpl_store_new rfl 40 _ _ rfl rfl x.cells rfl _ _ (by rw [LB.cells_length]; rfl) x.cells_one (by rw [LB.cells_length]; exact block_size) ?_; generalize (wr.alloc (.cells x.cells.toArray 40)) = W1 at HL HO1 ⊢)
        | (refine wpl_load rfl 34 (.tmp 14) rfl wr.heap.size 0 rfl (idc x.id) _ HL.out.hold.id Tryz.underlying34 rfl (by rw [idc_length]; exact id_size) ?_)
        | (refine wpl_slice1 rfl 36 34 (.tmp 15) rfl (idc x.id).toArray rfl _ 32 32 Tryz.underlying36 id_info idZ_cells (by rw [List.size_toArray, idc_length]) (by decide) (by decide) ?_)
        | (at_builtin; refine wpl_app1 (idc x.id).toArray w.heap.size rfl (.tmp 13) (.tmp 16) 36 34 _ 32 32 rfl Tryz.underlying36 id_info idZ_cells (by decide) (by decide) u3 i _ rfl rfl (by rw [List.size_toArray, idc_length]) (fun u hu => idE.one x.id u hu) HO1.out HL.out.below.size (by omega) ?_; intro v' w3 ho3 hg3 hat3; have hB3 := below_grown_own HL.out.below HO1.out (Nat.le_refl _) HL.out.below.size hg3))
      go_roundw
      case rel =>
        refine ⟨i + 1, by omega, by go_num, ?_, hB3⟩
        rw [List.take_add_one, HXI.out, List.map_append, idE.flat_append]
        simp only [Option.toList_some, List.map_cons, List.map_nil, idE.flat_one]
        exact ho3
      case measure => simp [intOf]; omega
    · have hin : i = l.length := by omega
      subst hin
      have hS := Sl.of_own (E := idE) (ys := l.map LB.id) (v := u3) (w := wr) (base := w.heap.size) (T := 34) (by have h1 := HO.out; rw [List.take_length] at h1; rw [List.length_map]; exact h1)
      have HK := Lib.hid (key_any wr u3 (l.map LB.id) _ hS (by rw [List.length_map]; omega) HN.out)
      clear hS
      go_wp2_with (go_at_call 44; refine HK.out.mono ?_; rintro e w4 ⟨rfl, hb4⟩)
      go_ret
      exact ⟨rfl, HB.out.trans (hb4.mono HB.out.size)⟩

def winsN (l : List LB) (i : Nat) : Int := ((l.take i).map fun b => b.x.h.wins).sum
theorem winsN_succ (l : List LB) (i : Nat) (x : LB) (hx : l[i]? = some x) : winsN l (i + 1) = winsN l i + x.x.h.wins := by
  unfold winsN
  rw [List.take_add_one, hx]
  simp
theorem winsN_bound (l : List LB) (h : ∀ x ∈ l, 0 ≤ x.x.h.wins ∧ x.x.h.wins ≤ 1000) (i : Nat) : 0 ≤ winsN l i ∧ winsN l i ≤ 1000 * i := by
  induction i with
  | zero => simp [winsN]
  | succ i ih =>
    rcases hx : l[i]? with _ | x
    · have : l.take (i + 1) = l.take i := by rw [List.take_add_one, hx]; simp
      have h2 : winsN l (i + 1) = winsN l i := by unfold winsN; rw [this]
      rw [h2]
      omega
    · rw [winsN_succ l i x hx]
      have := h x (List.mem_of_getElem? hx)
      omega
theorem LB.cells_wins (x : LB) : x.cells[35]? = some (.int .i64 x.x.h.wins) := x.cells_hdr 3 _ rfl
theorem LB.cells_ticket (x : LB) : x.cells[34]? = some (.string x.x.h.ticket) := x.cells_hdr 2 _ rfl
theorem LB.cells_parents (x : LB) : x.cells[37]? = some x.x.v := x.cells_hdr 5 _ rfl

set_option maxRecDepth 100000 in
set_option maxHeartbeats 2000000 in
theorem wins_any (w : World) (t : Value) (l : List LB) (ok : Nat → Prop) (h : TipAt ok w t l) (hw : ∀ x ∈ l, 0 ≤ x.x.h.wins ∧ x.x.h.wins ≤ 1000) :
    Calls Tryz.prog 29 #[tipV t] w fun e w' => e = .returned (.int .i64 (winsN l l.length)) ∧ Below w.heap.size w w' := by
  obtain ⟨A, c, rfl, hc, hm⟩ := h.1.form
  have HT := Lib.hid h
  have hl5 := h.2
  have HW := Lib.hid hw
  clear h hw
  go_enter Tryz.func29, Tryz.ntmps29
  go_wp2
  go_loopw [3, 9] (fun v ci wr => ∃ i : Nat, i ≤ l.length ∧ ci = .int .i64 i ∧ v = .int .i64 (winsN l i) ∧ Below w.heap.size w wr) (fun _ ci _ => l.length - (intOf ci).toNat)
  case atStart => exact ⟨0, Nat.zero_le _, rfl, rfl, (Below.refl _ w).alloc (Nat.le_refl _) _⟩
  case round =>
    obtain ⟨i, hi, rfl, rfl, hB⟩ := hrel
    have hsz := hB.size
    have HB := Lib.hid hB
    clear hB
    obtain ⟨hs0, hs1⟩ := winsN_bound l HW.out i
    by_cases hlt : i < l.length
    · obtain ⟨x, hx⟩ : ∃ x, l[i]? = some x := ⟨_, List.getElem?_eq_getElem hlt⟩
      obtain ⟨b, off, rfl, hbl, -, hcx⟩ := (HT.out.below HB.out).1.at_ i x hx
      obtain ⟨hw0, hw1⟩ := HW.out x (List.mem_of_getElem? hx)
      have HX := Lib.hid hcx
      have HE := Lib.hid (winsN_succ l i x hx)
      have HL := Lib.hid (Laid.start HB.out x)
      clear hcx hx
      go_wp2_with (first
        | (refine wpl_load rfl 40 (.tmp 11) rfl b _ rfl x.cells _ HX.out Tryz.underlying40 rfl (by rw [LB.cells_length]; exact block_size) ?_)
        | (refine wpl_store_new rfl 40 _ _ rfl rfl x.cells rfl _ _ (by rw [LB.cells_length]; rfl) x.cells_one (by rw [LB.cells_length]; exact block_size) ?_; generalize (wr.alloc (.cells x.cells.toArray 40)) = W1 at HL ⊢; have hcw : W1.cell? ⟨wr.heap.size, 35, none⟩ = some (.int .i64 x.x.h.wins) := HL.out.hold 35 _ x.cells_wins))
      go_roundw
      case rel => exact ⟨i + 1, by omega, by go_num, by rw [HE.out], HL.out.below⟩
      case measure => simp [intOf]; omega
    · have hin : i = l.length := by omega
      subst hin
      go_wp2
      go_ret
      exact ⟨rfl, HB.out⟩

/-- The lesser text. -/
def minT (s t : ByteArray) : ByteArray := if Op.bytesLess s.toList t.toList || s.toList == t.toList then s else t
theorem run_min_str {P : Program} (w : World) (ts : Array TypeId) (ty : TypeId) (s t : ByteArray) : (Builtin.min_ ts ty #[.string s, .string t]).run P w = .ok (.string (minT s t)) w := by
  simp only [Builtin.min_, Builtin.min2, List.foldlM_cons, List.foldlM_nil, Op.stringOp, minT]
  cases Op.bytesLess s.toList t.toList || s.toList == t.toList <;> simp [Sem.run_bind, asBool]
def ticketN (l : List LB) (i : Nat) : ByteArray := (l.take i).foldl (fun s b => minT s b.x.h.ticket) (firstL l).x.h.ticket
theorem ticketN_succ (l : List LB) (i : Nat) (x : LB) (hx : l[i]? = some x) : ticketN l (i + 1) = minT (ticketN l i) x.x.h.ticket := by
  unfold ticketN
  rw [List.take_add_one, hx]
  simp

set_option maxRecDepth 100000 in
set_option maxHeartbeats 2000000 in
theorem ticket_any (w : World) (t : Value) (l : List LB) (ok : Nat → Prop) (h : TipAt ok w t l) :
    Calls Tryz.prog 30 #[tipV t] w fun e w' => e = .returned (.string (ticketN l l.length)) ∧ Below w.heap.size w w' := by
  obtain ⟨A, c, rfl, hc, hm⟩ := h.1.form
  have HT := Lib.hid h
  have hl5 := h.2
  clear h
  go_enter Tryz.func30, Tryz.ntmps30
  go_wp2_with (first
    | (go_at_call 101; refine (first_any _ _ l ok (HT.out.below ((Below.refl _ w).alloc (Nat.le_refl _) _))).mono ?_; rintro e w1 ⟨rfl, hb1⟩; have HB1 : Hid (Below w.heap.size w w1) := ((Below.refl _ w).alloc (Nat.le_refl _) _).trans (hb1.mono (by simp)); have hc1 : w1.cell? ⟨w.heap.size, 0, none⟩ = some (.slice A l.length c) := (hb1.cell (p := ⟨w.heap.size, 0, none⟩) (by simp)).trans (cell_block (heap_alloc_new w _) rfl); clear hb1)
    | (refine wpl_field rfl 40 1 (.tmp 7) rfl _ _ rfl (field_header _ _) ?_)
    | (refine wpl_field rfl 38 2 (.tmp 8) rfl _ (.string (firstL l).x.h.ticket) rfl (by kernel_rfl) ?_))
  go_loopw [3, 13] (fun v ci wr => ∃ i : Nat, i ≤ l.length ∧ ci = .int .i64 i ∧ v = .string (ticketN l i) ∧ Below w.heap.size w wr) (fun _ ci _ => l.length - (intOf ci).toNat)
  case atStart => exact ⟨0, Nat.zero_le _, rfl, rfl, HB1.out⟩
  case round =>
    obtain ⟨i, hi, rfl, rfl, hB⟩ := hrel
    have hsz := hB.size
    have HB := Lib.hid hB
    clear hB
    by_cases hlt : i < l.length
    · obtain ⟨x, hx⟩ : ∃ x, l[i]? = some x := ⟨_, List.getElem?_eq_getElem hlt⟩
      obtain ⟨b, off, rfl, hbl, -, hcx⟩ := (HT.out.below HB.out).1.at_ i x hx
      have HX := Lib.hid hcx
      have HL := Lib.hid (Laid.start HB.out x)
      have HE := Lib.hid (ticketN_succ l i x hx)
      have hmin := fun (W : World) => run_min_str (P := Tryz.prog) W #[9, 9] 9 (ticketN l i) x.x.h.ticket
      clear hcx hx
      go_wp2_with (first
        | (refine wpl_load rfl 40 (.tmp 15) rfl b _ rfl x.cells _ HX.out Tryz.underlying40 rfl (by rw [LB.cells_length]; exact block_size) ?_)
        | (refine wpl_store_new rfl 40 _ _ rfl rfl x.cells rfl _ _ (by rw [LB.cells_length]; rfl) x.cells_one (by rw [LB.cells_length]; exact block_size) ?_; generalize (wr.alloc (.cells x.cells.toArray 40)) = W1 at HL ⊢; have hcw : W1.cell? ⟨wr.heap.size, 34, none⟩ = some (.string x.x.h.ticket) := HL.out.hold 34 _ x.cells_ticket))
      go_roundw
      case rel => exact ⟨i + 1, by omega, by go_num, by rw [HE.out], HL.out.below⟩
      case measure => simp [intOf]; omega
    · have hin : i = l.length := by omega
      subst hin
      go_wp2
      go_ret
      exact ⟨rfl, HB.out⟩
end Go.Proofs.YthpcedficlhanaaGreatDoor
