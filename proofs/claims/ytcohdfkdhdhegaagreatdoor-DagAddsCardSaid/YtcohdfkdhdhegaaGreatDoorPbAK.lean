/- dag.Dag: Len, Has, Block; dag.copied. Regions that draw their order: two operations of which either may come first. No program in sight. coxswainlaw08.awake. The document's headers: how they lie; coxswainlaw05.IDOf, Name, coxswainlaw01.Cut. coxswainlaw05.Own. coxswainlaw08.Blocks. coxswainref05.Sort: texts, rising, each once. -/
import Derived.Test.YtcohdfkdhdhegaaGreatDoorPbAI
import Derived.Test.YtcohdfkdhdhegaaGreatDoorPbAJ
import Derived.Laws.CopyRow
import Derived.Lib.BufferWrite
namespace Go.Proofs.YtcohdfkdhdhegaaGreatDoor
open Go.RowKit Go.Maps

section
variable {P : Program}
theorem exec_store_new {o : Oper} {a : Act} {W : World} (ty : TypeId) (x y : Operand) (ho : o.op = .store ty x y) (hx : a.eval x = .pointer (some ⟨W.heap.size, 0, none⟩)) (cs : List Value) (hy : a.eval y = .agg cs.toArray) (old : Array Value) (T : TypeId) (hl : cs.length = old.size) (h1 : ∀ u ∈ cs, u.oneCell' = true) (hi : (P.info? ty).map (·.size) = some cs.length) :
    (execOp a.eval o).run P (W.alloc (.cells old T)) = .ok .skip (W.alloc (.cells cs.toArray T)) :=
  (exec_store ty x y ho W.heap.size 0 hx _ hy (run_storeVar_block (W.alloc (.cells old T)) W.heap.size ty T cs old (heap_alloc_new W _) hl h1 hi)).trans (by rw [World.setRow_alloc_new])
end
/-- What the look for a name reads. -/
structure HasS (w W : World) (p b1 g : Nat) (D : List LB) (i : ID) : Prop where
  cell : W.cell? ⟨p, 0, none⟩ = some (.map (some b1))
  map : MapV Tryz.prog 66 W b1 D.length (blkF D)
  name : ∀ j u, (idc i)[j]? = some u → W.cell? ⟨g, 0 + j, none⟩ = some u
  below : Below w.heap.size w W
  lt : p < W.heap.size ∧ g < W.heap.size
theorem HasS.alloc {w W : World} {p b1 g : Nat} {D : List LB} {i : ID} (h : HasS w W p b1 g D i) (o : Obj) : HasS w (W.alloc o) p b1 g D i :=
  have hb : Below W.heap.size W (W.alloc o) := (Below.refl _ _).alloc (Nat.le_refl _) o
  ⟨(hb.cell (p := ⟨p, 0, none⟩) h.lt.1).trans h.cell, h.map.alloc o, fun j u hu => (hb.cell (p := ⟨g, 0 + j, none⟩) h.lt.2).trans (h.name j u hu), h.below.alloc h.below.size o, Nat.lt_of_lt_of_le h.lt.1 hb.size, Nat.lt_of_lt_of_le h.lt.2 hb.size⟩
theorem HasS.start {w : World} {p b1 b2 : Nat} {D : List LB} {ok : Nat → Prop} (h : DagAt ok w p b1 b2 D) (i : ID) : HasS w (w.alloc (.cells (idc i).toArray 66)) p b1 w.heap.size D i :=
  have hb : Below w.heap.size w (w.alloc (.cells (idc i).toArray 66)) := (Below.refl _ _).alloc (Nat.le_refl _) _
  ⟨(hb.cell (p := ⟨p, 0, none⟩) h.lt.1).trans h.c0, h.blocks.alloc _, fun j u hu => by rw [Nat.zero_add]; exact cell_block (heap_alloc_new w _) (by simpa using hu), hb, Nat.lt_of_lt_of_le h.lt.1 hb.size, by simp⟩

set_option maxRecDepth 100000 in
set_option maxHeartbeats 1000000 in
theorem dhas_any (w : World) (p b1 b2 : Nat) (D : List LB) (ok : Nat → Prop) (h : DagAt ok w p b1 b2 D) (i : ID) :
    Calls Tryz.prog 36 #[.pointer (some ⟨p, 0, none⟩), .agg (idc i).toArray] w fun e w' => e = .returned (.bool (hasB D i)) ∧ Below w.heap.size w w' := by
  have hS : HasS w (w.alloc (.cells (idc i).toArray 66)).drew p b1 w.heap.size D i := by
    have h1 := HasS.start h i
    exact ⟨h1.cell, h1.map, h1.name, h1.below.drew, h1.lt⟩
  have HS := Lib.hid hS
  obtain ⟨y, hy⟩ : ∃ y, getB D i = y := ⟨_, rfl⟩
  obtain ⟨hb, hhb⟩ : ∃ hb, hasB D i = hb := ⟨_, rfl⟩
  have HY := Lib.hid hy
  have HHB := Lib.hid hhb
  rw [hhb]
  clear h hS hy hhb
  go_enter Tryz.func36, Tryz.ntmps36
  go_wp2
  refine st_ (S := (fun W' => HasS w W' p b1 w.heap.size D i)) 12 (bt 0 12) (by kernel_rfl) rfl (by rfl) HS.out (fun hHeld => ?_)
  refine tk_ 0 (some 8) (bt 1 11) (v := ?_) (a' := ?_) rfl rfl (by kernel_rfl) (fun _ _ _ h => h) (yieldsIf_run rfl ?_) hHeld ?_ ?_
  rotate_left
  · intro w'
    go_simp
    with_reducible rfl
  rotate_left
  · simp only [Act.put, List.setIfInBounds_toArray, List.set_cons_zero, List.set_cons_succ]
    rfl
  refine tk_ 1 (some 9) (bt 2 10) (v := ?_) (a' := ?_) rfl rfl (by kernel_rfl) (fun _ _ _ h => h) (yieldsIf_run rfl ?_) hHeld ?_ ?_
  rotate_left
  · intro w'
    go_simp
    with_reducible rfl
  rotate_left
  · simp only [Act.put, List.setIfInBounds_toArray, List.set_cons_zero, List.set_cons_succ]
    rfl
  refine tk_ 2 (some 10) (bt 3 9) (v := ?_) (a' := ?_) rfl rfl (by kernel_rfl) (fun _ _ _ h => h) (yieldsIf_run rfl ?_) hHeld ?_ ?_
  rotate_left
  · intro w'
    go_simp
    with_reducible rfl
  rotate_left
  · simp only [Act.put, List.setIfInBounds_toArray, List.set_cons_zero, List.set_cons_succ]
    rfl
  refine tk_ 3 (some 11) (bt 4 8) rfl rfl (by kernel_rfl) (fun _ _ _ h => h) (yieldsIf_cell rfl 129 (.tmp 10) rfl ⟨p, 0, none⟩ rfl (.map (some b1)) _ (fun W' h => h.cell) Tryz.underlying129 rfl) hHeld (a' := ?_) ?_ ?_
  rotate_left
  · simp only [Act.put, List.setIfInBounds_toArray, List.set_cons_zero, List.set_cons_succ]
    rfl
  refine tk_ 4 (some 12) (bt 5 7) rfl rfl (by kernel_rfl) (fun _ _ _ h => h) (yieldsIf_load rfl 66 (.tmp 3) rfl w.heap.size 0 rfl (idc i) _ (fun W' h => h.name) Tryz.underlying66 rfl (by rw [idc_length]; exact id_size)) hHeld (a' := ?_) ?_ ?_
  rotate_left
  · simp only [Act.put, List.setIfInBounds_toArray, List.set_cons_zero, List.set_cons_succ]
    rfl
  refine tk_ 5 (some 13) (bt 6 6) rfl rfl (by kernel_rfl) (fun _ _ _ h => h) (yieldsIf_of (v := .tuple #[.agg y.cells.toArray, .bool hb]) rfl fun W' h => (exec_lookokV (key := .agg (idc i).toArray) h.map lawID Tryz.underlying129 (zeroBlk W') (.tmp 11) (.tmp 12) rfl rfl rfl (keyOf_id i)).trans (by rw [blkF_get, blkF_has, HY.out, HHB.out]; rfl)) hHeld (a' := ?_) ?_ ?_
  rotate_left
  · simp only [Act.put, List.setIfInBounds_toArray, List.set_cons_zero, List.set_cons_succ]
    rfl
  refine tk_ 6 (some 7) (bt 7 5) (v := ?_) (a' := ?_) rfl rfl (by kernel_rfl) (fun _ _ _ h => h) (yieldsIf_run rfl ?_) hHeld ?_ ?_
  rotate_left
  · intro w'
    go_simp
    with_reducible rfl
  rotate_left
  · simp only [Act.put, List.setIfInBounds_toArray, List.set_cons_zero, List.set_cons_succ]
    rfl
  refine tk_ 7 (some 14) (bt 8 4) (v := ?_) (a' := ?_) rfl rfl (by kernel_rfl) (fun _ _ _ h => h) (yieldsIf_run rfl ?_) hHeld ?_ ?_
  rotate_left
  · intro w'
    go_simp
    with_reducible rfl
  rotate_left
  · simp only [Act.put, List.setIfInBounds_toArray, List.set_cons_zero, List.set_cons_succ]
    rfl
  refine tk_ 8 (some 15) (bt 9 3) (v := ?_) (a' := ?_) rfl rfl (by kernel_rfl) (fun _ _ _ h => h) (yieldsIf_run rfl ?_) hHeld ?_ ?_
  rotate_left
  · intro w'
    go_simp
    with_reducible rfl
  rotate_left
  · simp only [Act.put, List.setIfInBounds_toArray, List.set_cons_zero, List.set_cons_succ]
    rfl
  have hHeld := HS.out.alloc (.cells lbZ.cells.toArray 71)
  refine val_ 9 (some 5) (bt 10 2) rfl rfl (by kernel_rfl) rfl ((.pointer (some ⟨(w.alloc (.cells (idc i).toArray 66)).heap.size, 0, none⟩))) (((w.alloc (.cells (idc i).toArray 66)).drew.alloc (.cells lbZ.cells.toArray 71))) (by kernel_rfl) hHeld (a' := ?_) ?_ ?_
  rotate_left
  · simp only [Act.put, List.setIfInBounds_toArray, List.set_cons_zero, List.set_cons_succ]
    rfl
  have hHeld := HS.out.alloc (.cells y.cells.toArray 71)
  refine sk_ 10 (bt 11 1) rfl rfl (by kernel_rfl) rfl (((w.alloc (.cells (idc i).toArray 66)).drew.alloc (.cells y.cells.toArray 71))) (exec_store_new 71 (.tmp 5) (.tmp 14) rfl rfl y.cells rfl lbZ.cells.toArray 71 (by rw [LB.cells_length]; rfl) y.cells_one (by rw [LB.cells_length]; exact block_size)) hHeld ?_
  refine tk_ 11 (some 6) (bt 12 0) (v := ?_) (a' := ?_) rfl rfl (by kernel_rfl) (fun _ _ _ h => h) (yieldsIf_run rfl ?_) hHeld ?_ ?_
  rotate_left
  · intro w'
    go_simp
    with_reducible rfl
  rotate_left
  · simp only [Act.put, List.setIfInBounds_toArray, List.set_cons_zero, List.set_cons_succ]
    rfl
  refine wpAnyH_done (by kernel_rfl) ?_ _
  change Exit.then _ _ _ _ _
  go_wp2
  go_ret
  exact ⟨rfl, hHeld.below⟩

end Go.Proofs.YtcohdfkdhdhegaaGreatDoor
namespace Go.Proofs.YtcohdfkdhdhegaaGreatDoor
open Go.RowKit

section
variable {P : Program} {ops : Array Oper} {Q : Exit → Act → World → Prop} {md : Region.Mode} {S : World → Prop} {ds : List Nat}
theorem forkD_ (i j : Nat) {fuel : Nat} {l : Array Bool} {a : Act} {w : World} (hc : decide (Region.ready md ops l = [i, j]) = true)
    (h1 : wpOp P ops Q i (fun a' w' => (i ∉ ds → S w') ∧ wpD P md ops Q S ds fuel (l.setIfInBounds i true) a' w') a w)
    (h2 : wpOp P ops Q j (fun a' w' => (j ∉ ds → S w') ∧ wpD P md ops Q S ds fuel (l.setIfInBounds j true) a' w') a w) : wpD P md ops Q S ds (fuel + 1) l a w := by
  have hc := of_decide_eq_true hc
  refine ⟨fun h0 => (by rw [hc] at h0; cases h0), fun k hk => ?_⟩
  rw [hc] at hk
  rcases List.mem_cons.1 hk with rfl | hk
  · exact h1
  · obtain rfl : k = j := by simpa using hk
    exact h2
theorem fcallD_ (i : Nat) (N : Option Tmp) (l' : Array Bool) {o : Oper} {fuel : Nat} {l : Array Bool} {a : Act} {w : World} (ho : ops[i]? = some o) (hN : o.dst = N) (hl : l.setIfInBounds i true = l') (hw : Region.wanted o (yielded ops a.tmps) = true)
    (f : FuncId) (args : Array Value) (h : (execOp a.eval o).run P w = .ok (.enter f args) w) {R : Ending → World → Prop} (hc : Calls P f args w R)
    (hK : ∀ e w', R e w' → ∃ v, e = .returned v ∧ (i ∉ ds → S w') ∧ ∃ a', a.put N v = a' ∧ wpD P md ops Q S ds fuel l' a' w') :
    wpOp P ops Q i (fun a' w' => (i ∉ ds → S w') ∧ wpD P md ops Q S ds fuel (l.setIfInBounds i true) a' w') a w := by
  subst hN
  subst hl
  refine wpOp_call ho hw f args h hc fun e w' hr => ?_
  obtain ⟨v, he, hs, a', ha, hk⟩ := hK e w' hr
  exact ⟨v, he, hs, ha ▸ hk⟩
theorem fvalD_ (i : Nat) (N : Option Tmp) (l' : Array Bool) {o : Oper} {fuel : Nat} {l : Array Bool} {a : Act} {w : World} (ho : ops[i]? = some o) (hN : o.dst = N) (hl : l.setIfInBounds i true = l') (hw : Region.wanted o (yielded ops a.tmps) = true)
    (v : Value) (w1 : World) (h : (execOp a.eval o).run P w = .ok (.value v) w1) (hS : i ∉ ds → S w1) {a' : Act} (ha : a.put N v = a') (hk : wpD P md ops Q S ds fuel l' a' w1) :
    wpOp P ops Q i (fun a' w' => (i ∉ ds → S w') ∧ wpD P md ops Q S ds fuel (l.setIfInBounds i true) a' w') a w := by
  subst hN
  subst hl
  subst ha
  exact wpOp_value ho hw v w1 h ⟨hS, hk⟩
end
end Go.Proofs.YtcohdfkdhdhegaaGreatDoor
namespace Go.Proofs.YtcohdfkdhdhegaaGreatDoor
open Go.RowKit

theorem keyB_one (i : ID) : keyB [i] = i.1 := by
  show (⟨((i.1.data.toList ++ []) : List UInt8).toArray⟩ : ByteArray) = i.1
  simp

end Go.Proofs.YtcohdfkdhdhegaaGreatDoor
namespace Go.Proofs.YtcohdfkdhdhegaaGreatDoor
open Go.RowKit

structure RH where
  height : Int
  miner : Int
  ticket : ByteArray
  wins : Int
  power : Int
  parents : List ByteArray
  salt : Int
structure LRH where
  h : RH
  A : Option Addr
  c : Nat
def strE : Enc ByteArray := { enc := fun s => [.string s], k := 1, hk := fun _ => rfl, one := fun _ u hu => by rw [List.mem_singleton] at hu; subst hu; rfl, k0 := by decide }
def LRH.v (x : LRH) : Value := .slice x.A x.h.parents.length x.c
def LRH.cells (x : LRH) : List Value := [.int .i64 x.h.height, .int .i64 x.h.miner, .string x.h.ticket, .int .i64 x.h.wins, .int .u64 x.h.power, x.v, .int .i64 x.h.salt]
def LRH.At (ok : Nat → Prop) (w : World) (x : LRH) : Prop := Sl strE ok w x.v x.h.parents
def lrhE : Enc LRH := { enc := LRH.cells, k := 7, hk := fun _ => rfl, one := fun x u hu => by simp only [LRH.cells, List.mem_cons, List.not_mem_nil, or_false] at hu; rcases hu with rfl | rfl | rfl | rfl | rfl | rfl | rfl <;> rfl, k0 := by decide }
theorem rh_size : (Tryz.prog.info? 29).map (·.size) = some 7 := by kernel_rfl
theorem strE_flat (l : List ByteArray) : strE.flat l = l.map Value.string := by
  induction l with
  | nil => rfl
  | cons s l ih => rw [Enc.flat, List.flatMap_cons, List.map_cons, ← ih]; rfl

/-- A name of a text: its first 32 bytes, filled up. -/
def idB (s : ByteArray) : List UInt8 := s.data.toList.take 32 ++ List.replicate (32 - (s.data.toList.take 32).length) 0
theorem idB_length (s : ByteArray) : (idB s).length = 32 := by simp [idB]; omega
def idOf (s : ByteArray) : ID := ⟨⟨(idB s).toArray⟩, by simp [ByteArray.size, idB_length]⟩
theorem idOf_self (s : ByteArray) (h : s.size = 32) : (idOf s).1 = s := by
  have hl : s.data.toList.length = 32 := by simpa using h
  have : idB s = s.data.toList := by
    unfold idB
    rw [List.take_of_length_le (by omega), hl]
    simp
  show (⟨(idB s).toArray⟩ : ByteArray) = s
  rw [this]

theorem run_copy_id (w : World) (dT sT ty elem : TypeId) (g : Nat) (s : ByteArray) (t : TypeId) {P : Program}
    (hu : P.underlying dT = some (.slice elem)) (hs : (P.info? elem).map (·.size) = some 1) (hg : w.heap[g]? = some (.cells (idc default).toArray t (0, 0))) :
    (Builtin.copy_ #[dT, sT] ty #[.slice (some ⟨g, 0, none⟩) 32 32, .string s]).run P w = .ok (goInt (min s.size 32)) (w.setRow g (idc (idOf s)).toArray) := by
  have hst := run_storeCells_at P g 0 t (bytesC (s.extract 0 (min s.size 32))) 0 _ w hg (by rw [bytesC_length, List.size_toArray, idc_length]; simp [ByteArray.size_extract]; omega) (bytesC_one _)
  have hrow : ((idc default).toArray.toList.take (0 + 0) ++ bytesC (s.extract 0 (min s.size 32)) ++ (idc default).toArray.toList.drop (0 + 0 + (bytesC (s.extract 0 (min s.size 32))).length)).toArray = (idc (idOf s)).toArray := by
    have hz : (idc default : List Value) = List.replicate 32 (.int .u8 0) := by rfl
    have he : bytesC (s.extract 0 (min s.size 32)) = (s.data.toList.take 32).map fun b => Value.int .u8 (b.toNat : Int) := by
      unfold bytesC
      congr 1
      rw [ByteArray.data_extract, Array.toList_extract, List.extract_eq_take_drop, List.drop_zero, Nat.sub_zero]
      rcases Nat.le_total s.size 32 with h | h
      · rw [Nat.min_eq_left h, List.take_of_length_le (by simp), List.take_of_length_le (by simpa using h)]
      · rw [Nat.min_eq_right h]
    rw [he, hz]
    simp only [Nat.zero_add, List.take_zero, List.nil_append, List.drop_replicate, List.length_map]
    rw [idc, bytesC]
    show _ = (List.map _ (idB s)).toArray
    rw [idB, List.map_append, List.map_replicate]
    rfl
  rw [hrow] at hst
  have htk : List.take (min s.size 32) (List.map (fun b : UInt8 => Value.int .u8 (b.toNat : Int)) s.data.toList) = bytesC (s.extract 0 (min s.size 32)) := by
    unfold bytesC
    rw [ByteArray.data_extract, Array.toList_extract, List.extract_eq_take_drop, List.drop_zero, Nat.sub_zero, List.map_take]
  cases hq : P.info? elem with
  | none => simp [hq] at hs
  | some i =>
    have hmin : Nat.min s.size 32 = min s.size 32 := rfl
    simp [Builtin.copy_, run_underlying hu, Builtin.lenOf, Builtin.firstCells, sizeOf, typeInfo, hq, hmin]
    rw [htk, hst]
    have : ((min s.size 32 : Nat) : Int) = min (s.size : Int) 32 := by omega
    simp [Result.andThen, this]
section
variable {ops : Array Oper} {rest : List Oper} {o : Oper} {a : Act} {w : World} {Q : Exit → Act → World → Prop}
theorem byte_size1 : (Tryz.prog.info? 5).map (·.size) = some 1 := by kernel_rfl
theorem wpl_copy_id (hgd : o.guard = none) (x y : Operand) (ho : o.op = .call { callee := .builtin .copy, args := #[x, y], argTypes := #[145, 9] }) (g : Nat) (hx : a.eval x = .slice (some ⟨g, 0, none⟩) 32 32) (s : ByteArray) (hy : a.eval y = .string s) (t : TypeId) (hg : w.heap[g]? = some (.cells (idc default).toArray t (0, 0)))
    (h : ∀ W2, W2 = w.setRow g (idc (idOf s)).toArray → wpList Tryz.prog ops Q rest (a.put o.dst (goInt (min s.size 32))) W2) : wpList Tryz.prog ops Q (o :: rest) a w :=
  wpList_plain hgd fun K hK => by
    have hrun := run_copy_id (P := Tryz.prog) w 145 9 o.type 5 g s t Tryz.underlying145 byte_size1 hg
    unfold Oper.wp
    simp [execOp, ho, resolve, invoke, builtin, hx, hy, hrun, Result.andThen]
    exact hK _ _ (by simpa using h _ rfl)
end
set_option maxRecDepth 100000 in
set_option maxHeartbeats 1000000 in
theorem idOf_any (w : World) (s : ByteArray) : Calls Tryz.prog 91 #[.string s] w fun e w' => e = .returned (.agg (idc (idOf s)).toArray) ∧ Below w.heap.size w w' := by
  have hB0 : Below w.heap.size w ((w.alloc (.cells (idc default).toArray 66)).alloc (.cells (idc default).toArray 66)) := ((Below.refl _ w).alloc (Nat.le_refl _) _).alloc (by simp) _
  have hg0 : ((w.alloc (.cells (idc default).toArray 66)).alloc (.cells (idc default).toArray 66)).heap[w.heap.size]? = some (.cells (idc default).toArray 66 (0, 0)) := by rw [heap_alloc_if, if_neg (by simp), heap_alloc_if, if_pos rfl]
  have hg1 : ((w.alloc (.cells (idc default).toArray 66)).alloc (.cells (idc default).toArray 66)).heap[w.heap.size + 1]? = some (.cells (idc default).toArray 66 (0, 0)) := by rw [heap_alloc_if, if_pos (by simp)]
  have HB0 := Lib.hid hB0
  have HG0 := Lib.hid hg0
  have HG1 := Lib.hid hg1
  clear hB0 hg0 hg1
  go_enter Tryz.func91, Tryz.ntmps91
  go_wp2_with (first
    | (refine wpl_copy_id rfl (.tmp 4) (.tmp 5) rfl (w.heap.size + 1) rfl s rfl _ HG1.out ?_; intro W2 hW2; have HB2 : Hid (Below w.heap.size w W2) := Lib.hid (by subst hW2; exact below_setRow HB0.out (Nat.le_succ w.heap.size) _); have HK2 : Hid (W2.heap[w.heap.size + 1]? = some (.cells (idc (idOf s)).toArray 66 (0, 0))) := Lib.hid (by subst hW2; exact setRow_heap _ _ _ _ _ _ HG1.out); have HK0 : Hid (W2.heap[w.heap.size]? = some (.cells (idc default).toArray 66 (0, 0))) := Lib.hid (by subst hW2; exact (heap_setRow_ne _ _ _ _ (by omega)).trans HG0.out); clear hW2)
    | (refine wpl_load rfl 66 (.tmp 3) rfl (w.heap.size + 1) 0 rfl (idc (idOf s)) _ (fun j u hu => by rw [Nat.zero_add]; exact cell_block HK2.out (by simpa using hu)) Tryz.underlying66 rfl (by rw [idc_length]; exact id_size) ?_)
    | (refine wpl_store_row rfl 66 (.tmp 2) (.tmp 7) rfl w.heap.size rfl (idc (idOf s)) rfl _ 66 HK0.out (by rw [List.size_toArray, idc_length, idc_length]) (idE.one (idOf s)) (by rw [idc_length]; exact id_size) ?_))
  (try simp only [Exit.inBlock, Exit.then])
  refine bodyPost_ret (results_cell_row rfl _ _ w.heap.size 66 (idc (idOf s)).toArray (0, 0) _ rfl (setRow_heap W2 w.heap.size _ _ _ _ HK0.out) Tryz.underlying66 rfl (by rw [List.size_toArray, idc_length]; exact id_size)) rfl ?_
  exact ⟨rfl, below_setRow HB2.out (Nat.le_refl _) _⟩

/-- At most n bytes. -/
def cutS (s : ByteArray) (n : Nat) : ByteArray := if n < s.size then s.extract 0 n else s
theorem cutS_size (s : ByteArray) (n : Nat) : (cutS s n).size ≤ n ∨ (cutS s n).size ≤ s.size ∧ s.size ≤ n := by
  unfold cutS
  split
  · exact .inl (by rw [ByteArray.size_extract]; omega)
  · exact .inr ⟨Nat.le_refl _, by omega⟩
set_option maxRecDepth 100000 in
set_option maxHeartbeats 1000000 in
theorem cut_any (w : World) (s : ByteArray) (n : Nat) (hn : n ≤ 1000) (_hs : s.size ≤ 140737488351232) : Calls Tryz.prog 31 #[.string s, .int .i64 n] w fun e w' => e = .returned (.string (cutS s n)) ∧ w = w' := by
  by_cases hlt : n < s.size
  · have he : cutS s n = s.extract 0 n := by rw [cutS, if_pos hlt]
    have HE := Lib.hid he
    clear he
    go_enter Tryz.func31, Tryz.ntmps31
    go_wp2
    go_ret
    exact ⟨by rw [HE.out]; rfl, rfl⟩
  · have he : cutS s n = s := by rw [cutS, if_neg hlt]
    have HE := Lib.hid he
    clear he
    go_enter Tryz.func31, Tryz.ntmps31
    go_wp2
    go_ret
    exact ⟨by rw [HE.out]; rfl, rfl⟩
end Go.Proofs.YtcohdfkdhdhegaaGreatDoor
namespace Go.Proofs.YtcohdfkdhdhegaaGreatDoor
open Go.RowKit

/-- The program's header of the document's. -/
def hdrOf (h : RH) : Hdr := ⟨h.height, h.miner, h.ticket, h.wins, h.power, h.parents.map idOf, h.salt⟩
theorem ids_size : (Tryz.prog.info? 39).map (·.size) = some 1 := by kernel_rfl
def zHdr : Array Value := #[.int .i64 0, .int .i64 0, .string ⟨#[]⟩, .int .i64 0, .int .u64 0, .slice none 0 0, .int .i64 0]
def oHdr (h : RH) (v : Value) : Array Value := #[.int .i64 h.height, .int .i64 h.miner, .string h.ticket, .int .i64 h.wins, .int .u64 h.power, v, .int .i64 h.salt]
/-- What holds at the loop's head. -/
structure OwnR (w wr : World) (x : LRH) (i : Nat) (A : Option Addr) (c : Nat) : Prop where
  own : wr.ownsRow (w.heap.size + 3) 66 32 (.slice A i c) i (idE.flat ((x.h.parents.map idOf).take i))
  cell : wr.heap[w.heap.size + 2]? = some (.cells (oHdr x.h (.slice A i c)) 41 (0, 0))
  res : wr.heap[w.heap.size + 1]? = some (.cells zHdr 41 (0, 0))
  below : Below w.heap.size w wr
theorem OwnR.size {w wr : World} {x : LRH} {i : Nat} {A : Option Addr} {c : Nat} (h : OwnR w wr x i A c) : w.heap.size + 2 < wr.heap.size := (Array.getElem?_eq_some_iff.1 h.cell).1
theorem OwnR.under {w wr w' : World} {x : LRH} {i : Nat} {A : Option Addr} {c : Nat} (h : OwnR w wr x i A c) (hb : Below wr.heap.size wr w') : OwnR w w' x i A c :=
  ⟨own_below h.own hb, (hb.block _ h.size).trans h.cell, (hb.block _ (Nat.lt_of_succ_lt h.size)).trans h.res, h.below.trans (hb.mono h.below.size)⟩
theorem OwnR.next {w wr W w6 : World} {x : LRH} {i : Nat} {A A6 : Option Addr} {c c6 : Nat} (h : OwnR w wr x i A c) (hb : Below wr.heap.size wr W) (s : ByteArray) (hs : x.h.parents[i]? = some s)
    (ho : w6.ownsRow (w.heap.size + 3) 66 32 (.slice A6 (i + 1) c6) (i + 1) (idE.flat ((x.h.parents.map idOf).take i) ++ (idc (idOf s)).toArray.toList)) (hg : W.grownBy w6 (Value.slice A i c).ownBlock) : OwnR w (w6.setCell ⟨w.heap.size + 2, 5, none⟩ (.slice A6 (i + 1) c6)) x (i + 1) A6 c6 := by
  have h1 := h.under hb
  have hne : ∀ k, k < w.heap.size + 3 → some k ≠ (Value.slice A i c).ownBlock := fun k hk e => by have := (own_lt h1.own k e.symm).1; omega
  have hc6 : w6.heap[w.heap.size + 2]? = some (.cells (oHdr x.h (.slice A i c)) 41 (0, 0)) := (hg.block _ h1.size (hne _ (by omega))).trans h1.cell
  refine ⟨?_, heap_setCell_at w6 _ 5 _ _ _ _ hc6, (Below.heap_setCell _ _ _ _ (by simp)).trans ((hg.block _ (Nat.lt_of_succ_lt h1.size) (hne _ (by omega))).trans h1.res), ?_⟩
  · have ho' : w6.ownsRow (w.heap.size + 3) 66 32 (.slice A6 (i + 1) c6) (i + 1) (idE.flat ((x.h.parents.map idOf).take (i + 1))) := by
      rw [List.take_add_one, List.getElem?_map, hs, idE.flat_append]
      simp only [Option.map_some, Option.toList_some, idE.flat_one]
      exact ho
    refine ho'.kept (Lib.grownBy_setCell w6 (w.heap.size + 2) 5 _) ?_
    rcases hb : (Value.slice A6 (i + 1) c6).ownBlock with _ | k
    · exact .inl rfl
    · exact .inr fun e => by injection e with e; have := (own_lt ho k hb).1; omega
  · exact (h1.below.grown hg h1.below.size fun k hk => by have := (own_lt h1.own k hk).1; omega).setCell (p := ⟨w.heap.size + 2, 5, none⟩) (Nat.le_add_right _ 2) _

set_option maxRecDepth 100000 in
set_option maxHeartbeats 4000000 in
theorem own_any (w : World) (x : LRH) (ok : Nat → Prop) (hx : x.At ok w) (hlen : x.h.parents.length ≤ 1000) :
    Calls Tryz.prog 19 #[.agg x.cells.toArray] w fun e w' => ∃ y : LH, y.h = hdrOf x.h ∧ e = .returned (.agg y.cells.toArray) ∧ y.At (fun k => w.heap.size ≤ k) w' ∧ Below w.heap.size w w' := by
  obtain ⟨⟨height, miner, ticket, wins, power, parents, salt⟩, A, c⟩ := x
  have hlen' : parents.length ≤ 1000 := hlen
  have HX : Hid (Sl strE ok w (.slice A parents.length c) parents) := Lib.hid hx
  obtain ⟨-, hc, hm⟩ := HX.out.len
  obtain ⟨X, hX⟩ : ∃ X : LRH, X = ⟨⟨height, miner, ticket, wins, power, parents, salt⟩, A, c⟩ := ⟨_, rfl⟩
  have HDX := Lib.hid hX
  clear hx hlen
  change Calls _ _ #[.agg #[.int .i64 height, .int .i64 miner, .string ticket, .int .i64 wins, .int .u64 power, .slice A parents.length c, .int .i64 salt]] w _
  go_enter Tryz.func19, Tryz.ntmps19
  go_wp2
  have hR0 : OwnR w (((w.alloc (.cells #[.int .i64 height, .int .i64 miner, .string ticket, .int .i64 wins, .int .u64 power, .slice A parents.length c, .int .i64 salt] 29)).alloc (.cells zHdr 41)).alloc (.cells #[.int .i64 height, .int .i64 miner, .string ticket, .int .i64 wins, .int .u64 power, .slice none 0 0, .int .i64 salt] 41)) ⟨⟨height, miner, ticket, wins, power, parents, salt⟩, A, c⟩ 0 none 0 :=
    ⟨World.ownsRow_nil _ _ _ _, by rw [heap_alloc_if, if_pos (by simp)]; rfl, by rw [heap_alloc_if, if_neg (by simp), heap_alloc_if, if_pos (by simp)], (((Below.refl _ w).alloc (Nat.le_refl _) _).alloc (by simp) _).alloc (by simp only [World.size_alloc]; omega) _⟩
  have HR0 := Lib.hid hR0
  clear hR0
  go_loopw [22] (fun ci wr => ∃ (i : Nat) (A2 : Option Addr) (c2 : Nat), i ≤ parents.length ∧ ci = .int .i64 i ∧ OwnR w wr ⟨⟨height, miner, ticket, wins, power, parents, salt⟩, A, c⟩ i A2 c2) (fun ci _ => parents.length - (intOf ci).toNat)
  case atStart => exact ⟨0, none, 0, Nat.zero_le _, rfl, HR0.out⟩
  case round =>
    obtain ⟨i, A2, c2, hi, rfl, hR⟩ := hrel
    have HR := Lib.hid hR
    clear hR
    by_cases hlt : i < parents.length
    · obtain ⟨s, hs⟩ : ∃ s, parents[i]? = some s := ⟨_, List.getElem?_eq_getElem hlt⟩
      obtain ⟨b, off, rfl, hbl, -, hcx⟩ := (HX.out.below HR.out.below).at_ i s hs
      have hcs : wr.cell? ⟨b, off + i, none⟩ = some (.string s) := by have := hcx 0 _ rfl; simpa [strE] using this
      have HS := Lib.hid hs
      clear hcx hs
      go_wp2
      have hB0 : Below wr.heap.size wr wr.drew := (Below.refl _ wr).drew
      have hS0 : wr.drew.cell? ⟨w.heap.size + 2, 5, none⟩ = some (.slice A2 i c2) := cell_block HR.out.cell rfl
      refine stD_ (S := (fun w' => w'.cell? ⟨w.heap.size + 2, 5, none⟩ = some (.slice A2 i c2))) [7] 8 (bt 0 8) (by kernel_rfl) rfl (by rfl) hS0 (fun hHeld => ?_)
      refine tkD_ 0 (some 26) (bt 1 7) (v := ?_) (a' := ?_) rfl rfl (by kernel_rfl) (fun _ _ _ h => h) (yieldsIf_run rfl ?_) hHeld ?_ ?_
      rotate_left
      · intro w'
        go_simp
        with_reducible rfl
      rotate_left
      · simp only [Act.put, List.setIfInBounds_toArray, List.set_cons_zero, List.set_cons_succ]
        rfl
      refine tkD_ 1 (some 27) (bt 2 6) rfl rfl (by kernel_rfl) (fun _ _ _ h => h) (yieldsIf_cell rfl 39 (.tmp 26) rfl ⟨w.heap.size + 2, 5, none⟩ rfl (.slice A2 i c2) _ (fun w' h => h) Tryz.underlying39 rfl) hHeld (a' := ?_) ?_ ?_
      rotate_left
      · simp only [Act.put, List.setIfInBounds_toArray, List.set_cons_zero, List.set_cons_succ]
        rfl
      refine tkD_ 2 (some 28) (bt 3 5) (v := ?_) (a' := ?_) rfl rfl (by kernel_rfl) (fun _ _ _ h => h) (yieldsIf_run rfl ?_) hHeld ?_ ?_
      rotate_left
      · intro w'
        go_simp
        with_reducible rfl
      rotate_left
      · simp only [Act.put, List.setIfInBounds_toArray, List.set_cons_zero, List.set_cons_succ]
        rfl
      refine callD_ 3 (some 29) (bt 4 4) rfl rfl (by kernel_rfl) rfl 91 _ (by kernel_rfl) (idOf_any _ s) ?_
      rintro e w4 ⟨rfl, hb4⟩
      have HB4 : Hid (Below wr.heap.size wr w4) := Lib.hid (hB0.trans hb4)
      refine ⟨_, rfl, (cell_block (HR.out.under HB4.out).cell rfl), fun hHeld => ⟨?_, ?_, ?_⟩⟩
      rotate_left
      · simp only [Act.put, List.setIfInBounds_toArray, List.set_cons_zero, List.set_cons_succ]
        rfl
      have hHeld : (w4.alloc (.cells (idc (idOf s)).toArray 66)).cell? ⟨w.heap.size + 2, 5, none⟩ = some (.slice A2 i c2) := cell_block ((heap_alloc_old w4 _ (HR.out.under HB4.out).size).trans (HR.out.under HB4.out).cell) rfl
      refine valD_ 4 (some 30) (bt 5 3) rfl rfl (by kernel_rfl) rfl (.slice (some ⟨w4.heap.size, 0, none⟩) 1 1) (w4.alloc (.cells (idc (idOf s)).toArray 66)) (exec_slice1 39 66 (.tmp 29) rfl (idc (idOf s)).toArray rfl _ 32 32 Tryz.underlying39 id_info idZ_cells (by rw [List.size_toArray, idc_length]) (by decide) (by decide)) (fun _ => hHeld) (a' := ?_) ?_ ?_
      rotate_left
      · simp only [Act.put, List.setIfInBounds_toArray, List.set_cons_zero, List.set_cons_succ]
        rfl
      refine stepD_ 5 (some 31) (bt 6 2) rfl rfl (by kernel_rfl) rfl (exec_app1 (idc (idOf s)).toArray (w.heap.size + 3) (.tmp 27) (.tmp 30) 39 66 _ 32 32 rfl Tryz.underlying39 id_info idZ_cells (by decide) (by decide) (.slice A2 i c2) i _ rfl rfl (by rw [List.size_toArray, idc_length]) (fun u hu => idE.one (idOf s) u hu) (HR.out.under HB4.out).own (by have := HR.out.size; have := HB4.out.size; omega) (by omega)) ?_
      rintro v6 w6 ⟨ho6, hg6, -⟩
      obtain ⟨A6, c6, rfl, -⟩ := own_slice ho6
      have HR7 := Lib.hid (HR.out.next HB4.out s HS.out ho6 hg6)
      have hne6 : ∀ k, k < wr.heap.size → k < w.heap.size + 3 → some k ≠ (Value.slice A2 i c2).ownBlock := fun k _ hk e => by have := (own_lt HR.out.own k e.symm).1; omega
      have hc6 : w6.heap[w.heap.size + 2]? = some (.cells (oHdr ⟨height, miner, ticket, wins, power, parents, salt⟩ (.slice A2 i c2)) 41 (0, 0)) := (hg6.block _ (HR.out.under HB4.out).size (hne6 _ HR.out.size (by omega))).trans (HR.out.under HB4.out).cell
      have hHeld : w6.cell? ⟨w.heap.size + 2, 5, none⟩ = some (.slice A2 i c2) := cell_block hc6 rfl
      refine ⟨(fun _ => hHeld), ?_, ?_, ?_⟩
      rotate_left
      · simp only [Act.put, List.setIfInBounds_toArray, List.set_cons_zero, List.set_cons_succ]
        rfl
      refine tkD_ 6 (some 32) (bt 7 1) (v := ?_) (a' := ?_) rfl rfl (by kernel_rfl) (fun _ _ _ h => h) (yieldsIf_run rfl ?_) hHeld ?_ ?_
      rotate_left
      · intro w'
        go_simp
        with_reducible rfl
      rotate_left
      · simp only [Act.put, List.setIfInBounds_toArray, List.set_cons_zero, List.set_cons_succ]
        rfl
      refine skD_ 7 (bt 8 0) rfl rfl (by kernel_rfl) rfl (w6.setCell ⟨w.heap.size + 2, 5, none⟩ (.slice A6 (i + 1) c6)) (exec_store 39 (.tmp 32) (.tmp 31) rfl (w.heap.size + 2) 5 rfl _ rfl (run_storeVar_cell w6 39 (w.heap.size + 2) 5 _ _ rfl ids_size (cell_block hc6 rfl) (Lib.frozen_of_heap hc6 5))) (fun h => absurd (by decide) h) ?_
      refine doneD_ (by kernel_rfl) ?_ _
      change Exit.inBlock _ _ _ _ _
      generalize w6.setCell ⟨w.heap.size + 2, 5, none⟩ (.slice A6 (i + 1) c6) = w7 at HR7 ⊢
      go_wp2
      go_roundw
      case rel => exact ⟨i + 1, A6, c6, by omega, by go_num, HR7.out⟩
      case measure => simp [intOf]; omega
    · have hin : i = parents.length := by omega
      subst hin
      have HKC : Hid (∀ j u, (LH.cells ⟨hdrOf ⟨height, miner, ticket, wins, power, parents, salt⟩, A2, c2⟩)[j]? = some u → wr.cell? ⟨w.heap.size + 2, 0 + j, none⟩ = some u) := Lib.hid fun j u hu => by
        rw [Nat.zero_add]
        refine cell_block HR.out.cell ?_
        have he : (LH.cells ⟨hdrOf ⟨height, miner, ticket, wins, power, parents, salt⟩, A2, c2⟩).toArray = oHdr ⟨height, miner, ticket, wins, power, parents, salt⟩ (.slice A2 parents.length c2) := by
          simp [LH.cells, LH.v, hdrOf, oHdr]
        rw [← he]
        simpa using hu
      go_wp2_with (first
        | (refine wpl_load rfl 41 (.tmp 3) rfl (w.heap.size + 2) 0 rfl (LH.cells ⟨hdrOf ⟨height, miner, ticket, wins, power, parents, salt⟩, A2, c2⟩) _ HKC.out Tryz.underlying41 rfl hdr_size ?_)
        | (refine wpl_store_row rfl 41 (.tmp 2) (.tmp 34) rfl (w.heap.size + 1) rfl (LH.cells ⟨hdrOf ⟨height, miner, ticket, wins, power, parents, salt⟩, A2, c2⟩) rfl _ 41 HR.out.res rfl (LH.cells_one _) hdr_size ?_))
      (try simp only [Exit.inBlock, Exit.then])
      refine bodyPost_ret (results_cell_row rfl _ _ (w.heap.size + 1) 41 (LH.cells ⟨hdrOf ⟨height, miner, ticket, wins, power, parents, salt⟩, A2, c2⟩).toArray (0, 0) _ rfl (setRow_heap wr (w.heap.size + 1) _ _ _ _ HR.out.res) Tryz.underlying41 rfl hdr_size) rfl ?_
      refine ⟨⟨hdrOf ⟨height, miner, ticket, wins, power, parents, salt⟩, A2, c2⟩, rfl, rfl, ?_, below_setRow HR.out.below (Nat.le_succ _) _⟩
      have ho := HR.out.own
      have hpl : (parents.map idOf).length = parents.length := by simp
      have h1 : Sl idE (fun k => w.heap.size + 3 ≤ k) wr (.slice A2 parents.length c2) (parents.map idOf) := by
        have h2 : wr.ownsRow (w.heap.size + 3) 66 32 (.slice A2 parents.length c2) (parents.map idOf).length (idE.flat (parents.map idOf)) := by
          rw [hpl]
          have h3 : (parents.map idOf).take parents.length = parents.map idOf := by rw [← hpl]; exact List.take_length
          have h4 : wr.ownsRow (w.heap.size + 3) 66 32 (.slice A2 parents.length c2) parents.length (idE.flat ((parents.map idOf).take parents.length)) := ho
          rw [h3] at h4
          exact h4
        exact (Sl.of_own (E := idE) h2).mono fun k hk => (own_lt h2 k hk).1
      have h5 : Sl idE (fun k => w.heap.size ≤ k) (wr.setRow (w.heap.size + 1) (LH.cells ⟨hdrOf ⟨height, miner, ticket, wins, power, parents, salt⟩, A2, c2⟩).toArray) (.slice A2 parents.length c2) (parents.map idOf) :=
        (h1.fr (ok := fun k => w.heap.size + 3 ≤ k) ⟨by simp, fun k hk _ => heap_setRow_ne _ _ _ _ (by omega)⟩).mono fun k hk => by omega
      show Sl idE _ _ (.slice A2 (parents.map idOf).length c2) _
      rw [hpl]
      exact h5
end Go.Proofs.YtcohdfkdhdhegaaGreatDoor
namespace Go.Proofs.YtcohdfkdhdhegaaGreatDoor
open Go.RowKit

section
variable {ops : Array Oper} {rest : List Oper} {o : Oper} {a : Act} {Q : Exit → Act → World → Prop}
end
end Go.Proofs.YtcohdfkdhdhegaaGreatDoor
namespace Go.Proofs.YtcohdfkdhdhegaaGreatDoor
open Go.RowKit

theorem bl_cmp (a b : List UInt8) : Op.bytesLess a b = decide (Lib.compareBytes a b < 0) := by
  induction a generalizing b with
  | nil => cases b <;> simp [Op.bytesLess, Lib.compareBytes]
  | cons x a ih =>
    cases b with
    | nil => simp [Op.bytesLess, Lib.compareBytes]
    | cons y b =>
      simp only [Op.bytesLess, Lib.compareBytes, ih]
      by_cases h1 : x < y
      · simp [h1]
      · by_cases h2 : y < x
        · have hne : ¬ x = y := fun e => by subst e; exact h1 h2
          simp [h1, h2, hne]
        · have he : x = y := UInt8.le_antisymm (UInt8.not_lt.1 h2) (UInt8.not_lt.1 h1)
          subst he
          simp [h1]
def ltS (s t : ByteArray) : Bool := Op.bytesLess s.toList t.toList
def leS (s t : ByteArray) : Bool := Op.bytesLess s.toList t.toList || s.toList == t.toList
theorem ltS_irrefl (s : ByteArray) : ltS s s = false := by rw [ltS, bl_cmp, cb_self]; rfl
theorem ltS_le {s t : ByteArray} (h : leS s t = false) : ltS s t = false := by
  rw [leS, Bool.or_eq_false_iff] at h
  exact h.1
theorem ltS_total {s t : ByteArray} (h : leS s t = false) : ltS t s = true := by
  rw [leS, Bool.or_eq_false_iff, bl_cmp] at h
  rw [ltS, bl_cmp]
  obtain ⟨h1, h2⟩ := h
  have h3 := cb_swap s.toList t.toList
  have h4 : ¬ Lib.compareBytes s.toList t.toList < 0 := by simpa using h1
  have h5 : Lib.compareBytes s.toList t.toList ≠ 0 := fun e => by have := cb_zero _ _ e; simp [this] at h2
  simp only [decide_eq_true_eq]
  omega
theorem ltS_trans {s t u : ByteArray} (h : ltS s t = true) (h' : ltS t u = true) : ltS s u = true := by
  rw [ltS, bl_cmp, decide_eq_true_eq] at *
  have h1 := cb_trans _ _ _ (Int.le_of_lt h) (Int.le_of_lt h')
  rcases Int.lt_or_eq_of_le h1 with h2 | h2
  · exact h2
  · have h3 := cb_zero _ _ h2
    rw [h3] at h
    have := cb_swap t.toList u.toList
    omega

/-- A text is put in its place, if it isn't there. -/
def insT (s : ByteArray) : List ByteArray → List ByteArray
  | [] => [s]
  | t :: r => if leS s t then (if ltS s t then s :: t :: r else t :: r) else t :: insT s r
/-- One round of the inner loop. -/
def stepT (s : ByteArray) (x : Bool × List ByteArray) (t : ByteArray) : Bool × List ByteArray := (x.1 || leS s t, (if !x.1 && ltS s t then x.2 ++ [s] else x.2) ++ [t])
theorem fold_done (s : ByteArray) (l n : List ByteArray) : l.foldl (stepT s) (true, n) = (true, n ++ l) := by
  induction l generalizing n with
  | nil => simp
  | cons t l ih => rw [List.foldl_cons]; simp only [stepT, Bool.true_or, Bool.not_true, Bool.false_and, Bool.false_eq_true, if_false]; rw [ih]; simp
def lastT (s : ByteArray) (x : Bool × List ByteArray) : List ByteArray := if x.1 then x.2 else x.2 ++ [s]
theorem fold_ins (s : ByteArray) (l n : List ByteArray) : lastT s (l.foldl (stepT s) (false, n)) = n ++ insT s l := by
  induction l generalizing n with
  | nil => simp [lastT, insT]
  | cons t l ih =>
    rw [List.foldl_cons]
    rcases hle : leS s t with _ | _
    · have hlt := ltS_le hle
      simp only [stepT, hle, hlt, Bool.or_false, Bool.not_false, Bool.and_false, Bool.false_eq_true, if_false]
      rw [ih, insT, hle]
      simp
    · rcases hlt : ltS s t with _ | _
      · simp only [stepT, hle, hlt, Bool.or_true, Bool.not_false, Bool.and_false, Bool.false_eq_true, if_false]
        rw [fold_done, insT, hle, hlt]
        simp [lastT]
      · simp only [stepT, hle, hlt, Bool.or_true, Bool.not_false, Bool.and_true, if_true]
        rw [fold_done, insT, hle, hlt]
        simp [lastT]
def sortT (l : List ByteArray) : List ByteArray := l.foldl (fun o s => insT s o) []
theorem insT_mem (s : ByteArray) (l : List ByteArray) : ∀ x ∈ insT s l, x = s ∨ x ∈ l := by
  induction l with
  | nil => simp [insT]
  | cons t l ih =>
    intro x hx
    rw [insT] at hx
    split at hx
    · split at hx
      · simp only [List.mem_cons] at hx ⊢; exact hx
      · exact .inr hx
    · rcases List.mem_cons.1 hx with rfl | hx
      · exact .inr List.mem_cons_self
      · rcases ih x hx with h | h
        · exact .inl h
        · exact .inr (List.mem_cons_of_mem _ h)
theorem insT_length (s : ByteArray) (l : List ByteArray) : (insT s l).length ≤ l.length + 1 := by
  induction l with
  | nil => simp [insT]
  | cons t l ih =>
    rw [insT]
    split
    · split <;> simp
    · simp; omega
theorem insT_rises (s : ByteArray) (l : List ByteArray) (h : l.Pairwise fun a b => ltS a b = true) : (insT s l).Pairwise fun a b => ltS a b = true := by
  induction l with
  | nil => simp [insT]
  | cons t l ih =>
    have h1 := List.pairwise_cons.1 h
    rw [insT]
    split
    · split
      · rename_i hle hlt
        refine List.pairwise_cons.2 ⟨fun x hx => ?_, h⟩
        rcases List.mem_cons.1 hx with rfl | hx
        · exact hlt
        · exact ltS_trans hlt (h1.1 x hx)
      · exact h
    · rename_i hle
      have hle : leS s t = false := by simpa using hle
      refine List.pairwise_cons.2 ⟨fun x hx => ?_, ih h1.2⟩
      rcases insT_mem s l x hx with rfl | hx
      · exact ltS_total hle
      · exact h1.1 x hx
theorem sort_all (l : List ByteArray) : ∀ o : List ByteArray, (o.Pairwise fun a b => ltS a b = true) → ((l.foldl (fun o s => insT s o) o).Pairwise fun a b => ltS a b = true) ∧ (∀ x ∈ l.foldl (fun o s => insT s o) o, x ∈ o ∨ x ∈ l) ∧ (l.foldl (fun o s => insT s o) o).length ≤ o.length + l.length := by
  induction l with
  | nil => intro o h; exact ⟨h, fun x hx => .inl hx, by simp⟩
  | cons s l ih =>
    intro o h
    obtain ⟨h1, h2, h3⟩ := ih (insT s o) (insT_rises s o h)
    refine ⟨h1, fun x hx => ?_, ?_⟩
    · rcases h2 x hx with hx | hx
      · rcases insT_mem s o x hx with rfl | hx
        · exact .inr List.mem_cons_self
        · exact .inl hx
      · exact .inr (List.mem_cons_of_mem _ hx)
    · have := insT_length s o
      simp only [List.foldl_cons, List.length_cons]
      omega
theorem sortT_mem (l : List ByteArray) : ∀ x ∈ sortT l, x ∈ l := fun x hx => ((sort_all l [] List.Pairwise.nil).2.1 x hx).elim (fun h => by cases h) id
theorem sortT_length (l : List ByteArray) : (sortT l).length ≤ l.length := by have := (sort_all l [] List.Pairwise.nil).2.2; simpa [sortT] using this
theorem sortT_snoc (l : List ByteArray) (s : ByteArray) : sortT (l ++ [s]) = insT s (sortT l) := by simp [sortT]
end Go.Proofs.YtcohdfkdhdhegaaGreatDoor
