/- dag.Dag: Len, Has, Block; dag.copied. Regions that draw their order: two operations of which either may come first. No program in sight. coxswainlaw08.awake. The document's headers: how they lie; coxswainlaw05.IDOf, Name, coxswainlaw01.Cut. coxswainlaw05.Own. coxswainlaw08.Blocks. -/
import Derived.Test.YtpehmlfghddnaaaGreatDoorPuAJ
import Derived.Test.YtpehmlfghddnaaaGreatDoorPuAK
import Derived.Laws.CopyRow
import Derived.Lib.BufferWrite
namespace Go.Proofs.YtpehmlfghddnaaaGreatDoor
open Go.RowKit Go.Maps

section
variable {P : Program}
theorem exec_store_new {o : Oper} {a : Act} {W : World} (ty : TypeId) (x y : Operand) (ho : o.op = .store ty x y) (hx : a.eval x = .pointer (some ⟨W.heap.size, 0, none⟩)) (cs : List Value) (hy : a.eval y = .agg cs.toArray) (old : Array Value) (T : TypeId) (hl : cs.length = old.size) (h1 : ∀ u ∈ cs, u.oneCell' = true) (hi : (P.info? ty).map (·.size) = some cs.length) :
    (execOp a.eval o).run P (W.alloc (.cells old T)) = .ok .skip (W.alloc (.cells cs.toArray T)) :=
  (exec_store ty x y ho W.heap.size 0 hx _ hy (run_storeVar_block (W.alloc (.cells old T)) W.heap.size ty T cs old (heap_alloc_new W _) hl h1 hi)).trans (by rw [World.setRow_alloc_new])
end
/-- What the look for a name reads. -/
structure HasS (w W : World) (p b1 g : Nat) (D : List LB) (i : ID) : Prop where
  cell : W.cell? ⟨p, 0, none⟩ = some (.map (some b1))
  map : MapV Tryz.prog 50 W b1 D.length (blkF D)
  name : ∀ j u, (idc i)[j]? = some u → W.cell? ⟨g, 0 + j, none⟩ = some u
  below : Below w.heap.size w W
  lt : p < W.heap.size ∧ g < W.heap.size
theorem HasS.alloc {w W : World} {p b1 g : Nat} {D : List LB} {i : ID} (h : HasS w W p b1 g D i) (o : Obj) : HasS w (W.alloc o) p b1 g D i :=
  have hb : Below W.heap.size W (W.alloc o) := (Below.refl _ _).alloc (Nat.le_refl _) o
  ⟨(hb.cell (p := ⟨p, 0, none⟩) h.lt.1).trans h.cell, h.map.alloc o, fun j u hu => (hb.cell (p := ⟨g, 0 + j, none⟩) h.lt.2).trans (h.name j u hu), h.below.alloc h.below.size o, Nat.lt_of_lt_of_le h.lt.1 hb.size, Nat.lt_of_lt_of_le h.lt.2 hb.size⟩
theorem HasS.start {w : World} {p b1 b2 : Nat} {D : List LB} {ok : Nat → Prop} (h : DagAt ok w p b1 b2 D) (i : ID) : HasS w (w.alloc (.cells (idc i).toArray 50)) p b1 w.heap.size D i :=
  have hb : Below w.heap.size w (w.alloc (.cells (idc i).toArray 50)) := (Below.refl _ _).alloc (Nat.le_refl _) _
  ⟨(hb.cell (p := ⟨p, 0, none⟩) h.lt.1).trans h.c0, h.blocks.alloc _, fun j u hu => by rw [Nat.zero_add]; exact cell_block (heap_alloc_new w _) (by simpa using hu), hb, Nat.lt_of_lt_of_le h.lt.1 hb.size, by simp⟩

set_option maxRecDepth 100000 in
set_option maxHeartbeats 1000000 in
theorem dhas_any (w : World) (p b1 b2 : Nat) (D : List LB) (ok : Nat → Prop) (h : DagAt ok w p b1 b2 D) (i : ID) :
    Calls Tryz.prog 39 #[.pointer (some ⟨p, 0, none⟩), .agg (idc i).toArray] w fun e w' => e = .returned (.bool (hasB D i)) ∧ Below w.heap.size w w' := by
  have hS : HasS w (w.alloc (.cells (idc i).toArray 50)).drew p b1 w.heap.size D i := by
    have h1 := HasS.start h i
    exact ⟨h1.cell, h1.map, h1.name, h1.below.drew, h1.lt⟩
  have HS := Lib.hid hS
  obtain ⟨y, hy⟩ : ∃ y, getB D i = y := ⟨_, rfl⟩
  obtain ⟨hb, hhb⟩ : ∃ hb, hasB D i = hb := ⟨_, rfl⟩
  have HY := Lib.hid hy
  have HHB := Lib.hid hhb
  rw [hhb]
  clear h hS hy hhb
  go_enter Tryz.func39, Tryz.ntmps39
  go_wp2
  refine st_ (S := (fun W' => HasS w W' p b1 w.heap.size D i)) 12 #[false, false, false, false, false, false, false, false, false, false, false, false] (by kernel_rfl) rfl (by rfl) HS.out (fun hHeld => ?_)
  refine tk_ 0 (some 8) #[true, false, false, false, false, false, false, false, false, false, false, false] (v := ?_) (a' := ?_) rfl rfl (by kernel_rfl) (fun _ _ _ h => h) (yieldsIf_run rfl ?_) hHeld ?_ ?_
  rotate_left
  · intro w'
    go_simp
    with_reducible rfl
  rotate_left
  · simp only [Act.put, List.setIfInBounds_toArray, List.set_cons_zero, List.set_cons_succ]
    rfl
  refine tk_ 1 (some 9) #[true, true, false, false, false, false, false, false, false, false, false, false] (v := ?_) (a' := ?_) rfl rfl (by kernel_rfl) (fun _ _ _ h => h) (yieldsIf_run rfl ?_) hHeld ?_ ?_
  rotate_left
  · intro w'
    go_simp
    with_reducible rfl
  rotate_left
  · simp only [Act.put, List.setIfInBounds_toArray, List.set_cons_zero, List.set_cons_succ]
    rfl
  refine tk_ 2 (some 10) #[true, true, true, false, false, false, false, false, false, false, false, false] (v := ?_) (a' := ?_) rfl rfl (by kernel_rfl) (fun _ _ _ h => h) (yieldsIf_run rfl ?_) hHeld ?_ ?_
  rotate_left
  · intro w'
    go_simp
    with_reducible rfl
  rotate_left
  · simp only [Act.put, List.setIfInBounds_toArray, List.set_cons_zero, List.set_cons_succ]
    rfl
  refine tk_ 3 (some 11) #[true, true, true, true, false, false, false, false, false, false, false, false] rfl rfl (by kernel_rfl) (fun _ _ _ h => h) (yieldsIf_cell rfl 180 (.tmp 10) rfl ⟨p, 0, none⟩ rfl (.map (some b1)) _ (fun W' h => h.cell) Tryz.underlying180 rfl) hHeld (a' := ?_) ?_ ?_
  rotate_left
  · simp only [Act.put, List.setIfInBounds_toArray, List.set_cons_zero, List.set_cons_succ]
    rfl
  refine tk_ 4 (some 12) #[true, true, true, true, true, false, false, false, false, false, false, false] rfl rfl (by kernel_rfl) (fun _ _ _ h => h) (yieldsIf_load rfl 50 (.tmp 3) rfl w.heap.size 0 rfl (idc i) _ (fun W' h => h.name) Tryz.underlying50 rfl (by rw [idc_length]; exact id_size)) hHeld (a' := ?_) ?_ ?_
  rotate_left
  · simp only [Act.put, List.setIfInBounds_toArray, List.set_cons_zero, List.set_cons_succ]
    rfl
  refine tk_ 5 (some 13) #[true, true, true, true, true, true, false, false, false, false, false, false] rfl rfl (by kernel_rfl) (fun _ _ _ h => h) (yieldsIf_of (v := .tuple #[.agg y.cells.toArray, .bool hb]) rfl fun W' h => (exec_lookokV (key := .agg (idc i).toArray) h.map lawID Tryz.underlying180 (zeroBlk W') (.tmp 11) (.tmp 12) rfl rfl rfl (keyOf_id i)).trans (by rw [blkF_get, blkF_has, HY.out, HHB.out]; rfl)) hHeld (a' := ?_) ?_ ?_
  rotate_left
  · simp only [Act.put, List.setIfInBounds_toArray, List.set_cons_zero, List.set_cons_succ]
    rfl
  refine tk_ 6 (some 7) #[true, true, true, true, true, true, true, false, false, false, false, false] (v := ?_) (a' := ?_) rfl rfl (by kernel_rfl) (fun _ _ _ h => h) (yieldsIf_run rfl ?_) hHeld ?_ ?_
  rotate_left
  · intro w'
    go_simp
    with_reducible rfl
  rotate_left
  · simp only [Act.put, List.setIfInBounds_toArray, List.set_cons_zero, List.set_cons_succ]
    rfl
  refine tk_ 7 (some 14) #[true, true, true, true, true, true, true, true, false, false, false, false] (v := ?_) (a' := ?_) rfl rfl (by kernel_rfl) (fun _ _ _ h => h) (yieldsIf_run rfl ?_) hHeld ?_ ?_
  rotate_left
  · intro w'
    go_simp
    with_reducible rfl
  rotate_left
  · simp only [Act.put, List.setIfInBounds_toArray, List.set_cons_zero, List.set_cons_succ]
    rfl
  refine tk_ 8 (some 15) #[true, true, true, true, true, true, true, true, true, false, false, false] (v := ?_) (a' := ?_) rfl rfl (by kernel_rfl) (fun _ _ _ h => h) (yieldsIf_run rfl ?_) hHeld ?_ ?_
  rotate_left
  · intro w'
    go_simp
    with_reducible rfl
  rotate_left
  · simp only [Act.put, List.setIfInBounds_toArray, List.set_cons_zero, List.set_cons_succ]
    rfl
  have hHeld := HS.out.alloc (.cells lbZ.cells.toArray 53)
  refine val_ 9 (some 5) #[true, true, true, true, true, true, true, true, true, true, false, false] rfl rfl (by kernel_rfl) rfl ((.pointer (some ⟨(w.alloc (.cells (idc i).toArray 50)).heap.size, 0, none⟩))) (((w.alloc (.cells (idc i).toArray 50)).drew.alloc (.cells lbZ.cells.toArray 53))) (by kernel_rfl) hHeld (a' := ?_) ?_ ?_
  rotate_left
  · simp only [Act.put, List.setIfInBounds_toArray, List.set_cons_zero, List.set_cons_succ]
    rfl
  have hHeld := HS.out.alloc (.cells y.cells.toArray 53)
  refine sk_ 10 #[true, true, true, true, true, true, true, true, true, true, true, false] rfl rfl (by kernel_rfl) rfl (((w.alloc (.cells (idc i).toArray 50)).drew.alloc (.cells y.cells.toArray 53))) (exec_store_new 53 (.tmp 5) (.tmp 14) rfl rfl y.cells rfl lbZ.cells.toArray 53 (by rw [LB.cells_length]; rfl) y.cells_one (by rw [LB.cells_length]; exact block_size)) hHeld ?_
  refine tk_ 11 (some 6) #[true, true, true, true, true, true, true, true, true, true, true, true] (v := ?_) (a' := ?_) rfl rfl (by kernel_rfl) (fun _ _ _ h => h) (yieldsIf_run rfl ?_) hHeld ?_ ?_
  rotate_left
  · intro w'
    go_simp
    with_reducible rfl
  rotate_left
  · simp only [Act.put, List.setIfInBounds_toArray, List.set_cons_zero, List.set_cons_succ]
    rfl
  refine wpAnyH_done (by kernel_rfl) ?_ _
  change Exit.then _ _ _ _ _
  go_wp2
  go_ret
  exact ⟨rfl, hHeld.below⟩

end Go.Proofs.YtpehmlfghddnaaaGreatDoor
namespace Go.Proofs.YtpehmlfghddnaaaGreatDoor
open Go.RowKit

section
variable {P : Program} {ops : Array Oper} {Q : Exit → Act → World → Prop} {md : Region.Mode} {S : World → Prop} {ds : List Nat}
theorem forkD_ (i j : Nat) {fuel : Nat} {l : Array Bool} {a : Act} {w : World} (hc : decide (Region.ready md ops l = [i, j]) = true)
    (h1 : wpOp P ops Q i (fun a' w' => (i ∉ ds → S w') ∧ wpD P md ops Q S ds fuel (l.setIfInBounds i true) a' w') a w)
    (h2 : wpOp P ops Q j (fun a' w' => (j ∉ ds → S w') ∧ wpD P md ops Q S ds fuel (l.setIfInBounds j true) a' w') a w) : wpD P md ops Q S ds (fuel + 1) l a w := by
  have hc := of_decide_eq_true hc
  refine ⟨fun h0 => (by rw [hc] at h0; cases h0), fun k hk => ?_⟩
  rw [hc] at hk
  rcases List.mem_cons.1 hk with rfl | hk
  · exact h1
  · obtain rfl : k = j := by simpa using hk
    exact h2
theorem fcallD_ (i : Nat) (N : Option Tmp) (l' : Array Bool) {o : Oper} {fuel : Nat} {l : Array Bool} {a : Act} {w : World} (ho : ops[i]? = some o) (hN : o.dst = N) (hl : l.setIfInBounds i true = l') (hw : Region.wanted o (yielded ops a.tmps) = true)
    (f : FuncId) (args : Array Value) (h : (execOp a.eval o).run P w = .ok (.enter f args) w) {R : Ending → World → Prop} (hc : Calls P f args w R)
    (hK : ∀ e w', R e w' → ∃ v, e = .returned v ∧ (i ∉ ds → S w') ∧ ∃ a', a.put N v = a' ∧ wpD P md ops Q S ds fuel l' a' w') :
    wpOp P ops Q i (fun a' w' => (i ∉ ds → S w') ∧ wpD P md ops Q S ds fuel (l.setIfInBounds i true) a' w') a w := by
  subst hN
  subst hl
  refine wpOp_call ho hw f args h hc fun e w' hr => ?_
  obtain ⟨v, he, hs, a', ha, hk⟩ := hK e w' hr
  exact ⟨v, he, hs, ha ▸ hk⟩
theorem fvalD_ (i : Nat) (N : Option Tmp) (l' : Array Bool) {o : Oper} {fuel : Nat} {l : Array Bool} {a : Act} {w : World} (ho : ops[i]? = some o) (hN : o.dst = N) (hl : l.setIfInBounds i true = l') (hw : Region.wanted o (yielded ops a.tmps) = true)
    (v : Value) (w1 : World) (h : (execOp a.eval o).run P w = .ok (.value v) w1) (hS : i ∉ ds → S w1) {a' : Act} (ha : a.put N v = a') (hk : wpD P md ops Q S ds fuel l' a' w1) :
    wpOp P ops Q i (fun a' w' => (i ∉ ds → S w') ∧ wpD P md ops Q S ds fuel (l.setIfInBounds i true) a' w') a w := by
  subst hN
  subst hl
  subst ha
  exact wpOp_value ho hw v w1 h ⟨hS, hk⟩
end
end Go.Proofs.YtpehmlfghddnaaaGreatDoor
namespace Go.Proofs.YtpehmlfghddnaaaGreatDoor
open Go.RowKit

structure Aw (B : Nat) (w0 w' : World) (b1 b2 : Nat) (t : Value) (y : LH) : Prop where
  c1 : w'.cell? ⟨b1, 0, none⟩ = some t
  c2 : ∀ j u, (idc rootID)[j]? = some u → w'.cell? ⟨b2, 0 + j, none⟩ = some u
  tip : TipAt (fun k => B ≤ k) w' t [⟨rootID, y⟩]
  okay : Okay (fun k => B ≤ k) w' [⟨rootID, y⟩]
  below : Below B w0 w'
  l1 : b1 < w'.heap.size
  l2 : b2 < w'.heap.size
theorem Aw.under {B : Nat} {w0 w' w'' : World} {b1 b2 : Nat} {t : Value} {y : LH} (h : Aw B w0 w' b1 b2 t y) (hB : B ≤ w'.heap.size) (hb : Below w'.heap.size w' w'') : Aw B w0 w'' b1 b2 t y where
  c1 := (hb.cell (p := ⟨b1, 0, none⟩) h.l1).trans h.c1
  c2 := fun j u hu => (hb.cell (p := ⟨b2, 0 + j, none⟩) h.l2).trans (h.c2 j u hu)
  tip := h.tip.below hb
  okay := h.okay.below hb
  below := h.below.trans (hb.mono hB)
  l1 := Nat.lt_of_lt_of_le h.l1 hb.size
  l2 := Nat.lt_of_lt_of_le h.l2 hb.size
theorem keyB_one (i : ID) : keyB [i] = i.1 := by
  show (⟨((i.1.data.toList ++ []) : List UInt8).toArray⟩ : ByteArray) = i.1
  simp

end Go.Proofs.YtpehmlfghddnaaaGreatDoor
namespace Go.Proofs.YtpehmlfghddnaaaGreatDoor
open Go.RowKit

structure RH where
  height : Int
  miner : Int
  ticket : ByteArray
  wins : Int
  power : Int
  parents : List ByteArray
  salt : Int
structure LRH where
  h : RH
  A : Option Addr
  c : Nat
def strE : Enc ByteArray := { enc := fun s => [.string s], k := 1, hk := fun _ => rfl, one := fun _ u hu => by rw [List.mem_singleton] at hu; subst hu; rfl, k0 := by decide }
def LRH.v (x : LRH) : Value := .slice x.A x.h.parents.length x.c
def LRH.cells (x : LRH) : List Value := [.int .i64 x.h.height, .int .i64 x.h.miner, .string x.h.ticket, .int .i64 x.h.wins, .int .u64 x.h.power, x.v, .int .i64 x.h.salt]
def LRH.At (ok : Nat → Prop) (w : World) (x : LRH) : Prop := Sl strE ok w x.v x.h.parents
def lrhE : Enc LRH := { enc := LRH.cells, k := 7, hk := fun _ => rfl, one := fun x u hu => by simp only [LRH.cells, List.mem_cons, List.not_mem_nil, or_false] at hu; rcases hu with rfl | rfl | rfl | rfl | rfl | rfl | rfl <;> rfl, k0 := by decide }
theorem rh_size : (Tryz.prog.info? 34).map (·.size) = some 7 := by kernel_rfl
theorem strE_flat (l : List ByteArray) : strE.flat l = l.map Value.string := by
  induction l with
  | nil => rfl
  | cons s l ih => rw [Enc.flat, List.flatMap_cons, List.map_cons, ← ih]; rfl

/-- A name of a text: its first 32 bytes, filled up. -/
def idB (s : ByteArray) : List UInt8 := s.data.toList.take 32 ++ List.replicate (32 - (s.data.toList.take 32).length) 0
theorem idB_length (s : ByteArray) : (idB s).length = 32 := by simp [idB]; omega
def idOf (s : ByteArray) : ID := ⟨⟨(idB s).toArray⟩, by simp [ByteArray.size, idB_length]⟩
theorem idOf_self (s : ByteArray) (h : s.size = 32) : (idOf s).1 = s := by
  have hl : s.data.toList.length = 32 := by simpa using h
  have : idB s = s.data.toList := by
    unfold idB
    rw [List.take_of_length_le (by omega), hl]
    simp
  show (⟨(idB s).toArray⟩ : ByteArray) = s
  rw [this]

theorem run_copy_id (w : World) (dT sT ty elem : TypeId) (g : Nat) (s : ByteArray) (t : TypeId) {P : Program}
    (hu : P.underlying dT = some (.slice elem)) (hs : (P.info? elem).map (·.size) = some 1) (hg : w.heap[g]? = some (.cells (idc default).toArray t (0, 0))) :
    (Builtin.copy_ #[dT, sT] ty #[.slice (some ⟨g, 0, none⟩) 32 32, .string s]).run P w = .ok (goInt (min s.size 32)) (w.setRow g (idc (idOf s)).toArray) := by
  have hst := run_storeCells_at P g 0 t (bytesC (s.extract 0 (min s.size 32))) 0 _ w hg (by rw [bytesC_length, List.size_toArray, idc_length]; simp [ByteArray.size_extract]; omega) (bytesC_one _)
  have hrow : ((idc default).toArray.toList.take (0 + 0) ++ bytesC (s.extract 0 (min s.size 32)) ++ (idc default).toArray.toList.drop (0 + 0 + (bytesC (s.extract 0 (min s.size 32))).length)).toArray = (idc (idOf s)).toArray := by
    have hz : (idc default : List Value) = List.replicate 32 (.int .u8 0) := by rfl
    have he : bytesC (s.extract 0 (min s.size 32)) = (s.data.toList.take 32).map fun b => Value.int .u8 (b.toNat : Int) := by
      unfold bytesC
      congr 1
      rw [ByteArray.data_extract, Array.toList_extract, List.extract_eq_take_drop, List.drop_zero, Nat.sub_zero]
      rcases Nat.le_total s.size 32 with h | h
      · rw [Nat.min_eq_left h, List.take_of_length_le (by simp), List.take_of_length_le (by simpa using h)]
      · rw [Nat.min_eq_right h]
    rw [he, hz]
    simp only [Nat.zero_add, List.take_zero, List.nil_append, List.drop_replicate, List.length_map]
    rw [idc, bytesC]
    show _ = (List.map _ (idB s)).toArray
    rw [idB, List.map_append, List.map_replicate]
    rfl
  rw [hrow] at hst
  have htk : List.take (min s.size 32) (List.map (fun b : UInt8 => Value.int .u8 (b.toNat : Int)) s.data.toList) = bytesC (s.extract 0 (min s.size 32)) := by
    unfold bytesC
    rw [ByteArray.data_extract, Array.toList_extract, List.extract_eq_take_drop, List.drop_zero, Nat.sub_zero, List.map_take]
  cases hq : P.info? elem with
  | none => simp [hq] at hs
  | some i =>
    have hmin : Nat.min s.size 32 = min s.size 32 := rfl
    simp [Builtin.copy_, run_underlying hu, Builtin.lenOf, Builtin.firstCells, sizeOf, typeInfo, hq, hmin]
    rw [htk, hst]
    have : ((min s.size 32 : Nat) : Int) = min (s.size : Int) 32 := by omega
    simp [Result.andThen, this]
section
variable {ops : Array Oper} {rest : List Oper} {o : Oper} {a : Act} {w : World} {Q : Exit → Act → World → Prop}
theorem byte_size1 : (Tryz.prog.info? 5).map (·.size) = some 1 := by kernel_rfl
theorem wpl_copy_id (hgd : o.guard = none) (x y : Operand) (ho : o.op = .call { callee := .builtin .copy, args := #[x, y], argTypes := #[168, 9] }) (g : Nat) (hx : a.eval x = .slice (some ⟨g, 0, none⟩) 32 32) (s : ByteArray) (hy : a.eval y = .string s) (t : TypeId) (hg : w.heap[g]? = some (.cells (idc default).toArray t (0, 0)))
    (h : ∀ W2, W2 = w.setRow g (idc (idOf s)).toArray → wpList Tryz.prog ops Q rest (a.put o.dst (goInt (min s.size 32))) W2) : wpList Tryz.prog ops Q (o :: rest) a w :=
  wpList_plain hgd fun K hK => by
    have hrun := run_copy_id (P := Tryz.prog) w 168 9 o.type 5 g s t Tryz.underlying168 byte_size1 hg
    unfold Oper.wp
    simp [execOp, ho, resolve, invoke, builtin, hx, hy, hrun, Result.andThen]
    exact hK _ _ (by simpa using h _ rfl)
end
set_option maxRecDepth 100000 in
set_option maxHeartbeats 1000000 in
theorem idOf_any (w : World) (s : ByteArray) : Calls Tryz.prog 135 #[.string s] w fun e w' => e = .returned (.agg (idc (idOf s)).toArray) ∧ Below w.heap.size w w' := by
  have hB0 : Below w.heap.size w ((w.alloc (.cells (idc default).toArray 50)).alloc (.cells (idc default).toArray 50)) := ((Below.refl _ w).alloc (Nat.le_refl _) _).alloc (by simp) _
  have hg0 : ((w.alloc (.cells (idc default).toArray 50)).alloc (.cells (idc default).toArray 50)).heap[w.heap.size]? = some (.cells (idc default).toArray 50 (0, 0)) := by rw [heap_alloc_if, if_neg (by simp), heap_alloc_if, if_pos rfl]
  have hg1 : ((w.alloc (.cells (idc default).toArray 50)).alloc (.cells (idc default).toArray 50)).heap[w.heap.size + 1]? = some (.cells (idc default).toArray 50 (0, 0)) := by rw [heap_alloc_if, if_pos (by simp)]
  have HB0 := Lib.hid hB0
  have HG0 := Lib.hid hg0
  have HG1 := Lib.hid hg1
  clear hB0 hg0 hg1
  go_enter Tryz.func135, Tryz.ntmps135
  go_wp2_with (first
    | (refine wpl_copy_id rfl (.tmp 4) (.tmp 5) rfl (w.heap.size + 1) rfl s rfl _ HG1.out ?_; intro W2 hW2; have HB2 : Hid (Below w.heap.size w W2) := Lib.hid (by subst hW2; exact below_setRow HB0.out (Nat.le_succ w.heap.size) _); have HK2 : Hid (W2.heap[w.heap.size + 1]? = some (.cells (idc (idOf s)).toArray 50 (0, 0))) := Lib.hid (by subst hW2; exact setRow_heap _ _ _ _ _ _ HG1.out); have HK0 : Hid (W2.heap[w.heap.size]? = some (.cells (idc default).toArray 50 (0, 0))) := Lib.hid (by subst hW2; exact (heap_setRow_ne _ _ _ _ (by omega)).trans HG0.out); clear hW2)
    | (refine wpl_load rfl 50 (.tmp 3) rfl (w.heap.size + 1) 0 rfl (idc (idOf s)) _ (fun j u hu => by rw [Nat.zero_add]; exact cell_block HK2.out (by simpa using hu)) Tryz.underlying50 rfl (by rw [idc_length]; exact id_size) ?_)
    | (refine wpl_store_row rfl 50 (.tmp 2) (.tmp 7) rfl w.heap.size rfl (idc (idOf s)) rfl _ 50 HK0.out (by rw [List.size_toArray, idc_length, idc_length]) (idE.one (idOf s)) (by rw [idc_length]; exact id_size) ?_))
  (try simp only [Exit.inBlock, Exit.then])
  refine bodyPost_ret (results_cell_row rfl _ _ w.heap.size 50 (idc (idOf s)).toArray (0, 0) _ rfl (setRow_heap W2 w.heap.size _ _ _ _ HK0.out) Tryz.underlying50 rfl (by rw [List.size_toArray, idc_length]; exact id_size)) rfl ?_
  exact ⟨rfl, below_setRow HB2.out (Nat.le_refl _) _⟩

/-- At most n bytes. -/
def cutS (s : ByteArray) (n : Nat) : ByteArray := if n < s.size then s.extract 0 n else s
theorem cutS_size (s : ByteArray) (n : Nat) : (cutS s n).size ≤ n ∨ (cutS s n).size ≤ s.size ∧ s.size ≤ n := by
  unfold cutS
  split
  · exact .inl (by rw [ByteArray.size_extract]; omega)
  · exact .inr ⟨Nat.le_refl _, by omega⟩
set_option maxRecDepth 100000 in
set_option maxHeartbeats 1000000 in
theorem cut_any (w : World) (s : ByteArray) (n : Nat) (hn : n ≤ 1000) (_hs : s.size ≤ 140737488351232) : Calls Tryz.prog 56 #[.string s, .int .i64 n] w fun e w' => e = .returned (.string (cutS s n)) ∧ w = w' := by
  by_cases hlt : n < s.size
  · have he : cutS s n = s.extract 0 n := by rw [cutS, if_pos hlt]
    have HE := Lib.hid he
    clear he
    go_enter Tryz.func56, Tryz.ntmps56
    go_wp2
    go_ret
    exact ⟨by rw [HE.out]; rfl, rfl⟩
  · have he : cutS s n = s := by rw [cutS, if_neg hlt]
    have HE := Lib.hid he
    clear he
    go_enter Tryz.func56, Tryz.ntmps56
    go_wp2
    go_ret
    exact ⟨by rw [HE.out]; rfl, rfl⟩
end Go.Proofs.YtpehmlfghddnaaaGreatDoor
namespace Go.Proofs.YtpehmlfghddnaaaGreatDoor
open Go.RowKit

/-- The program's header of the document's. -/
def hdrOf (h : RH) : Hdr := ⟨h.height, h.miner, h.ticket, h.wins, h.power, h.parents.map idOf, h.salt⟩
theorem ids_size : (Tryz.prog.info? 43).map (·.size) = some 1 := by kernel_rfl
def zHdr : Array Value := #[.int .i64 0, .int .i64 0, .string ⟨#[]⟩, .int .i64 0, .int .u64 0, .slice none 0 0, .int .i64 0]
def oHdr (h : RH) (v : Value) : Array Value := #[.int .i64 h.height, .int .i64 h.miner, .string h.ticket, .int .i64 h.wins, .int .u64 h.power, v, .int .i64 h.salt]
/-- What holds at the loop's head. -/
structure OwnR (w wr : World) (x : LRH) (i : Nat) (A : Option Addr) (c : Nat) : Prop where
  own : wr.ownsRow (w.heap.size + 3) 50 32 (.slice A i c) i (idE.flat ((x.h.parents.map idOf).take i))
  cell : wr.heap[w.heap.size + 2]? = some (.cells (oHdr x.h (.slice A i c)) 46 (0, 0))
  res : wr.heap[w.heap.size + 1]? = some (.cells zHdr 46 (0, 0))
  below : Below w.heap.size w wr
theorem OwnR.size {w wr : World} {x : LRH} {i : Nat} {A : Option Addr} {c : Nat} (h : OwnR w wr x i A c) : w.heap.size + 2 < wr.heap.size := (Array.getElem?_eq_some_iff.1 h.cell).1
theorem OwnR.under {w wr w' : World} {x : LRH} {i : Nat} {A : Option Addr} {c : Nat} (h : OwnR w wr x i A c) (hb : Below wr.heap.size wr w') : OwnR w w' x i A c :=
  ⟨own_below h.own hb, (hb.block _ h.size).trans h.cell, (hb.block _ (Nat.lt_of_succ_lt h.size)).trans h.res, h.below.trans (hb.mono h.below.size)⟩
theorem OwnR.next {w wr W w6 : World} {x : LRH} {i : Nat} {A A6 : Option Addr} {c c6 : Nat} (h : OwnR w wr x i A c) (hb : Below wr.heap.size wr W) (s : ByteArray) (hs : x.h.parents[i]? = some s)
    (ho : w6.ownsRow (w.heap.size + 3) 50 32 (.slice A6 (i + 1) c6) (i + 1) (idE.flat ((x.h.parents.map idOf).take i) ++ (idc (idOf s)).toArray.toList)) (hg : W.grownBy w6 (Value.slice A i c).ownBlock) : OwnR w (w6.setCell ⟨w.heap.size + 2, 5, none⟩ (.slice A6 (i + 1) c6)) x (i + 1) A6 c6 := by
  have h1 := h.under hb
  have hne : ∀ k, k < w.heap.size + 3 → some k ≠ (Value.slice A i c).ownBlock := fun k hk e => by have := (own_lt h1.own k e.symm).1; omega
  have hc6 : w6.heap[w.heap.size + 2]? = some (.cells (oHdr x.h (.slice A i c)) 46 (0, 0)) := (hg.block _ h1.size (hne _ (by omega))).trans h1.cell
  refine ⟨?_, heap_setCell_at w6 _ 5 _ _ _ _ hc6, (Below.heap_setCell _ _ _ _ (by simp)).trans ((hg.block _ (Nat.lt_of_succ_lt h1.size) (hne _ (by omega))).trans h1.res), ?_⟩
  · have ho' : w6.ownsRow (w.heap.size + 3) 50 32 (.slice A6 (i + 1) c6) (i + 1) (idE.flat ((x.h.parents.map idOf).take (i + 1))) := by
      rw [List.take_add_one, List.getElem?_map, hs, idE.flat_append]
      simp only [Option.map_some, Option.toList_some, idE.flat_one]
      exact ho
    refine ho'.kept (Lib.grownBy_setCell w6 (w.heap.size + 2) 5 _) ?_
    rcases hb : (Value.slice A6 (i + 1) c6).ownBlock with _ | k
    · exact .inl rfl
    · exact .inr fun e => by injection e with e; have := (own_lt ho k hb).1; omega
  · exact (h1.below.grown hg h1.below.size fun k hk => by have := (own_lt h1.own k hk).1; omega).setCell (p := ⟨w.heap.size + 2, 5, none⟩) (Nat.le_add_right _ 2) _

set_option maxRecDepth 100000 in
set_option maxHeartbeats 4000000 in
theorem own_any (w : World) (x : LRH) (ok : Nat → Prop) (hx : x.At ok w) (hlen : x.h.parents.length ≤ 1000) :
    Calls Tryz.prog 35 #[.agg x.cells.toArray] w fun e w' => ∃ y : LH, y.h = hdrOf x.h ∧ e = .returned (.agg y.cells.toArray) ∧ y.At (fun k => w.heap.size ≤ k) w' ∧ Below w.heap.size w w' := by
  obtain ⟨⟨height, miner, ticket, wins, power, parents, salt⟩, A, c⟩ := x
  have hlen' : parents.length ≤ 1000 := hlen
  have HX : Hid (Sl strE ok w (.slice A parents.length c) parents) := Lib.hid hx
  obtain ⟨-, hc, hm⟩ := HX.out.len
  obtain ⟨X, hX⟩ : ∃ X : LRH, X = ⟨⟨height, miner, ticket, wins, power, parents, salt⟩, A, c⟩ := ⟨_, rfl⟩
  have HDX := Lib.hid hX
  clear hx hlen
  change Calls _ _ #[.agg #[.int .i64 height, .int .i64 miner, .string ticket, .int .i64 wins, .int .u64 power, .slice A parents.length c, .int .i64 salt]] w _
  go_enter Tryz.func35, Tryz.ntmps35
  go_wp2
  have hR0 : OwnR w (((w.alloc (.cells #[.int .i64 height, .int .i64 miner, .string ticket, .int .i64 wins, .int .u64 power, .slice A parents.length c, .int .i64 salt] 34)).alloc (.cells zHdr 46)).alloc (.cells #[.int .i64 height, .int .i64 miner, .string ticket, .int .i64 wins, .int .u64 power, .slice none 0 0, .int .i64 salt] 46)) ⟨⟨height, miner, ticket, wins, power, parents, salt⟩, A, c⟩ 0 none 0 :=
    ⟨World.ownsRow_nil _ _ _ _, by rw [heap_alloc_if, if_pos (by simp)]; rfl, by rw [heap_alloc_if, if_neg (by simp), heap_alloc_if, if_pos (by simp)], (((Below.refl _ w).alloc (Nat.le_refl _) _).alloc (by simp) _).alloc (by simp only [World.size_alloc]; omega) _⟩
  have HR0 := Lib.hid hR0
  clear hR0
  go_loopw [22] (fun ci wr => ∃ (i : Nat) (A2 : Option Addr) (c2 : Nat), i ≤ parents.length ∧ ci = .int .i64 i ∧ OwnR w wr ⟨⟨height, miner, ticket, wins, power, parents, salt⟩, A, c⟩ i A2 c2) (fun ci _ => parents.length - (intOf ci).toNat)
  case atStart => exact ⟨0, none, 0, Nat.zero_le _, rfl, HR0.out⟩
  case round =>
    obtain ⟨i, A2, c2, hi, rfl, hR⟩ := hrel
    have HR := Lib.hid hR
    clear hR
    by_cases hlt : i < parents.length
    · obtain ⟨s, hs⟩ : ∃ s, parents[i]? = some s := ⟨_, List.getElem?_eq_getElem hlt⟩
      obtain ⟨b, off, rfl, hbl, -, hcx⟩ := (HX.out.below HR.out.below).at_ i s hs
      have hcs : wr.cell? ⟨b, off + i, none⟩ = some (.string s) := by have := hcx 0 _ rfl; simpa [strE] using this
      have HS := Lib.hid hs
      clear hcx hs
      go_wp2
      have hB0 : Below wr.heap.size wr wr.drew := (Below.refl _ wr).drew
      have hS0 : wr.drew.cell? ⟨w.heap.size + 2, 5, none⟩ = some (.slice A2 i c2) := cell_block HR.out.cell rfl
      refine stD_ (S := (fun w' => w'.cell? ⟨w.heap.size + 2, 5, none⟩ = some (.slice A2 i c2))) [7] 8 #[false, false, false, false, false, false, false, false] (by kernel_rfl) rfl (by rfl) hS0 (fun hHeld => ?_)
      refine tkD_ 0 (some 26) #[true, false, false, false, false, false, false, false] (v := ?_) (a' := ?_) rfl rfl (by kernel_rfl) (fun _ _ _ h => h) (yieldsIf_run rfl ?_) hHeld ?_ ?_
      rotate_left
      · intro w'
        go_simp
        with_reducible rfl
      rotate_left
      · simp only [Act.put, List.setIfInBounds_toArray, List.set_cons_zero, List.set_cons_succ]
        rfl
      refine tkD_ 1 (some 27) #[true, true, false, false, false, false, false, false] rfl rfl (by kernel_rfl) (fun _ _ _ h => h) (yieldsIf_cell rfl 43 (.tmp 26) rfl ⟨w.heap.size + 2, 5, none⟩ rfl (.slice A2 i c2) _ (fun w' h => h) Tryz.underlying43 rfl) hHeld (a' := ?_) ?_ ?_
      rotate_left
      · simp only [Act.put, List.setIfInBounds_toArray, List.set_cons_zero, List.set_cons_succ]
        rfl
      refine tkD_ 2 (some 28) #[true, true, true, false, false, false, false, false] (v := ?_) (a' := ?_) rfl rfl (by kernel_rfl) (fun _ _ _ h => h) (yieldsIf_run rfl ?_) hHeld ?_ ?_
      rotate_left
      · intro w'
        go_simp
        with_reducible rfl
      rotate_left
      · simp only [Act.put, List.setIfInBounds_toArray, List.set_cons_zero, List.set_cons_succ]
        rfl
      refine callD_ 3 (some 29) #[true, true, true, true, false, false, false, false] rfl rfl (by kernel_rfl) rfl 135 _ (by kernel_rfl) (idOf_any _ s) ?_
      rintro e w4 ⟨rfl, hb4⟩
      have HB4 : Hid (Below wr.heap.size wr w4) := Lib.hid (hB0.trans hb4)
      refine ⟨_, rfl, (cell_block (HR.out.under HB4.out).cell rfl), fun hHeld => ⟨?_, ?_, ?_⟩⟩
      rotate_left
      · simp only [Act.put, List.setIfInBounds_toArray, List.set_cons_zero, List.set_cons_succ]
        rfl
      have hHeld : (w4.alloc (.cells (idc (idOf s)).toArray 50)).cell? ⟨w.heap.size + 2, 5, none⟩ = some (.slice A2 i c2) := cell_block ((heap_alloc_old w4 _ (HR.out.under HB4.out).size).trans (HR.out.under HB4.out).cell) rfl
      refine valD_ 4 (some 30) #[true, true, true, true, true, false, false, false] rfl rfl (by kernel_rfl) rfl (.slice (some ⟨w4.heap.size, 0, none⟩) 1 1) (w4.alloc (.cells (idc (idOf s)).toArray 50)) (exec_slice1 43 50 (.tmp 29) rfl (idc (idOf s)).toArray rfl _ 32 32 Tryz.underlying43 id_info idZ_cells (by rw [List.size_toArray, idc_length]) (by decide) (by decide)) (fun _ => hHeld) (a' := ?_) ?_ ?_
      rotate_left
      · simp only [Act.put, List.setIfInBounds_toArray, List.set_cons_zero, List.set_cons_succ]
        rfl
      refine stepD_ 5 (some 31) #[true, true, true, true, true, true, false, false] rfl rfl (by kernel_rfl) rfl (exec_app1 (idc (idOf s)).toArray (w.heap.size + 3) (.tmp 27) (.tmp 30) 43 50 _ 32 32 rfl Tryz.underlying43 id_info idZ_cells (by decide) (by decide) (.slice A2 i c2) i _ rfl rfl (by rw [List.size_toArray, idc_length]) (fun u hu => idE.one (idOf s) u hu) (HR.out.under HB4.out).own (by have := HR.out.size; have := HB4.out.size; omega) (by omega)) ?_
      rintro v6 w6 ⟨ho6, hg6, -⟩
      obtain ⟨A6, c6, rfl, -⟩ := own_slice ho6
      have HR7 := Lib.hid (HR.out.next HB4.out s HS.out ho6 hg6)
      have hne6 : ∀ k, k < wr.heap.size → k < w.heap.size + 3 → some k ≠ (Value.slice A2 i c2).ownBlock := fun k _ hk e => by have := (own_lt HR.out.own k e.symm).1; omega
      have hc6 : w6.heap[w.heap.size + 2]? = some (.cells (oHdr ⟨height, miner, ticket, wins, power, parents, salt⟩ (.slice A2 i c2)) 46 (0, 0)) := (hg6.block _ (HR.out.under HB4.out).size (hne6 _ HR.out.size (by omega))).trans (HR.out.under HB4.out).cell
      have hHeld : w6.cell? ⟨w.heap.size + 2, 5, none⟩ = some (.slice A2 i c2) := cell_block hc6 rfl
      refine ⟨(fun _ => hHeld), ?_, ?_, ?_⟩
      rotate_left
      · simp only [Act.put, List.setIfInBounds_toArray, List.set_cons_zero, List.set_cons_succ]
        rfl
      refine tkD_ 6 (some 32) #[true, true, true, true, true, true, true, false] (v := ?_) (a' := ?_) rfl rfl (by kernel_rfl) (fun _ _ _ h => h) (yieldsIf_run rfl ?_) hHeld ?_ ?_
      rotate_left
      · intro w'
        go_simp
        with_reducible rfl
      rotate_left
      · simp only [Act.put, List.setIfInBounds_toArray, List.set_cons_zero, List.set_cons_succ]
        rfl
      refine skD_ 7 #[true, true, true, true, true, true, true, true] rfl rfl (by kernel_rfl) rfl (w6.setCell ⟨w.heap.size + 2, 5, none⟩ (.slice A6 (i + 1) c6)) (exec_store 43 (.tmp 32) (.tmp 31) rfl (w.heap.size + 2) 5 rfl _ rfl (run_storeVar_cell w6 43 (w.heap.size + 2) 5 _ _ rfl ids_size (cell_block hc6 rfl) (Lib.frozen_of_heap hc6 5))) (fun h => absurd (by decide) h) ?_
      refine doneD_ (by kernel_rfl) ?_ _
      change Exit.inBlock _ _ _ _ _
      generalize w6.setCell ⟨w.heap.size + 2, 5, none⟩ (.slice A6 (i + 1) c6) = w7 at HR7 ⊢
      go_wp2
      go_roundw
      case rel => exact ⟨i + 1, A6, c6, by omega, by go_num, HR7.out⟩
      case measure => simp [intOf]; omega
    · have hin : i = parents.length := by omega
      subst hin
      have HKC : Hid (∀ j u, (LH.cells ⟨hdrOf ⟨height, miner, ticket, wins, power, parents, salt⟩, A2, c2⟩)[j]? = some u → wr.cell? ⟨w.heap.size + 2, 0 + j, none⟩ = some u) := Lib.hid fun j u hu => by
        rw [Nat.zero_add]
        refine cell_block HR.out.cell ?_
        have he : (LH.cells ⟨hdrOf ⟨height, miner, ticket, wins, power, parents, salt⟩, A2, c2⟩).toArray = oHdr ⟨height, miner, ticket, wins, power, parents, salt⟩ (.slice A2 parents.length c2) := by
          simp [LH.cells, LH.v, hdrOf, oHdr]
        rw [← he]
        simpa using hu
      go_wp2_with (first
        | (refine wpl_load rfl 46 (.tmp 3) rfl (w.heap.size + 2) 0 rfl (LH.cells ⟨hdrOf ⟨height, miner, ticket, wins, power, parents, salt⟩, A2, c2⟩) _ HKC.out Tryz.underlying46 rfl hdr_size ?_)
        | (refine wpl_store_row rfl 46 (.tmp 2) (.tmp 34) rfl (w.heap.size + 1) rfl (LH.cells ⟨hdrOf ⟨height, miner, ticket, wins, power, parents, salt⟩, A2, c2⟩) rfl _ 46 HR.out.res rfl (LH.cells_one _) hdr_size ?_))
      (try simp only [Exit.inBlock, Exit.then])
      refine bodyPost_ret (results_cell_row rfl _ _ (w.heap.size + 1) 46 (LH.cells ⟨hdrOf ⟨height, miner, ticket, wins, power, parents, salt⟩, A2, c2⟩).toArray (0, 0) _ rfl (setRow_heap wr (w.heap.size + 1) _ _ _ _ HR.out.res) Tryz.underlying46 rfl hdr_size) rfl ?_
      refine ⟨⟨hdrOf ⟨height, miner, ticket, wins, power, parents, salt⟩, A2, c2⟩, rfl, rfl, ?_, below_setRow HR.out.below (Nat.le_succ _) _⟩
      have ho := HR.out.own
      have hpl : (parents.map idOf).length = parents.length := by simp
      have h1 : Sl idE (fun k => w.heap.size + 3 ≤ k) wr (.slice A2 parents.length c2) (parents.map idOf) := by
        have h2 : wr.ownsRow (w.heap.size + 3) 50 32 (.slice A2 parents.length c2) (parents.map idOf).length (idE.flat (parents.map idOf)) := by
          rw [hpl]
          have h3 : (parents.map idOf).take parents.length = parents.map idOf := by rw [← hpl]; exact List.take_length
          have h4 : wr.ownsRow (w.heap.size + 3) 50 32 (.slice A2 parents.length c2) parents.length (idE.flat ((parents.map idOf).take parents.length)) := ho
          rw [h3] at h4
          exact h4
        exact (Sl.of_own (E := idE) h2).mono fun k hk => (own_lt h2 k hk).1
      have h5 : Sl idE (fun k => w.heap.size ≤ k) (wr.setRow (w.heap.size + 1) (LH.cells ⟨hdrOf ⟨height, miner, ticket, wins, power, parents, salt⟩, A2, c2⟩).toArray) (.slice A2 parents.length c2) (parents.map idOf) :=
        (h1.fr (ok := fun k => w.heap.size + 3 ≤ k) ⟨by simp, fun k hk _ => heap_setRow_ne _ _ _ _ (by omega)⟩).mono fun k hk => by omega
      show Sl idE _ _ (.slice A2 (parents.map idOf).length c2) _
      rw [hpl]
      exact h5
end Go.Proofs.YtpehmlfghddnaaaGreatDoor
namespace Go.Proofs.YtpehmlfghddnaaaGreatDoor
open Go.RowKit

section
variable {ops : Array Oper} {rest : List Oper} {o : Oper} {a : Act} {Q : Exit → Act → World → Prop}
end
end Go.Proofs.YtpehmlfghddnaaaGreatDoor
