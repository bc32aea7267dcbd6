/- The document's headers: how they lie; coxswainlaw05.IDOf, Name, coxswainlaw01.Cut. -/
import Derived.Test.YthpcedficlhanaaGreatDoorAwakeE
import Derived.Laws.CopyRow
namespace Go.Proofs.YthpcedficlhanaaGreatDoor
open Go.RowKit

structure RH where
  height : Int
  miner : Int
  ticket : ByteArray
  wins : Int
  power : Int
  parents : List ByteArray
  salt : Int
structure LRH where
  h : RH
  A : Option Addr
  c : Nat
def strE : Enc ByteArray := { enc := fun s => [.string s], k := 1, hk := fun _ => rfl, one := fun _ u hu => by rw [List.mem_singleton] at hu; subst hu; rfl, k0 := by decide }
def LRH.v (x : LRH) : Value := .slice x.A x.h.parents.length x.c
def LRH.cells (x : LRH) : List Value := [.int .i64 x.h.height, .int .i64 x.h.miner, .string x.h.ticket, .int .i64 x.h.wins, .int .u64 x.h.power, x.v, .int .i64 x.h.salt]
def LRH.At (ok : Nat → Prop) (w : World) (x : LRH) : Prop := Sl strE ok w x.v x.h.parents
def lrhE : Enc LRH := { enc := LRH.cells, k := 7, hk := fun _ => rfl, one := fun x u hu => by simp only [LRH.cells, List.mem_cons, List.not_mem_nil, or_false] at hu; rcases hu with rfl | rfl | rfl | rfl | rfl | rfl | rfl <;> rfl, k0 := by decide }
theorem rh_size : (Tryz.prog.info? 53).map (·.size) = some 7 := by kernel_rfl
theorem strE_flat (l : List ByteArray) : strE.flat l = l.map Value.string := by
  induction l with
  | nil => rfl
  | cons s l ih => rw [Enc.flat, List.flatMap_cons, List.map_cons, ← ih]; rfl

/-- A name of a text: its first 32 bytes, filled up. -/
def idB (s : ByteArray) : List UInt8 := s.data.toList.take 32 ++ List.replicate (32 - (s.data.toList.take 32).length) 0
theorem idB_length (s : ByteArray) : (idB s).length = 32 := by simp [idB]; omega
def idOf (s : ByteArray) : ID := ⟨⟨(idB s).toArray⟩, by simp [ByteArray.size, idB_length]⟩
theorem idOf_self (s : ByteArray) (h : s.size = 32) : (idOf s).1 = s := by
  have hl : s.data.toList.length = 32 := by simpa using h
  have : idB s = s.data.toList := by
    unfold idB
    rw [List.take_of_length_le (by omega), hl]
    simp
  show (⟨(idB s).toArray⟩ : ByteArray) = s
  rw [this]

theorem run_copy_id (w : World) (dT sT ty elem : TypeId) (g : Nat) (s : ByteArray) (t : TypeId) {P : Program}
    (hu : P.underlying dT = some (.slice elem)) (hs : (P.info? elem).map (·.size) = some 1) (hg : w.heap[g]? = some (.cells (idc default).toArray t (0, 0))) :
    (Builtin.copy_ #[dT, sT] ty #[.slice (some ⟨g, 0, none⟩) 32 32, .string s]).run P w = .ok (goInt (min s.size 32)) (w.setRow g (idc (idOf s)).toArray) := by
  have hst := run_storeCells_at P g 0 t (bytesC (s.extract 0 (min s.size 32))) 0 _ w hg (by rw [bytesC_length, List.size_toArray, idc_length]; simp [ByteArray.size_extract]; omega) (bytesC_one _)
  have hrow : ((idc default).toArray.toList.take (0 + 0) ++ bytesC (s.extract 0 (min s.size 32)) ++ (idc default).toArray.toList.drop (0 + 0 + (bytesC (s.extract 0 (min s.size 32))).length)).toArray = (idc (idOf s)).toArray := by
    have hz : (idc default : List Value) = List.replicate 32 (.int .u8 0) := by rfl
    have he : bytesC (s.extract 0 (min s.size 32)) = (s.data.toList.take 32).map fun b => Value.int .u8 (b.toNat : Int) := by
      unfold bytesC
      congr 1
      rw [ByteArray.data_extract, Array.toList_extract, List.extract_eq_take_drop, List.drop_zero, Nat.sub_zero]
      rcases Nat.le_total s.size 32 with h | h
      · rw [Nat.min_eq_left h, List.take_of_length_le (by simp), List.take_of_length_le (by simpa using h)]
      · rw [Nat.min_eq_right h]
    rw [he, hz]
    simp only [Nat.zero_add, List.take_zero, List.nil_append, List.drop_replicate, List.length_map]
    rw [idc, bytesC]
    show _ = (List.map _ (idB s)).toArray
    rw [idB, List.map_append, List.map_replicate]
    rfl
  rw [hrow] at hst
  have htk : List.take (min s.size 32) (List.map (fun b : UInt8 => Value.int .u8 (b.toNat : Int)) s.data.toList) = bytesC (s.extract 0 (min s.size 32)) := by
    unfold bytesC
    rw [ByteArray.data_extract, Array.toList_extract, List.extract_eq_take_drop, List.drop_zero, Nat.sub_zero, List.map_take]
  cases hq : P.info? elem with
  | none => simp [hq] at hs
  | some i =>
    have hmin : Nat.min s.size 32 = min s.size 32 := rfl
    simp [Builtin.copy_, run_underlying hu, Builtin.lenOf, Builtin.firstCells, sizeOf, typeInfo, hq, hmin]
    rw [htk, hst]
    have : ((min s.size 32 : Nat) : Int) = min (s.size : Int) 32 := by omega
    simp [Result.andThen, this]
section
variable {ops : Array Oper} {rest : List Oper} {o : Oper} {a : Act} {w : World} {Q : Exit → Act → World → Prop}
theorem byte_size1 : (Tryz.prog.info? 5).map (·.size) = some 1 := by kernel_rfl
theorem wpl_copy_id (hgd : o.guard = none) (x y : Operand) (ho : o.op = .call { callee := .builtin .copy, args := #[x, y], argTypes := #[133, 9] }) (g : Nat) (hx : a.eval x = .slice (some ⟨g, 0, none⟩) 32 32) (s : ByteArray) (hy : a.eval y = .string s) (t : TypeId) (hg : w.heap[g]? = some (.cells (idc default).toArray t (0, 0)))
    (h : ∀ W2, W2 = w.setRow g (idc (idOf s)).toArray → wpList Tryz.prog ops Q rest (a.put o.dst (goInt (min s.size 32))) W2) : wpList Tryz.prog ops Q (o :: rest) a w :=
  wpList_plain hgd fun K hK => by
    have hrun := run_copy_id (P := Tryz.prog) w 133 9 o.type 5 g s t Tryz.underlying133 byte_size1 hg
    unfold Oper.wp
    simp [execOp, ho, resolve, invoke, builtin, hx, hy, hrun, Result.andThen]
    exact hK _ _ (by simpa using h _ rfl)
end
set_option maxRecDepth 100000 in
set_option maxHeartbeats 1000000 in
theorem idOf_any (w : World) (s : ByteArray) : Calls Tryz.prog 109 #[.string s] w fun e w' => e = .returned (.agg (idc (idOf s)).toArray) ∧ Below w.heap.size w w' := by
  have hB0 : Below w.heap.size w ((w.alloc (.cells (idc default).toArray 34)).alloc (.cells (idc default).toArray 34)) := ((Below.refl _ w).alloc (Nat.le_refl _) _).alloc (by simp) _
  have hg0 : ((w.alloc (.cells (idc default).toArray 34)).alloc (.cells (idc default).toArray 34)).heap[w.heap.size]? = some (.cells (idc default).toArray 34 (0, 0)) := by rw [heap_alloc_if, if_neg (by simp), heap_alloc_if, if_pos rfl]
  have hg1 : ((w.alloc (.cells (idc default).toArray 34)).alloc (.cells (idc default).toArray 34)).heap[w.heap.size + 1]? = some (.cells (idc default).toArray 34 (0, 0)) := by rw [heap_alloc_if, if_pos (by simp)]
  have HB0 := Lib.hid hB0
  have HG0 := Lib.hid hg0
  have HG1 := Lib.hid hg1
  clear hB0 hg0 hg1
  go_enter Tryz.func109, Tryz.ntmps109
  go_wp2_with (first
    | (refine wpl_copy_id rfl (.tmp 4) (.tmp 5) rfl (w.heap.size + 1) rfl s rfl _ HG1.out ?_; intro W2 hW2; have HB2 : Hid (Below w.heap.size w W2) := Lib.hid (by subst hW2; exact below_setRow HB0.out (Nat.le_succ w.heap.size) _); have HK2 : Hid (W2.heap[w.heap.size + 1]? = some (.cells (idc (idOf s)).toArray 34 (0, 0))) := Lib.hid (by subst hW2; exact setRow_heap _ _ _ _ _ _ HG1.out); have HK0 : Hid (W2.heap[w.heap.size]? = some (.cells (idc default).toArray 34 (0, 0))) := Lib.hid (by subst hW2; exact (heap_setRow_ne _ _ _ _ (by omega)).trans HG0.out); clear hW2)
    | (refine wpl_load rfl 34 (.tmp 3) rfl (w.heap.size + 1) 0 rfl (idc (idOf s)) _ (fun j u hu => by rw [Nat.zero_add]; exact cell_block HK2.out (by simpa using hu)) Tryz.underlying34 rfl (by rw [idc_length]; exact id_size) ?_)
    | (refine wpl_store_row rfl 34 (.tmp 2) (.tmp 7) rfl w.heap.size rfl (idc (idOf s)) rfl _ 34 HK0.out (by rw [List.size_toArray, idc_length, idc_length]) (idE.one (idOf s)) (by rw [idc_length]; exact id_size) ?_))
  (try simp only [Exit.inBlock, Exit.then])
  refine bodyPost_ret (results_cell_row rfl _ _ w.heap.size 34 (idc (idOf s)).toArray (0, 0) _ rfl (setRow_heap W2 w.heap.size _ _ _ _ HK0.out) Tryz.underlying34 rfl (by rw [List.size_toArray, idc_length]; exact id_size)) rfl ?_
  exact ⟨rfl, below_setRow HB2.out (Nat.le_refl _) _⟩

/-- At most n bytes. -/
def cutS (s : ByteArray) (n : Nat) : ByteArray := if n < s.size then s.extract 0 n else s
theorem cutS_size (s : ByteArray) (n : Nat) : (cutS s n).size ≤ n ∨ (cutS s n).size ≤ s.size ∧ s.size ≤ n := by
  unfold cutS
  split
  · exact .inl (by rw [ByteArray.size_extract]; omega)
  · exact .inr ⟨Nat.le_refl _, by omega⟩
theorem cutS_le (s : ByteArray) (n : Nat) : (cutS s n).size ≤ n := by
  rcases cutS_size s n with h | h
  · exact h
  · omega
set_option maxRecDepth 100000 in
set_option maxHeartbeats 1000000 in
theorem cut_any (w : World) (s : ByteArray) (n : Nat) (hn : n ≤ 1000) (hs : s.size ≤ 140737488351232) : Calls Tryz.prog 56 #[.string s, .int .i64 n] w fun e w' => e = .returned (.string (cutS s n)) ∧ w = w' := by
  by_cases hlt : n < s.size
  · have he : cutS s n = s.extract 0 n := by rw [cutS, if_pos hlt]
    have HE := Lib.hid he
    clear he
    go_enter Tryz.func56, Tryz.ntmps56
    go_wp2
    go_ret
    exact ⟨by rw [HE.out]; rfl, rfl⟩
  · have he : cutS s n = s := by rw [cutS, if_neg hlt]
    have HE := Lib.hid he
    clear he
    go_enter Tryz.func56, Tryz.ntmps56
    go_wp2
    go_ret
    exact ⟨by rw [HE.out]; rfl, rfl⟩
end Go.Proofs.YthpcedficlhanaaGreatDoor
