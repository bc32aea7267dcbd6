/- Names of 32 bytes; bytes.Compare; header.compare, dag.compare. -/
import Derived.Test.YthpcedficlhanaaGreatDoorSort
import Derived.Test.YthpcedficlhanaaGreatDoorProg
import Derived.Lib.Bytealg
import Derived.Laws.Externs
import Derived.Deep.QuietTactic
import Derived.BigQuiet
import Derived.KernelRfl
import Derived.Sort.Grow
namespace Go.Proofs.YthpcedficlhanaaGreatDoor
open Go.RowKit

/-- A name: 32 bytes. -/
abbrev ID := { x : ByteArray // x.size = 32 }
instance : Inhabited ID := ⟨⟨⟨(List.replicate 32 0).toArray⟩, by rfl⟩⟩
instance : DecidableEq ID := fun a b => if h : a.1 = b.1 then .isTrue (Subtype.ext h) else .isFalse fun e => h (congrArg Subtype.val e)

def bytesC (x : ByteArray) : List Value := x.data.toList.map fun b => .int .u8 (b.toNat : Int)
theorem bytesC_length (x : ByteArray) : (bytesC x).length = x.size := by simp [bytesC]
theorem bytesC_one (x : ByteArray) : ∀ u ∈ bytesC x, u.oneCell' = true := by
  intro u hu
  simp only [bytesC, List.mem_map] at hu
  obtain ⟨b, _, rfl⟩ := hu
  rfl
theorem bytesC_at (x : ByteArray) (j : Nat) (b : UInt8) (h : x.data.toList[j]? = some b) : (bytesC x)[j]? = some (.int .u8 (b.toNat : Int)) := by simp [bytesC, h]
def idc (x : ID) : List Value := bytesC x.1
theorem idc_length (x : ID) : (idc x).length = 32 := by rw [idc, bytesC_length, x.2]
def idE : Enc ID := { enc := idc, k := 32, hk := idc_length, one := fun x => bytesC_one x.1, k0 := by decide }

/-- The bytes at an address. -/
def BytesAt (w : World) (b off : Nat) (x : ByteArray) : Prop := ∀ j u, (bytesC x)[j]? = some u → w.cell? ⟨b, off + j, none⟩ = some u

theorem toUInt8_cast (b : UInt8) : ((b.toNat : Int).toNat).toUInt8 = b := by simp

theorem run_loadBytes {P : Program} (w : World) (b : Nat) : ∀ (l : List UInt8) (off : Nat) (acc : ByteArray), (∀ j c, l[j]? = some c → w.cell? ⟨b, off + j, none⟩ = some (.int .u8 (c.toNat : Int))) →
    (Extern.Bytes.loadBytes ⟨b, off, none⟩ l.length acc).run P w = .ok ⟨acc.data ++ l.toArray⟩ w := by
  intro l
  induction l with
  | nil => intro off acc _; simp [Extern.Bytes.loadBytes]
  | cons c l ih =>
    intro off acc h
    have h0 := h 0 c rfl
    rw [Nat.add_zero] at h0
    have h1 := ih (off + 1) (acc.push c) (fun j d hd => by have := h (j + 1) d (by simpa using hd); rwa [show off + (j + 1) = off + 1 + j by omega] at this)
    have hl : (load ⟨b, off, none⟩ : Sem Value).run P w = .ok (.int .u8 (c.toNat : Int)) w := by
      simp [load, Sem.run, h0]
    simp only [List.length_cons, Extern.Bytes.loadBytes, Sem.run_bind, hl, Result.andThen_ok, add_off, toUInt8_cast, h1]
    congr 2
    simp [ByteArray.push, ← Array.toList_inj]

theorem run_bytesOf_slice {P : Program} (w : World) (b off c : Nat) (x : ByteArray) (h : BytesAt w b off x) : (Extern.Bytes.bytesOf (.slice (some ⟨b, off, none⟩) x.size c)).run P w = .ok x w := by
  have := run_loadBytes (P := P) w b x.data.toList off ByteArray.empty (fun j d hd => h j _ (bytesC_at x j d hd))
  have hl : x.data.toList.length = x.size := by simp
  rw [hl] at this
  simp only [Extern.Bytes.bytesOf]
  rw [this]
  rw [show ByteArray.empty.data = #[] from rfl]
  simp

theorem run_compare_slices {P : Program} (w : World) (b off c b' off' c' : Nat) (x y : ByteArray) (hx : BytesAt w b off x) (hy : BytesAt w b' off' y) :
    (Extern.BytealgCompare.compare #[.slice (some ⟨b, off, none⟩) x.size c, .slice (some ⟨b', off', none⟩) y.size c']).run P w = .ok (.int .i64 (Lib.compareBytes x.data.toList y.data.toList)) w := by
  change Sem.run P (do pure (goInt (Extern.BytealgCompare.cmp (← Extern.Bytes.bytesOf (.slice (some ⟨b, off, none⟩) x.size c)) (← Extern.Bytes.bytesOf (.slice (some ⟨b', off', none⟩) y.size c'))))) w = _
  simp only [Sem.run_bind, run_bytesOf_slice w b off c x hx, run_bytesOf_slice w b' off' c' y hy, Sem.run_pure, Result.andThen]
  rw [Lib.cmp_eq]
  rfl

/-- Which name is the greater. -/
def cmpB (x y : ByteArray) : Int := Lib.compareBytes x.data.toList y.data.toList
def cmpI (x y : ID) : Int := cmpB x.1 y.1

set_option maxRecDepth 100000 in
set_option maxHeartbeats 400000 in
theorem bytesCompare_any (w : World) (b off c b' off' c' : Nat) (x y : ByteArray) (hx : BytesAt w b off x) (hy : BytesAt w b' off' y) :
    Calls Tryz.prog 95 #[.slice (some ⟨b, off, none⟩) x.size c, .slice (some ⟨b', off', none⟩) y.size c'] w fun e w' => e = .returned (.int .i64 (cmpB x y)) ∧ w = w' := by
  have hr := run_compare_slices (P := Tryz.prog) w b off c b' off' c' x y hx hy
  clear hx hy
  go_enter Tryz.func95, Tryz.ntmps95
  go_wp2
  rw [run_callFunc_extern Tryz.func150 (by kernel_rfl) (by kernel_rfl) (by kernel_rfl) (e := Extern.BytealgCompare.compare) (by kernel_rfl)]
  rw [hr]
  go_wp2
  go_ret
  exact ⟨rfl, rfl⟩

theorem quiet_left {P : Program} {f : FuncId} {args : Array Value} {w : World} {n : Nat} {v : Value}
    (h : Calls P f args (w.drewN n) fun e w' => e = .returned v ∧ w.drewN n = w') : Calls P f args (w.drewN n) fun e w'' => e = .returned v ∧ ∃ m, w'' = w.drewN m :=
  h.mono fun _ _ ⟨he, hm⟩ => ⟨he, n, hm.symm⟩

theorem bytesAt_new (w : World) (x : ByteArray) (T : TypeId) : BytesAt (w.alloc (.cells (bytesC x).toArray T)) w.heap.size 0 x := by
  intro j u hu
  rw [Nat.zero_add]
  exact cell_block (heap_alloc_new w _) (by simpa using hu)
theorem BytesAt.alloc {w : World} {b off : Nat} {x : ByteArray} (h : BytesAt w b off x) (o : Obj) : BytesAt (w.alloc o) b off x := fun j u hu => by
  have h1 := h j u hu
  rw [← h1]
  exact World.cell?_alloc_lt w o _ (World.block_lt_of_cell? w _ h1)
theorem BytesAt.fr {w w' : World} {b off : Nat} {x : ByteArray} {ok : Nat → Prop} (h : BytesAt w b off x) (hf : Fr ok w w') (hb : ok b) : BytesAt w' b off x := fun j u hu => by
  have h1 := h j u hu
  rw [← h1]
  exact World.cell?_of_block (w := w) (hf.2 b hb (World.block_lt_of_cell? w _ h1))

theorem More.below {w w' : World} (h : More w w') : Below w.heap.size w w' := by
  obtain ⟨q, os, rfl⟩ := h
  exact ⟨rfl, rfl, rfl, by simp [Sort.grow], fun k hk => by simp [Sort.grow, Array.getElem?_append, show k < (w.drewN q).heap.size from hk]; intro hle; omega⟩
theorem More.two (w : World) (a b : Obj) (n : Nat) : More w (((w.alloc a).alloc b).drewN n) := ⟨n, #[a, b], by
  rw [Sort.alloc_eq_grow, Sort.alloc_eq_grow, Sort.grow_grow]; rfl⟩
theorem More.one (w : World) (a : Obj) (n : Nat) : More w ((w.alloc a).drewN n) := ⟨n, #[a], by rw [Sort.alloc_eq_grow]; rfl⟩
theorem More.refl (w : World) : More w w := ⟨0, #[], by simp; rfl⟩
theorem More.trans {a b c : World} (h : More a b) (h' : More b c) : More a c := by
  obtain ⟨q, os, rfl⟩ := h
  obtain ⟨q', os', rfl⟩ := h'
  exact ⟨q + q', os ++ os', by
    have : (Sort.grow (a.drewN q) os).drewN q' = Sort.grow ((a.drewN q).drewN q') os := rfl
    rw [this, Sort.grow_grow, World.drewN_drewN]⟩

theorem compare_boxed (w : World) (x y : ID) (n : Nat) : Calls Tryz.prog 95 #[.slice (some ⟨w.heap.size, 0, none⟩) 32 32, .slice (some ⟨w.heap.size + 1, 0, none⟩) 32 32] (((w.alloc (.cells (idc x).toArray 34)).alloc (.cells (idc y).toArray 34)).drewN n) fun e w' => e = .returned (.int .i64 (cmpI x y)) ∧ ((w.alloc (.cells (idc x).toArray 34)).alloc (.cells (idc y).toArray 34)).drewN n = w' := by
  have hx : BytesAt ((w.alloc (.cells (idc x).toArray 34)).alloc (.cells (idc y).toArray 34)) w.heap.size 0 x.1 := (bytesAt_new w x.1 _).alloc _
  have hy : BytesAt ((w.alloc (.cells (idc x).toArray 34)).alloc (.cells (idc y).toArray 34)) (w.heap.size + 1) 0 y.1 := by
    have := bytesAt_new (w.alloc (.cells (idc x).toArray 34)) y.1 34
    rw [World.size_alloc] at this
    exact this
  have hc := bytesCompare_any (((w.alloc (.cells (idc x).toArray 34)).alloc (.cells (idc y).toArray 34)).drewN n) w.heap.size 0 32 (w.heap.size + 1) 0 32 x.1 y.1 hx hy
  rw [x.2, y.2] at hc
  exact hc

set_option maxRecDepth 100000 in
set_option maxHeartbeats 400000 in
theorem headerCompare_any (w : World) (x y : ID) :
    Calls Tryz.prog 114 #[.agg (idc x).toArray, .agg (idc y).toArray] w fun e w' => e = .returned (.int .i64 (cmpI x y)) ∧ More w w' := by
  go_enter Tryz.func114, Tryz.ntmps114
  go_wp2
  have HC := Lib.hid (fun n => compare_boxed w x y n)
  go_quiet ((go_at_call 95; exact quiet_left (HC.out _)))
  go_wp2
  go_ret
  exact ⟨rfl, More.two _ _ _ _⟩

set_option maxRecDepth 100000 in
set_option maxHeartbeats 400000 in
theorem dagCompare_any (w : World) (x y : ID) :
    Calls Tryz.prog 120 #[.agg (idc x).toArray, .agg (idc y).toArray] w fun e w' => e = .returned (.int .i64 (cmpI x y)) ∧ More w w' := by
  go_enter Tryz.func120, Tryz.ntmps120
  go_wp2
  have HC := Lib.hid (fun n => compare_boxed w x y n)
  go_quiet ((go_at_call 95; exact quiet_left (HC.out _)))
  go_wp2
  go_ret
  exact ⟨rfl, More.two _ _ _ _⟩
end Go.Proofs.YthpcedficlhanaaGreatDoor
