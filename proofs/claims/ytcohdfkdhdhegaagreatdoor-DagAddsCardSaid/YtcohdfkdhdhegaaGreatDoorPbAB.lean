/- Names of 32 bytes; bytes.Compare; header.compare, dag.compare. strings.Builder inside a variable of type T (a Builder's own, or codec.Out's): copyCheck, WriteByte, WriteString, Write, String. The proofs follow the library's own contracts, for a Builder that is a struct's first field. codec.Out: Num, Text, Raw, Bytes. header.rise: do names? -/
import Derived.Test.YtcohdfkdhdhegaaGreatDoorPbAA
import Derived.Test.YtcohdfkdhdhegaaGreatDoorProg
import Derived.Lib.Bytealg
import Derived.Laws.Externs
import Derived.Deep.QuietTactic
import Derived.BigQuiet
import Derived.KernelRfl
import Derived.Sort.Grow
import Derived.Lib.Builder
import Derived.Lib.UnsafeStr
import Derived.Lib.AppendStr
import Derived.Lib.Strings
import Derived.Shelf.Strings.Builder1
import Derived.Laws.IdiomCopy
import Derived.IntWalk
import Derived.StillTailTactics
namespace Go.Proofs.YtcohdfkdhdhegaaGreatDoor
open Go.RowKit

/-- A name: 32 bytes. -/
abbrev ID := { x : ByteArray // x.size = 32 }
instance : Inhabited ID := ⟨⟨⟨(List.replicate 32 0).toArray⟩, by rfl⟩⟩
instance : DecidableEq ID := fun a b => if h : a.1 = b.1 then .isTrue (Subtype.ext h) else .isFalse fun e => h (congrArg Subtype.val e)

def bytesC (x : ByteArray) : List Value := x.data.toList.map fun b => .int .u8 (b.toNat : Int)
theorem bytesC_length (x : ByteArray) : (bytesC x).length = x.size := by simp [bytesC]
theorem bytesC_one (x : ByteArray) : ∀ u ∈ bytesC x, u.oneCell' = true := by
  intro u hu
  simp only [bytesC, List.mem_map] at hu
  obtain ⟨b, _, rfl⟩ := hu
  rfl
theorem bytesC_at (x : ByteArray) (j : Nat) (b : UInt8) (h : x.data.toList[j]? = some b) : (bytesC x)[j]? = some (.int .u8 (b.toNat : Int)) := by simp [bytesC, h]
def idc (x : ID) : List Value := bytesC x.1
theorem idc_length (x : ID) : (idc x).length = 32 := by rw [idc, bytesC_length, x.2]
def idE : Enc ID := { enc := idc, k := 32, hk := idc_length, one := fun x => bytesC_one x.1, k0 := by decide }

/-- The bytes at an address. -/
def BytesAt (w : World) (b off : Nat) (x : ByteArray) : Prop := ∀ j u, (bytesC x)[j]? = some u → w.cell? ⟨b, off + j, none⟩ = some u

theorem toUInt8_cast (b : UInt8) : ((b.toNat : Int).toNat).toUInt8 = b := by simp

theorem run_loadBytes {P : Program} (w : World) (b : Nat) : ∀ (l : List UInt8) (off : Nat) (acc : ByteArray), (∀ j c, l[j]? = some c → w.cell? ⟨b, off + j, none⟩ = some (.int .u8 (c.toNat : Int))) →
    (Extern.Bytes.loadBytes ⟨b, off, none⟩ l.length acc).run P w = .ok ⟨acc.data ++ l.toArray⟩ w := by
  intro l
  induction l with
  | nil => intro off acc _; simp [Extern.Bytes.loadBytes]
  | cons c l ih =>
    intro off acc h
    have h0 := h 0 c rfl
    rw [Nat.add_zero] at h0
    have h1 := ih (off + 1) (acc.push c) (fun j d hd => by have := h (j + 1) d (by simpa using hd); rwa [show off + (j + 1) = off + 1 + j by omega] at this)
    have hl : (load ⟨b, off, none⟩ : Sem Value).run P w = .ok (.int .u8 (c.toNat : Int)) w := by
      simp [load, Sem.run, h0]
    simp only [List.length_cons, Extern.Bytes.loadBytes, Sem.run_bind, hl, Result.andThen_ok, add_off, toUInt8_cast, h1]
    congr 2
    simp [ByteArray.push]

theorem run_bytesOf_slice {P : Program} (w : World) (b off c : Nat) (x : ByteArray) (h : BytesAt w b off x) : (Extern.Bytes.bytesOf (.slice (some ⟨b, off, none⟩) x.size c)).run P w = .ok x w := by
  have := run_loadBytes (P := P) w b x.data.toList off ByteArray.empty (fun j d hd => h j _ (bytesC_at x j d hd))
  have hl : x.data.toList.length = x.size := by simp
  rw [hl] at this
  simp only [Extern.Bytes.bytesOf]
  rw [this]
  rw [show ByteArray.empty.data = #[] from rfl]
  simp

theorem run_compare_slices {P : Program} (w : World) (b off c b' off' c' : Nat) (x y : ByteArray) (hx : BytesAt w b off x) (hy : BytesAt w b' off' y) :
    (Extern.BytealgCompare.compare #[.slice (some ⟨b, off, none⟩) x.size c, .slice (some ⟨b', off', none⟩) y.size c']).run P w = .ok (.int .i64 (Lib.compareBytes x.data.toList y.data.toList)) w := by
  change Sem.run P (do pure (goInt (Extern.BytealgCompare.cmp (← Extern.Bytes.bytesOf (.slice (some ⟨b, off, none⟩) x.size c)) (← Extern.Bytes.bytesOf (.slice (some ⟨b', off', none⟩) y.size c'))))) w = _
  simp only [Sem.run_bind, run_bytesOf_slice w b off c x hx, run_bytesOf_slice w b' off' c' y hy, Sem.run_pure, Result.andThen]
  rw [Lib.cmp_eq]
  rfl

/-- Which name is the greater. -/
def cmpB (x y : ByteArray) : Int := Lib.compareBytes x.data.toList y.data.toList
def cmpI (x y : ID) : Int := cmpB x.1 y.1

set_option maxRecDepth 100000 in
set_option maxHeartbeats 400000 in
theorem bytesCompare_any (w : World) (b off c b' off' c' : Nat) (x y : ByteArray) (hx : BytesAt w b off x) (hy : BytesAt w b' off' y) :
    Calls Tryz.prog 143 #[.slice (some ⟨b, off, none⟩) x.size c, .slice (some ⟨b', off', none⟩) y.size c'] w fun e w' => e = .returned (.int .i64 (cmpB x y)) ∧ w = w' := by
  have hr := run_compare_slices (P := Tryz.prog) w b off c b' off' c' x y hx hy
  clear hx hy
  go_enter Tryz.func143, Tryz.ntmps143
  go_wp2
  rw [run_callFunc_extern Tryz.func176 (by kernel_rfl) (by kernel_rfl) (by kernel_rfl) (e := Extern.BytealgCompare.compare) (by kernel_rfl)]
  rw [hr]
  go_wp2
  go_ret
  exact ⟨rfl, rfl⟩

theorem quiet_left {P : Program} {f : FuncId} {args : Array Value} {w : World} {n : Nat} {v : Value}
    (h : Calls P f args (w.drewN n) fun e w' => e = .returned v ∧ w.drewN n = w') : Calls P f args (w.drewN n) fun e w'' => e = .returned v ∧ ∃ m, w'' = w.drewN m :=
  h.mono fun _ _ ⟨he, hm⟩ => ⟨he, n, hm.symm⟩

theorem bytesAt_new (w : World) (x : ByteArray) (T : TypeId) : BytesAt (w.alloc (.cells (bytesC x).toArray T)) w.heap.size 0 x := by
  intro j u hu
  rw [Nat.zero_add]
  exact cell_block (heap_alloc_new w _) (by simpa using hu)
theorem BytesAt.alloc {w : World} {b off : Nat} {x : ByteArray} (h : BytesAt w b off x) (o : Obj) : BytesAt (w.alloc o) b off x := fun j u hu => by
  have h1 := h j u hu
  rw [← h1]
  exact World.cell?_alloc_lt w o _ (World.block_lt_of_cell? w _ h1)
theorem BytesAt.fr {w w' : World} {b off : Nat} {x : ByteArray} {ok : Nat → Prop} (h : BytesAt w b off x) (hf : Fr ok w w') (hb : ok b) : BytesAt w' b off x := fun j u hu => by
  have h1 := h j u hu
  rw [← h1]
  exact World.cell?_of_block (w := w) (hf.2 b hb (World.block_lt_of_cell? w _ h1))

theorem More.below {w w' : World} (h : More w w') : Below w.heap.size w w' := by
  obtain ⟨q, os, rfl⟩ := h
  exact ⟨rfl, rfl, rfl, by simp [Sort.grow], fun k hk => by simp [Sort.grow, Array.getElem?_append]; intro hle; omega⟩
theorem More.two (w : World) (a b : Obj) (n : Nat) : More w (((w.alloc a).alloc b).drewN n) := ⟨n, #[a, b], by
  rw [Sort.alloc_eq_grow, Sort.alloc_eq_grow, Sort.grow_grow]; rfl⟩
theorem More.one (w : World) (a : Obj) (n : Nat) : More w ((w.alloc a).drewN n) := ⟨n, #[a], by rw [Sort.alloc_eq_grow]; rfl⟩
theorem More.refl (w : World) : More w w := ⟨0, #[], by simp; rfl⟩
theorem More.trans {a b c : World} (h : More a b) (h' : More b c) : More a c := by
  obtain ⟨q, os, rfl⟩ := h
  obtain ⟨q', os', rfl⟩ := h'
  exact ⟨q + q', os ++ os', by
    have : (Sort.grow (a.drewN q) os).drewN q' = Sort.grow ((a.drewN q).drewN q') os := rfl
    rw [this, Sort.grow_grow, World.drewN_drewN]⟩

theorem compare_boxed (w : World) (x y : ID) (n : Nat) : Calls Tryz.prog 143 #[.slice (some ⟨w.heap.size, 0, none⟩) 32 32, .slice (some ⟨w.heap.size + 1, 0, none⟩) 32 32] (((w.alloc (.cells (idc x).toArray 66)).alloc (.cells (idc y).toArray 66)).drewN n) fun e w' => e = .returned (.int .i64 (cmpI x y)) ∧ ((w.alloc (.cells (idc x).toArray 66)).alloc (.cells (idc y).toArray 66)).drewN n = w' := by
  have hx : BytesAt ((w.alloc (.cells (idc x).toArray 66)).alloc (.cells (idc y).toArray 66)) w.heap.size 0 x.1 := (bytesAt_new w x.1 _).alloc _
  have hy : BytesAt ((w.alloc (.cells (idc x).toArray 66)).alloc (.cells (idc y).toArray 66)) (w.heap.size + 1) 0 y.1 := by
    have := bytesAt_new (w.alloc (.cells (idc x).toArray 66)) y.1 66
    rw [World.size_alloc] at this
    exact this
  have hc := bytesCompare_any (((w.alloc (.cells (idc x).toArray 66)).alloc (.cells (idc y).toArray 66)).drewN n) w.heap.size 0 32 (w.heap.size + 1) 0 32 x.1 y.1 hx hy
  rw [x.2, y.2] at hc
  exact hc

set_option maxRecDepth 100000 in
set_option maxHeartbeats 400000 in
theorem headerCompare_any (w : World) (x y : ID) :
    Calls Tryz.prog 118 #[.agg (idc x).toArray, .agg (idc y).toArray] w fun e w' => e = .returned (.int .i64 (cmpI x y)) ∧ More w w' := by
  go_enter Tryz.func118, Tryz.ntmps118
  go_wp2
  have HC := Lib.hid (fun n => compare_boxed w x y n)
  go_quiet ((go_at_call 143; exact quiet_left (HC.out _)))
  go_wp2
  go_ret
  exact ⟨rfl, More.two _ _ _ _⟩

set_option maxRecDepth 100000 in
set_option maxHeartbeats 400000 in
theorem dagCompare_any (w : World) (x y : ID) :
    Calls Tryz.prog 109 #[.agg (idc x).toArray, .agg (idc y).toArray] w fun e w' => e = .returned (.int .i64 (cmpI x y)) ∧ More w w' := by
  go_enter Tryz.func109, Tryz.ntmps109
  go_wp2
  have HC := Lib.hid (fun n => compare_boxed w x y n)
  go_quiet ((go_at_call 143; exact quiet_left (HC.out _)))
  go_wp2
  go_ret
  exact ⟨rfl, More.two _ _ _ _⟩
end Go.Proofs.YtcohdfkdhdhegaaGreatDoor
namespace Go.Proofs.YtcohdfkdhdhegaaGreatDoor
open Go.RowKit

theorem byte_info : (Tryz.prog.info? 5).map (fun i => (i.zero, i.size, i.bytes)) = some (some (.int .u8 0), 1, 1) := by kernel_rfl
theorem byte_cells : Tryz.prog.cellsOf 5 = 1 := by kernel_rfl
theorem builder_size : (Tryz.prog.info? 167).map (·.size) = some 2 := by kernel_rfl
/-- A type whose first field is a Builder, of two cells. -/
def BT (T : TypeId) : Prop := liesAt Tryz.prog Tryz.prog.depth T (2 / Tryz.prog.cellsOf T) 0 167 1 = true ∧ T ≠ 5
theorem bt_builder : BT 167 := ⟨by kernel_rfl, by decide⟩
theorem bt_out : BT 219 := ⟨by kernel_rfl, by decide⟩

/-- A Builder at block b that holds the bytes l. -/
def BufAt (T : TypeId) (B b : Nat) (l : List UInt8) (w : World) : Prop := ∃ p, (p = .pointer none ∨ p = .pointer (some ⟨b, 0, none⟩)) ∧ Lib.BuilderAt T 5 B b p (Lib.byteCells l) w
def UsedAt (T : TypeId) (B b : Nat) (l : List UInt8) (w : World) : Prop := Lib.BuilderAt T 5 B b (.pointer (some ⟨b, 0, none⟩)) (Lib.byteCells l) w
theorem UsedAt.buf {T : TypeId} {B b : Nat} {l : List UInt8} {w : World} (h : UsedAt T B b l w) : BufAt T B b l w := ⟨_, .inr rfl, h⟩

set_option maxRecDepth 100000 in
set_option maxHeartbeats 1000000 in
theorem copyCheck_used (b : Nat) (w : World) (h0 : w.cell? ⟨b, 0, none⟩ = some (.pointer (some ⟨b, 0, none⟩))) :
    Calls Tryz.prog 162 #[.pointer (some ⟨b, 0, none⟩)] w fun e w' => e = .returned (.tuple #[]) ∧ w' = w := by
  obtain ⟨j, hj, _⟩ := Option.map_eq_some_iff.1 builder_size
  go_enter Tryz.func162, Tryz.ntmps162
  go_wp2
  rw [Lib.run_neq_ptr_same w _ Tryz.underlying165 hj]
  go_wp2
  go_end0
  exact ⟨rfl, rfl⟩

set_option maxRecDepth 100000 in
set_option maxHeartbeats 1000000 in
theorem copyCheck_fresh (T : TypeId) (hT : BT T) (b : Nat) (w : World) (h0 : w.cell? ⟨b, 0, none⟩ = some (.pointer none)) (hsh : w.shape? b = some (T, 2)) (hfz : w.frozen? ⟨b, 0, none⟩ = false) :
    Calls Tryz.prog 162 #[.pointer (some ⟨b, 0, none⟩)] w fun e w' => e = .returned (.tuple #[]) ∧ w' = w.setCell ⟨b, 0, none⟩ (.pointer (some ⟨b, 0, none⟩)) := by
  obtain ⟨j, hj, hjs⟩ := Option.map_eq_some_iff.1 builder_size
  have HT := Lib.hid hT.1
  clear hT
  go_enter Tryz.func162, Tryz.ntmps162
  go_wp2
  rw [Lib.run_to_unsafe w ⟨b, 0, none⟩ Tryz.underlying165 Tryz.underlying264 hj (by rw [hjs]; decide) hsh (Nat.zero_lt_succ 1)]
  simp only [Result.andThen]
  rw [Oper.upon_value]
  go_wp2
  rw [run_callFunc_extern Tryz.func195 (by kernel_rfl) (by kernel_rfl) (by kernel_rfl) (e := Extern.AbiNoEscape.same) (by kernel_rfl)]
  rw [Lib.run_noEscape]
  simp only [Result.andThen]
  rw [Oper.upon_value]
  go_wp2
  rw [Lib.run_from_unsafe w ⟨b, 0, none⟩ Tryz.underlying264 Tryz.underlying165 hj hsh HT.out]
  simp only [Result.andThen]
  rw [Oper.upon_value]
  go_wp2
  go_end0
  exact ⟨rfl, rfl⟩

theorem copyCheck_any (T : TypeId) (hT : BT T) (B b : Nat) (l : List UInt8) (w : World) (h : BufAt T B b l w) :
    Calls Tryz.prog 162 #[.pointer (some ⟨b, 0, none⟩)] w fun e w' => e = .returned (.tuple #[]) ∧ UsedAt T B b l w' ∧ Below B w w' ∧ ∀ k, k ≠ b → w'.heap[k]? = w.heap[k]? := by
  obtain ⟨p, rfl | rfl, h⟩ := h
  · refine (copyCheck_fresh T hT b w h.cell0 h.shape h.frozen0).mono ?_
    rintro e w' ⟨rfl, rfl⟩
    exact ⟨rfl, h.used _, (Below.refl B w).setCell (p := ⟨b, 0, none⟩) h.1 _, fun k hk => Below.heap_setCell _ _ _ _ (fun e => hk e)⟩
  · refine (copyCheck_used b w h.cell0).mono ?_
    rintro e w' ⟨rfl, rfl⟩
    exact ⟨rfl, h, Below.refl _ _, fun _ _ => rfl⟩

theorem buf_after {T : TypeId} {b : Nat} {p v : Value} {w1 w2 : World} (hbk : w1.heap[b]? = some (.cells #[p, v] T (0, 0))) (hne : v.ownBlock ≠ some b) (hgrow : w1.grownBy w2 v.ownBlock) :
    w2.heap[b]? = some (.cells #[p, v] T (0, 0)) ∧ w2.cell? ⟨b, 1, none⟩ = some v ∧ w2.frozen? ⟨b, 1, none⟩ = false := by
  have hlt : b < w1.heap.size := (Array.getElem?_eq_some_iff.1 hbk).1
  have hb2 : w2.heap[b]? = some (.cells #[p, v] T (0, 0)) := by
    rw [hgrow.block b hlt (fun e => hne e.symm)]
    exact hbk
  exact ⟨hb2, by rw [Lib.cell_of_heap hb2]; rfl, Lib.frozen_of_heap hb2 1⟩

theorem bytes_snoc (l : List UInt8) (c : UInt8) : Lib.byteCells (l ++ [c]) = Lib.byteCells l ++ [.int .u8 (c.toNat : Int)] := by simp [Lib.byteCells]

set_option maxRecDepth 100000 in
set_option maxHeartbeats 2000000 in
theorem writeByte_any (T : TypeId) (hT : BT T) (B b : Nat) (l : List UInt8) (c : UInt8) (w : World) (h : BufAt T B b l w) (hlen : l.length + 1 ≤ 140737488355328) (hBw : B ≤ w.heap.size) :
    Calls Tryz.prog 193 #[.pointer (some ⟨b, 0, none⟩), .int .u8 (c.toNat : Int)] w fun e w' => e = .returned .nilIface ∧ UsedAt T B b (l ++ [c]) w' ∧ Below B w w' := by
  have HT := Lib.hid hT
  clear hT
  go_enter Tryz.func193, Tryz.ntmps193
  go_wp2_with (go_at_call 162; refine (copyCheck_any T HT.out B b l _ h).mono ?_)
  rintro e w1 ⟨rfl, h1, hb1, -⟩
  obtain ⟨hB, v, hbk, hown, hne⟩ := h1
  rw [Lib.byteCells_length] at hown
  have hs1 := hb1.size
  have c0 : w1.cell? ⟨b, 0, none⟩ = some (.pointer (some ⟨b, 0, none⟩)) := by rw [Lib.cell_of_heap hbk]; rfl
  have c1 : w1.cell? ⟨b, 1, none⟩ = some v := by rw [Lib.cell_of_heap hbk]; rfl
  go_wp2_with (at_builtin; refine wpl_app1 #[.int .u8 (c.toNat : Int)] B rfl (.tmp 11) (.tmp 13) 145 5 (.int .u8 0) 1 1 rfl Tryz.underlying145 byte_info rfl (by decide) (by decide) v l.length _ rfl rfl rfl (by simp [Value.oneCell']) hown (by omega) (by omega) ?_; intro v' w2 hown' hgrow hat; obtain ⟨hb2, d1, f1⟩ := buf_after hbk hne hgrow; obtain ⟨g, cap, rfl, hgb, hgl⟩ := hown'.form (by omega))
  go_ret
  refine ⟨rfl, ?_, ?_⟩
  · rw [← bytes_snoc] at hown'
    exact Lib.BuilderAt.put (T := T) (e := 5) hB hb2 (bs' := Lib.byteCells (l ++ [c])) (by simpa [Lib.byteCells_length] using hown') HT.out.2
  · exact (hb1.grown hgrow (by omega) (fun k hk => (hown.lt k hk).1)).setCell (p := ⟨b, 1, none⟩) hB _

theorem bytes_app (l m : List UInt8) : Lib.byteCells (l ++ m) = Lib.byteCells l ++ Lib.byteCells m := by simp [Lib.byteCells]

set_option maxRecDepth 100000 in
set_option maxHeartbeats 2000000 in
theorem writeString_any (T : TypeId) (hT : BT T) (B b : Nat) (l : List UInt8) (s : ByteArray) (w : World) (h : BufAt T B b l w) (hlen : l.length + s.size ≤ 140737488355328) (hBw : B ≤ w.heap.size) :
    Calls Tryz.prog 190 #[.pointer (some ⟨b, 0, none⟩), .string s] w fun e w' => e = .returned (.tuple #[.int .i64 s.size, .nilIface]) ∧ UsedAt T B b (l ++ s.data.toList) w' ∧ Below B w w' := by
  obtain ⟨i0, hi, hz0, hz1, hz2⟩ := info_parts byte_info
  have HT := Lib.hid hT
  clear hT
  go_enter Tryz.func190, Tryz.ntmps190
  go_wp2_with (go_at_call 162; refine (copyCheck_any T HT.out B b l _ h).mono ?_)
  rintro e w1 ⟨rfl, h1, hb1, -⟩
  obtain ⟨hB, v, hbk, hown, hne⟩ := h1
  rw [Lib.byteCells_length] at hown
  have hs1 := hb1.size
  have c0 : w1.cell? ⟨b, 0, none⟩ = some (.pointer (some ⟨b, 0, none⟩)) := by rw [Lib.cell_of_heap hbk]; rfl
  have c1 : w1.cell? ⟨b, 1, none⟩ = some v := by rw [Lib.cell_of_heap hbk]; rfl
  go_wp2_with (at_builtin; refine Lib.wpList_append_own_string _ rfl _ _ 145 9 rfl B 5 i0 Tryz.underlying145 Tryz.underlying9 hi hz0 hz1 hz2 _ _ _ rfl hown s rfl (by unfold maxLen; omega) (by omega) (by omega) ?_; intro v' w2 hown' hgrow hnn; obtain ⟨hb2, d1, f1⟩ := buf_after hbk hne hgrow; obtain ⟨A', cap, rfl, -⟩ := own_slice hown')
  go_ret2
  refine ⟨rfl, ?_, ?_⟩
  · refine Lib.BuilderAt.put (T := T) (e := 5) hB hb2 (bs' := Lib.byteCells (l ++ s.data.toList)) ?_ HT.out.2
    have : (Lib.byteCells (l ++ s.data.toList)).length = l.length + s.size := by simp [Lib.byteCells_length]
    rw [this, bytes_app]
    exact hown'
  · exact (hb1.grown hgrow (by omega) (fun k hk => (hown.lt k hk).1)).setCell (p := ⟨b, 1, none⟩) hB _

set_option maxRecDepth 100000 in
set_option maxHeartbeats 2000000 in
theorem write_any (T : TypeId) (hT : BT T) (B b : Nat) (l : List UInt8) (x : ByteArray) (pb po n c : Nat) (w : World) (hn : x.size = n) (hx : BytesAt w pb po x) (hpb : pb ≠ b) (h : BufAt T B b l w) (hlen : l.length + n ≤ 140737488355328) (hBw : B ≤ w.heap.size) :
    Calls Tryz.prog 119 #[.pointer (some ⟨b, 0, none⟩), .slice (some ⟨pb, po, none⟩) n c] w fun e w' => e = .returned (.tuple #[.int .i64 n, .nilIface]) ∧ UsedAt T B b (l ++ x.data.toList) w' ∧ Below B w w' := by
  obtain ⟨i0, hi, hz0, hz1, hz2⟩ := info_parts byte_info
  have HT := Lib.hid hT
  have HX := Lib.hid hx
  have HN := Lib.hid hn
  clear hT hx hn
  go_enter Tryz.func119, Tryz.ntmps119
  go_wp2_with (go_at_call 162; refine (copyCheck_any T HT.out B b l _ h).mono ?_)
  rintro e w1 ⟨rfl, h1, hb1, hk1⟩
  obtain ⟨hB, v, hbk, hown, hne⟩ := h1
  rw [Lib.byteCells_length] at hown
  have hs1 := hb1.size
  have c0 : w1.cell? ⟨b, 0, none⟩ = some (.pointer (some ⟨b, 0, none⟩)) := by rw [Lib.cell_of_heap hbk]; rfl
  have c1 : w1.cell? ⟨b, 1, none⟩ = some v := by rw [Lib.cell_of_heap hbk]; rfl
  have HS : Hid (∀ j u, (bytesC x)[j]? = some u → w1.cell? ((⟨pb, po, none⟩ : Addr).add j) = some u) := fun j u hu => by
    rw [add_off]
    exact (World.cell?_of_block (a := ⟨pb, po + j, none⟩) (hk1 pb hpb)).trans (HX.out j u hu)
  go_wp2_with (at_builtin; refine wpList_append_own_at _ rfl (.tmp 12) (.tmp 13) 145 rfl B 5 i0 (.int .u8 0) 1 1 Tryz.underlying145 hi hz0 hz1 hz2 rfl (by decide) v l.length _ rfl hown ⟨pb, po, none⟩ n c (bytesC x) rfl (by rw [bytesC_length, HN.out]; omega) HS.out (bytesC_one x) (by unfold maxLen; omega) (by omega) (by omega) ?_; intro v' w2 hown' hgrow hnn hat; obtain ⟨hb2, d1, f1⟩ := buf_after hbk hne hgrow; obtain ⟨A', cap, rfl, -⟩ := own_slice hown')
  go_ret2
  refine ⟨rfl, ?_, ?_⟩
  · refine Lib.BuilderAt.put (T := T) (e := 5) hB hb2 (bs' := Lib.byteCells (l ++ x.data.toList)) ?_ HT.out.2
    have : (Lib.byteCells (l ++ x.data.toList)).length = l.length + n := by simp [Lib.byteCells_length, HN.out]
    rw [this, bytes_app]
    exact hown'
  · exact (hb1.grown hgrow (by omega) (fun k hk => (hown.lt k hk).1)).setCell (p := ⟨b, 1, none⟩) hB _

set_option maxRecDepth 100000 in
set_option maxHeartbeats 1000000 in
theorem builderString_any (T : TypeId) (B b : Nat) (l : List UInt8) (w : World) (h : BufAt T B b l w) (h0 : l ≠ []) :
    Calls Tryz.prog 120 #[.pointer (some ⟨b, 0, none⟩)] w fun e w' => e = .returned (.string ⟨l.toArray⟩) ∧ Below B w w' := by
  obtain ⟨p, -, hB, v, hbk, hown, hne⟩ := h
  have hl0 : l.length ≠ 0 := by simpa using h0
  rw [Lib.byteCells_length] at hown
  obtain ⟨g, cap, cur, rfl, hbg, hg, hnc, hcm, hcs, htake⟩ : ∃ g cap cur, v = .slice (some ⟨g, 0, none⟩) l.length cap ∧ B ≤ g ∧ w.heap[g]? = some (.cells cur 5 (0, 0)) ∧ l.length ≤ cap ∧ cap ≤ maxLen ∧ cur.size = cap * 1 ∧ cur.toList.take (l.length * 1) = Lib.byteCells l := by
    rcases hown.2 with ⟨_, hz⟩ | ⟨g, cap, cur, hv, r⟩
    · exact absurd hz hl0
    · exact ⟨g, cap, cur, hv, r⟩
  have c1 : w.drew.cell? ⟨b, 1, none⟩ = some (.slice (some ⟨g, 0, none⟩) l.length cap) := by
    have : w.drew.heap[b]? = some (.cells #[p, .slice (some ⟨g, 0, none⟩) l.length cap] T (0, 0)) := hbk
    rw [Lib.cell_of_heap this]; rfl
  have hSD : (Builtin.unsafeSliceData_ #[145] 224 #[.slice (some ⟨g, 0, none⟩) l.length cap]).run Tryz.prog w.drew = .ok (.pointer (some ⟨g, 0, none⟩)) w.drew :=
    Lib.run_unsafeSliceData_row _ _ _ _ _ _ (by omega)
  have hUS : (Builtin.unsafeString_ #[224, 3] 9 #[.pointer (some ⟨g, 0, none⟩), .int .i64 l.length]).run Tryz.prog w.drew = .ok (.string ⟨l.toArray⟩) (w.drew.freeze ⟨g, 0, none⟩ l.length) := by
    refine Lib.run_unsafeString_row w.drew 224 3 9 5 Tryz.underlying224 byte_cells g cur.size (by have hg' : w.drew.heap[g]? = some (.cells cur 5 (0, 0)) := hg; simp [World.shape?, hg']) l h0 (by omega) (by unfold maxLen at hcm; omega) ?_
    intro j x hx
    have := hown.cells (g := g) rfl j (.int .u8 x.toNat) (by simp [Lib.byteCells, hx])
    exact this
  clear hown htake
  go_enter Tryz.func120, Tryz.ntmps120
  go_wp2
  go_region
  all_goals (go_wp2; go_ret; exact ⟨rfl, Lib.below_freeze (Below.drew (Below.refl B w)) (p := ⟨g, 0, none⟩) hbg _⟩)

/-- A fresh Builder. -/
theorem buf_new (T : TypeId) (w : World) (B : Nat) (hB : B ≤ w.heap.size) : BufAt T B w.heap.size [] (w.alloc (.cells #[.pointer none, .slice none 0 0] T)) :=
  ⟨_, .inl rfl, hB, _, heap_alloc_new w _, World.ownsRow_nil _ _ _ _, by simp [Value.ownBlock]⟩
theorem UsedAt.below {T : TypeId} {B b : Nat} {l : List UInt8} {w w' : World} (h : UsedAt T B b l w) (hb : Below w.heap.size w w') : UsedAt T B b l w' := by
  obtain ⟨hB, v, hbk, hown, hne⟩ := h
  exact ⟨hB, v, (hb.block b (Array.getElem?_eq_some_iff.1 hbk).1).trans hbk, own_below hown hb, hne⟩
theorem BufAt.below {T : TypeId} {B b : Nat} {l : List UInt8} {w w' : World} (h : BufAt T B b l w) (hb : Below w.heap.size w w') : BufAt T B b l w' := by
  obtain ⟨p, hp, hB, v, hbk, hown, hne⟩ := h
  exact ⟨p, hp, hB, v, (hb.block b (Array.getElem?_eq_some_iff.1 hbk).1).trans hbk, own_below hown hb, hne⟩
theorem BufAt.lt {T : TypeId} {B b : Nat} {l : List UInt8} {w : World} (h : BufAt T B b l w) : B ≤ b ∧ b < w.heap.size := by
  obtain ⟨p, hp, hB, v, hbk, -⟩ := h
  exact ⟨hB, (Array.getElem?_eq_some_iff.1 hbk).1⟩
end Go.Proofs.YtcohdfkdhdhegaaGreatDoor
namespace Go.Proofs.YtcohdfkdhdhegaaGreatDoor
open Go.RowKit

/-- How many bytes a number has, at most f. -/
def numLen : Nat → Nat → Nat
  | 0, _ => 0
  | f + 1, y => if y = 0 then 0 else 1 + numLen f (y / 256)
/-- Its n lowest bytes, the greatest first. -/
def dig (x : Nat) : Nat → List UInt8
  | 0 => []
  | i + 1 => UInt8.ofNat (x / 256 ^ i) :: dig x i
/-- A number's bytes. -/
def numB (x : Nat) : List UInt8 := UInt8.ofNat (numLen 8 x) :: dig x (numLen 8 x)
theorem numLen_le (f y : Nat) : numLen f y ≤ f := by
  induction f generalizing y with
  | zero => simp [numLen]
  | succ f ih =>
    have := ih (y / 256)
    simp only [numLen]
    split <;> omega
theorem numLen_succ (f y : Nat) (h : 0 < y) : numLen (f + 1) y = 1 + numLen f (y / 256) := by rw [numLen, if_neg (by omega)]
theorem dig_length (x n : Nat) : (dig x n).length = n := by induction n with
  | zero => rfl
  | succ n ih => simp [dig, ih]
theorem numB_length (x : Nat) : (numB x).length ≤ 9 := by have := numLen_le 8 x; simp [numB, dig_length]; omega
theorem numB_ne (x : Nat) : numB x ≠ [] := by simp [numB]

theorem dig_byte (m j : Nat) : IntKind.u8.wrap ((m : Int) / 2 ^ (8 * (j : Int)).toNat) = (((UInt8.ofNat (m / 256 ^ j)).toNat : Nat) : Int) := by
  have h1 : (8 * (j : Int)).toNat = 8 * j := by omega
  have h2 : (2 : Int) ^ (8 * j) = ((256 ^ j : Nat) : Int) := by rw [Int.pow_mul]; norm_cast
  rw [h1, h2]
  simp [IntKind.wrap]
  rfl

set_option maxRecDepth 100000 in
set_option maxHeartbeats 2000000 in
theorem num_any (B b : Nat) (l : List UInt8) (x : Int) (w : World) (h : BufAt 219 B b l w) (h0 : -9223372036854775808 ≤ x) (h1 : x ≤ 9223372036854775807) (hlen : l.length + 9 ≤ 140737488355328) (hBw : B ≤ w.heap.size) :
    Calls Tryz.prog 156 #[.pointer (some ⟨b, 0, none⟩), .int .i64 x] w fun e w' => e = .returned (.pointer (some ⟨b, 0, none⟩)) ∧ UsedAt 219 B b (l ++ numB x.toNat) w' ∧ Below B w w' := by
  have HL := Lib.hid hlen
  have HB := Lib.hid hBw
  clear hlen hBw
  go_enter Tryz.func156, Tryz.ntmps156
  obtain ⟨m, hm⟩ : ∃ m : Nat, max x 0 = (m : Int) := ⟨(max x 0).toNat, by omega⟩
  have hmx : x.toNat = m := by omega
  have hml : m ≤ 9223372036854775807 := by omega
  rw [hmx]
  go_wp2
  go_loop [5, 6] (fun cn cy => ∃ n y : Nat, cn = .int .i64 n ∧ cy = .int .i64 y ∧ n ≤ 8 ∧ y ≤ 9223372036854775807 ∧ y < 256 ^ (8 - n) ∧ numLen 8 m = n + numLen (8 - n) y) (fun cn _ => 8 - (intOf cn).toNat)
  case atStart => exact ⟨0, m, rfl, rfl, by omega, hml, by simp; omega, by simp⟩
  case round =>
    obtain ⟨n, y, rfl, rfl, hn, hy, hy8, hL⟩ := hrel
    have HH := Lib.hid hL; clear hL
    have H8 := Lib.hid hy8; clear hy8
    by_cases hy0 : 0 < y
    · go_wp2
      have hn8 : n < 8 := by
        rcases Nat.lt_or_ge n 8 with h | h
        · exact h
        · have h8 := H8.out
          rw [show 8 - n = 0 by omega] at h8
          simp at h8
          omega
      go_round
      case rel =>
        refine ⟨n + 1, y / 256, by go_num, by go_num, by omega, by omega, ?_, ?_⟩
        · have h8 := H8.out
          rw [show 8 - n = (8 - (n + 1)) + 1 by omega, Nat.pow_succ] at h8
          exact Nat.div_lt_of_lt_mul (by omega)
        · have hl := HH.out
          rw [show 8 - n = (8 - (n + 1)) + 1 by omega, numLen_succ _ _ hy0] at hl
          omega
      case measure => simp [intOf]; omega
    · have hln : numLen 8 m = n := by
        have hl := HH.out
        have : y = 0 := by omega
        subst this
        have h0 : ∀ f, numLen f 0 = 0 := fun f => by cases f <;> simp [numLen]
        rw [h0] at hl
        omega
      have hcn : (((UInt8.ofNat n).toNat : Nat) : Int) = n := by simp; omega
      have HW := writeByte_any 219 bt_out B b l (UInt8.ofNat n) w h (by have := HL.out; omega) HB.out
      rw [hcn] at HW
      have HW := Lib.hid HW
      have HLN := Lib.hid hln
      clear h hln
      go_wp2_with (go_at_call 193; refine HW.out.mono ?_; rintro e w1 ⟨rfl, h1, hb1⟩)
      have hs1 := hb1.size
      have HH1 := Lib.hid h1
      have HB1 := Lib.hid hb1
      clear h1 hb1
      go_loopw [7] (fun ci wr => ∃ i : Nat, i ≤ n ∧ ci = .int .i64 ((i : Int) - 1) ∧ ∃ z, z ++ dig m i = numB m ∧ UsedAt 219 B b (l ++ z) wr ∧ Below B w wr) (fun ci _ => (intOf ci + 1).toNat)
      case atStart => exact ⟨n, by omega, rfl, [UInt8.ofNat n], by rw [numB, HLN.out]; rfl, HH1.out, HB1.out⟩
      case round =>
        obtain ⟨i, hi, rfl, z, hz, hU, hBB⟩ := hrel
        have HZ := Lib.hid hz
        have HU := Lib.hid hU
        have HBB := Lib.hid hBB
        clear hz hU hBB
        by_cases hi0 : 0 < i
        · obtain ⟨j, rfl⟩ : ∃ j, i = j + 1 := ⟨i - 1, by omega⟩
          rw [show ((j + 1 : Nat) : Int) - 1 = (j : Int) by omega]
          have hw8 : IntKind.i64.wrap (8 * (j : Int)) = 8 * j := IntWalk.i64_in _ (by omega)
          go_wp2
          refine wp_region_still_tail 8 (by kernel_rfl) (by kernel_rfl) ?_
          simp only [List.take_succ_cons, List.take_zero, List.drop_succ_cons, List.drop_zero]
          repeat still_step
          refine wpStill_nil ?_
          change wpList _ _ _ _ _ wr.drew
          have hBd : Below B w wr.drew := HBB.out.drew
          have hUd : UsedAt 219 B b (l ++ z) wr.drew := HU.out
          generalize wr.drew = wd at hBd hUd
          have hzl : z.length + (j + 1) ≤ 9 := by
            have h1 := congrArg List.length HZ.out
            have h2 := numB_length m
            simp [dig_length] at h1
            omega
          have HX := writeByte_any 219 bt_out B b (l ++ z) (UInt8.ofNat (m / 256 ^ j)) wd hUd.buf (by have := HL.out; simp; omega) (Nat.le_trans HB.out hBd.size)
          rw [← dig_byte] at HX
          have HX := Lib.hid HX
          go_wp2_with (go_at_call 193; refine HX.out.mono ?_; rintro e w2 ⟨rfl, h2, hb2⟩)
          go_roundw
          case rel => exact ⟨j, by omega, by go_num, z ++ [UInt8.ofNat (m / 256 ^ j)], by rw [← HZ.out]; simp [dig], by rw [← List.append_assoc]; exact h2, hBd.trans (hb2.mono (Nat.le_refl _))⟩
          case measure => simp [intOf]
        · have hi00 : i = 0 := by omega
          subst hi00
          have hzz : z = numB m := by have := HZ.out; simpa [dig] using this
          go_wp2
          go_ret
          exact ⟨rfl, hzz ▸ HU.out, HBB.out⟩

set_option maxRecDepth 100000 in
set_option maxHeartbeats 2000000 in
theorem raw_any (B b : Nat) (l : List UInt8) (s : ByteArray) (w : World) (h : BufAt 219 B b l w) (hlen : l.length + s.size ≤ 140737488355328) (hBw : B ≤ w.heap.size) :
    Calls Tryz.prog 158 #[.pointer (some ⟨b, 0, none⟩), .string s] w fun e w' => e = .returned (.pointer (some ⟨b, 0, none⟩)) ∧ UsedAt 219 B b (l ++ s.data.toList) w' ∧ Below B w w' := by
  have HW := Lib.hid (writeString_any 219 bt_out B b l s w h hlen hBw)
  clear h hlen hBw
  go_enter Tryz.func158, Tryz.ntmps158
  go_wp2_with (go_at_call 190; refine HW.out.mono ?_; rintro e w1 ⟨rfl, h1, hb1⟩)
  go_ret
  exact ⟨rfl, h1, hb1⟩

/-- A text's bytes. -/
def textB (s : ByteArray) : List UInt8 := numB s.size ++ s.data.toList

set_option maxRecDepth 100000 in
set_option maxHeartbeats 2000000 in
theorem text_any (B b : Nat) (l : List UInt8) (s : ByteArray) (w : World) (h : BufAt 219 B b l w) (hlen : l.length + 9 + s.size ≤ 140737488355328) (hBw : B ≤ w.heap.size) :
    Calls Tryz.prog 157 #[.pointer (some ⟨b, 0, none⟩), .string s] w fun e w' => e = .returned (.pointer (some ⟨b, 0, none⟩)) ∧ UsedAt 219 B b (l ++ textB s) w' ∧ Below B w w' := by
  have HW := num_any B b l s.size w h (by omega) (by omega) (by omega) hBw
  rw [show ((s.size : Int)).toNat = s.size by omega] at HW
  have HW := Lib.hid HW
  have HL := Lib.hid hlen
  have HB := Lib.hid hBw
  clear h hlen hBw
  go_enter Tryz.func157, Tryz.ntmps157
  go_wp2_with (first
    | (go_at_call 156; refine HW.out.mono ?_; rintro e w1 ⟨rfl, h1, hb1⟩; have HW2 := Lib.hid (raw_any B b _ s w1 h1.buf (by have := HL.out; have := numB_length s.size; simp; omega) (Nat.le_trans HB.out hb1.size)); clear h1)
    | (go_at_call 158; refine HW2.out.mono ?_; rintro e w2 ⟨rfl, h2, hb2⟩))
  go_ret
  exact ⟨rfl, by rw [textB, ← List.append_assoc]; exact h2, hb1.trans (hb2.mono (Nat.le_refl _))⟩

set_option maxRecDepth 100000 in
set_option maxHeartbeats 2000000 in
theorem bytes_any (B b : Nat) (l : List UInt8) (w : World) (h : BufAt 219 B b l w) (h0 : l ≠ []) :
    Calls Tryz.prog 159 #[.pointer (some ⟨b, 0, none⟩)] w fun e w' => e = .returned (.string ⟨l.toArray⟩) ∧ Below B w w' := by
  have HW := Lib.hid (builderString_any 219 B b l w h h0)
  clear h h0
  go_enter Tryz.func159, Tryz.ntmps159
  go_wp2_with (go_at_call 120; refine HW.out.mono ?_; rintro e w1 ⟨rfl, hb1⟩)
  go_ret
  exact ⟨rfl, hb1⟩
end Go.Proofs.YtcohdfkdhdhegaaGreatDoor
namespace Go.Proofs.YtcohdfkdhdhegaaGreatDoor
open Go.RowKit

theorem id_size : (Tryz.prog.info? 66).map (·.size) = some 32 := by kernel_rfl
/-- Each name is less than the one behind it. -/
def riseB : List ID → Bool
  | x :: y :: l => decide (cmpI x y < 0) && riseB (y :: l)
  | _ => true
theorem riseB_iff (l : List ID) : riseB l = true ↔ ∀ i x y, l[i]? = some x → l[i + 1]? = some y → cmpI x y < 0 := by
  induction l with
  | nil => simp [riseB]
  | cons x l ih =>
    cases l with
    | nil => simp [riseB]
    | cons y l =>
      simp only [riseB, Bool.and_eq_true, decide_eq_true_eq, ih]
      constructor
      · rintro ⟨h0, h⟩ i a b ha hb
        cases i with
        | zero => simp at ha hb; subst ha; subst hb; exact h0
        | succ i => exact h i a b (by simpa using ha) (by simpa using hb)
      · intro h
        exact ⟨h 0 x y rfl rfl, fun i a b ha hb => h (i + 1) a b (by simpa using ha) (by simpa using hb)⟩

set_option maxRecDepth 100000 in
set_option maxHeartbeats 1000000 in
theorem rise_any (w : World) (v : Value) (l : List ID) (ok : Nat → Prop) (hl : Sl idE ok w v l) :
    Calls Tryz.prog 105 #[v] w fun e w' => e = .returned (.bool (riseB l)) ∧ Below w.heap.size w w' := by
  have HL := Lib.hid hl
  obtain ⟨A, c, rfl, hc, hm⟩ := hl.form
  clear hl
  go_enter Tryz.func105, Tryz.ntmps105
  go_wp2
  go_loopw [3] (fun ci wr => ∃ i : Nat, 1 ≤ i ∧ i ≤ max 1 l.length ∧ ci = .int .i64 i ∧ (∀ j x y, j + 1 < i → l[j]? = some x → l[j + 1]? = some y → cmpI x y < 0) ∧ Below w.heap.size w wr) (fun ci _ => max 1 l.length - (intOf ci).toNat)
  case atStart => exact ⟨1, by omega, by omega, rfl, fun j x y hj => by omega, Below.refl _ _⟩
  case round =>
    obtain ⟨i, h1, hi, rfl, hr, hB⟩ := hrel
    have HR := Lib.hid hr; clear hr
    by_cases hlt : i < l.length
    · obtain ⟨x, hx⟩ : ∃ x, l[i - 1]? = some x := ⟨_, List.getElem?_eq_getElem (by omega)⟩
      obtain ⟨y, hy⟩ : ∃ y, l[i]? = some y := ⟨_, List.getElem?_eq_getElem hlt⟩
      have hS := HL.out.below hB
      obtain ⟨b, off, rfl, hb, -, hcx⟩ := hS.at_ (i - 1) x hx
      obtain ⟨b', off', he, -, -, hcy⟩ := hS.at_ i y hy
      injection he with he
      injection he with e1 e2
      subst e1; subst e2
      obtain ⟨p, ep⟩ : ∃ p, i - 1 = p := ⟨_, rfl⟩
      rw [ep] at hcx
      have hw : IntKind.i64.wrap ((i : Int) - 1) = (p : Int) := by rw [IntWalk.i64_in _ (by omega)]; omega
      have hpl : p < l.length := by omega
      clear hS
      have HEP := Lib.hid ep; clear ep
      have HX := Lib.hid hcx; clear hcx
      have HY := Lib.hid hcy; clear hcy
      go_wp2
      refine wp_region_still_tail 9 (by kernel_rfl) (by kernel_rfl) ?_
      simp only [List.take_succ_cons, List.take_zero, List.drop_succ_cons, List.drop_zero]
      repeat (first
        | (refine still_load rfl 66 (.tmp 13) rfl b _ rfl (idc x) _ HX.out Tryz.underlying66 rfl (by rw [idc_length]; exact id_size) ?_)
        | (refine still_load rfl 66 (.tmp 17) rfl b _ rfl (idc y) _ HY.out Tryz.underlying66 rfl (by rw [idc_length]; exact id_size) ?_)
        | still_step)
      refine wpStill_nil ?_
      change wpList _ _ _ _ _ wr.drew
      have hBd : Below w.heap.size w wr.drew := hB.drew
      generalize wr.drew = wd at hBd
      go_wp2_with (go_at_call 118; refine (headerCompare_any _ x y).mono ?_; rintro e w2 ⟨rfl, hm2⟩; have hB2 := hBd.trans (hm2.below.mono hBd.size))
      · have hc0 : 0 ≤ cmpI x y := by assumption
        have hf : riseB l = false := by
          rw [Bool.eq_false_iff]
          intro ht
          have := (riseB_iff l).1 ht p x y (by rw [← HEP.out]; exact hx) (by rw [show p + 1 = i by have := HEP.out; omega]; exact hy)
          omega
        go_ret
        exact ⟨by rw [hf]; rfl, hB2⟩
      · have hc0 : cmpI x y < 0 := by assumption
        go_roundw
        case rel =>
          refine ⟨i + 1, by omega, by omega, by go_num, fun j a b hj ha hb => ?_, hB2⟩
          by_cases hjp : j = p
          · rw [hjp] at ha hb
            have e1 : x = a := by rw [HEP.out, ha] at hx; exact (Option.some.inj hx).symm
            have e2 : y = b := by rw [show p + 1 = i by have := HEP.out; omega, hy] at hb; exact Option.some.inj hb
            rw [← e1, ← e2]; exact hc0
          · exact HR.out j a b (by have := HEP.out; omega) ha hb
        case measure => simp [intOf]; omega
    · have ht : riseB l = true := (riseB_iff l).2 fun j a b ha hb => HR.out j a b (by have := (List.getElem?_eq_some_iff.1 hb).1; omega) ha hb
      go_wp2
      go_ret
      exact ⟨by rw [ht]; rfl, hB⟩
end Go.Proofs.YtcohdfkdhdhegaaGreatDoor
