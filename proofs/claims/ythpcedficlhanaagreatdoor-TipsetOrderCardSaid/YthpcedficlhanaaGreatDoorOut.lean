/- strings.Builder inside a variable of type T (a Builder's own, or codec.Out's): copyCheck, WriteByte, WriteString, Write, String. The proofs follow the library's own contracts, for a Builder that is a struct's first field. -/
import Derived.Test.YthpcedficlhanaaGreatDoorId
import Derived.Lib.Builder
import Derived.Lib.UnsafeStr
import Derived.Lib.AppendStr
import Derived.Lib.Strings
import Derived.Shelf.Strings.Builder1
import Derived.Laws.IdiomCopy
namespace Go.Proofs.YthpcedficlhanaaGreatDoor
open Go.RowKit

theorem byte_info : (Tryz.prog.info? 5).map (fun i => (i.zero, i.size, i.bytes)) = some (some (.int .u8 0), 1, 1) := by kernel_rfl
theorem byte_cells : Tryz.prog.cellsOf 5 = 1 := by kernel_rfl
theorem builder_size : (Tryz.prog.info? 166).map (·.size) = some 2 := by kernel_rfl
/-- A type whose first field is a Builder, of two cells. -/
def BT (T : TypeId) : Prop := liesAt Tryz.prog Tryz.prog.depth T (2 / Tryz.prog.cellsOf T) 0 166 1 = true ∧ T ≠ 5
theorem bt_builder : BT 166 := ⟨by kernel_rfl, by decide⟩
theorem bt_out : BT 217 := ⟨by kernel_rfl, by decide⟩

/-- A Builder at block b that holds the bytes l. -/
def BufAt (T : TypeId) (B b : Nat) (l : List UInt8) (w : World) : Prop := ∃ p, (p = .pointer none ∨ p = .pointer (some ⟨b, 0, none⟩)) ∧ Lib.BuilderAt T 5 B b p (Lib.byteCells l) w
def UsedAt (T : TypeId) (B b : Nat) (l : List UInt8) (w : World) : Prop := Lib.BuilderAt T 5 B b (.pointer (some ⟨b, 0, none⟩)) (Lib.byteCells l) w
theorem UsedAt.buf {T : TypeId} {B b : Nat} {l : List UInt8} {w : World} (h : UsedAt T B b l w) : BufAt T B b l w := ⟨_, .inr rfl, h⟩

set_option maxRecDepth 100000 in
set_option maxHeartbeats 1000000 in
theorem copyCheck_used (b : Nat) (w : World) (h0 : w.cell? ⟨b, 0, none⟩ = some (.pointer (some ⟨b, 0, none⟩))) :
    Calls Tryz.prog 164 #[.pointer (some ⟨b, 0, none⟩)] w fun e w' => e = .returned (.tuple #[]) ∧ w' = w := by
  obtain ⟨j, hj, _⟩ := Option.map_eq_some_iff.1 builder_size
  go_enter Tryz.func164, Tryz.ntmps164
  go_wp2
  rw [Lib.run_neq_ptr_same w _ Tryz.underlying164 hj]
  go_wp2
  go_end0
  exact ⟨rfl, rfl⟩

set_option maxRecDepth 100000 in
set_option maxHeartbeats 1000000 in
theorem copyCheck_fresh (T : TypeId) (hT : BT T) (b : Nat) (w : World) (h0 : w.cell? ⟨b, 0, none⟩ = some (.pointer none)) (hsh : w.shape? b = some (T, 2)) (hfz : w.frozen? ⟨b, 0, none⟩ = false) :
    Calls Tryz.prog 164 #[.pointer (some ⟨b, 0, none⟩)] w fun e w' => e = .returned (.tuple #[]) ∧ w' = w.setCell ⟨b, 0, none⟩ (.pointer (some ⟨b, 0, none⟩)) := by
  obtain ⟨j, hj, hjs⟩ := Option.map_eq_some_iff.1 builder_size
  have HT := Lib.hid hT.1
  clear hT
  go_enter Tryz.func164, Tryz.ntmps164
  go_wp2
  rw [Lib.run_to_unsafe w ⟨b, 0, none⟩ Tryz.underlying164 Tryz.underlying261 hj (by rw [hjs]; decide) hsh (Nat.zero_lt_succ 1)]
  simp only [Result.andThen]
  rw [Oper.upon_value]
  go_wp2
  rw [run_callFunc_extern Tryz.func198 (by kernel_rfl) (by kernel_rfl) (by kernel_rfl) (e := Extern.AbiNoEscape.same) (by kernel_rfl)]
  rw [Lib.run_noEscape]
  simp only [Result.andThen]
  rw [Oper.upon_value]
  go_wp2
  rw [Lib.run_from_unsafe w ⟨b, 0, none⟩ Tryz.underlying261 Tryz.underlying164 hj hsh HT.out]
  simp only [Result.andThen]
  rw [Oper.upon_value]
  go_wp2
  go_end0
  exact ⟨rfl, rfl⟩

theorem copyCheck_any (T : TypeId) (hT : BT T) (B b : Nat) (l : List UInt8) (w : World) (h : BufAt T B b l w) :
    Calls Tryz.prog 164 #[.pointer (some ⟨b, 0, none⟩)] w fun e w' => e = .returned (.tuple #[]) ∧ UsedAt T B b l w' ∧ Below B w w' ∧ ∀ k, k ≠ b → w'.heap[k]? = w.heap[k]? := by
  obtain ⟨p, rfl | rfl, h⟩ := h
  · refine (copyCheck_fresh T hT b w h.cell0 h.shape h.frozen0).mono ?_
    rintro e w' ⟨rfl, rfl⟩
    exact ⟨rfl, h.used _, (Below.refl B w).setCell (p := ⟨b, 0, none⟩) h.1 _, fun k hk => Below.heap_setCell _ _ _ _ (fun e => hk e)⟩
  · refine (copyCheck_used b w h.cell0).mono ?_
    rintro e w' ⟨rfl, rfl⟩
    exact ⟨rfl, h, Below.refl _ _, fun _ _ => rfl⟩

theorem buf_after {T : TypeId} {b : Nat} {p v : Value} {w1 w2 : World} (hbk : w1.heap[b]? = some (.cells #[p, v] T (0, 0))) (hne : v.ownBlock ≠ some b) (hgrow : w1.grownBy w2 v.ownBlock) :
    w2.heap[b]? = some (.cells #[p, v] T (0, 0)) ∧ w2.cell? ⟨b, 1, none⟩ = some v ∧ w2.frozen? ⟨b, 1, none⟩ = false := by
  have hlt : b < w1.heap.size := (Array.getElem?_eq_some_iff.1 hbk).1
  have hb2 : w2.heap[b]? = some (.cells #[p, v] T (0, 0)) := by
    rw [hgrow.block b hlt (fun e => hne e.symm)]
    exact hbk
  exact ⟨hb2, by rw [Lib.cell_of_heap hb2]; rfl, Lib.frozen_of_heap hb2 1⟩

theorem bytes_snoc (l : List UInt8) (c : UInt8) : Lib.byteCells (l ++ [c]) = Lib.byteCells l ++ [.int .u8 (c.toNat : Int)] := by simp [Lib.byteCells]

set_option maxRecDepth 100000 in
set_option maxHeartbeats 2000000 in
theorem writeByte_any (T : TypeId) (hT : BT T) (B b : Nat) (l : List UInt8) (c : UInt8) (w : World) (h : BufAt T B b l w) (hlen : l.length + 1 ≤ 140737488355328) (hBw : B ≤ w.heap.size) :
    Calls Tryz.prog 189 #[.pointer (some ⟨b, 0, none⟩), .int .u8 (c.toNat : Int)] w fun e w' => e = .returned .nilIface ∧ UsedAt T B b (l ++ [c]) w' ∧ Below B w w' := by
  have HT := Lib.hid hT
  clear hT
  go_enter Tryz.func189, Tryz.ntmps189
  go_wp2_with (go_at_call 164; refine (copyCheck_any T HT.out B b l _ h).mono ?_)
  rintro e w1 ⟨rfl, h1, hb1, -⟩
  obtain ⟨hB, v, hbk, hown, hne⟩ := h1
  rw [Lib.byteCells_length] at hown
  have hs1 := hb1.size
  have c0 : w1.cell? ⟨b, 0, none⟩ = some (.pointer (some ⟨b, 0, none⟩)) := by rw [Lib.cell_of_heap hbk]; rfl
  have c1 : w1.cell? ⟨b, 1, none⟩ = some v := by rw [Lib.cell_of_heap hbk]; rfl
  go_wp2_with (at_builtin; refine wpl_app1 #[.int .u8 (c.toNat : Int)] B rfl (.tmp 11) (.tmp 13) 133 5 (.int .u8 0) 1 1 rfl Tryz.underlying133 byte_info rfl (by decide) (by decide) v l.length _ rfl rfl rfl (by simp [Value.oneCell']) hown (by omega) (by omega) ?_; intro v' w2 hown' hgrow hat; obtain ⟨hb2, d1, f1⟩ := buf_after hbk hne hgrow; obtain ⟨g, cap, rfl, hgb, hgl⟩ := hown'.form (by omega))
  go_ret
  refine ⟨rfl, ?_, ?_⟩
  · rw [← bytes_snoc] at hown'
    exact Lib.BuilderAt.put (T := T) (e := 5) hB hb2 (bs' := Lib.byteCells (l ++ [c])) (by simpa [Lib.byteCells_length] using hown') HT.out.2
  · exact (hb1.grown hgrow (by omega) (fun k hk => (hown.lt k hk).1)).setCell (p := ⟨b, 1, none⟩) hB _

theorem bytes_app (l m : List UInt8) : Lib.byteCells (l ++ m) = Lib.byteCells l ++ Lib.byteCells m := by simp [Lib.byteCells]

set_option maxRecDepth 100000 in
set_option maxHeartbeats 2000000 in
theorem writeString_any (T : TypeId) (hT : BT T) (B b : Nat) (l : List UInt8) (s : ByteArray) (w : World) (h : BufAt T B b l w) (hlen : l.length + s.size ≤ 140737488355328) (hBw : B ≤ w.heap.size) :
    Calls Tryz.prog 186 #[.pointer (some ⟨b, 0, none⟩), .string s] w fun e w' => e = .returned (.tuple #[.int .i64 s.size, .nilIface]) ∧ UsedAt T B b (l ++ s.data.toList) w' ∧ Below B w w' := by
  obtain ⟨i0, hi, hz0, hz1, hz2⟩ := info_parts byte_info
  have HT := Lib.hid hT
  clear hT
  go_enter Tryz.func186, Tryz.ntmps186
  go_wp2_with (go_at_call 164; refine (copyCheck_any T HT.out B b l _ h).mono ?_)
  rintro e w1 ⟨rfl, h1, hb1, -⟩
  obtain ⟨hB, v, hbk, hown, hne⟩ := h1
  rw [Lib.byteCells_length] at hown
  have hs1 := hb1.size
  have c0 : w1.cell? ⟨b, 0, none⟩ = some (.pointer (some ⟨b, 0, none⟩)) := by rw [Lib.cell_of_heap hbk]; rfl
  have c1 : w1.cell? ⟨b, 1, none⟩ = some v := by rw [Lib.cell_of_heap hbk]; rfl
  go_wp2_with (at_builtin; refine Lib.wpList_append_own_string _ rfl _ _ 133 9 rfl B 5 i0 Tryz.underlying133 Tryz.underlying9 hi hz0 hz1 hz2 _ _ _ rfl hown s rfl (by unfold maxLen; omega) (by omega) (by omega) ?_; intro v' w2 hown' hgrow hnn; obtain ⟨hb2, d1, f1⟩ := buf_after hbk hne hgrow; obtain ⟨A', cap, rfl, -⟩ := own_slice hown')
  go_ret2
  refine ⟨rfl, ?_, ?_⟩
  · refine Lib.BuilderAt.put (T := T) (e := 5) hB hb2 (bs' := Lib.byteCells (l ++ s.data.toList)) ?_ HT.out.2
    have : (Lib.byteCells (l ++ s.data.toList)).length = l.length + s.size := by simp [Lib.byteCells_length]
    rw [this, bytes_app]
    exact hown'
  · exact (hb1.grown hgrow (by omega) (fun k hk => (hown.lt k hk).1)).setCell (p := ⟨b, 1, none⟩) hB _

set_option maxRecDepth 100000 in
set_option maxHeartbeats 2000000 in
theorem write_any (T : TypeId) (hT : BT T) (B b : Nat) (l : List UInt8) (x : ByteArray) (pb po n c : Nat) (w : World) (hn : x.size = n) (hx : BytesAt w pb po x) (hpb : pb ≠ b) (h : BufAt T B b l w) (hlen : l.length + n ≤ 140737488355328) (hBw : B ≤ w.heap.size) :
    Calls Tryz.prog 116 #[.pointer (some ⟨b, 0, none⟩), .slice (some ⟨pb, po, none⟩) n c] w fun e w' => e = .returned (.tuple #[.int .i64 n, .nilIface]) ∧ UsedAt T B b (l ++ x.data.toList) w' ∧ Below B w w' := by
  obtain ⟨i0, hi, hz0, hz1, hz2⟩ := info_parts byte_info
  have HT := Lib.hid hT
  have HX := Lib.hid hx
  have HN := Lib.hid hn
  clear hT hx hn
  go_enter Tryz.func116, Tryz.ntmps116
  go_wp2_with (go_at_call 164; refine (copyCheck_any T HT.out B b l _ h).mono ?_)
  rintro e w1 ⟨rfl, h1, hb1, hk1⟩
  obtain ⟨hB, v, hbk, hown, hne⟩ := h1
  rw [Lib.byteCells_length] at hown
  have hs1 := hb1.size
  have c0 : w1.cell? ⟨b, 0, none⟩ = some (.pointer (some ⟨b, 0, none⟩)) := by rw [Lib.cell_of_heap hbk]; rfl
  have c1 : w1.cell? ⟨b, 1, none⟩ = some v := by rw [Lib.cell_of_heap hbk]; rfl
  have HS : Hid (∀ j u, (bytesC x)[j]? = some u → w1.cell? ((⟨pb, po, none⟩ : Addr).add j) = some u) := fun j u hu => by
    rw [add_off]
    exact (World.cell?_of_block (a := ⟨pb, po + j, none⟩) (hk1 pb hpb)).trans (HX.out j u hu)
  go_wp2_with (at_builtin; refine wpList_append_own_at _ rfl (.tmp 12) (.tmp 13) 133 rfl B 5 i0 (.int .u8 0) 1 1 Tryz.underlying133 hi hz0 hz1 hz2 rfl (by decide) v l.length _ rfl hown ⟨pb, po, none⟩ n c (bytesC x) rfl (by rw [bytesC_length, HN.out]; omega) HS.out (bytesC_one x) (by unfold maxLen; omega) (by omega) (by omega) ?_; intro v' w2 hown' hgrow hnn hat; obtain ⟨hb2, d1, f1⟩ := buf_after hbk hne hgrow; obtain ⟨A', cap, rfl, -⟩ := own_slice hown')
  go_ret2
  refine ⟨rfl, ?_, ?_⟩
  · refine Lib.BuilderAt.put (T := T) (e := 5) hB hb2 (bs' := Lib.byteCells (l ++ x.data.toList)) ?_ HT.out.2
    have : (Lib.byteCells (l ++ x.data.toList)).length = l.length + n := by simp [Lib.byteCells_length, HN.out]
    rw [this, bytes_app]
    exact hown'
  · exact (hb1.grown hgrow (by omega) (fun k hk => (hown.lt k hk).1)).setCell (p := ⟨b, 1, none⟩) hB _

set_option maxRecDepth 100000 in
set_option maxHeartbeats 1000000 in
theorem builderString_any (T : TypeId) (B b : Nat) (l : List UInt8) (w : World) (h : BufAt T B b l w) (h0 : l ≠ []) :
    Calls Tryz.prog 117 #[.pointer (some ⟨b, 0, none⟩)] w fun e w' => e = .returned (.string ⟨l.toArray⟩) ∧ Below B w w' := by
  obtain ⟨p, -, hB, v, hbk, hown, hne⟩ := h
  have hl0 : l.length ≠ 0 := by simpa using h0
  rw [Lib.byteCells_length] at hown
  obtain ⟨g, cap, cur, rfl, hbg, hg, hnc, hcm, hcs, htake⟩ : ∃ g cap cur, v = .slice (some ⟨g, 0, none⟩) l.length cap ∧ B ≤ g ∧ w.heap[g]? = some (.cells cur 5 (0, 0)) ∧ l.length ≤ cap ∧ cap ≤ maxLen ∧ cur.size = cap * 1 ∧ cur.toList.take (l.length * 1) = Lib.byteCells l := by
    rcases hown.2 with ⟨_, hz⟩ | ⟨g, cap, cur, hv, r⟩
    · exact absurd hz hl0
    · exact ⟨g, cap, cur, hv, r⟩
  have c1 : w.drew.cell? ⟨b, 1, none⟩ = some (.slice (some ⟨g, 0, none⟩) l.length cap) := by
    have : w.drew.heap[b]? = some (.cells #[p, .slice (some ⟨g, 0, none⟩) l.length cap] T (0, 0)) := hbk
    rw [Lib.cell_of_heap this]; rfl
  have hSD : (Builtin.unsafeSliceData_ #[133] 222 #[.slice (some ⟨g, 0, none⟩) l.length cap]).run Tryz.prog w.drew = .ok (.pointer (some ⟨g, 0, none⟩)) w.drew :=
    Lib.run_unsafeSliceData_row _ _ _ _ _ _ (by omega)
  have hUS : (Builtin.unsafeString_ #[222, 3] 9 #[.pointer (some ⟨g, 0, none⟩), .int .i64 l.length]).run Tryz.prog w.drew = .ok (.string ⟨l.toArray⟩) (w.drew.freeze ⟨g, 0, none⟩ l.length) := by
    refine Lib.run_unsafeString_row w.drew 222 3 9 5 Tryz.underlying222 byte_cells g cur.size (by have hg' : w.drew.heap[g]? = some (.cells cur 5 (0, 0)) := hg; simp [World.shape?, hg']) l h0 (by omega) (by unfold maxLen at hcm; omega) ?_
    intro j x hx
    have := hown.cells (g := g) rfl j (.int .u8 x.toNat) (by simp [Lib.byteCells, hx])
    exact this
  clear hown htake
  go_enter Tryz.func117, Tryz.ntmps117
  go_wp2
  go_region
  all_goals (go_wp2; go_ret; exact ⟨rfl, Lib.below_freeze (Below.drew (Below.refl B w)) (p := ⟨g, 0, none⟩) hbg _⟩)

/-- A fresh Builder. -/
theorem buf_new (T : TypeId) (w : World) (B : Nat) (hB : B ≤ w.heap.size) : BufAt T B w.heap.size [] (w.alloc (.cells #[.pointer none, .slice none 0 0] T)) :=
  ⟨_, .inl rfl, hB, _, heap_alloc_new w _, World.ownsRow_nil _ _ _ _, by simp [Value.ownBlock]⟩
theorem UsedAt.below {T : TypeId} {B b : Nat} {l : List UInt8} {w w' : World} (h : UsedAt T B b l w) (hb : Below w.heap.size w w') : UsedAt T B b l w' := by
  obtain ⟨hB, v, hbk, hown, hne⟩ := h
  exact ⟨hB, v, (hb.block b (Array.getElem?_eq_some_iff.1 hbk).1).trans hbk, own_below hown hb, hne⟩
theorem BufAt.below {T : TypeId} {B b : Nat} {l : List UInt8} {w w' : World} (h : BufAt T B b l w) (hb : Below w.heap.size w w') : BufAt T B b l w' := by
  obtain ⟨p, hp, hB, v, hbk, hown, hne⟩ := h
  exact ⟨p, hp, hB, v, (hb.block b (Array.getElem?_eq_some_iff.1 hbk).1).trans hbk, own_below hown hb, hne⟩
theorem BufAt.lt {T : TypeId} {B b : Nat} {l : List UInt8} {w : World} (h : BufAt T B b l w) : B ≤ b ∧ b < w.heap.size := by
  obtain ⟨p, hp, hB, v, hbk, -⟩ := h
  exact ⟨hB, (Array.getElem?_eq_some_iff.1 hbk).1⟩
end Go.Proofs.YthpcedficlhanaaGreatDoor
