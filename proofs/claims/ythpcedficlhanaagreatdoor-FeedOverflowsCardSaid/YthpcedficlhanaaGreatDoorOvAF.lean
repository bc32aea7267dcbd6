/- Blocks: how they lie; tipset.Make. slices.Clone, SortFunc, ContainsFunc of blocks, laid at this translation's own numbers. Blocks compared, cloned, sorted; tipset.fits. Regions that draw their order, by hand: more laws. -/
import Derived.Test.YthpcedficlhanaaGreatDoorOvAE
import Derived.Laws.Tables
import Derived.Test.YthpcedficlhanaaGreatDoorProg
import Derived.Shelf.SlicesE.Clone
import Derived.Shelf.SlSortCmp.NoneTotal
import Derived.Shelf.SlicesQ.IndexFunc
namespace Go.Proofs.YthpcedficlhanaaGreatDoor
open Go.RowKit

/-- A block: its name, its header. -/
structure LB where
  id : ID
  x : LH
def LB.cells (b : LB) : List Value := idc b.id ++ b.x.cells
theorem LB.cells_length (b : LB) : b.cells.length = 39 := by simp [LB.cells, idc_length, LH.cells]
instance : Inhabited LH := ⟨genL⟩
instance : Inhabited LB := ⟨⟨default, default⟩⟩
theorem LB.cells_one (b : LB) : ∀ u ∈ b.cells, u.oneCell' = true := by
  intro u hu
  rcases List.mem_append.1 hu with h | h
  · exact idE.one b.id u h
  · exact b.x.cells_one u h
def lbE : Enc LB := { enc := LB.cells, k := 39, hk := LB.cells_length, one := LB.cells_one, k0 := by decide }
theorem block_size : (Tryz.prog.info? 40).map (·.size) = some 39 := by kernel_rfl

theorem idc_32 (x : ID) : ∃ a0 a1 a2 a3 a4 a5 a6 a7 a8 a9 a10 a11 a12 a13 a14 a15 a16 a17 a18 a19 a20 a21 a22 a23 a24 a25 a26 a27 a28 a29 a30 a31 : Value, idc x = [a0, a1, a2, a3, a4, a5, a6, a7, a8, a9, a10, a11, a12, a13, a14, a15, a16, a17, a18, a19, a20, a21, a22, a23, a24, a25, a26, a27, a28, a29, a30, a31] := by
  obtain ⟨⟨⟨l⟩⟩, hl⟩ := x
  have hl : l.length = 32 := hl
  obtain _ | ⟨a0, l⟩ := l
  · exact absurd hl (by simp)
  obtain _ | ⟨a1, l⟩ := l
  · exact absurd hl (by simp)
  obtain _ | ⟨a2, l⟩ := l
  · exact absurd hl (by simp)
  obtain _ | ⟨a3, l⟩ := l
  · exact absurd hl (by simp)
  obtain _ | ⟨a4, l⟩ := l
  · exact absurd hl (by simp)
  obtain _ | ⟨a5, l⟩ := l
  · exact absurd hl (by simp)
  obtain _ | ⟨a6, l⟩ := l
  · exact absurd hl (by simp)
  obtain _ | ⟨a7, l⟩ := l
  · exact absurd hl (by simp)
  obtain _ | ⟨a8, l⟩ := l
  · exact absurd hl (by simp)
  obtain _ | ⟨a9, l⟩ := l
  · exact absurd hl (by simp)
  obtain _ | ⟨a10, l⟩ := l
  · exact absurd hl (by simp)
  obtain _ | ⟨a11, l⟩ := l
  · exact absurd hl (by simp)
  obtain _ | ⟨a12, l⟩ := l
  · exact absurd hl (by simp)
  obtain _ | ⟨a13, l⟩ := l
  · exact absurd hl (by simp)
  obtain _ | ⟨a14, l⟩ := l
  · exact absurd hl (by simp)
  obtain _ | ⟨a15, l⟩ := l
  · exact absurd hl (by simp)
  obtain _ | ⟨a16, l⟩ := l
  · exact absurd hl (by simp)
  obtain _ | ⟨a17, l⟩ := l
  · exact absurd hl (by simp)
  obtain _ | ⟨a18, l⟩ := l
  · exact absurd hl (by simp)
  obtain _ | ⟨a19, l⟩ := l
  · exact absurd hl (by simp)
  obtain _ | ⟨a20, l⟩ := l
  · exact absurd hl (by simp)
  obtain _ | ⟨a21, l⟩ := l
  · exact absurd hl (by simp)
  obtain _ | ⟨a22, l⟩ := l
  · exact absurd hl (by simp)
  obtain _ | ⟨a23, l⟩ := l
  · exact absurd hl (by simp)
  obtain _ | ⟨a24, l⟩ := l
  · exact absurd hl (by simp)
  obtain _ | ⟨a25, l⟩ := l
  · exact absurd hl (by simp)
  obtain _ | ⟨a26, l⟩ := l
  · exact absurd hl (by simp)
  obtain _ | ⟨a27, l⟩ := l
  · exact absurd hl (by simp)
  obtain _ | ⟨a28, l⟩ := l
  · exact absurd hl (by simp)
  obtain _ | ⟨a29, l⟩ := l
  · exact absurd hl (by simp)
  obtain _ | ⟨a30, l⟩ := l
  · exact absurd hl (by simp)
  obtain _ | ⟨a31, l⟩ := l
  · exact absurd hl (by simp)
  obtain _ | ⟨b, l⟩ := l
  · exact ⟨_, _, _, _, _, _, _, _, _, _, _, _, _, _, _, _, _, _, _, _, _, _, _, _, _, _, _, _, _, _, _, _, rfl⟩
  · exact absurd hl (by simp)

theorem built_block (id : ID) (x : LH) : Tryz.prog.built 40 [(0, .agg (idc id).toArray), (1, .agg x.cells.toArray)] = some (LB.cells ⟨id, x⟩).toArray := by
  obtain ⟨a0, a1, a2, a3, a4, a5, a6, a7, a8, a9, a10, a11, a12, a13, a14, a15, a16, a17, a18, a19, a20, a21, a22, a23, a24, a25, a26, a27, a28, a29, a30, a31, h⟩ := idc_32 id
  show Tryz.prog.built _ [(0, .agg (idc id).toArray), (1, .agg x.cells.toArray)] = some (idc id ++ x.cells).toArray
  rw [h]
  kernel_rfl

set_option maxRecDepth 100000 in
set_option maxHeartbeats 2000000 in
theorem make_any (w : World) (x : LH) (ok : Nat → Prop) (hx : x.At ok w) (hok : x.h.Ok) (ht : Tab w) :
    Calls Tryz.prog 91 #[.agg x.cells.toArray] w fun e w' => ∃ y : LH, y.h = x.h ∧ e = .returned (.agg (LB.cells ⟨hdrID x.h, y⟩).toArray) ∧ y.At (fun k => w.heap.size ≤ k) w' ∧ Below w.heap.size w w' := by
  obtain ⟨⟨height, miner, ticket, wins, power, parents, salt⟩, A, c⟩ := x
  have HX : Hid (Sl idE ok w (.slice A parents.length c) parents) := hx
  have HOK := Lib.hid hok
  have HT := Lib.hid ht
  have hpl : parents.length ≤ 4294967296 := by have h : parents.length ≤ 1048576 := hok.parents; omega
  clear hx hok ht
  obtain ⟨H, hH⟩ : ∃ H : Hdr, H = ⟨height, miner, ticket, wins, power, parents, salt⟩ := ⟨_, rfl⟩
  rw [← hH] at HOK
  have HH := Lib.hid hH
  change Calls _ _ #[.agg #[.int .i64 height, .int .i64 miner, .string ticket, .int .i64 wins, .int .u64 power, .slice A parents.length c, .int .i64 salt]] w fun e w' => ∃ y : LH, y.h = ⟨height, miner, ticket, wins, power, parents, salt⟩ ∧ e = .returned (.agg (LB.cells ⟨hdrID ⟨height, miner, ticket, wins, power, parents, salt⟩, y⟩).toArray) ∧ y.At (fun k => w.heap.size ≤ k) w' ∧ Below w.heap.size w w'
  rw [← hH]
  clear hH
  have hB0 : Below w.heap.size w ((w.alloc (.cells #[.int .i64 height, .int .i64 miner, .string ticket, .int .i64 wins, .int .u64 power, .slice A parents.length c, .int .i64 salt] 38)).alloc (.cells (LB.cells ⟨⟨⟨(List.replicate 32 0).toArray⟩, by rfl⟩, ⟨⟨0, 0, ⟨#[]⟩, 0, 0, [], 0⟩, none, 0⟩⟩).toArray 40)) := ((Below.refl _ w).alloc (Nat.le_refl _) _).alloc (by simp) _
  have hg0 : ((w.alloc (.cells #[.int .i64 height, .int .i64 miner, .string ticket, .int .i64 wins, .int .u64 power, .slice A parents.length c, .int .i64 salt] 38)).alloc (.cells (LB.cells ⟨⟨⟨(List.replicate 32 0).toArray⟩, by rfl⟩, ⟨⟨0, 0, ⟨#[]⟩, 0, 0, [], 0⟩, none, 0⟩⟩).toArray 40)).heap[w.heap.size]? = some (.cells #[.int .i64 height, .int .i64 miner, .string ticket, .int .i64 wins, .int .u64 power, .slice A parents.length c, .int .i64 salt] 38 (0, 0)) := by
    rw [heap_alloc_if, if_neg (by simp), heap_alloc_if, if_pos rfl]
  have hg1 : ((w.alloc (.cells #[.int .i64 height, .int .i64 miner, .string ticket, .int .i64 wins, .int .u64 power, .slice A parents.length c, .int .i64 salt] 38)).alloc (.cells (LB.cells ⟨⟨⟨(List.replicate 32 0).toArray⟩, by rfl⟩, ⟨⟨0, 0, ⟨#[]⟩, 0, 0, [], 0⟩, none, 0⟩⟩).toArray 40)).heap[w.heap.size + 1]? = some (.cells (LB.cells ⟨⟨⟨(List.replicate 32 0).toArray⟩, by rfl⟩, ⟨⟨0, 0, ⟨#[]⟩, 0, 0, [], 0⟩, none, 0⟩⟩).toArray 40 (0, 0)) := by
    rw [heap_alloc_if, if_pos (by simp)]
  have HB0 := Lib.hid hB0
  have HG0 := Lib.hid hg0
  have HG1 := Lib.hid hg1
  clear hB0 hg0 hg1
  go_enter Tryz.func91, Tryz.ntmps91
  go_wp2_with (go_at_call 98; refine (clone_id _ (.slice A parents.length c) parents ok (HX.out.below HB0.out) hpl).mono ?_; rintro e w1 ⟨v1, rfl, ho1, hb1⟩; obtain ⟨A1, c1, rfl, hc1⟩ := own_slice ho1; have HO1 := Lib.hid ho1; have HK0 : Hid (w1.heap[w.heap.size]? = some (.cells #[.int .i64 height, .int .i64 miner, .string ticket, .int .i64 wins, .int .u64 power, .slice A parents.length c, .int .i64 salt] 38 (0, 0))) := (hb1.block _ (by simp only [World.size_alloc]; omega)).trans HG0.out; have HK1 : Hid (w1.heap[w.heap.size + 1]? = some (.cells (LB.cells ⟨⟨⟨(List.replicate 32 0).toArray⟩, by rfl⟩, ⟨⟨0, 0, ⟨#[]⟩, 0, 0, [], 0⟩, none, 0⟩⟩).toArray 40 (0, 0))) := (hb1.block _ (by simp only [World.size_alloc]; omega)).trans HG1.out; have HB1 : Hid (Below w.heap.size w w1) := HB0.out.trans (hb1.mono HB0.out.size); have hc5 : w1.cell? ⟨w.heap.size, 5, none⟩ = some (.slice A parents.length c) := cell_block HK0.out rfl; have hf5 : w1.frozen? ⟨w.heap.size, 5, none⟩ = false := Lib.frozen_of_heap HK0.out 5; clear ho1 hb1)
  have hyc : ∀ i u, (#[Value.int .i64 height, .int .i64 miner, .string ticket, .int .i64 wins, .int .u64 power, .slice A1 parents.length c1, .int .i64 salt] : Array Value)[i]? = some u → (w1.setCell ⟨w.heap.size, 5, none⟩ (.slice A1 parents.length c1)).cell? ⟨w.heap.size, i, none⟩ = some u := fun i u hu =>
    cell_block (heap_setCell_at w1 w.heap.size 5 _ _ _ (.slice A1 parents.length c1) HK0.out) hu
  have hz1 : w.heap.size + 1 < w1.heap.size := (Array.getElem?_eq_some_iff.1 HK1.out).1
  have hkz : (w1.setCell ⟨w.heap.size, 5, none⟩ (.slice A1 parents.length c1)).heap[w.heap.size + 1]? = some (.cells (LB.cells ⟨⟨⟨(List.replicate 32 0).toArray⟩, by rfl⟩, ⟨⟨0, 0, ⟨#[]⟩, 0, 0, [], 0⟩, none, 0⟩⟩).toArray 40 (0, 0)) := (Below.heap_setCell _ _ _ _ (by simp)).trans HK1.out
  have hB2 : Below w.heap.size w (w1.setCell ⟨w.heap.size, 5, none⟩ (.slice A1 parents.length c1)) := HB1.out.setCell (p := ⟨w.heap.size, 5, none⟩) (Nat.le_refl _) _
  have hSl : Sl idE (fun k => w.heap.size + 2 ≤ k) (w1.setCell ⟨w.heap.size, 5, none⟩ (.slice A1 parents.length c1)) (.slice A1 parents.length c1) parents := by
    have h1 := Sl.of_own (E := idE) HO1.out
    have h2 : Sl idE (fun k => w.heap.size + 2 ≤ k) w1 (.slice A1 parents.length c1) parents := h1.mono fun k hk => by have := (own_lt HO1.out k hk).1; simp only [World.size_alloc] at this; omega
    exact h2.fr ((Fr.refl _ w1).setCell (p := ⟨w.heap.size, 5, none⟩) (fun h => by have h : w.heap.size + 2 ≤ w.heap.size := h; omega) _)
  generalize w1.setCell ⟨w.heap.size, 5, none⟩ (.slice A1 parents.length c1) = W at hyc hkz hB2 hSl
  have hS0 : W.drew.cell? ⟨w.heap.size, 0, none⟩ = some (.int .i64 height) ∧ W.drew.cell? ⟨w.heap.size, 1, none⟩ = some (.int .i64 miner) ∧ W.drew.cell? ⟨w.heap.size, 2, none⟩ = some (.string ticket) ∧ W.drew.cell? ⟨w.heap.size, 3, none⟩ = some (.int .i64 wins) ∧ W.drew.cell? ⟨w.heap.size, 4, none⟩ = some (.int .u64 power) ∧ W.drew.cell? ⟨w.heap.size, 5, none⟩ = some (.slice A1 parents.length c1) ∧ W.drew.cell? ⟨w.heap.size, 6, none⟩ = some (.int .i64 salt) :=
    ⟨hyc 0 _ rfl, hyc 1 _ rfl, hyc 2 _ rfl, hyc 3 _ rfl, hyc 4 _ rfl, hyc 5 _ rfl, hyc 6 _ rfl⟩
  have hzW : w.heap.size + 1 < W.heap.size := (Array.getElem?_eq_some_iff.1 hkz).1
  have hHok : (⟨height, miner, ticket, wins, power, parents, salt⟩ : Hdr).Ok := by rw [← HH.out]; exact HOK.out
  have hid := id_any W.drew ⟨⟨height, miner, ticket, wins, power, parents, salt⟩, A1, c1⟩ _ hSl hHok (HT.out.below hB2.drew)
  have hid' : Calls Tryz.prog 40 #[.agg #[.int .i64 height, .int .i64 miner, .string ticket, .int .i64 wins, .int .u64 power, .slice A1 parents.length c1, .int .i64 salt]] W.drew fun e w' => e = .returned (.agg (idc (hdrID H)).toArray) ∧ Below W.heap.size W.drew w' := by rw [HH.out]; exact hid
  have HYC : Hid (∀ j u, (LH.cells ⟨⟨height, miner, ticket, wins, power, parents, salt⟩, A1, c1⟩)[j]? = some u → W.drew.cell? ⟨w.heap.size, 0 + j, none⟩ = some u) := fun j u hu => by rw [Nat.zero_add]; exact hyc j u (by simpa [LH.cells, LH.v] using hu)
  have HID := Lib.hid hid'
  have HKZ := Lib.hid hkz
  have HB2 := Lib.hid hB2
  have HSL := Lib.hid hSl
  clear hyc hkz hB2 hSl hid hid' hc5 hf5 HK0 HK1 HB1 HO1 HG0 HG1 HB0
  have hSy : ∀ j u, (LH.cells ⟨⟨height, miner, ticket, wins, power, parents, salt⟩, A1, c1⟩)[j]? = some u → W.drew.cell? ⟨w.heap.size, 0 + j, none⟩ = some u := HYC.out
  have HSY := Lib.hid hSy
  clear hSy
  refine wp_region_held_drew (S := fun w' => ∀ j u, (LH.cells ⟨⟨height, miner, ticket, wins, power, parents, salt⟩, A1, c1⟩)[j]? = some u → w'.cell? ⟨w.heap.size, 0 + j, none⟩ = some u) (by kernel_rfl) HSY.out (fun hHeld => ?_)
  refine wpAnyH_take (i := 0) rfl (by kernel_rfl) (by kernel_rfl) (by kernel_rfl) (fun _ _ _ h => h) (yieldsIf_load rfl 38 (.tmp 1) rfl w.heap.size 0 rfl (LH.cells ⟨⟨height, miner, ticket, wins, power, parents, salt⟩, A1, c1⟩) _ (fun _ h => h) Tryz.underlying38 rfl hdr_size) hHeld ?_
  refine wpAnyH_take (i := 2) rfl (by kernel_rfl) (by kernel_rfl) (by kernel_rfl) (fun _ _ _ h => h) (yieldsIf_load rfl 38 (.tmp 1) rfl w.heap.size 0 rfl (LH.cells ⟨⟨height, miner, ticket, wins, power, parents, salt⟩, A1, c1⟩) _ (fun _ h => h) Tryz.underlying38 rfl hdr_size) hHeld ?_
  refine wpAnyH_seqI [1, 3, 4] _ _ _ (by kernel_rfl) ?_
  refine wpOp_call rfl rfl 40 _ (by kernel_rfl) HID.out ?_
  rintro e w3 ⟨rfl, hb3⟩
  have hS3 : ∀ j u, (LH.cells ⟨⟨height, miner, ticket, wins, power, parents, salt⟩, A1, c1⟩)[j]? = some u → w3.cell? ⟨w.heap.size, 0 + j, none⟩ = some u := fun j u hu => (hb3.cell (p := ⟨w.heap.size, 0 + j, none⟩) (by show w.heap.size < W.heap.size; omega)).trans (HSY.out j u hu)
  have hk3 : w3.heap[w.heap.size + 1]? = some (.cells (LB.cells ⟨⟨⟨(List.replicate 32 0).toArray⟩, by rfl⟩, ⟨⟨0, 0, ⟨#[]⟩, 0, 0, [], 0⟩, none, 0⟩⟩).toArray 40 (0, 0)) := (hb3.block _ hzW).trans HKZ.out
  refine ⟨_, rfl, hS3, ?_⟩
  refine wpOp_value rfl rfl (.agg (LB.cells ⟨hdrID H, ⟨⟨height, miner, ticket, wins, power, parents, salt⟩, A1, c1⟩⟩).toArray) w3 (exec_build 40 [(0, .tmp 8), (1, .tmp 9)] rfl [(0, .agg (idc (hdrID H)).toArray), (1, .agg (LH.cells ⟨⟨height, miner, ticket, wins, power, parents, salt⟩, A1, c1⟩).toArray)] rfl _ (run_build w3 40 _ _ (built_block (hdrID H) ⟨⟨height, miner, ticket, wins, power, parents, salt⟩, A1, c1⟩))) ⟨hS3, ?_⟩
  refine wpOp_skip rfl rfl (w3.setRow (w.heap.size + 1) (LB.cells ⟨hdrID H, ⟨⟨height, miner, ticket, wins, power, parents, salt⟩, A1, c1⟩⟩).toArray) (exec_store 40 (.tmp 2) (.tmp 10) rfl (w.heap.size + 1) 0 rfl _ rfl (run_storeVar_block w3 (w.heap.size + 1) 40 40 (LB.cells ⟨hdrID H, ⟨⟨height, miner, ticket, wins, power, parents, salt⟩, A1, c1⟩⟩) _ hk3 (by rw [List.size_toArray, LB.cells_length, LB.cells_length]) (LB.cells_one _) (by rw [LB.cells_length]; exact block_size))) ⟨fun j u hu => (World.cell?_of_block (a := ⟨w.heap.size, 0 + j, none⟩) (heap_setRow_ne _ _ _ _ (by show w.heap.size ≠ w.heap.size + 1; omega))).trans (hS3 j u hu), ?_⟩
  change Exit.then _ _ _ _ _
  go_wp2
  (try simp only [Exit.inBlock, Exit.then])
  refine bodyPost_ret (results_cell_row rfl _ _ (w.heap.size + 1) 40 (LB.cells ⟨hdrID H, ⟨⟨height, miner, ticket, wins, power, parents, salt⟩, A1, c1⟩⟩).toArray (0, 0) _ rfl (setRow_heap w3 (w.heap.size + 1) _ _ _ _ hk3) Tryz.underlying40 rfl (by rw [List.size_toArray, LB.cells_length]; exact block_size)) rfl ?_
  refine ⟨⟨⟨height, miner, ticket, wins, power, parents, salt⟩, A1, c1⟩, HH.out.symm, rfl, ?_, below_setRow (HB2.out.trans (((Below.refl W.heap.size W).drew.trans hb3).mono HB2.out.size)) (Nat.le_succ _) _⟩
  have hf1 : Fr (fun k => w.heap.size + 2 ≤ k) W w3 := (Fr.of_below (w := W) ((Below.refl W.heap.size W).drew.trans hb3))
  have hf2 : Fr (fun k => w.heap.size + 2 ≤ k) W (w3.setRow (w.heap.size + 1) (LB.cells ⟨hdrID H, ⟨⟨height, miner, ticket, wins, power, parents, salt⟩, A1, c1⟩⟩).toArray) :=
    hf1.trans ⟨by simp, fun k hk _ => heap_setRow_ne _ _ _ _ (by omega)⟩
  exact (HSL.out.fr hf2).mono fun k hk => by omega
end Go.Proofs.YthpcedficlhanaaGreatDoor
namespace Go.Proofs.YthpcedficlhanaaGreatDoor
open Go.Shelf
def lcB_ren : Go.Shelf.Ren := ⟨fun | 41 => 92 | n => n, fun | 22 => 25 | 23 => 40 | 4 => 4 | n => n, fun | n => n⟩
theorem lcB : Go.Proofs.SlLaysE0.n41 Tryz.prog lcB_ren := {
  mixed := by kernel_rfl
  f41 := ⟨Tryz.f92.name, by decide, Tryz.func92.trans (congrArg some (by kernel_rfl))⟩
  t4 := Tryz.underlying4
  a4 := Tryz.isAgg4
  z4 := Tryz.sizeOf4
  v4 := Tryz.zeroValue4
  t22 := Tryz.underlying25
  a22 := Tryz.isAgg25
  z22 := Tryz.sizeOf25
  v22 := Tryz.zeroValue25 }
def lsB_ren : Go.Shelf.Ren := ⟨fun | 6 => 93 | 15 => 149 | 14 => 148 | 28 => 182 | 29 => 183 | 20 => 174 | 21 => 175 | 22 => 176 | 23 => 177 | 24 => 178 | 25 => 179 | 26 => 180 | 27 => 181 | 46 => 204 | 47 => 205 | 48 => 206 | 49 => 207 | 50 => 208 | 57 => 217 | n => n, fun | 22 => 25 | 24 => 40 | 25 => 139 | 3 => 3 | 39 => 114 | 0 => 0 | 53 => 212 | 55 => 35 | 4 => 4 | 46 => 242 | 45 => 241 | 50 => 246 | 5 => 5 | 9 => 9 | 66 => 268 | 70 => 271 | 76 => 278 | 77 => 279 | n => n, fun | n => n⟩
theorem lsB : Go.Proofs.SlLaysF0.n6 Tryz.prog lsB_ren := {
  mixed := by kernel_rfl
  f6 := ⟨Tryz.f93.name, by decide, Tryz.func93.trans (congrArg some (by kernel_rfl))⟩
  f14 := ⟨Tryz.f148.name, by decide, Tryz.func148.trans (congrArg some (by kernel_rfl))⟩
  f15 := Tryz.func149.trans (congrArg some (by kernel_rfl))
  f20 := ⟨Tryz.f174.name, by decide, Tryz.func174.trans (congrArg some (by kernel_rfl))⟩
  f21 := ⟨Tryz.f175.name, by decide, Tryz.func175.trans (congrArg some (by kernel_rfl))⟩
  f22 := ⟨Tryz.f176.name, by decide, Tryz.func176.trans (congrArg some (by kernel_rfl))⟩
  f23 := ⟨Tryz.f177.name, by decide, Tryz.func177.trans (congrArg some (by kernel_rfl))⟩
  f24 := ⟨Tryz.f178.name, by decide, Tryz.func178.trans (congrArg some (by kernel_rfl))⟩
  f25 := ⟨Tryz.f179.name, by decide, Tryz.func179.trans (congrArg some (by kernel_rfl))⟩
  f26 := ⟨Tryz.f180.name, by decide, Tryz.func180.trans (congrArg some (by kernel_rfl))⟩
  f27 := ⟨Tryz.f181.name, by decide, Tryz.func181.trans (congrArg some (by kernel_rfl))⟩
  f28 := Tryz.func182.trans (congrArg some (by kernel_rfl))
  f29 := Tryz.func183.trans (congrArg some (by kernel_rfl))
  f46 := ⟨Tryz.f204.name, by decide, Tryz.func204.trans (congrArg some (by kernel_rfl))⟩
  f47 := Tryz.func205.trans (congrArg some (by kernel_rfl))
  f48 := Tryz.func206.trans (congrArg some (by kernel_rfl))
  f49 := ⟨Tryz.f207.name, by decide, Tryz.func207.trans (congrArg some (by kernel_rfl))⟩
  f50 := ⟨Tryz.f208.name, by decide, Tryz.func208.trans (congrArg some (by kernel_rfl))⟩
  f57 := ⟨Tryz.f217.name, by decide, Tryz.func217.trans (congrArg some (by kernel_rfl))⟩
  t0 := Tryz.underlying0
  a0 := Tryz.isAgg0
  z0 := Tryz.sizeOf0
  v0 := Tryz.zeroValue0
  t3 := Tryz.underlying3
  a3 := Tryz.isAgg3
  z3 := Tryz.sizeOf3
  v3 := Tryz.zeroValue3
  t4 := Tryz.underlying4
  a4 := Tryz.isAgg4
  z4 := Tryz.sizeOf4
  v4 := Tryz.zeroValue4
  t5 := Tryz.underlying5
  a5 := Tryz.isAgg5
  z5 := Tryz.sizeOf5
  v5 := Tryz.zeroValue5
  t9 := Tryz.underlying9
  a9 := Tryz.isAgg9
  z9 := Tryz.sizeOf9
  v9 := Tryz.zeroValue9
  t22 := Tryz.underlying25
  a22 := Tryz.isAgg25
  z22 := Tryz.sizeOf25
  v22 := Tryz.zeroValue25
  t25 := Tryz.underlying139
  a25 := Tryz.isAgg139
  z25 := Tryz.sizeOf139
  v25 := Tryz.zeroValue139
  t39 := Tryz.underlying114
  a39 := Tryz.isAgg114
  z39 := Tryz.sizeOf114
  v39 := Tryz.zeroValue114
  t45 := Tryz.underlying241
  a45 := Tryz.isAgg241
  z45 := Tryz.sizeOf241
  v45 := Tryz.zeroValue241
  t46 := Tryz.underlying242
  a46 := Tryz.isAgg242
  z46 := Tryz.sizeOf242
  v46 := Tryz.zeroValue242
  t50 := Tryz.underlying246
  a50 := Tryz.isAgg246
  z50 := Tryz.sizeOf246
  v50 := Tryz.zeroValue246
  t53 := Tryz.underlying212
  a53 := Tryz.isAgg212
  z53 := Tryz.sizeOf212
  v53 := Tryz.zeroValue212
  t55 := Tryz.underlying35
  a55 := Tryz.isAgg35
  z55 := Tryz.sizeOf35
  v55 := Tryz.zeroValue35
  t66 := Tryz.underlying268
  a66 := Tryz.isAgg268
  z66 := Tryz.sizeOf268
  v66 := Tryz.zeroValue268
  t70 := Tryz.underlying271
  a70 := Tryz.isAgg271
  z70 := Tryz.sizeOf271
  v70 := Tryz.zeroValue271
  t76 := Tryz.underlying278
  a76 := Tryz.isAgg278
  z76 := Tryz.sizeOf278
  v76 := Tryz.zeroValue278
  t77 := Tryz.underlying279
  a77 := Tryz.isAgg279
  z77 := Tryz.sizeOf279
  v77 := Tryz.zeroValue279 }
end Go.Proofs.YthpcedficlhanaaGreatDoor
namespace Go.Proofs.YthpcedficlhanaaGreatDoor
open Go.RowKit

theorem LB.cells_id (b : LB) (j : Nat) (u : Value) (h : (bytesC b.id.1)[j]? = some u) : b.cells[j]? = some u := by
  rw [LB.cells, idc, List.getElem?_append_left (List.getElem?_eq_some_iff.1 h).1]
  exact h
theorem compare_blocks (w : World) (x y : LB) (n : Nat) : Calls Tryz.prog 95 #[.slice (some ⟨w.heap.size, 0, none⟩) 32 32, .slice (some ⟨w.heap.size + 1, 0, none⟩) 32 32] (((w.alloc (.cells x.cells.toArray 40)).alloc (.cells y.cells.toArray 40)).drewN n) fun e w' => e = .returned (.int .i64 (cmpI x.id y.id)) ∧ ((w.alloc (.cells x.cells.toArray 40)).alloc (.cells y.cells.toArray 40)).drewN n = w' := by
  have hx : BytesAt (((w.alloc (.cells x.cells.toArray 40)).alloc (.cells y.cells.toArray 40)).drewN n) w.heap.size 0 x.id.1 := fun j u hu => by
    rw [Nat.zero_add]
    exact cell_block (fr := (0, 0)) (T := 40) (by show ((w.alloc _).alloc _).heap[w.heap.size]? = _; rw [heap_alloc_if, if_neg (by simp), heap_alloc_if, if_pos rfl]) (by simpa using x.cells_id j u hu)
  have hy : BytesAt (((w.alloc (.cells x.cells.toArray 40)).alloc (.cells y.cells.toArray 40)).drewN n) (w.heap.size + 1) 0 y.id.1 := fun j u hu => by
    rw [Nat.zero_add]
    exact cell_block (fr := (0, 0)) (T := 40) (by show ((w.alloc _).alloc _).heap[w.heap.size + 1]? = _; rw [heap_alloc_if, if_pos (by simp)]) (by simpa using y.cells_id j u hu)
  have hc := bytesCompare_any _ w.heap.size 0 32 (w.heap.size + 1) 0 32 x.id.1 y.id.1 hx hy
  rw [x.id.2, y.id.2] at hc
  exact hc

def cmpL (x y : LB) : Int := cmpI x.id y.id
theorem swo_cmpL : Sort.SWO (ltOf cmpL) := ⟨fun x => swo_cmpI.irrefl x.id, fun x y z => swo_cmpI.trans x.id y.id z.id, fun x y z => swo_cmpI.ntrans x.id y.id z.id⟩

set_option maxRecDepth 100000 in
set_option maxHeartbeats 1000000 in
theorem blockCompare_any (w : World) (x y : LB) :
    Calls Tryz.prog 94 #[.agg x.cells.toArray, .agg y.cells.toArray] w fun e w' => e = .returned (.int .i64 (cmpL x y)) ∧ More w w' := by
  go_enter Tryz.func94, Tryz.ntmps94
  go_wp2
  have HC := Lib.hid (fun n => compare_blocks w x y n)
  go_quiet ((go_at_call 95; exact quiet_left (HC.out _)))
  go_wp2
  go_ret
  exact ⟨rfl, More.two _ _ _ _⟩

theorem block_info : (Tryz.prog.info? 40).map (fun i => (i.zero, i.size, i.bytes)) = some (some (.agg (LB.cells ⟨⟨⟨(List.replicate 32 0).toArray⟩, by rfl⟩, ⟨⟨0, 0, ⟨#[]⟩, 0, 0, [], 0⟩, none, 0⟩⟩).toArray), lbE.k, 112) := by kernel_rfl
theorem clone_blocks (w : World) (v : Value) (l : List LB) (ok : Nat → Prop) (hl : Sl lbE ok w v l) (hlen : l.length ≤ 4294967296) :
    Calls Tryz.prog 92 #[v] w fun e w' => ∃ v', e = .returned v' ∧ w'.ownsRow w.heap.size 40 39 v' l.length (lbE.flat l) ∧ Below w.heap.size w w' :=
  clone_gen lcB _ 112 block_info (by simp only [Value.cells, List.size_toArray, LB.cells_length]; rfl) Tryz.sizeOf40 hl (by omega) (by omega)
theorem sort_blocks (w : World) (v : Value) (l : List LB) (base : Nat) (T : TypeId) (h : w.ownsRow base T 39 v l.length (lbE.flat l)) (hlen : l.length ≤ 4294967296) :
    Calls Tryz.prog 93 #[v, .func (.func 94) #[] #[]] w fun e w' => e = .returned (.tuple #[]) ∧ ∃ zs, zs.Perm l ∧ Risen cmpL zs ∧ w'.ownsRow base T 39 v l.length (lbE.flat zs) ∧ w.grownBy w' v.ownBlock :=
  sort_gen (E := lbE) lsB Tryz.isAgg40 Tryz.sizeOf40 cmpL swo_cmpL 94 #[] (enters_of Tryz.func94 (by kernel_rfl) rfl) blockCompare_any h (by omega)
end Go.Proofs.YthpcedficlhanaaGreatDoor
namespace Go.Proofs.YthpcedficlhanaaGreatDoor
open Go.RowKit

section
variable {P : Program} {ops : Array Oper} {Q : Exit → Act → World → Prop} {md : Region.Mode} {S : World → Prop}
/-- An operation that yields in whatever world. -/
theorem yieldsIf_run {o : Oper} {a : Act} {v : Value} (hw : Region.wanted o (yielded ops a.tmps) = true) (h : ∀ w, (execOp a.eval o).run P w = .ok (.value v) w) : YieldsIf P ops S o v a := .inl ⟨hw, fun w _ => h w⟩
theorem run_loadVar_cell (w : World) (ty : TypeId) (ad : Addr) (v : Value) (d : TypeDesc) (hc : w.cell? ad = some v) (hu : P.underlying ty = some d) (hd : (match d with | .struct _ | .array _ _ => true | _ => false) = false) : (loadVar ty ad).run P w = .ok v w := by
  have hagg : (isAgg ty).run P w = .ok false w := by
    unfold isAgg
    rw [Sem.run_bind, run_underlying hu w]
    cases d <;> simp_all
  simp [loadVar, Sem.run_bind, hagg, hc]
/-- A load of one protected cell. -/
theorem yieldsIf_cell {o : Oper} {a : Act} (hw : Region.wanted o (yielded ops a.tmps) = true) (ty : TypeId) (x : Operand) (ho : o.op = .load ty x) (ad : Addr) (hx : a.eval x = .pointer (some ad)) (v : Value) (d : TypeDesc)
    (hc : ∀ w, S w → w.cell? ad = some v) (hu : P.underlying ty = some d) (hd : (match d with | .struct _ | .array _ _ => true | _ => false) = false) : YieldsIf P ops S o v a :=
  .inl ⟨hw, fun w hS => by
    unfold execOp
    simp only [ho, hx, Instr.loadAt, Instr.sureAddr, Sem.run_bind, Sem.run_pure, Result.andThen_ok, run_loadVar_cell w ty ad v d (hc w hS) hu hd]⟩
theorem yieldsIf_of {o : Oper} {a : Act} {v : Value} (hw : Region.wanted o (yielded ops a.tmps) = true) (h : ∀ w, S w → (execOp a.eval o).run P w = .ok (.value v) w) : YieldsIf P ops S o v a := .inl ⟨hw, h⟩
theorem yieldsIf_off {o : Oper} {a : Act} (hw : Region.wanted o (yielded ops a.tmps) = false) : YieldsIf P ops S o undef a := .inr ⟨hw, rfl⟩
/-- The beginning: how many operations, which have come up. -/
theorem st_ (n : Nat) (l : Array Bool) {id : Nat} {a : Act} {w : World} (hm : P.follows .mixedOrders = true) (hn : ops.size = n) (hl : Array.replicate n false = l) (hS : S w.drew)
    (h : S w.drew → wpAnyH P .any ops Q S n l a w.drew) : (Code.region id ops true).wp P Q a w := by
  subst hn
  subst hl
  exact wp_region_held_drew hm hS h
def tkB (md : Region.Mode) (ops : Array Oper) (l l' : Array Bool) (i : Nat) : Bool := Region.noSelect ops && Region.free md ops l i && (Region.ready md ops l).contains i && (l.setIfInBounds i true == l')
/-- An operation is taken first. -/
theorem tk_ (i : Nat) (N : Option Tmp) (l' : Array Bool) {oi : Oper} {v : Value} {fuel : Nat} {l : Array Bool} {a : Act} {w : World} (hi : ops[i]? = some oi) (hN : oi.dst = N) (hc : tkB md ops l l' i = true)
    (hQ : ∀ c a w, Q (.panic c) (a.put oi.dst v) w → Q (.panic c) a w) (hy : YieldsIf P ops S oi v a) (hS : S w) {a' : Act} (ha : a.put N v = a')
    (h : wpAnyH P md ops Q S fuel l' a' w) : wpAnyH P md ops Q S (fuel + 1) l a w := by
  subst ha
  subst hN
  simp only [tkB, Bool.and_eq_true, beq_iff_eq] at hc
  obtain ⟨⟨⟨h1, h2⟩, h3⟩, h4⟩ := hc
  subst h4
  exact wpAnyH_take hi h1 h2 h3 hQ hy hS h
def oneB (md : Region.Mode) (ops : Array Oper) (l l' : Array Bool) (i : Nat) : Bool := decide (Region.ready md ops l = [i]) && (l.setIfInBounds i true == l')
/-- One alone may come up: a call. -/
theorem call_ (i : Nat) (N : Option Tmp) (l' : Array Bool) {oi : Oper} {fuel : Nat} {l : Array Bool} {a : Act} {w : World} (hi : ops[i]? = some oi) (hN : oi.dst = N) (hc : oneB md ops l l' i = true)
    (hw : Region.wanted oi (yielded ops a.tmps) = true) (f : FuncId) (args : Array Value) (hx : (execOp a.eval oi).run P w = .ok (.enter f args) w) {R : Ending → World → Prop} (hcall : Calls P f args w R)
    (hK : ∀ e w', R e w' → ∃ v, e = .returned v ∧ S w' ∧ (S w' → ∃ a', a.put N v = a' ∧ wpAnyH P md ops Q S fuel l' a' w')) : wpAnyH P md ops Q S (fuel + 1) l a w := by
  subst hN
  simp only [oneB, Bool.and_eq_true, beq_iff_eq, decide_eq_true_eq] at hc
  obtain ⟨h1, h2⟩ := hc
  subst h2
  refine wpAnyH_all h1 (by simp) fun j hj => ?_
  have : j = i := by simpa using hj
  subst this
  refine wpOp_call hi hw f args hx hcall fun e w' hr => ?_
  obtain ⟨v, he, hS, hk⟩ := hK e w' hr
  obtain ⟨a', ha, hk⟩ := hk hS
  subst ha
  exact ⟨v, he, hS, hk⟩
/-- .. one that yields a value and turns the world. -/
theorem val_ (i : Nat) (N : Option Tmp) (l' : Array Bool) {oi : Oper} {fuel : Nat} {l : Array Bool} {a : Act} {w : World} (hi : ops[i]? = some oi) (hN : oi.dst = N) (hc : oneB md ops l l' i = true)
    (hw : Region.wanted oi (yielded ops a.tmps) = true) (v : Value) (w1 : World) (hx : (execOp a.eval oi).run P w = .ok (.value v) w1) (hS : S w1) {a' : Act} (ha : a.put N v = a')
    (h : wpAnyH P md ops Q S fuel l' a' w1) : wpAnyH P md ops Q S (fuel + 1) l a w := by
  subst hN
  subst ha
  simp only [oneB, Bool.and_eq_true, beq_iff_eq, decide_eq_true_eq] at hc
  obtain ⟨h1, h2⟩ := hc
  subst h2
  refine wpAnyH_all h1 (by simp) fun j hj => ?_
  have : j = i := by simpa using hj
  subst this
  exact wpOp_value hi hw v w1 hx ⟨hS, h⟩
/-- .. a store. -/
theorem sk_ (i : Nat) (l' : Array Bool) {oi : Oper} {fuel : Nat} {l : Array Bool} {a : Act} {w : World} (hi : ops[i]? = some oi) (hN : oi.dst = none) (hc : oneB md ops l l' i = true)
    (hw : Region.wanted oi (yielded ops a.tmps) = true) (w1 : World) (hx : (execOp a.eval oi).run P w = .ok .skip w1) (hS : S w1)
    (h : wpAnyH P md ops Q S fuel l' a w1) : wpAnyH P md ops Q S (fuel + 1) l a w := by
  simp only [oneB, Bool.and_eq_true, beq_iff_eq, decide_eq_true_eq] at hc
  obtain ⟨h1, h2⟩ := hc
  subst h2
  refine wpAnyH_all h1 (by simp) fun j hj => ?_
  have : j = i := by simpa using hj
  subst this
  exact wpOp_skip hi hw w1 hx (by rw [hN]; exact ⟨hS, h⟩)
end
theorem exec_neq_id {o : Oper} {a : Act} {w : World} (_hgd : o.op = o.op) (x y : Operand) (T : TypeId) (ho : o.op = .binOp .neq 34 x y T) (i j : ID) (hx : a.eval x = .agg (idc i).toArray) (hy : a.eval y = .agg (idc j).toArray) :
    (execOp a.eval o).run Tryz.prog w = .ok (.value (.bool (!decide (i = j)))) w := by
  unfold execOp
  simp only [ho, hx, hy, Sem.run_bind, run_eqGuard_agg w .neq _ _ _ _ _ guard_id, run_neq_id, Result.andThen_ok, Sem.run_pure]
end Go.Proofs.YthpcedficlhanaaGreatDoor
