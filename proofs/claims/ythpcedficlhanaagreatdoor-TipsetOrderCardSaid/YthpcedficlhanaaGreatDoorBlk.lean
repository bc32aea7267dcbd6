/- Blocks: how they lie; tipset.Make. -/
import Derived.Test.YthpcedficlhanaaGreatDoorHid
import Derived.Test.YthpcedficlhanaaGreatDoorHeld
import Derived.Laws.Tables
namespace Go.Proofs.YthpcedficlhanaaGreatDoor
open Go.RowKit

/-- A block: its name, its header. -/
structure LB where
  id : ID
  x : LH
def LB.cells (b : LB) : List Value := idc b.id ++ b.x.cells
theorem LB.cells_length (b : LB) : b.cells.length = 39 := by simp [LB.cells, idc_length, LH.cells]
instance : Inhabited LH := ⟨genL⟩
instance : Inhabited LB := ⟨⟨default, default⟩⟩
theorem LB.cells_one (b : LB) : ∀ u ∈ b.cells, u.oneCell' = true := by
  intro u hu
  rcases List.mem_append.1 hu with h | h
  · exact idE.one b.id u h
  · exact b.x.cells_one u h
def lbE : Enc LB := { enc := LB.cells, k := 39, hk := LB.cells_length, one := LB.cells_one, k0 := by decide }
theorem block_size : (Tryz.prog.info? 40).map (·.size) = some 39 := by kernel_rfl

theorem idc_32 (x : ID) : ∃ a0 a1 a2 a3 a4 a5 a6 a7 a8 a9 a10 a11 a12 a13 a14 a15 a16 a17 a18 a19 a20 a21 a22 a23 a24 a25 a26 a27 a28 a29 a30 a31 : Value, idc x = [a0, a1, a2, a3, a4, a5, a6, a7, a8, a9, a10, a11, a12, a13, a14, a15, a16, a17, a18, a19, a20, a21, a22, a23, a24, a25, a26, a27, a28, a29, a30, a31] := by
  obtain ⟨⟨⟨l⟩⟩, hl⟩ := x
  have hl : l.length = 32 := hl
  obtain _ | ⟨a0, l⟩ := l
  · exact absurd hl (by simp)
  obtain _ | ⟨a1, l⟩ := l
  · exact absurd hl (by simp)
  obtain _ | ⟨a2, l⟩ := l
  · exact absurd hl (by simp)
  obtain _ | ⟨a3, l⟩ := l
  · exact absurd hl (by simp)
  obtain _ | ⟨a4, l⟩ := l
  · exact absurd hl (by simp)
  obtain _ | ⟨a5, l⟩ := l
  · exact absurd hl (by simp)
  obtain _ | ⟨a6, l⟩ := l
  · exact absurd hl (by simp)
  obtain _ | ⟨a7, l⟩ := l
  · exact absurd hl (by simp)
  obtain _ | ⟨a8, l⟩ := l
  · exact absurd hl (by simp)
  obtain _ | ⟨a9, l⟩ := l
  · exact absurd hl (by simp)
  obtain _ | ⟨a10, l⟩ := l
  · exact absurd hl (by simp)
  obtain _ | ⟨a11, l⟩ := l
  · exact absurd hl (by simp)
  obtain _ | ⟨a12, l⟩ := l
  · exact absurd hl (by simp)
  obtain _ | ⟨a13, l⟩ := l
  · exact absurd hl (by simp)
  obtain _ | ⟨a14, l⟩ := l
  · exact absurd hl (by simp)
  obtain _ | ⟨a15, l⟩ := l
  · exact absurd hl (by simp)
  obtain _ | ⟨a16, l⟩ := l
  · exact absurd hl (by simp)
  obtain _ | ⟨a17, l⟩ := l
  · exact absurd hl (by simp)
  obtain _ | ⟨a18, l⟩ := l
  · exact absurd hl (by simp)
  obtain _ | ⟨a19, l⟩ := l
  · exact absurd hl (by simp)
  obtain _ | ⟨a20, l⟩ := l
  · exact absurd hl (by simp)
  obtain _ | ⟨a21, l⟩ := l
  · exact absurd hl (by simp)
  obtain _ | ⟨a22, l⟩ := l
  · exact absurd hl (by simp)
  obtain _ | ⟨a23, l⟩ := l
  · exact absurd hl (by simp)
  obtain _ | ⟨a24, l⟩ := l
  · exact absurd hl (by simp)
  obtain _ | ⟨a25, l⟩ := l
  · exact absurd hl (by simp)
  obtain _ | ⟨a26, l⟩ := l
  · exact absurd hl (by simp)
  obtain _ | ⟨a27, l⟩ := l
  · exact absurd hl (by simp)
  obtain _ | ⟨a28, l⟩ := l
  · exact absurd hl (by simp)
  obtain _ | ⟨a29, l⟩ := l
  · exact absurd hl (by simp)
  obtain _ | ⟨a30, l⟩ := l
  · exact absurd hl (by simp)
  obtain _ | ⟨a31, l⟩ := l
  · exact absurd hl (by simp)
  obtain _ | ⟨b, l⟩ := l
  · exact ⟨_, _, _, _, _, _, _, _, _, _, _, _, _, _, _, _, _, _, _, _, _, _, _, _, _, _, _, _, _, _, _, _, rfl⟩
  · exact absurd hl (by simp)

theorem built_block (id : ID) (x : LH) : Tryz.prog.built 40 [(0, .agg (idc id).toArray), (1, .agg x.cells.toArray)] = some (LB.cells ⟨id, x⟩).toArray := by
  obtain ⟨a0, a1, a2, a3, a4, a5, a6, a7, a8, a9, a10, a11, a12, a13, a14, a15, a16, a17, a18, a19, a20, a21, a22, a23, a24, a25, a26, a27, a28, a29, a30, a31, h⟩ := idc_32 id
  show Tryz.prog.built _ [(0, .agg (idc id).toArray), (1, .agg x.cells.toArray)] = some (idc id ++ x.cells).toArray
  rw [h]
  kernel_rfl

theorem keep7 {w w' : World} {B b : Nat} {v0 v1 v2 v3 v4 v5 v6 : Value} (hb : Below B w w') (hlt : b < B)
    (h : w.cell? ⟨b, 0, none⟩ = some v0 ∧ w.cell? ⟨b, 1, none⟩ = some v1 ∧ w.cell? ⟨b, 2, none⟩ = some v2 ∧ w.cell? ⟨b, 3, none⟩ = some v3 ∧ w.cell? ⟨b, 4, none⟩ = some v4 ∧ w.cell? ⟨b, 5, none⟩ = some v5 ∧ w.cell? ⟨b, 6, none⟩ = some v6) :
    w'.cell? ⟨b, 0, none⟩ = some v0 ∧ w'.cell? ⟨b, 1, none⟩ = some v1 ∧ w'.cell? ⟨b, 2, none⟩ = some v2 ∧ w'.cell? ⟨b, 3, none⟩ = some v3 ∧ w'.cell? ⟨b, 4, none⟩ = some v4 ∧ w'.cell? ⟨b, 5, none⟩ = some v5 ∧ w'.cell? ⟨b, 6, none⟩ = some v6 := by
  have hc : ∀ i, w'.cell? ⟨b, i, none⟩ = w.cell? ⟨b, i, none⟩ := fun i => hb.cell (p := ⟨b, i, none⟩) hlt
  simpa only [hc] using h

set_option maxRecDepth 100000 in
set_option maxHeartbeats 2000000 in
theorem make_any (w : World) (x : LH) (ok : Nat → Prop) (hx : x.At ok w) (hok : x.h.Ok) (ht : Tab w) :
    Calls Tryz.prog 91 #[.agg x.cells.toArray] w fun e w' => ∃ y : LH, y.h = x.h ∧ e = .returned (.agg (LB.cells ⟨hdrID x.h, y⟩).toArray) ∧ y.At (fun k => w.heap.size ≤ k) w' ∧ Below w.heap.size w w' := by
  obtain ⟨⟨height, miner, ticket, wins, power, parents, salt⟩, A, c⟩ := x
  have HX : Hid (Sl idE ok w (.slice A parents.length c) parents) := hx
  have HOK := Lib.hid hok
  have HT := Lib.hid ht
  have hpl : parents.length ≤ 4294967296 := by have h : parents.length ≤ 1048576 := hok.parents; omega
  clear hx hok ht
  obtain ⟨H, hH⟩ : ∃ H : Hdr, H = ⟨height, miner, ticket, wins, power, parents, salt⟩ := ⟨_, rfl⟩
  rw [← hH] at HOK
  have HH := Lib.hid hH
  change Calls _ _ #[.agg #[.int .i64 height, .int .i64 miner, .string ticket, .int .i64 wins, .int .u64 power, .slice A parents.length c, .int .i64 salt]] w fun e w' => ∃ y : LH, y.h = ⟨height, miner, ticket, wins, power, parents, salt⟩ ∧ e = .returned (.agg (LB.cells ⟨hdrID ⟨height, miner, ticket, wins, power, parents, salt⟩, y⟩).toArray) ∧ y.At (fun k => w.heap.size ≤ k) w' ∧ Below w.heap.size w w'
  rw [← hH]
  clear hH
  have hB0 : Below w.heap.size w ((w.alloc (.cells #[.int .i64 height, .int .i64 miner, .string ticket, .int .i64 wins, .int .u64 power, .slice A parents.length c, .int .i64 salt] 38)).alloc (.cells (LB.cells ⟨⟨⟨(List.replicate 32 0).toArray⟩, by rfl⟩, ⟨⟨0, 0, ⟨#[]⟩, 0, 0, [], 0⟩, none, 0⟩⟩).toArray 40)) := ((Below.refl _ w).alloc (Nat.le_refl _) _).alloc (by simp) _
  have hg0 : ((w.alloc (.cells #[.int .i64 height, .int .i64 miner, .string ticket, .int .i64 wins, .int .u64 power, .slice A parents.length c, .int .i64 salt] 38)).alloc (.cells (LB.cells ⟨⟨⟨(List.replicate 32 0).toArray⟩, by rfl⟩, ⟨⟨0, 0, ⟨#[]⟩, 0, 0, [], 0⟩, none, 0⟩⟩).toArray 40)).heap[w.heap.size]? = some (.cells #[.int .i64 height, .int .i64 miner, .string ticket, .int .i64 wins, .int .u64 power, .slice A parents.length c, .int .i64 salt] 38 (0, 0)) := by
    rw [heap_alloc_if, if_neg (by simp), heap_alloc_if, if_pos rfl]
  have hg1 : ((w.alloc (.cells #[.int .i64 height, .int .i64 miner, .string ticket, .int .i64 wins, .int .u64 power, .slice A parents.length c, .int .i64 salt] 38)).alloc (.cells (LB.cells ⟨⟨⟨(List.replicate 32 0).toArray⟩, by rfl⟩, ⟨⟨0, 0, ⟨#[]⟩, 0, 0, [], 0⟩, none, 0⟩⟩).toArray 40)).heap[w.heap.size + 1]? = some (.cells (LB.cells ⟨⟨⟨(List.replicate 32 0).toArray⟩, by rfl⟩, ⟨⟨0, 0, ⟨#[]⟩, 0, 0, [], 0⟩, none, 0⟩⟩).toArray 40 (0, 0)) := by
    rw [heap_alloc_if, if_pos (by simp)]
  have HB0 := Lib.hid hB0
  have HG0 := Lib.hid hg0
  have HG1 := Lib.hid hg1
  clear hB0 hg0 hg1
  go_enter Tryz.func91, Tryz.ntmps91
  go_wp2_with (go_at_call 98; refine (clone_id _ (.slice A parents.length c) parents ok (HX.out.below HB0.out) hpl).mono ?_; rintro e w1 ⟨v1, rfl, ho1, hb1⟩; obtain ⟨A1, c1, rfl, hc1⟩ := own_slice ho1; have HO1 := Lib.hid ho1; have HK0 : Hid (w1.heap[w.heap.size]? = some (.cells #[.int .i64 height, .int .i64 miner, .string ticket, .int .i64 wins, .int .u64 power, .slice A parents.length c, .int .i64 salt] 38 (0, 0))) := (hb1.block _ (by simp only [World.size_alloc]; omega)).trans HG0.out; have HK1 : Hid (w1.heap[w.heap.size + 1]? = some (.cells (LB.cells ⟨⟨⟨(List.replicate 32 0).toArray⟩, by rfl⟩, ⟨⟨0, 0, ⟨#[]⟩, 0, 0, [], 0⟩, none, 0⟩⟩).toArray 40 (0, 0))) := (hb1.block _ (by simp only [World.size_alloc]; omega)).trans HG1.out; have HB1 : Hid (Below w.heap.size w w1) := HB0.out.trans (hb1.mono HB0.out.size); have hc5 : w1.cell? ⟨w.heap.size, 5, none⟩ = some (.slice A parents.length c) := cell_block HK0.out rfl; have hf5 : w1.frozen? ⟨w.heap.size, 5, none⟩ = false := Lib.frozen_of_heap HK0.out 5; clear ho1 hb1)
  have hyc : ∀ i u, (#[Value.int .i64 height, .int .i64 miner, .string ticket, .int .i64 wins, .int .u64 power, .slice A1 parents.length c1, .int .i64 salt] : Array Value)[i]? = some u → (w1.setCell ⟨w.heap.size, 5, none⟩ (.slice A1 parents.length c1)).cell? ⟨w.heap.size, i, none⟩ = some u := fun i u hu =>
    cell_block (heap_setCell_at w1 w.heap.size 5 _ _ _ (.slice A1 parents.length c1) HK0.out) hu
  have hz1 : w.heap.size + 1 < w1.heap.size := (Array.getElem?_eq_some_iff.1 HK1.out).1
  have hkz : (w1.setCell ⟨w.heap.size, 5, none⟩ (.slice A1 parents.length c1)).heap[w.heap.size + 1]? = some (.cells (LB.cells ⟨⟨⟨(List.replicate 32 0).toArray⟩, by rfl⟩, ⟨⟨0, 0, ⟨#[]⟩, 0, 0, [], 0⟩, none, 0⟩⟩).toArray 40 (0, 0)) := (Below.heap_setCell _ _ _ _ (by simp)).trans HK1.out
  have hB2 : Below w.heap.size w (w1.setCell ⟨w.heap.size, 5, none⟩ (.slice A1 parents.length c1)) := HB1.out.setCell (p := ⟨w.heap.size, 5, none⟩) (Nat.le_refl _) _
  have hSl : Sl idE (fun k => w.heap.size + 2 ≤ k) (w1.setCell ⟨w.heap.size, 5, none⟩ (.slice A1 parents.length c1)) (.slice A1 parents.length c1) parents := by
    have h1 := Sl.of_own (E := idE) HO1.out
    have h2 : Sl idE (fun k => w.heap.size + 2 ≤ k) w1 (.slice A1 parents.length c1) parents := h1.mono fun k hk => by have := (own_lt HO1.out k hk).1; simp only [World.size_alloc] at this; omega
    exact h2.fr ((Fr.refl _ w1).setCell (p := ⟨w.heap.size, 5, none⟩) (fun h => by have h : w.heap.size + 2 ≤ w.heap.size := h; omega) _)
  generalize w1.setCell ⟨w.heap.size, 5, none⟩ (.slice A1 parents.length c1) = W at hyc hkz hB2 hSl
  have hS0 : W.drew.cell? ⟨w.heap.size, 0, none⟩ = some (.int .i64 height) ∧ W.drew.cell? ⟨w.heap.size, 1, none⟩ = some (.int .i64 miner) ∧ W.drew.cell? ⟨w.heap.size, 2, none⟩ = some (.string ticket) ∧ W.drew.cell? ⟨w.heap.size, 3, none⟩ = some (.int .i64 wins) ∧ W.drew.cell? ⟨w.heap.size, 4, none⟩ = some (.int .u64 power) ∧ W.drew.cell? ⟨w.heap.size, 5, none⟩ = some (.slice A1 parents.length c1) ∧ W.drew.cell? ⟨w.heap.size, 6, none⟩ = some (.int .i64 salt) :=
    ⟨hyc 0 _ rfl, hyc 1 _ rfl, hyc 2 _ rfl, hyc 3 _ rfl, hyc 4 _ rfl, hyc 5 _ rfl, hyc 6 _ rfl⟩
  have hzW : w.heap.size + 1 < W.heap.size := (Array.getElem?_eq_some_iff.1 hkz).1
  have hHok : (⟨height, miner, ticket, wins, power, parents, salt⟩ : Hdr).Ok := by rw [← HH.out]; exact HOK.out
  have hid := id_any W.drew ⟨⟨height, miner, ticket, wins, power, parents, salt⟩, A1, c1⟩ _ hSl hHok (HT.out.below hB2.drew)
  have hid' : Calls Tryz.prog 40 #[.agg #[.int .i64 height, .int .i64 miner, .string ticket, .int .i64 wins, .int .u64 power, .slice A1 parents.length c1, .int .i64 salt]] W.drew fun e w' => e = .returned (.agg (idc (hdrID H)).toArray) ∧ Below W.heap.size W.drew w' := by rw [HH.out]; exact hid
  have HYC : Hid (∀ j u, (LH.cells ⟨⟨height, miner, ticket, wins, power, parents, salt⟩, A1, c1⟩)[j]? = some u → W.drew.cell? ⟨w.heap.size, 0 + j, none⟩ = some u) := fun j u hu => by rw [Nat.zero_add]; exact hyc j u (by simpa [LH.cells, LH.v] using hu)
  have HID := Lib.hid hid'
  have HKZ := Lib.hid hkz
  have HB2 := Lib.hid hB2
  have HSL := Lib.hid hSl
  clear hyc hkz hB2 hSl hid hid' hc5 hf5 HK0 HK1 HB1 HO1 HG0 HG1 HB0
  have hSy : ∀ j u, (LH.cells ⟨⟨height, miner, ticket, wins, power, parents, salt⟩, A1, c1⟩)[j]? = some u → W.drew.cell? ⟨w.heap.size, 0 + j, none⟩ = some u := HYC.out
  have HSY := Lib.hid hSy
  clear hSy
  refine wp_region_held_drew (S := fun w' => ∀ j u, (LH.cells ⟨⟨height, miner, ticket, wins, power, parents, salt⟩, A1, c1⟩)[j]? = some u → w'.cell? ⟨w.heap.size, 0 + j, none⟩ = some u) (by kernel_rfl) HSY.out (fun hHeld => ?_)
  refine wpAnyH_take (i := 0) rfl (by kernel_rfl) (by kernel_rfl) (by kernel_rfl) (fun _ _ _ h => h) (yieldsIf_load rfl 38 (.tmp 1) rfl w.heap.size 0 rfl (LH.cells ⟨⟨height, miner, ticket, wins, power, parents, salt⟩, A1, c1⟩) _ (fun _ h => h) Tryz.underlying38 rfl hdr_size) hHeld ?_
  refine wpAnyH_take (i := 2) rfl (by kernel_rfl) (by kernel_rfl) (by kernel_rfl) (fun _ _ _ h => h) (yieldsIf_load rfl 38 (.tmp 1) rfl w.heap.size 0 rfl (LH.cells ⟨⟨height, miner, ticket, wins, power, parents, salt⟩, A1, c1⟩) _ (fun _ h => h) Tryz.underlying38 rfl hdr_size) hHeld ?_
  refine wpAnyH_seqI [1, 3, 4] _ _ _ (by kernel_rfl) ?_
  refine wpOp_call rfl rfl 40 _ (by kernel_rfl) HID.out ?_
  rintro e w3 ⟨rfl, hb3⟩
  have hS3 : ∀ j u, (LH.cells ⟨⟨height, miner, ticket, wins, power, parents, salt⟩, A1, c1⟩)[j]? = some u → w3.cell? ⟨w.heap.size, 0 + j, none⟩ = some u := fun j u hu => (hb3.cell (p := ⟨w.heap.size, 0 + j, none⟩) (by show w.heap.size < W.heap.size; omega)).trans (HSY.out j u hu)
  have hk3 : w3.heap[w.heap.size + 1]? = some (.cells (LB.cells ⟨⟨⟨(List.replicate 32 0).toArray⟩, by rfl⟩, ⟨⟨0, 0, ⟨#[]⟩, 0, 0, [], 0⟩, none, 0⟩⟩).toArray 40 (0, 0)) := (hb3.block _ hzW).trans HKZ.out
  refine ⟨_, rfl, hS3, ?_⟩
  refine wpOp_value rfl rfl (.agg (LB.cells ⟨hdrID H, ⟨⟨height, miner, ticket, wins, power, parents, salt⟩, A1, c1⟩⟩).toArray) w3 (exec_build 40 [(0, .tmp 8), (1, .tmp 9)] rfl [(0, .agg (idc (hdrID H)).toArray), (1, .agg (LH.cells ⟨⟨height, miner, ticket, wins, power, parents, salt⟩, A1, c1⟩).toArray)] rfl _ (run_build w3 40 _ _ (built_block (hdrID H) ⟨⟨height, miner, ticket, wins, power, parents, salt⟩, A1, c1⟩))) ⟨hS3, ?_⟩
  refine wpOp_skip rfl rfl (w3.setRow (w.heap.size + 1) (LB.cells ⟨hdrID H, ⟨⟨height, miner, ticket, wins, power, parents, salt⟩, A1, c1⟩⟩).toArray) (exec_store 40 (.tmp 2) (.tmp 10) rfl (w.heap.size + 1) 0 rfl _ rfl (run_storeVar_block w3 (w.heap.size + 1) 40 40 (LB.cells ⟨hdrID H, ⟨⟨height, miner, ticket, wins, power, parents, salt⟩, A1, c1⟩⟩) _ hk3 (by rw [List.size_toArray, LB.cells_length, LB.cells_length]) (LB.cells_one _) (by rw [LB.cells_length]; exact block_size))) ⟨fun j u hu => (World.cell?_of_block (a := ⟨w.heap.size, 0 + j, none⟩) (heap_setRow_ne _ _ _ _ (by show w.heap.size ≠ w.heap.size + 1; omega))).trans (hS3 j u hu), ?_⟩
  change Exit.then _ _ _ _ _
  go_wp2
  (try simp only [Exit.inBlock, Exit.then])
  refine bodyPost_ret (results_cell_row rfl _ _ (w.heap.size + 1) 40 (LB.cells ⟨hdrID H, ⟨⟨height, miner, ticket, wins, power, parents, salt⟩, A1, c1⟩⟩).toArray (0, 0) _ rfl (setRow_heap w3 (w.heap.size + 1) _ _ _ _ hk3) Tryz.underlying40 rfl (by rw [List.size_toArray, LB.cells_length]; exact block_size)) rfl ?_
  refine ⟨⟨⟨height, miner, ticket, wins, power, parents, salt⟩, A1, c1⟩, HH.out.symm, rfl, ?_, below_setRow (HB2.out.trans (((Below.refl W.heap.size W).drew.trans hb3).mono HB2.out.size)) (Nat.le_succ _) _⟩
  have hf1 : Fr (fun k => w.heap.size + 2 ≤ k) W w3 := (Fr.of_below (w := W) ((Below.refl W.heap.size W).drew.trans hb3))
  have hf2 : Fr (fun k => w.heap.size + 2 ≤ k) W (w3.setRow (w.heap.size + 1) (LB.cells ⟨hdrID H, ⟨⟨height, miner, ticket, wins, power, parents, salt⟩, A1, c1⟩⟩).toArray) :=
    hf1.trans ⟨by simp, fun k hk _ => heap_setRow_ne _ _ _ _ (by omega)⟩
  exact (HSL.out.fr hf2).mono fun k hk => by omega
end Go.Proofs.YthpcedficlhanaaGreatDoor
