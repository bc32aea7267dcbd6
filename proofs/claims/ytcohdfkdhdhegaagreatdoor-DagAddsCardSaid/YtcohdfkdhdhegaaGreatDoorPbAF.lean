/- digest.Of; header.ID; Genesis, Root. header.ID, Genesis, Root. A region that draws its order, by hand: the loads of protected cells first, then what is forced. No program in sight. Blocks: how they lie; tipset.Make. -/
import Derived.Test.YtcohdfkdhdhegaaGreatDoorPbAA
import Derived.Test.YtcohdfkdhdhegaaGreatDoorPbAE
import Derived.Deep.RegionHeld3
import Derived.Laws.Tables
namespace Go.Proofs.YtcohdfkdhdhegaaGreatDoor
open Go.RowKit

/-- The words behind whole blocks. -/
def foldB : Nat → W8 → List UInt8 → W8
  | 0, h, _ => h
  | k + 1, h, l => foldB k (mixF h (l.take 64)) (l.drop 64)
def outB (h : W8) (i : Nat) : UInt8 := UInt8.ofNat (h.l.getD (i / 4) 0 / 2 ^ (24 - i % 4 * 8))
def outF (h : W8) : List UInt8 := (List.range 32).map (outB h)
def wordsF (s : List UInt8) : W8 := foldB ((padF s).length / 64) startN (padF s)
/-- A name, of bytes. -/
def shaF (s : List UInt8) : ID := ⟨⟨(outF (wordsF s)).toArray⟩, by show (outF (wordsF s)).toArray.size = 32; simp [outF]⟩

set_option maxRecDepth 100000 in
set_option maxHeartbeats 1000000 in
theorem join_one (w : World) (b c : Nat) (s : ByteArray) (h : w.cell? ⟨b, 0, none⟩ = some (.string s)) :
    Calls Tryz.prog 154 #[.slice (some ⟨b, 0, none⟩) 1 c, .string ⟨#[]⟩] w fun e w' => e = .returned (.string s) ∧ w = w' := by
  go_enter Tryz.func154, Tryz.ntmps154
  go_wp2
  go_ret
  exact ⟨rfl, rfl⟩

/-- The first i bytes. -/
def partO (h : W8) (i : Nat) : List UInt8 := (List.range 32).map fun k => if k < i then outB h k else 0
theorem partO_all (h : W8) : partO h 32 = outF h := by
  unfold partO outF
  refine List.map_congr_left fun k hk => ?_
  rw [if_pos (by simpa using hk)]
theorem partO_set (h : W8) (i : Nat) (hi : i < 32) : (partO h i).set i (outB h i) = partO h (i + 1) := by
  refine List.ext_getElem? fun k => ?_
  rw [List.getElem?_set]
  simp only [partO, List.length_map, List.length_range, List.getElem?_map]
  by_cases hk : k < 32
  · by_cases e : i = k
    · subst e; simp [hi]
    · have : k < i + 1 ↔ k < i := by omega
      simp [e, hk, this]
  · have : ¬ i = k := by omega
    simp [this, hk]
def uc (l : List UInt8) : List Value := l.map fun b => .int .u8 (b.toNat : Int)
theorem uc_at (l : List UInt8) (i : Nat) (x : UInt8) (h : l[i]? = some x) : (uc l)[i]? = some (.int .u8 (x.toNat : Int)) := by simp [uc, h]
theorem uc_set (l : List UInt8) (i : Nat) (x : UInt8) : (uc l).toArray.setIfInBounds i (.int .u8 (x.toNat : Int)) = (uc (l.set i x)).toArray := by simp [uc, List.map_set]

def strLen : Value → Nat
  | .string z => z.size
  | _ => 0
theorem extract_take (z : List UInt8) (n : Nat) : (⟨z.toArray⟩ : ByteArray).extract 0 n = ⟨(z.take n).toArray⟩ := by
  apply ByteArray.ext
  apply Array.toList_inj.1
  simp
theorem extract_drop (z : List UInt8) (n : Nat) : (⟨z.toArray⟩ : ByteArray).extract n z.length = ⟨(z.drop n).toArray⟩ := by
  apply ByteArray.ext
  apply Array.toList_inj.1
  simp
  exact List.take_of_length_le (by simp)
theorem slice_h (W : World) (z : List UInt8) (h : 64 ≤ z.length) : (Instr.slice 9 (.string ⟨z.toArray⟩) none (some (.int .i64 64)) none).run Tryz.prog W = .ok (.string ⟨(z.take 64).toArray⟩) W := by
  rw [run_slice_string_h W 9 ⟨z.toArray⟩ Tryz.underlying9 .i64 64 (by decide) (by show (64 : Int) ≤ ((z.toArray.size : Nat) : Int); simp; omega)]
  show Result.ok (Value.string ((⟨z.toArray⟩ : ByteArray).extract 0 64)) W = _
  rw [extract_take z 64]
theorem slice_l (W : World) (z : List UInt8) (h : 64 ≤ z.length) : (Instr.slice 9 (.string ⟨z.toArray⟩) (some (.int .i64 64)) none none).run Tryz.prog W = .ok (.string ⟨(z.drop 64).toArray⟩) W := by
  rw [run_slice_string_l W 9 ⟨z.toArray⟩ Tryz.underlying9 .i64 64 (by decide) (by show (64 : Int) ≤ ((z.toArray.size : Nat) : Int); simp; omega)]
  show Result.ok (Value.string ((⟨z.toArray⟩ : ByteArray).extract 64 z.toArray.size)) W = _
  rw [List.size_toArray, extract_drop z 64]

set_option maxRecDepth 100000 in
set_option maxHeartbeats 2000000 in
theorem of_any (w : World) (b c : Nat) (s : ByteArray) (hs : s.size ≤ 1099511627776) (hb : w.cell? ⟨b, 0, none⟩ = some (.string s)) (ht : Tab w) :
    Calls Tryz.prog 113 #[.slice (some ⟨b, 0, none⟩) 1 c] w fun e w' => e = .returned (.agg (idc (shaF s.data.toList)).toArray) ∧ Below w.heap.size w w' := by
  have HT := Lib.hid ht
  have hbl : b < w.heap.size := World.block_lt_of_cell? w _ hb
  clear ht
  go_enter Tryz.func113, Tryz.ntmps113
  go_wp2_with (first
    | (refine wpl_load rfl 215 (.global 0) rfl 0 0 rfl (wc startN.l) _ (fun j u hu => by rw [Nat.zero_add]; exact (HT.out.below ((Below.refl _ w).alloc (Nat.le_refl _) _)).start j u hu) Tryz.underlying215 rfl eight_size ?_)
    | (refine wpl_store_w8 startN rfl (.tmp 3) (.tmp 7) rfl (w.heap.size + 1) (World.size_alloc w _).symm rfl rfl _ _ rfl ?_)
    | (go_at_call 154; refine (join_one _ b c s (((((Below.refl _ w).alloc (Nat.le_refl _) _).alloc (by simp) _).cell (p := ⟨b, 0, none⟩) hbl).trans hb)).mono ?_; rintro e w1 ⟨rfl, rfl⟩)
    | (go_at_call 153; refine (pad_any _ s hs).mono ?_; rintro e w2 ⟨rfl, hb2⟩))
  have hz2 : w.heap.size + 1 < w2.heap.size := by have := hb2.size; simp at this; omega
  have hB2 : Below w.heap.size w w2 := (((Below.refl _ w).alloc (Nat.le_refl _) _).alloc (by simp) _).trans (hb2.mono (by simp only [World.size_alloc]; omega))
  have hg2 : w2.heap[w.heap.size]? = some (.cells (bytesC (default : ID).1).toArray 66 (0, 0)) := (hb2.block _ (by simp only [World.size_alloc]; omega)).trans (by rw [heap_alloc_if, if_neg (by simp), heap_alloc_if, if_pos rfl]; rfl)
  have hg3 : w2.heap[w.heap.size + 1]? = some (.cells startN.cells 215 (0, 0)) := (hb2.block _ (by simp only [World.size_alloc]; omega)).trans (by rw [heap_alloc_if, if_pos (by simp)])
  clear hb2 hb
  obtain ⟨k0, hk0⟩ := padF_length s.data.toList
  have hT0 : wordsF s.data.toList = foldB k0 startN (padF s.data.toList) := by rw [wordsF, hk0, Nat.mul_div_cancel_left _ (by decide)]
  have H0 := Lib.hid hT0
  have HG2 := Lib.hid hg2
  have HG3 := Lib.hid hg3
  have HB2 := Lib.hid hB2
  clear hT0 hg2 hg3 hB2
  go_loopw [4] (fun ci wr => ∃ (k : Nat) (z : List UInt8) (h : W8), ci = .string ⟨z.toArray⟩ ∧ z.length = 64 * k ∧ z.length ≤ (padF s.data.toList).length ∧ h.In ∧ foldB k h z = wordsF s.data.toList ∧ wr.heap[w.heap.size]? = some (.cells (bytesC (default : ID).1).toArray 66 (0, 0)) ∧ wr.heap[w.heap.size + 1]? = some (.cells h.cells 215 (0, 0)) ∧ Below w.heap.size w wr) (fun ci _ => strLen ci)
  case atStart => exact ⟨k0, _, startN, rfl, hk0, Nat.le_refl _, startN_in, H0.out.symm, HG2.out, HG3.out, HB2.out⟩
  case round =>
    clear HG2 HG3 HB2
    obtain ⟨k, z, h, rfl, hzl, hzp, hin, hf, hg2, hg3, hB⟩ := hrel
    have HF := Lib.hid hf
    have HG2 := Lib.hid hg2
    have HG3 := Lib.hid hg3
    have HB := Lib.hid hB
    have HIN := Lib.hid hin
    clear hf hg2 hg3 hB hin
    by_cases hk : k = 0
    · have hz0 : z = [] := List.eq_nil_of_length_eq_zero (by omega)
      subst hk
      subst hz0
      have HFW : Hid (h = wordsF s.data.toList) := HF.out
      go_wp2
      change Code.wp _ _ _ _ (wr.alloc (.cells (uc (partO h 0)).toArray 66))
      have hB5 : Below w.heap.size w (wr.alloc (.cells (uc (partO h 0)).toArray 66)) := HB.out.alloc HB.out.size _
      have hszr : w.heap.size + 1 < wr.heap.size := (Array.getElem?_eq_some_iff.1 HG3.out).1
      have h5g2 : (wr.alloc (.cells (uc (partO h 0)).toArray 66)).heap[w.heap.size]? = some (.cells (bytesC (default : ID).1).toArray 66 (0, 0)) := by rw [heap_alloc_if, if_neg (by omega)]; exact HG2.out
      have h5g3 : (wr.alloc (.cells (uc (partO h 0)).toArray 66)).heap[w.heap.size + 1]? = some (.cells h.cells 215 (0, 0)) := by rw [heap_alloc_if, if_neg (by omega)]; exact HG3.out
      have h5g5 : (wr.alloc (.cells (uc (partO h 0)).toArray 66)).heap[wr.heap.size]? = some (.cells (uc (partO h 0)).toArray 66 (0, 0)) := heap_alloc_new wr _
      generalize wr.alloc (.cells (uc (partO h 0)).toArray 66) = W5 at hB5 h5g2 h5g3 h5g5
      generalize wr.heap.size = g at hszr h5g5
      clear HG2 HG3 HB
      go_loopw [19] (fun ci wq => ∃ i : Nat, i ≤ 32 ∧ ci = .int .i64 i ∧ wq.heap[g]? = some (.cells (uc (partO h i)).toArray 66 (0, 0)) ∧ wq.heap[w.heap.size]? = some (.cells (bytesC (default : ID).1).toArray 66 (0, 0)) ∧ wq.heap[w.heap.size + 1]? = some (.cells h.cells 215 (0, 0)) ∧ Below w.heap.size w wq) (fun ci _ => 32 - (intOf ci).toNat)
      case atStart => exact ⟨0, by omega, rfl, h5g5, h5g2, h5g3, hB5⟩
      case round =>
        clear h5g5 h5g2 h5g3 hB5
        obtain ⟨i, hi, rfl, q5, q2, q3, qB⟩ := hrel
        have Q5 := Lib.hid q5
        have Q2 := Lib.hid q2
        have Q3 := Lib.hid q3
        have QB := Lib.hid qB
        clear q5 q2 q3 qB
        by_cases hi32 : i < 32
        · have c3 : wr.cell? ⟨w.heap.size + 1, i / 4, none⟩ = some (.int .u32 (h.l.getD (i / 4) 0 : Nat)) := cell_block Q3.out (by
            rw [W8.cells_eq]
            have : h.l[i / 4]? = some (h.l.getD (i / 4) 0) := by
              have hlt : i / 4 < h.l.length := by show i / 4 < 8; omega
              rw [List.getD_eq_getElem?_getD, List.getElem?_eq_getElem hlt]; rfl
            simpa using wc_at _ _ _ this)
          obtain ⟨x, hx⟩ : ∃ x, h.l.getD (i / 4) 0 = x := ⟨_, rfl⟩
          rw [hx] at c3
          have f5 : wr.frozen? ⟨g, i, none⟩ = false := Lib.frozen_of_heap Q5.out i
          have c5 : wr.cell? ⟨g, i, none⟩ = some (.int .u8 0) := cell_block Q5.out (by
            have : (partO h i)[i]? = some 0 := by simp [partO, hi32]
            simpa using uc_at _ _ _ this)
          have hi4 : (i : Int) / 4 < 8 := by omega
          have hm8 : IntKind.i64.wrap ((i : Int) % 4 * 8) = (i : Int) % 4 * 8 := IntWalk.i64_in _ (by omega)
          have hm24 : IntKind.i64.wrap (24 - (i : Int) % 4 * 8) = 24 - (i : Int) % 4 * 8 := IntWalk.i64_in _ (by omega)
          have hv : (x : Int) / 2 ^ (24 - i % 4 * 8) % 256 = (((outB h i).toNat : Nat) : Int) := by
            have e2 : (x : Int) / 2 ^ (24 - i % 4 * 8) = ((x / 2 ^ (24 - i % 4 * 8) : Nat) : Int) := by rw [Int.natCast_ediv, Int.natCast_pow]; rfl
            rw [e2, outB, hx]
            simp
          go_wp2
          go_roundw
          case rel =>
            refine ⟨i + 1, by omega, by go_num, ?_, ?_, ?_, QB.out.setCell (p := ⟨g, i, none⟩) (by show w.heap.size ≤ g; omega) _⟩
            · rw [heap_setCell_at wr g i _ _ _ _ Q5.out, uc_set, partO_set h i hi32]
            · rw [← Q2.out]; exact Below.heap_setCell _ _ _ _ (by show w.heap.size ≠ g; omega)
            · rw [← Q3.out]; exact Below.heap_setCell _ _ _ _ (by show w.heap.size + 1 ≠ g; omega)
          case measure => simp [intOf]; omega
        · have hi3 : i = 32 := by omega
          subst hi3
          rw [partO_all] at Q5
          have hidc : uc (outF h) = idc (shaF s.data.toList) := by rw [HFW.out]; rfl
          rw [hidc] at Q5
          go_wp2_with (first
            | (refine wpList_load_row rfl 66 (.tmp 5) rfl g rfl 66 _ (0, 0) _ Q5.out Tryz.underlying66 rfl (by rw [List.size_toArray, idc_length]; exact id_size) ?_)
            | (refine wpl_store_row rfl 66 (.tmp 2) (.tmp 35) rfl w.heap.size rfl (idc (shaF s.data.toList)) rfl _ 66 Q2.out (by rw [idc_length, List.size_toArray, bytesC_length]; exact (default : ID).2.symm) (idE.one (shaF s.data.toList)) (by rw [idc_length]; exact id_size) ?_))
          (try simp only [Exit.inBlock, Exit.then])
          refine bodyPost_ret (results_cell_row rfl _ _ w.heap.size 66 (idc (shaF s.data.toList)).toArray (0, 0) _ rfl (setRow_heap wr w.heap.size _ _ _ _ Q2.out) Tryz.underlying66 rfl (by rw [List.size_toArray, idc_length]; exact id_size)) rfl ?_
          exact ⟨rfl, below_setRow QB.out (Nat.le_refl _) _⟩
    · obtain ⟨k, rfl⟩ : ∃ m, k = m + 1 := ⟨k - 1, by omega⟩
      have hze : z.isEmpty = false := by
        cases z with
        | nil => simp at hzl
        | cons a l => rfl
      have h64 : 64 ≤ z.length := by omega
      have hsz : z.length ≤ 2199023255552 := by
        have h2 : s.data.toList.length = s.size := by simp
        simp only [padF, List.length_append, List.length_cons, List.length_replicate, dig_length] at hzp
        omega
      have HCX : Hid (∀ j u, (wc h.l)[j]? = some u → wr.drew.cell? ⟨w.heap.size + 1, 0 + j, none⟩ = some u) := fun j u hu => by
        rw [Nat.zero_add]
        exact cell_block HG3.out (by rw [W8.cells_eq]; simpa using hu)
      have hsh := fun W => slice_h W z h64
      have hsl := fun W => slice_l W z h64
      go_wp2
      refine wp_region_still_tail 3 (by kernel_rfl) (by kernel_rfl) ?_
      simp only [List.take_succ_cons, List.take_zero, List.drop_succ_cons, List.drop_zero]
      refine still_load rfl 215 (.tmp 3) rfl (w.heap.size + 1) 0 rfl (wc h.l) _ HCX.out Tryz.underlying215 rfl eight_size ?_
      iterate 2 still_step
      rw [← W8.cells_eq]
      refine wpStill_nil ?_
      change wpList _ _ _ _ _ wr.drew
      have HG2d : Hid (wr.drew.heap[w.heap.size]? = some (.cells (bytesC (default : ID).1).toArray 66 (0, 0))) := HG2
      have HG3d : Hid (wr.drew.heap[w.heap.size + 1]? = some (.cells h.cells 215 (0, 0))) := HG3
      have HBd : Hid (Below w.heap.size w wr.drew) := HB.out.drew
      generalize wr.drew = wd at HG2d HG3d HBd
      have hszd : w.heap.size + 1 < wd.heap.size := (Array.getElem?_eq_some_iff.1 HG3d.out).1
      have hmx := mix_any wd h HIN.out ⟨(z.take 64).toArray⟩ (by show (z.take 64).toArray.size = 64; simp; omega) (HT.out.below HBd.out)
      rw [show (⟨(z.take 64).toArray⟩ : ByteArray).data.toList = z.take 64 by simp] at hmx
      have HMX := Lib.hid hmx
      clear hmx
      go_wp2_with (first
        | (go_at_call 155; refine HMX.out.mono ?_; rintro e w3 ⟨rfl, hb3⟩; have HG2e : Hid (w3.heap[w.heap.size]? = some (.cells (bytesC (default : ID).1).toArray 66 (0, 0))) := (hb3.block _ (by omega)).trans HG2d.out; have HG3e : Hid (w3.heap[w.heap.size + 1]? = some (.cells h.cells 215 (0, 0))) := (hb3.block _ hszd).trans HG3d.out; have HBe : Hid (Below w.heap.size w w3) := HBd.out.trans (hb3.mono HBd.out.size); clear hb3)
        | (refine wpl_row_w8 (mixF h (z.take 64)) rfl (.tmp 3) (.tmp 18) rfl (w.heap.size + 1) rfl rfl _ 215 HG3e.out rfl ?_))
      go_roundw
      case rel =>
        refine ⟨_, _, _, _, _, _, _, _, _, ?_, rfl⟩
        refine ⟨k, z.drop 64, mixF h (z.take 64), rfl, by simp; omega, by simp; omega, sumF_in _ _, HF.out, ?_, setRow_heap w3 _ _ _ _ _ HG3e.out, below_setRow HBe.out (Nat.le_succ _) _⟩
        rw [heap_setRow_ne _ _ _ _ (by omega)]
        exact HG2e.out
      case measure => (show (z.drop 64).toArray.size < z.toArray.size; rw [List.size_toArray, List.size_toArray, List.length_drop]; omega)
end Go.Proofs.YtcohdfkdhdhegaaGreatDoor
namespace Go.Proofs.YtcohdfkdhdhegaaGreatDoor
open Go.RowKit

/-- A header's name. -/
def hdrID (h : Hdr) : ID := shaF (hdrB h)
theorem hdr_size : (Tryz.prog.info? 41).map (·.size) = some 7 := by kernel_rfl
theorem LH.cells_length (x : LH) : x.cells.length = 7 := rfl
theorem LH.cells_one (x : LH) : ∀ u ∈ x.cells, u.oneCell' = true := by
  intro u hu
  simp only [LH.cells, LH.v, List.mem_cons, List.not_mem_nil, or_false] at hu
  rcases hu with rfl | rfl | rfl | rfl | rfl | rfl | rfl <;> rfl
theorem hdrB_length (h : Hdr) (hok : h.Ok) : (hdrB h).length ≤ 1099511627776 := by
  have h1 := numB_length h.height.toNat
  have h2 := numB_length h.miner.toNat
  have h3 := numB_length h.ticket.size
  have h4 := numB_length h.wins.toNat
  have h5 := numB_length h.power.toNat
  have h6 := numB_length h.parents.length
  have h7 := numB_length h.salt.toNat
  have h8 := hok.ticket
  have h9 := hok.parents
  simp only [hdrB, textB, List.length_append, joinI_length]
  have h10 : h.ticket.data.toList.length = h.ticket.size := by simp
  omega

set_option maxRecDepth 100000 in
set_option maxHeartbeats 2000000 in
theorem id_any (w : World) (x : LH) (ok : Nat → Prop) (hx : x.At ok w) (hok : x.h.Ok) (ht : Tab w) :
    Calls Tryz.prog 37 #[.agg x.cells.toArray] w fun e w' => e = .returned (.agg (idc (hdrID x.h)).toArray) ∧ Below w.heap.size w w' := by
  have HX := Lib.hid hx
  have HOK := Lib.hid hok
  have HT := Lib.hid ht
  clear hx hok ht
  have hB0 : Below w.heap.size w ((w.alloc (.cells x.cells.toArray 41)).alloc (.cells (idc default).toArray 66)) := ((Below.refl _ w).alloc (Nat.le_refl _) _).alloc (by simp) _
  have hg0 : ((w.alloc (.cells x.cells.toArray 41)).alloc (.cells (idc default).toArray 66)).heap[w.heap.size]? = some (.cells x.cells.toArray 41 (0, 0)) := by
    rw [heap_alloc_if, if_neg (by simp), heap_alloc_if, if_pos rfl]
  have hg1 : ((w.alloc (.cells x.cells.toArray 41)).alloc (.cells (idc default).toArray 66)).heap[w.heap.size + 1]? = some (.cells (idc default).toArray 66 (0, 0)) := by
    rw [heap_alloc_if, if_pos (by simp)]
  have HB0 := Lib.hid hB0
  have HG0 := Lib.hid hg0
  have HG1 := Lib.hid hg1
  clear hB0 hg0 hg1
  go_enter Tryz.func37, Tryz.ntmps37
  go_wp2_with (first
    | (refine wpList_load_row rfl 41 (.tmp 1) rfl w.heap.size rfl 41 _ (0, 0) _ HG0.out Tryz.underlying41 rfl hdr_size ?_)
    | (go_at_call 114; refine (hdrBytes_any _ x ok (HX.out.below HB0.out) HOK.out).mono ?_; rintro e w1 ⟨rfl, hb1⟩; have HB1 : Hid (Below w.heap.size w w1) := HB0.out.trans (hb1.mono HB0.out.size); have HK1 : Hid (w1.heap[w.heap.size + 1]? = some (.cells (idc default).toArray 66 (0, 0))) := (hb1.block _ (by simp only [World.size_alloc]; omega)).trans HG1.out; have hz1 : w.heap.size + 1 < w1.heap.size := (Array.getElem?_eq_some_iff.1 HK1.out).1; clear hb1)
    | (go_at_call 113; (refine (of_any _ w1.heap.size 1 ⟨(hdrB x.h).toArray⟩ (by show (hdrB x.h).toArray.size ≤ _; rw [List.size_toArray]; exact hdrB_length _ HOK.out) (cell_block (heap_alloc_new w1 _) rfl) (HT.out.below (HB1.out.alloc HB1.out.size _))).mono ?_); rintro e w2 ⟨rfl, hb2⟩; have HB2 : Hid (Below w.heap.size w w2) := (HB1.out.alloc HB1.out.size _).trans (hb2.mono (by simp only [World.size_alloc]; omega)); have HK2 : Hid (w2.heap[w.heap.size + 1]? = some (.cells (idc default).toArray 66 (0, 0))) := (hb2.block _ (by simp only [World.size_alloc]; omega)).trans ((heap_alloc_old w1 _ hz1).trans HK1.out); clear hb2)
    | (refine wpl_store_row rfl 66 (.tmp 2) (.tmp 6) rfl (w.heap.size + 1) rfl (idc (hdrID x.h)) rfl _ 66 HK2.out (by rw [idc_length, List.size_toArray, idc_length]) (idE.one (hdrID x.h)) (by rw [idc_length]; exact id_size) ?_))
  (try simp only [Exit.inBlock, Exit.then])
  refine bodyPost_ret (results_cell_row rfl _ _ (w.heap.size + 1) 66 (idc (hdrID x.h)).toArray (0, 0) _ rfl (setRow_heap w2 (w.heap.size + 1) _ _ _ _ HK2.out) Tryz.underlying66 rfl (by rw [List.size_toArray, idc_length]; exact id_size)) rfl ?_
  exact ⟨rfl, below_setRow HB2.out (Nat.le_succ _) _⟩

/-- The first header. -/
def genH : Hdr := ⟨0, 0, ⟨#[]⟩, 0, 2, [], 0⟩
def genL : LH := ⟨genH, none, 0⟩
theorem genH_ok : genH.Ok := ⟨⟨by decide, by decide⟩, ⟨by decide, by decide⟩, ⟨by decide, by decide⟩, ⟨by decide, by decide⟩, by decide, by decide, by show (0 : Nat) ≤ 1048576; omega, by show (0 : Nat) ≤ 1048576; omega⟩
theorem genL_at (ok : Nat → Prop) (w : World) : genL.At ok w := Sl.nil _ _ _

set_option maxRecDepth 100000 in
set_option maxHeartbeats 2000000 in
theorem genesis_any (w : World) :
    Calls Tryz.prog 84 #[] w fun e w' => e = .returned (.agg genL.cells.toArray) ∧ Below w.heap.size w w' := by
  go_enter Tryz.func84, Tryz.ntmps84
  go_wp2
  (try simp only [Exit.inBlock, Exit.then])
  refine bodyPost_ret (results_cell_row rfl _ _ w.heap.size 41 genL.cells.toArray (0, 0) _ rfl (heap_alloc_new w _) Tryz.underlying41 rfl hdr_size) rfl ?_
  exact ⟨rfl, (Below.refl _ w).alloc (Nat.le_refl _) _⟩

/-- The first name. -/
def rootID : ID := hdrID genH
end Go.Proofs.YtcohdfkdhdhegaaGreatDoor
namespace Go.Proofs.YtcohdfkdhdhegaaGreatDoor
open Go.RowKit

section
variable {P : Program} {ops : Array Oper} {Q : Exit → Act → World → Prop} {md : Region.Mode} {S : World → Prop}
/-- The operations js come up one behind the other, no other way. -/
def seqI (md : Region.Mode) (ops : Array Oper) : List Nat → Array Bool → Bool
  | [], listed => (Region.ready md ops listed).isEmpty
  | j :: js, listed => decide (Region.ready md ops listed = [j]) && seqI md ops js (listed.setIfInBounds j true)
/-- .. behind each S is shown. -/
def wpLS (P : Program) (ops : Array Oper) (Q : Exit → Act → World → Prop) (S : World → Prop) : List Nat → Act → World → Prop
  | [], a, w => Q .normal a w
  | j :: js, a, w => wpOp P ops Q j (fun a' w' => S w' ∧ wpLS P ops Q S js a' w') a w
theorem wpAnyH_seqI : ∀ (js : List Nat) (listed : Array Bool) (a : Act) (w : World), seqI md ops js listed = true → wpLS P ops Q S js a w → wpAnyH P md ops Q S js.length listed a w
  | [], listed, a, w, hs, h => ⟨by simpa [seqI] using hs, h⟩
  | j :: js, listed, a, w, hs, h => by
    simp only [seqI, Bool.and_eq_true, decide_eq_true_eq] at hs
    refine ⟨fun h0 => (by rw [hs.1] at h0; cases h0), fun i hi => ?_⟩
    rw [hs.1] at hi
    have : i = j := by simpa using hi
    subst this
    exact wpOp_mono (fun a' w' h' => ⟨h'.1, wpAnyH_seqI js _ a' w' hs.2 h'.2⟩) h

theorem wpOp_value {i : Nat} {o : Oper} {K : Act → World → Prop} {a : Act} {w : World} (ho : ops[i]? = some o) (hw : Region.wanted o (yielded ops a.tmps) = true) (v : Value) (w1 : World) (h : (execOp a.eval o).run P w = .ok (.value v) w1) (hK : K (a.put o.dst v) w1) : wpOp P ops Q i K a w :=
  wpOp_step ho fun K' hK' => by
    rw [if_pos hw]
    unfold Oper.wp
    rw [h]
    exact hK' _ _ hK
theorem wpOp_skip {i : Nat} {o : Oper} {K : Act → World → Prop} {a : Act} {w : World} (ho : ops[i]? = some o) (hw : Region.wanted o (yielded ops a.tmps) = true) (w1 : World) (h : (execOp a.eval o).run P w = .ok .skip w1) (hK : K (a.put o.dst undef) w1) : wpOp P ops Q i K a w :=
  wpOp_step ho fun K' hK' => by
    rw [if_pos hw]
    unfold Oper.wp
    rw [h]
    exact hK' _ _ hK
theorem wpOp_call {i : Nat} {o : Oper} {K : Act → World → Prop} {a : Act} {w : World} (ho : ops[i]? = some o) (hw : Region.wanted o (yielded ops a.tmps) = true) (f : FuncId) (args : Array Value) (h : (execOp a.eval o).run P w = .ok (.enter f args) w) {R : Ending → World → Prop} (hc : Calls P f args w R)
    (hK : ∀ e w', R e w' → ∃ v, e = .returned v ∧ K (a.put o.dst v) w') : wpOp P ops Q i K a w :=
  wpOp_step ho fun K' hK' => by
    rw [if_pos hw]
    unfold Oper.wp
    rw [h]
    refine hc.mono fun e w' hr => ?_
    obtain ⟨v, rfl, hv⟩ := hK e w' hr
    exact hK' _ _ hv
theorem exec_build {o : Oper} {a : Act} {w : World} (t : TypeId) (l : List (Nat × Operand)) (ho : o.op = .build t l.toArray) (vs : List (Nat × Value)) (hv : l.map (fun p => (p.1, a.eval p.2)) = vs) (r : Value) (h : (Instr.build t vs.toArray).run P w = .ok r w) : (execOp a.eval o).run P w = .ok (.value r) w := by
  subst hv
  unfold execOp
  simp only [ho, List.map_toArray, Sem.run_bind]
  rw [h]
  rfl
theorem exec_store {o : Oper} {a : Act} {w w1 : World} (t : TypeId) (x y : Operand) (ho : o.op = .store t x y) (b off : Nat) (hx : a.eval x = .pointer (some ⟨b, off, none⟩)) (v : Value) (hy : a.eval y = v) (h : (storeVar t ⟨b, off, none⟩ v).run P w = .ok () w1) : (execOp a.eval o).run P w = .ok .skip w1 := by
  unfold execOp
  simp only [ho, hx, hy, Instr.storeAt, Instr.sureAddr, Sem.run_bind, Sem.run_pure, Result.andThen_ok, h]
/-- A whole load of a protected variable. -/
theorem yieldsIf_load {o : Oper} {a : Act} (hw : Region.wanted o (yielded ops a.tmps) = true) (ty : TypeId) (x : Operand) (ho : o.op = .load ty x) (b off : Nat) (hx : a.eval x = .pointer (some ⟨b, off, none⟩)) (cs : List Value) (d : TypeDesc)
    (hc : ∀ w, S w → ∀ j u, cs[j]? = some u → w.cell? ⟨b, off + j, none⟩ = some u) (hu : P.underlying ty = some d) (hd : (match d with | .struct _ | .array _ _ => true | _ => false) = true) (hi : (P.info? ty).map (·.size) = some cs.length) : YieldsIf P ops S o (.agg cs.toArray) a :=
  .inl ⟨hw, fun w hS => by
    unfold execOp
    simp only [ho, hx, Instr.loadAt, Instr.sureAddr, Sem.run_bind, Sem.run_pure, Result.andThen_ok, run_loadVar_at w b off ty cs d (hc w hS) hu hd hi]⟩
end
end Go.Proofs.YtcohdfkdhdhegaaGreatDoor
namespace Go.Proofs.YtcohdfkdhdhegaaGreatDoor
open Go.RowKit

/-- A block: its name, its header. -/
structure LB where
  id : ID
  x : LH
def LB.cells (b : LB) : List Value := idc b.id ++ b.x.cells
theorem LB.cells_length (b : LB) : b.cells.length = 39 := by simp [LB.cells, idc_length, LH.cells]
instance : Inhabited LH := ⟨genL⟩
instance : Inhabited LB := ⟨⟨default, default⟩⟩
theorem LB.cells_one (b : LB) : ∀ u ∈ b.cells, u.oneCell' = true := by
  intro u hu
  rcases List.mem_append.1 hu with h | h
  · exact idE.one b.id u h
  · exact b.x.cells_one u h
def lbE : Enc LB := { enc := LB.cells, k := 39, hk := LB.cells_length, one := LB.cells_one, k0 := by decide }
theorem block_size : (Tryz.prog.info? 71).map (·.size) = some 39 := by kernel_rfl

theorem idc_32 (x : ID) : ∃ a0 a1 a2 a3 a4 a5 a6 a7 a8 a9 a10 a11 a12 a13 a14 a15 a16 a17 a18 a19 a20 a21 a22 a23 a24 a25 a26 a27 a28 a29 a30 a31 : Value, idc x = [a0, a1, a2, a3, a4, a5, a6, a7, a8, a9, a10, a11, a12, a13, a14, a15, a16, a17, a18, a19, a20, a21, a22, a23, a24, a25, a26, a27, a28, a29, a30, a31] := by
  obtain ⟨⟨⟨l⟩⟩, hl⟩ := x
  have hl : l.length = 32 := hl
  obtain _ | ⟨a0, l⟩ := l
  · exact absurd hl (by simp)
  obtain _ | ⟨a1, l⟩ := l
  · exact absurd hl (by simp)
  obtain _ | ⟨a2, l⟩ := l
  · exact absurd hl (by simp)
  obtain _ | ⟨a3, l⟩ := l
  · exact absurd hl (by simp)
  obtain _ | ⟨a4, l⟩ := l
  · exact absurd hl (by simp)
  obtain _ | ⟨a5, l⟩ := l
  · exact absurd hl (by simp)
  obtain _ | ⟨a6, l⟩ := l
  · exact absurd hl (by simp)
  obtain _ | ⟨a7, l⟩ := l
  · exact absurd hl (by simp)
  obtain _ | ⟨a8, l⟩ := l
  · exact absurd hl (by simp)
  obtain _ | ⟨a9, l⟩ := l
  · exact absurd hl (by simp)
  obtain _ | ⟨a10, l⟩ := l
  · exact absurd hl (by simp)
  obtain _ | ⟨a11, l⟩ := l
  · exact absurd hl (by simp)
  obtain _ | ⟨a12, l⟩ := l
  · exact absurd hl (by simp)
  obtain _ | ⟨a13, l⟩ := l
  · exact absurd hl (by simp)
  obtain _ | ⟨a14, l⟩ := l
  · exact absurd hl (by simp)
  obtain _ | ⟨a15, l⟩ := l
  · exact absurd hl (by simp)
  obtain _ | ⟨a16, l⟩ := l
  · exact absurd hl (by simp)
  obtain _ | ⟨a17, l⟩ := l
  · exact absurd hl (by simp)
  obtain _ | ⟨a18, l⟩ := l
  · exact absurd hl (by simp)
  obtain _ | ⟨a19, l⟩ := l
  · exact absurd hl (by simp)
  obtain _ | ⟨a20, l⟩ := l
  · exact absurd hl (by simp)
  obtain _ | ⟨a21, l⟩ := l
  · exact absurd hl (by simp)
  obtain _ | ⟨a22, l⟩ := l
  · exact absurd hl (by simp)
  obtain _ | ⟨a23, l⟩ := l
  · exact absurd hl (by simp)
  obtain _ | ⟨a24, l⟩ := l
  · exact absurd hl (by simp)
  obtain _ | ⟨a25, l⟩ := l
  · exact absurd hl (by simp)
  obtain _ | ⟨a26, l⟩ := l
  · exact absurd hl (by simp)
  obtain _ | ⟨a27, l⟩ := l
  · exact absurd hl (by simp)
  obtain _ | ⟨a28, l⟩ := l
  · exact absurd hl (by simp)
  obtain _ | ⟨a29, l⟩ := l
  · exact absurd hl (by simp)
  obtain _ | ⟨a30, l⟩ := l
  · exact absurd hl (by simp)
  obtain _ | ⟨a31, l⟩ := l
  · exact absurd hl (by simp)
  obtain _ | ⟨b, l⟩ := l
  · exact ⟨_, _, _, _, _, _, _, _, _, _, _, _, _, _, _, _, _, _, _, _, _, _, _, _, _, _, _, _, _, _, _, _, rfl⟩
  · exact absurd hl (by simp)

theorem built_block (id : ID) (x : LH) : Tryz.prog.built 71 [(0, .agg (idc id).toArray), (1, .agg x.cells.toArray)] = some (LB.cells ⟨id, x⟩).toArray := by
  obtain ⟨a0, a1, a2, a3, a4, a5, a6, a7, a8, a9, a10, a11, a12, a13, a14, a15, a16, a17, a18, a19, a20, a21, a22, a23, a24, a25, a26, a27, a28, a29, a30, a31, h⟩ := idc_32 id
  show Tryz.prog.built _ [(0, .agg (idc id).toArray), (1, .agg x.cells.toArray)] = some (idc id ++ x.cells).toArray
  rw [h]
  kernel_rfl

set_option maxRecDepth 100000 in
set_option maxHeartbeats 2000000 in
theorem make_any (w : World) (x : LH) (ok : Nat → Prop) (hx : x.At ok w) (hok : x.h.Ok) (ht : Tab w) :
    Calls Tryz.prog 83 #[.agg x.cells.toArray] w fun e w' => ∃ y : LH, y.h = x.h ∧ e = .returned (.agg (LB.cells ⟨hdrID x.h, y⟩).toArray) ∧ y.At (fun k => w.heap.size ≤ k) w' ∧ Below w.heap.size w w' := by
  obtain ⟨⟨height, miner, ticket, wins, power, parents, salt⟩, A, c⟩ := x
  have HX : Hid (Sl idE ok w (.slice A parents.length c) parents) := hx
  have HOK := Lib.hid hok
  have HT := Lib.hid ht
  have hpl : parents.length ≤ 4294967296 := by have h : parents.length ≤ 1048576 := hok.parents; omega
  clear hx hok ht
  obtain ⟨H, hH⟩ : ∃ H : Hdr, H = ⟨height, miner, ticket, wins, power, parents, salt⟩ := ⟨_, rfl⟩
  rw [← hH] at HOK
  have HH := Lib.hid hH
  change Calls _ _ #[.agg #[.int .i64 height, .int .i64 miner, .string ticket, .int .i64 wins, .int .u64 power, .slice A parents.length c, .int .i64 salt]] w fun e w' => ∃ y : LH, y.h = ⟨height, miner, ticket, wins, power, parents, salt⟩ ∧ e = .returned (.agg (LB.cells ⟨hdrID ⟨height, miner, ticket, wins, power, parents, salt⟩, y⟩).toArray) ∧ y.At (fun k => w.heap.size ≤ k) w' ∧ Below w.heap.size w w'
  rw [← hH]
  clear hH
  have hB0 : Below w.heap.size w ((w.alloc (.cells #[.int .i64 height, .int .i64 miner, .string ticket, .int .i64 wins, .int .u64 power, .slice A parents.length c, .int .i64 salt] 41)).alloc (.cells (LB.cells ⟨⟨⟨(List.replicate 32 0).toArray⟩, by rfl⟩, ⟨⟨0, 0, ⟨#[]⟩, 0, 0, [], 0⟩, none, 0⟩⟩).toArray 71)) := ((Below.refl _ w).alloc (Nat.le_refl _) _).alloc (by simp) _
  have hg0 : ((w.alloc (.cells #[.int .i64 height, .int .i64 miner, .string ticket, .int .i64 wins, .int .u64 power, .slice A parents.length c, .int .i64 salt] 41)).alloc (.cells (LB.cells ⟨⟨⟨(List.replicate 32 0).toArray⟩, by rfl⟩, ⟨⟨0, 0, ⟨#[]⟩, 0, 0, [], 0⟩, none, 0⟩⟩).toArray 71)).heap[w.heap.size]? = some (.cells #[.int .i64 height, .int .i64 miner, .string ticket, .int .i64 wins, .int .u64 power, .slice A parents.length c, .int .i64 salt] 41 (0, 0)) := by
    rw [heap_alloc_if, if_neg (by simp), heap_alloc_if, if_pos rfl]
  have hg1 : ((w.alloc (.cells #[.int .i64 height, .int .i64 miner, .string ticket, .int .i64 wins, .int .u64 power, .slice A parents.length c, .int .i64 salt] 41)).alloc (.cells (LB.cells ⟨⟨⟨(List.replicate 32 0).toArray⟩, by rfl⟩, ⟨⟨0, 0, ⟨#[]⟩, 0, 0, [], 0⟩, none, 0⟩⟩).toArray 71)).heap[w.heap.size + 1]? = some (.cells (LB.cells ⟨⟨⟨(List.replicate 32 0).toArray⟩, by rfl⟩, ⟨⟨0, 0, ⟨#[]⟩, 0, 0, [], 0⟩, none, 0⟩⟩).toArray 71 (0, 0)) := by
    rw [heap_alloc_if, if_pos (by simp)]
  have HB0 := Lib.hid hB0
  have HG0 := Lib.hid hg0
  have HG1 := Lib.hid hg1
  clear hB0 hg0 hg1
  go_enter Tryz.func83, Tryz.ntmps83
  go_wp2_with (go_at_call 107; refine (clone_id _ (.slice A parents.length c) parents ok (HX.out.below HB0.out) hpl).mono ?_; rintro e w1 ⟨v1, rfl, ho1, hb1⟩; obtain ⟨A1, c1, rfl, hc1⟩ := own_slice ho1; have HO1 := Lib.hid ho1; have HK0 : Hid (w1.heap[w.heap.size]? = some (.cells #[.int .i64 height, .int .i64 miner, .string ticket, .int .i64 wins, .int .u64 power, .slice A parents.length c, .int .i64 salt] 41 (0, 0))) := (hb1.block _ (by simp only [World.size_alloc]; omega)).trans HG0.out; have HK1 : Hid (w1.heap[w.heap.size + 1]? = some (.cells (LB.cells ⟨⟨⟨(List.replicate 32 0).toArray⟩, by rfl⟩, ⟨⟨0, 0, ⟨#[]⟩, 0, 0, [], 0⟩, none, 0⟩⟩).toArray 71 (0, 0))) := (hb1.block _ (by simp only [World.size_alloc]; omega)).trans HG1.out; have HB1 : Hid (Below w.heap.size w w1) := HB0.out.trans (hb1.mono HB0.out.size); have hc5 : w1.cell? ⟨w.heap.size, 5, none⟩ = some (.slice A parents.length c) := cell_block HK0.out rfl; have hf5 : w1.frozen? ⟨w.heap.size, 5, none⟩ = false := Lib.frozen_of_heap HK0.out 5; clear ho1 hb1)
  have hyc : ∀ i u, (#[Value.int .i64 height, .int .i64 miner, .string ticket, .int .i64 wins, .int .u64 power, .slice A1 parents.length c1, .int .i64 salt] : Array Value)[i]? = some u → (w1.setCell ⟨w.heap.size, 5, none⟩ (.slice A1 parents.length c1)).cell? ⟨w.heap.size, i, none⟩ = some u := fun i u hu =>
    cell_block (heap_setCell_at w1 w.heap.size 5 _ _ _ (.slice A1 parents.length c1) HK0.out) hu
  have hz1 : w.heap.size + 1 < w1.heap.size := (Array.getElem?_eq_some_iff.1 HK1.out).1
  have hkz : (w1.setCell ⟨w.heap.size, 5, none⟩ (.slice A1 parents.length c1)).heap[w.heap.size + 1]? = some (.cells (LB.cells ⟨⟨⟨(List.replicate 32 0).toArray⟩, by rfl⟩, ⟨⟨0, 0, ⟨#[]⟩, 0, 0, [], 0⟩, none, 0⟩⟩).toArray 71 (0, 0)) := (Below.heap_setCell _ _ _ _ (by simp)).trans HK1.out
  have hB2 : Below w.heap.size w (w1.setCell ⟨w.heap.size, 5, none⟩ (.slice A1 parents.length c1)) := HB1.out.setCell (p := ⟨w.heap.size, 5, none⟩) (Nat.le_refl _) _
  have hSl : Sl idE (fun k => w.heap.size + 2 ≤ k) (w1.setCell ⟨w.heap.size, 5, none⟩ (.slice A1 parents.length c1)) (.slice A1 parents.length c1) parents := by
    have h1 := Sl.of_own (E := idE) HO1.out
    have h2 : Sl idE (fun k => w.heap.size + 2 ≤ k) w1 (.slice A1 parents.length c1) parents := h1.mono fun k hk => by have := (own_lt HO1.out k hk).1; simp only [World.size_alloc] at this; omega
    exact h2.fr ((Fr.refl _ w1).setCell (p := ⟨w.heap.size, 5, none⟩) (fun h => by have h : w.heap.size + 2 ≤ w.heap.size := h; omega) _)
  generalize w1.setCell ⟨w.heap.size, 5, none⟩ (.slice A1 parents.length c1) = W at hyc hkz hB2 hSl
  have hS0 : W.drew.cell? ⟨w.heap.size, 0, none⟩ = some (.int .i64 height) ∧ W.drew.cell? ⟨w.heap.size, 1, none⟩ = some (.int .i64 miner) ∧ W.drew.cell? ⟨w.heap.size, 2, none⟩ = some (.string ticket) ∧ W.drew.cell? ⟨w.heap.size, 3, none⟩ = some (.int .i64 wins) ∧ W.drew.cell? ⟨w.heap.size, 4, none⟩ = some (.int .u64 power) ∧ W.drew.cell? ⟨w.heap.size, 5, none⟩ = some (.slice A1 parents.length c1) ∧ W.drew.cell? ⟨w.heap.size, 6, none⟩ = some (.int .i64 salt) :=
    ⟨hyc 0 _ rfl, hyc 1 _ rfl, hyc 2 _ rfl, hyc 3 _ rfl, hyc 4 _ rfl, hyc 5 _ rfl, hyc 6 _ rfl⟩
  have hzW : w.heap.size + 1 < W.heap.size := (Array.getElem?_eq_some_iff.1 hkz).1
  have hHok : (⟨height, miner, ticket, wins, power, parents, salt⟩ : Hdr).Ok := by rw [← HH.out]; exact HOK.out
  have hid := id_any W.drew ⟨⟨height, miner, ticket, wins, power, parents, salt⟩, A1, c1⟩ _ hSl hHok (HT.out.below hB2.drew)
  have hid' : Calls Tryz.prog 37 #[.agg #[.int .i64 height, .int .i64 miner, .string ticket, .int .i64 wins, .int .u64 power, .slice A1 parents.length c1, .int .i64 salt]] W.drew fun e w' => e = .returned (.agg (idc (hdrID H)).toArray) ∧ Below W.heap.size W.drew w' := by rw [HH.out]; exact hid
  have HYC : Hid (∀ j u, (LH.cells ⟨⟨height, miner, ticket, wins, power, parents, salt⟩, A1, c1⟩)[j]? = some u → W.drew.cell? ⟨w.heap.size, 0 + j, none⟩ = some u) := fun j u hu => by rw [Nat.zero_add]; exact hyc j u (by simpa [LH.cells, LH.v] using hu)
  have HID := Lib.hid hid'
  have HKZ := Lib.hid hkz
  have HB2 := Lib.hid hB2
  have HSL := Lib.hid hSl
  clear hyc hkz hB2 hSl hid hid' hc5 hf5 HK0 HK1 HB1 HO1 HG0 HG1 HB0
  have hSy : ∀ j u, (LH.cells ⟨⟨height, miner, ticket, wins, power, parents, salt⟩, A1, c1⟩)[j]? = some u → W.drew.cell? ⟨w.heap.size, 0 + j, none⟩ = some u := HYC.out
  have HSY := Lib.hid hSy
  clear hSy
  refine wp_region_held_drew (S := fun w' => ∀ j u, (LH.cells ⟨⟨height, miner, ticket, wins, power, parents, salt⟩, A1, c1⟩)[j]? = some u → w'.cell? ⟨w.heap.size, 0 + j, none⟩ = some u) (by kernel_rfl) HSY.out (fun hHeld => ?_)
  refine wpAnyH_take (i := 0) rfl (by kernel_rfl) (by kernel_rfl) (by kernel_rfl) (fun _ _ _ h => h) (yieldsIf_load rfl 41 (.tmp 1) rfl w.heap.size 0 rfl (LH.cells ⟨⟨height, miner, ticket, wins, power, parents, salt⟩, A1, c1⟩) _ (fun _ h => h) Tryz.underlying41 rfl hdr_size) hHeld ?_
  refine wpAnyH_take (i := 2) rfl (by kernel_rfl) (by kernel_rfl) (by kernel_rfl) (fun _ _ _ h => h) (yieldsIf_load rfl 41 (.tmp 1) rfl w.heap.size 0 rfl (LH.cells ⟨⟨height, miner, ticket, wins, power, parents, salt⟩, A1, c1⟩) _ (fun _ h => h) Tryz.underlying41 rfl hdr_size) hHeld ?_
  refine wpAnyH_seqI [1, 3, 4] _ _ _ (by kernel_rfl) ?_
  refine wpOp_call rfl rfl 37 _ (by kernel_rfl) HID.out ?_
  rintro e w3 ⟨rfl, hb3⟩
  have hS3 : ∀ j u, (LH.cells ⟨⟨height, miner, ticket, wins, power, parents, salt⟩, A1, c1⟩)[j]? = some u → w3.cell? ⟨w.heap.size, 0 + j, none⟩ = some u := fun j u hu => (hb3.cell (p := ⟨w.heap.size, 0 + j, none⟩) (by show w.heap.size < W.heap.size; omega)).trans (HSY.out j u hu)
  have hk3 : w3.heap[w.heap.size + 1]? = some (.cells (LB.cells ⟨⟨⟨(List.replicate 32 0).toArray⟩, by rfl⟩, ⟨⟨0, 0, ⟨#[]⟩, 0, 0, [], 0⟩, none, 0⟩⟩).toArray 71 (0, 0)) := (hb3.block _ hzW).trans HKZ.out
  refine ⟨_, rfl, hS3, ?_⟩
  refine wpOp_value rfl rfl (.agg (LB.cells ⟨hdrID H, ⟨⟨height, miner, ticket, wins, power, parents, salt⟩, A1, c1⟩⟩).toArray) w3 (exec_build 71 [(0, .tmp 8), (1, .tmp 9)] rfl [(0, .agg (idc (hdrID H)).toArray), (1, .agg (LH.cells ⟨⟨height, miner, ticket, wins, power, parents, salt⟩, A1, c1⟩).toArray)] rfl _ (run_build w3 71 _ _ (built_block (hdrID H) ⟨⟨height, miner, ticket, wins, power, parents, salt⟩, A1, c1⟩))) ⟨hS3, ?_⟩
  refine wpOp_skip rfl rfl (w3.setRow (w.heap.size + 1) (LB.cells ⟨hdrID H, ⟨⟨height, miner, ticket, wins, power, parents, salt⟩, A1, c1⟩⟩).toArray) (exec_store 71 (.tmp 2) (.tmp 10) rfl (w.heap.size + 1) 0 rfl _ rfl (run_storeVar_block w3 (w.heap.size + 1) 71 71 (LB.cells ⟨hdrID H, ⟨⟨height, miner, ticket, wins, power, parents, salt⟩, A1, c1⟩⟩) _ hk3 (by rw [List.size_toArray, LB.cells_length, LB.cells_length]) (LB.cells_one _) (by rw [LB.cells_length]; exact block_size))) ⟨fun j u hu => (World.cell?_of_block (a := ⟨w.heap.size, 0 + j, none⟩) (heap_setRow_ne _ _ _ _ (by show w.heap.size ≠ w.heap.size + 1; omega))).trans (hS3 j u hu), ?_⟩
  change Exit.then _ _ _ _ _
  go_wp2
  (try simp only [Exit.inBlock, Exit.then])
  refine bodyPost_ret (results_cell_row rfl _ _ (w.heap.size + 1) 71 (LB.cells ⟨hdrID H, ⟨⟨height, miner, ticket, wins, power, parents, salt⟩, A1, c1⟩⟩).toArray (0, 0) _ rfl (setRow_heap w3 (w.heap.size + 1) _ _ _ _ hk3) Tryz.underlying71 rfl (by rw [List.size_toArray, LB.cells_length]; exact block_size)) rfl ?_
  refine ⟨⟨⟨height, miner, ticket, wins, power, parents, salt⟩, A1, c1⟩, HH.out.symm, rfl, ?_, below_setRow (HB2.out.trans (((Below.refl W.heap.size W).drew.trans hb3).mono HB2.out.size)) (Nat.le_succ _) _⟩
  have hf1 : Fr (fun k => w.heap.size + 2 ≤ k) W w3 := (Fr.of_below (w := W) ((Below.refl W.heap.size W).drew.trans hb3))
  have hf2 : Fr (fun k => w.heap.size + 2 ≤ k) W (w3.setRow (w.heap.size + 1) (LB.cells ⟨hdrID H, ⟨⟨height, miner, ticket, wins, power, parents, salt⟩, A1, c1⟩⟩).toArray) :=
    hf1.trans ⟨by simp, fun k hk _ => heap_setRow_ne _ _ _ _ (by omega)⟩
  exact (HSL.out.fr hf2).mono fun k hk => by omega
end Go.Proofs.YtcohdfkdhdhegaaGreatDoor
