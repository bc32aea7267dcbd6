/- digest.mix. strings.Repeat, laid at this translation's own numbers; noughts. digest.pad. -/
import Derived.Test.YtcohdfkdhdhegaaGreatDoorPbAD
import Derived.Test.YtcohdfkdhdhegaaGreatDoorProg
import Derived.Shelf.Strings.Repeat
import Derived.Shelf.Strings.Builder1
import Derived.Shelf.Strings.Builder2
namespace Go.Proofs.YtcohdfkdhdhegaaGreatDoor
open Go.RowKit

structure W8 where
  a : Nat
  b : Nat
  c : Nat
  d : Nat
  e : Nat
  f : Nat
  g : Nat
  h : Nat
def W8.l (x : W8) : List Nat := [x.a, x.b, x.c, x.d, x.e, x.f, x.g, x.h]
structure W8.In (x : W8) : Prop where
  a : x.a < 4294967296
  b : x.b < 4294967296
  c : x.c < 4294967296
  d : x.d < 4294967296
  e : x.e < 4294967296
  f : x.f < 4294967296
  g : x.g < 4294967296
  h : x.h < 4294967296
def sigE (e : Nat) : Nat := rotr e 6 ^^^ rotr e 11 ^^^ rotr e 25
def sigA (a : Nat) : Nat := rotr a 2 ^^^ rotr a 13 ^^^ rotr a 22
def chF (e f g : Nat) : Nat := (e &&& f) ^^^ ((4294967295 ^^^ e) &&& g)
def majF (a b c : Nat) : Nat := (a &&& b) ^^^ (a &&& c) ^^^ (b &&& c)
def tF (k w : Nat) (x : W8) : Nat := addW (addW (addW (addW x.h (sigE x.e)) (chF x.e x.f x.g)) k) w
def uF (x : W8) : Nat := addW (sigA x.a) (majF x.a x.b x.c)
/-- One round. -/
def stepF (k w : Nat) (x : W8) : W8 := ⟨addW (tF k w x) (uF x), x.a, x.b, x.c, addW x.d (tF k w x), x.e, x.f, x.g⟩
def keyN : List Nat := [1116352408, 1899447441, 3049323471, 3921009573, 961987163, 1508970993, 2453635748, 2870763221, 3624381080, 310598401, 607225278, 1426881987, 1925078388, 2162078206, 2614888103, 3248222580, 3835390401, 4022224774, 264347078, 604807628, 770255983, 1249150122, 1555081692, 1996064986, 2554220882, 2821834349, 2952996808, 3210313671, 3336571891, 3584528711, 113926993, 338241895, 666307205, 773529912, 1294757372, 1396182291, 1695183700, 1986661051, 2177026350, 2456956037, 2730485921, 2820302411, 3259730800, 3345764771, 3516065817, 3600352804, 4094571909, 275423344, 430227734, 506948616, 659060556, 883997877, 958139571, 1322822218, 1537002063, 1747873779, 1955562222, 2024104815, 2227730452, 2361852424, 2428436474, 2756734187, 3204031479, 3329325298]
def startN : W8 := ⟨1779033703, 3144134277, 1013904242, 2773480762, 1359893119, 2600822924, 528734635, 1541459225⟩
def rndF (ws : List Nat) (x : W8) : Nat → W8
  | 0 => x
  | i + 1 => stepF (keyN.getD i 0) (ws.getD i 0) (rndF ws x i)
def sumF (x y : W8) : W8 := ⟨addW x.a y.a, addW x.b y.b, addW x.c y.c, addW x.d y.d, addW x.e y.e, addW x.f y.f, addW x.g y.g, addW x.h y.h⟩
/-- The eight words behind a block. -/
def mixF (h : W8) (s : List UInt8) : W8 := sumF h (rndF (schedF s 64) h 64)
theorem stepF_in (k w : Nat) (x : W8) (h : x.In) : (stepF k w x).In := ⟨addW_lt _ _, h.a, h.b, h.c, addW_lt _ _, h.e, h.f, h.g⟩
theorem rndF_in (ws : List Nat) (x : W8) (h : x.In) (i : Nat) : (rndF ws x i).In := by
  induction i with
  | zero => exact h
  | succ i ih => exact stepF_in _ _ _ ih
theorem sumF_in (x y : W8) : (sumF x y).In := ⟨addW_lt _ _, addW_lt _ _, addW_lt _ _, addW_lt _ _, addW_lt _ _, addW_lt _ _, addW_lt _ _, addW_lt _ _⟩
theorem startN_in : startN.In := by constructor <;> decide

/-- The tables lie where they lay. -/
structure Tab (w : World) : Prop where
  start : ∀ j u, (wc startN.l)[j]? = some u → w.cell? ⟨0, j, none⟩ = some u
  key : ∀ j u, (wc keyN)[j]? = some u → w.cell? ⟨1, j, none⟩ = some u
  low : 1 < w.heap.size
  low0 : 0 < w.heap.size
theorem Tab.below {w w' : World} (h : Tab w) (hb : Below w.heap.size w w') : Tab w' :=
  ⟨fun j u hu => (hb.cell (p := ⟨0, j, none⟩) h.low0).trans (h.start j u hu), fun j u hu => (hb.cell (p := ⟨1, j, none⟩) h.low).trans (h.key j u hu), Nat.lt_of_lt_of_le h.low hb.size, Nat.lt_of_lt_of_le h.low0 hb.size⟩

theorem eight_size : (Tryz.prog.info? 215).map (·.size) = some 8 := by kernel_rfl
def W8.cells (x : W8) : Array Value := #[.int .u32 (x.a : Int), .int .u32 (x.b : Int), .int .u32 (x.c : Int), .int .u32 (x.d : Int), .int .u32 (x.e : Int), .int .u32 (x.f : Int), .int .u32 (x.g : Int), .int .u32 (x.h : Int)]
theorem W8.cells_eq (x : W8) : x.cells = (wc x.l).toArray := rfl

theorem not_val (e : Nat) (he : e < 4294967296) : bits .xor .u32 (if IntKind.u32.signed = true then -1 else IntKind.u32.max) (e : Int) = ((4294967295 ^^^ e : Nat) : Int) := u32_xor_nat 4294967295 e (by decide) he
theorem t_val (K M : Nat) (x : W8) (hx : x.In) :
    IntKind.u32.wrap (IntKind.u32.wrap (IntKind.u32.wrap (IntKind.u32.wrap ((x.h : Int) + bits .xor .u32 (bits .xor .u32 (rotr x.e 6 : Nat) (rotr x.e 11 : Nat)) (rotr x.e 25 : Nat)) + bits .xor .u32 (bits .and .u32 (x.e : Int) (x.f : Int)) (bits .and .u32 (bits .xor .u32 (if IntKind.u32.signed = true then -1 else IntKind.u32.max) (x.e : Int)) (x.g : Int))) + (K : Int)) + (M : Int)) = ((tF K M x : Nat) : Int) := by
  have r1 := rotr_lt x.e 6 hx.e
  have r2 := rotr_lt x.e 11 hx.e
  have r3 := rotr_lt x.e 25 hx.e
  have hn : 4294967295 ^^^ x.e < 4294967296 := xor32 (by decide) hx.e
  rw [u32_xor_nat _ _ r1 r2, u32_xor_nat _ _ (xor32 r1 r2) r3, not_val _ hx.e, u32_and_nat _ _ hx.e hx.f, u32_and_nat _ _ hn hx.g, u32_xor_nat _ _ (and32 hx.f) (and32 hx.g), wrap_add, wrap_add, wrap_add, wrap_add]
  rfl
theorem u_val (x : W8) (hx : x.In) :
    IntKind.u32.wrap (bits .xor .u32 (bits .xor .u32 (rotr x.a 2 : Nat) (rotr x.a 13 : Nat)) (rotr x.a 22 : Nat) + bits .xor .u32 (bits .xor .u32 (bits .and .u32 (x.a : Int) (x.b : Int)) (bits .and .u32 (x.a : Int) (x.c : Int))) (bits .and .u32 (x.b : Int) (x.c : Int))) = ((uF x : Nat) : Int) := by
  have r1 := rotr_lt x.a 2 hx.a
  have r2 := rotr_lt x.a 13 hx.a
  have r3 := rotr_lt x.a 22 hx.a
  rw [u32_xor_nat _ _ r1 r2, u32_xor_nat _ _ (xor32 r1 r2) r3, u32_and_nat _ _ hx.a hx.b, u32_and_nat _ _ hx.a hx.c, u32_and_nat _ _ hx.b hx.c, u32_xor_nat _ _ (and32 hx.b) (and32 hx.c), u32_xor_nat _ _ (xor32 (and32 hx.b) (and32 hx.c)) (and32 hx.c), wrap_add]
  rfl

theorem heap_setRow_ne (w : World) (g k : Nat) (cs : Array Value) (h : k ≠ g) : (w.setRow g cs).heap[k]? = w.heap[k]? := by
  unfold World.setRow
  simp only [Array.getElem?_modify]
  rw [if_neg (fun e => h e.symm)]

/-- The first j words summed. -/
def partL (h x : W8) (j : Nat) : List Nat := (List.range 8).map fun k => if k < j then addW (h.l.getD k 0) (x.l.getD k 0) else h.l.getD k 0
theorem partL_zero (h x : W8) : partL h x 0 = h.l := rfl
theorem partL_all (h x : W8) : partL h x 8 = (sumF h x).l := rfl
theorem partL_at (h x : W8) (j : Nat) (hj : j < 8) : (partL h x j)[j]? = some (h.l.getD j 0) := by simp [partL, hj]
theorem partL_set (h x : W8) (j : Nat) (hj : j < 8) : (partL h x j).set j (addW (h.l.getD j 0) (x.l.getD j 0)) = partL h x (j + 1) := by
  refine List.ext_getElem? fun k => ?_
  rw [List.getElem?_set]
  simp only [partL, List.length_map, List.length_range, List.getElem?_map]
  by_cases hk : k < 8
  · by_cases e : j = k
    · subst e; simp [hj]
    · have : k < j + 1 ↔ k < j := by omega
      simp [e, hk, this]
  · have : ¬ j = k := by omega
    simp [this, hk]

section
variable {ops : Array Oper} {rest : List Oper} {o : Oper} {a : Act} {Q : Exit → Act → World → Prop}
theorem wpl_store_w8 {W : World} (x : W8) (hgd : o.guard = none) (p v : Operand) (ho : o.op = .store 215 p v) (n : Nat) (hn : n = W.heap.size) (hx : a.eval p = .pointer (some ⟨n, 0, none⟩)) (hy : a.eval v = .agg x.cells) (old : Array Value) (T : TypeId) (hold : old.size = 8)
    (h : wpList Tryz.prog ops Q rest (a.put o.dst undef) (W.alloc (.cells x.cells T))) : wpList Tryz.prog ops Q (o :: rest) a (W.alloc (.cells old T)) :=
  wpl_store_new hgd 215 p v ho (by rw [← hn]; exact hx) (wc x.l) (by rw [← W8.cells_eq]; exact hy) old T (by rw [hold]; rfl) (wc_one _) eight_size (by rw [← W8.cells_eq]; exact h)
theorem wpl_row_w8 {w : World} (x : W8) (hgd : o.guard = none) (p v : Operand) (ho : o.op = .store 215 p v) (g : Nat) (hx : a.eval p = .pointer (some ⟨g, 0, none⟩)) (hy : a.eval v = .agg x.cells) (cur : Array Value) (T : TypeId) (hg : w.heap[g]? = some (.cells cur T (0, 0))) (hold : cur.size = 8)
    (h : wpList Tryz.prog ops Q rest (a.put o.dst undef) (w.setRow g x.cells)) : wpList Tryz.prog ops Q (o :: rest) a w :=
  wpl_store_row hgd 215 p v ho g hx (wc x.l) (by rw [← W8.cells_eq]; exact hy) cur T hg (by rw [hold]; rfl) (wc_one _) eight_size (by rw [← W8.cells_eq]; exact h)
end

set_option maxRecDepth 100000 in
set_option maxHeartbeats 2000000 in
theorem mix_any (w : World) (h : W8) (hin : h.In) (s : ByteArray) (hs : s.size = 64) (ht : Tab w) :
    Calls Tryz.prog 155 #[.agg h.cells, .string s] w fun e w' => e = .returned (.agg (mixF h s.data.toList).cells) ∧ Below w.heap.size w w' := by
  have HT := Lib.hid ht
  have HIN := Lib.hid hin
  clear ht hin
  go_enter Tryz.func155, Tryz.ntmps155
  have hB0 : Below w.heap.size w ((w.alloc (.cells h.cells 215)).alloc (.cells (W8.cells ⟨0, 0, 0, 0, 0, 0, 0, 0⟩) 215)) := ((Below.refl _ w).alloc (Nat.le_refl _) _).alloc (by simp) _
  have hg0 : ((w.alloc (.cells h.cells 215)).alloc (.cells (W8.cells ⟨0, 0, 0, 0, 0, 0, 0, 0⟩) 215)).heap[w.heap.size]? = some (.cells h.cells 215 (0, 0)) := by
    rw [heap_alloc_if, if_neg (by simp), heap_alloc_if, if_pos rfl]
  have hg1 : ((w.alloc (.cells h.cells 215)).alloc (.cells (W8.cells ⟨0, 0, 0, 0, 0, 0, 0, 0⟩) 215)).heap[w.heap.size + 1]? = some (.cells (W8.cells ⟨0, 0, 0, 0, 0, 0, 0, 0⟩) 215 (0, 0)) := by
    rw [heap_alloc_if, if_pos (by simp)]
  have HG0 := Lib.hid hg0
  have HG1 := Lib.hid hg1
  have HB0 := Lib.hid hB0
  clear hg0 hg1 hB0
  go_wp2_with (first
    | (go_at_call 191; refine (schedule_any _ s hs).mono ?_; rintro e w1 ⟨rfl, hb1⟩; have hz1 : w.heap.size + 1 < w1.heap.size := (by have := hb1.size; simp at this; omega); have HK0 : Hid (w1.heap[w.heap.size]? = some (.cells h.cells 215 (0, 0))) := (hb1.block _ (by simp only [World.size_alloc]; omega)).trans HG0.out; have HK1 : Hid (w1.heap[w.heap.size + 1]? = some (.cells (W8.cells ⟨0, 0, 0, 0, 0, 0, 0, 0⟩) 215 (0, 0))) := (hb1.block _ (by simp only [World.size_alloc]; omega)).trans HG1.out; have HB1 : Hid (Below w.heap.size w w1) := HB0.out.trans (hb1.mono HB0.out.size); clear hb1)
    | (refine wpl_store_new rfl 259 _ _ rfl rfl (wc (schedF s.data.toList 64)) rfl _ _ (by rw [wc_length, schedF_length]; simp) (wc_one _) (by rw [wc_length, schedF_length]; exact words_size) ?_)
    | (refine wpList_load_row rfl 215 (.tmp 2) rfl w.heap.size rfl 215 h.cells (0, 0) _ (by rw [heap_alloc_if, if_neg (by omega)]; exact HK0.out) Tryz.underlying215 rfl eight_size ?_)
    | (refine wpl_store_w8 h rfl (.tmp 6) (.tmp 17) rfl (w1.heap.size + 1) (World.size_alloc w1 _).symm rfl rfl _ _ rfl ?_))
  have hg5 : ((w1.alloc (.cells (wc (schedF s.data.toList 64)).toArray 259)).alloc (.cells h.cells 215)).heap[w1.heap.size]? = some (.cells (wc (schedF s.data.toList 64)).toArray 259 (0, 0)) := by
    rw [heap_alloc_if, if_neg (by simp), heap_alloc_if, if_pos rfl]
  have hg6 : ((w1.alloc (.cells (wc (schedF s.data.toList 64)).toArray 259)).alloc (.cells h.cells 215)).heap[w1.heap.size + 1]? = some (.cells h.cells 215 (0, 0)) := by
    rw [heap_alloc_if, if_pos (by simp)]
  have hg2 : ((w1.alloc (.cells (wc (schedF s.data.toList 64)).toArray 259)).alloc (.cells h.cells 215)).heap[w.heap.size]? = some (.cells h.cells 215 (0, 0)) := by
    rw [heap_alloc_if, if_neg (by simp; omega), heap_alloc_if, if_neg (by omega)]; exact HK0.out
  have hg4 : ((w1.alloc (.cells (wc (schedF s.data.toList 64)).toArray 259)).alloc (.cells h.cells 215)).heap[w.heap.size + 1]? = some (.cells (W8.cells ⟨0, 0, 0, 0, 0, 0, 0, 0⟩) 215 (0, 0)) := by
    rw [heap_alloc_if, if_neg (by simp; omega), heap_alloc_if, if_neg (by omega)]; exact HK1.out
  have hBW : Below w.heap.size w ((w1.alloc (.cells (wc (schedF s.data.toList 64)).toArray 259)).alloc (.cells h.cells 215)) := (HB1.out.alloc (by omega) _).alloc (by simp; omega) _
  generalize (w1.alloc (.cells (wc (schedF s.data.toList 64)).toArray 259)).alloc (.cells h.cells 215) = W at hg5 hg6 hg2 hg4 hBW
  obtain ⟨ws, hws⟩ : ∃ ws, schedF s.data.toList 64 = ws := ⟨_, rfl⟩
  have hwl : ws.length = 64 := by rw [← hws, schedF_length]
  have hwlt : ∀ i, ws.getD i 0 < 4294967296 := fun i => by rw [← hws]; exact schedF_getD_lt _ _ _
  rw [hws] at hg5
  have hr : mixF h s.data.toList = sumF h (rndF ws h 64) := by rw [mixF, hws]
  have HR := Lib.hid hr
  clear HG0 HG1 HB0 HK0 HK1 HB1 hws hr
  generalize w1.heap.size = g at hg5 hg6 hz1
  go_loopw [18] (fun ci wr => ∃ i : Nat, i ≤ 64 ∧ ci = .int .i64 i ∧ wr.heap[g + 1]? = some (.cells (rndF ws h i).cells 215 (0, 0)) ∧ wr.heap[g]? = some (.cells (wc ws).toArray 259 (0, 0)) ∧ wr.heap[w.heap.size]? = some (.cells h.cells 215 (0, 0)) ∧ wr.heap[w.heap.size + 1]? = some (.cells (W8.cells ⟨0, 0, 0, 0, 0, 0, 0, 0⟩) 215 (0, 0)) ∧ Below w.heap.size w wr) (fun ci _ => 64 - (intOf ci).toNat)
  case atStart => exact ⟨0, by omega, rfl, hg6, hg5, hg2, hg4, hBW⟩
  case round =>
    obtain ⟨i, hi, rfl, h6, h5, h2, h4, hBr⟩ := hrel
    clear hg5 hg6 hg2 hg4 hBW
    by_cases hlt : i < 64
    · have hxin := rndF_in ws h HIN.out i
      have hkey := ((HT.out.below (hBr.mono (Nat.le_refl _))).key i (.int .u32 (keyN.getD i 0 : Nat)) (by
        have : i < keyN.length := hlt
        rw [wc, List.getElem?_map, List.getD_eq_getElem?_getD, List.getElem?_eq_getElem this]; rfl))
      have hw5 : wr.cell? ⟨g, i, none⟩ = some (.int .u32 (ws.getD i 0 : Nat)) := cell_block h5 (by
        rw [wc, List.getElem?_toArray, List.getElem?_map, List.getD_eq_getElem?_getD, List.getElem?_eq_getElem (by omega)]; rfl)
      obtain ⟨K, hK⟩ : ∃ K, keyN.getD i 0 = K := ⟨_, rfl⟩
      obtain ⟨M, hM⟩ : ∃ M, ws.getD i 0 = M := ⟨_, rfl⟩
      have hstep : rndF ws h (i + 1) = stepF K M (rndF ws h i) := by rw [rndF, hK, hM]
      rw [hK] at hkey
      rw [hM] at hw5
      generalize rndF ws h i = x at hxin hstep h6
      have x0 : wr.cell? ⟨g + 1, 0, none⟩ = some (.int .u32 (x.a : Int)) := cell_block h6 rfl
      have x1 : wr.cell? ⟨g + 1, 1, none⟩ = some (.int .u32 (x.b : Int)) := cell_block h6 rfl
      have x2 : wr.cell? ⟨g + 1, 2, none⟩ = some (.int .u32 (x.c : Int)) := cell_block h6 rfl
      have x3 : wr.cell? ⟨g + 1, 3, none⟩ = some (.int .u32 (x.d : Int)) := cell_block h6 rfl
      have x4 : wr.cell? ⟨g + 1, 4, none⟩ = some (.int .u32 (x.e : Int)) := cell_block h6 rfl
      have x5 : wr.cell? ⟨g + 1, 5, none⟩ = some (.int .u32 (x.f : Int)) := cell_block h6 rfl
      have x6 : wr.cell? ⟨g + 1, 6, none⟩ = some (.int .u32 (x.g : Int)) := cell_block h6 rfl
      have x7 : wr.cell? ⟨g + 1, 7, none⟩ = some (.int .u32 (x.h : Int)) := cell_block h6 rfl
      have H6 := Lib.hid h6
      have H5 := Lib.hid h5
      have H2 := Lib.hid h2
      have H4 := Lib.hid h4
      have HBr := Lib.hid hBr
      have HX := Lib.hid hxin
      have HST := Lib.hid hstep
      clear h6 h5 h2 h4 hBr hxin hstep
      have hi64 : (i : Int) < 64 := by omega
      go_wp2
      refine wp_region_still_lit (by kernel_rfl) (by kernel_rfl) ?_
      iterate 12 still_step
      refine wpStill_nil ?_
      change Exit.then _ _ _ _ wr.drew
      have hkey' : wr.drew.cell? ⟨1, i, none⟩ = some (.int .u32 (K : Int)) := hkey
      have hw5' : wr.drew.cell? ⟨g, i, none⟩ = some (.int .u32 (M : Int)) := hw5
      have x3' : wr.drew.cell? ⟨g + 1, 3, none⟩ = some (.int .u32 (x.d : Int)) := x3
      have x5' : wr.drew.cell? ⟨g + 1, 5, none⟩ = some (.int .u32 (x.f : Int)) := x5
      have x6' : wr.drew.cell? ⟨g + 1, 6, none⟩ = some (.int .u32 (x.g : Int)) := x6
      have x7' : wr.drew.cell? ⟨g + 1, 7, none⟩ = some (.int .u32 (x.h : Int)) := x7
      have H6d : Hid (wr.drew.heap[g + 1]? = some (.cells x.cells 215 (0, 0))) := H6
      have H5d : Hid (wr.drew.heap[g]? = some (.cells (wc ws).toArray 259 (0, 0))) := H5
      have H2d : Hid (wr.drew.heap[w.heap.size]? = some (.cells h.cells 215 (0, 0))) := H2
      have H4d : Hid (wr.drew.heap[w.heap.size + 1]? = some (.cells (W8.cells ⟨0, 0, 0, 0, 0, 0, 0, 0⟩) 215 (0, 0))) := H4
      have HBd : Hid (Below w.heap.size w wr.drew) := HBr.out.drew
      generalize wr.drew = wd at hkey' hw5' x3' x5' x6' x7' H6d H5d H2d H4d HBd
      clear hkey hw5 x0 x1 x2 x3 x4 x5 x6 x7
      go_wp2
      refine wp_region_still_lit (by kernel_rfl) (by kernel_rfl) ?_
      iterate 3 still_step
      still_call (turn_still _ x.e 6 HX.out.e (by decide) (by decide))
      still_step
      still_call (turn_still _ x.e 11 HX.out.e (by decide) (by decide))
      iterate 2 still_step
      still_call (turn_still _ x.e 25 HX.out.e (by decide) (by decide))
      iterate 22 still_step
      rw [t_val K M x HX.out]
      refine wpStill_nil ?_
      change Exit.then _ _ _ _ wd.drew
      have x3' : wd.drew.cell? ⟨g + 1, 3, none⟩ = some (.int .u32 (x.d : Int)) := x3'
      have x5' : wd.drew.cell? ⟨g + 1, 5, none⟩ = some (.int .u32 (x.f : Int)) := x5'
      have x6' : wd.drew.cell? ⟨g + 1, 6, none⟩ = some (.int .u32 (x.g : Int)) := x6'
      have H6d : Hid (wd.drew.heap[g + 1]? = some (.cells x.cells 215 (0, 0))) := H6d
      have H5d : Hid (wd.drew.heap[g]? = some (.cells (wc ws).toArray 259 (0, 0))) := H5d
      have H2d : Hid (wd.drew.heap[w.heap.size]? = some (.cells h.cells 215 (0, 0))) := H2d
      have H4d : Hid (wd.drew.heap[w.heap.size + 1]? = some (.cells (W8.cells ⟨0, 0, 0, 0, 0, 0, 0, 0⟩) 215 (0, 0))) := H4d
      have HBd : Hid (Below w.heap.size w wd.drew) := HBd.out.drew
      generalize wd.drew = we at x3' x5' x6' H6d H5d H2d H4d HBd
      have hu := u_val x HX.out
      obtain ⟨t, hT⟩ : ∃ t, tF K M x = t := ⟨_, rfl⟩
      have hs1 : IntKind.u32.wrap ((t : Int) + ((uF x : Nat) : Int)) = ((addW t (uF x) : Nat) : Int) := wrap_add _ _
      have hs2 : IntKind.u32.wrap ((x.d : Int) + (t : Int)) = ((addW x.d t : Nat) : Int) := wrap_add _ _
      have hstp : stepF K M x = ⟨addW t (uF x), x.a, x.b, x.c, addW x.d t, x.e, x.f, x.g⟩ := by rw [stepF, hT]
      rw [hT]
      have HSP := Lib.hid hstp
      have HTT := Lib.hid hT
      clear hstp hT
      go_wp2_with (first
        | (go_at_call 192; refine (turn_any _ x.a 2 HX.out.a (by decide) (by decide)).mono ?_; rintro e w2 ⟨rfl, rfl⟩)
        | (go_at_call 192; refine (turn_any _ x.a 13 HX.out.a (by decide) (by decide)).mono ?_; rintro e w2 ⟨rfl, rfl⟩)
        | (go_at_call 192; refine (turn_any _ x.a 22 HX.out.a (by decide) (by decide)).mono ?_; rintro e w2 ⟨rfl, rfl⟩)
        | (refine wpl_row_w8 ⟨addW t (uF x), x.a, x.b, x.c, addW x.d t, x.e, x.f, x.g⟩ rfl (.tmp 6) (.tmp 94) rfl (g + 1) rfl rfl _ 215 H6d.out rfl ?_))
      go_roundw
      case rel =>
        refine ⟨i + 1, by omega, by go_num, ?_, ?_, ?_, ?_, below_setRow HBd.out (by have := hz1; omega) _⟩
        · rw [HST.out, HSP.out]; exact setRow_heap we _ _ _ _ _ H6d.out
        · rw [heap_setRow_ne _ _ _ _ (by omega)]; exact H5d.out
        · rw [heap_setRow_ne _ _ _ _ (by omega)]; exact H2d.out
        · rw [heap_setRow_ne _ _ _ _ (by omega)]; exact H4d.out
      case measure => simp [intOf]; omega
    · have hi64 : i = 64 := by omega
      subst hi64
      generalize rndF ws h 64 = X at h6 HR
      have H6 := Lib.hid h6
      have H4 := Lib.hid h4
      have HBr := Lib.hid hBr
      clear h6 h5 h4 hBr
      rw [W8.cells_eq, ← partL_zero h X] at h2
      go_wp2
      go_loopw [96] (fun ci wq => ∃ j : Nat, j ≤ 8 ∧ ci = .int .i64 j ∧ wq.heap[g + 1]? = some (.cells X.cells 215 (0, 0)) ∧ wq.heap[w.heap.size]? = some (.cells (wc (partL h X j)).toArray 215 (0, 0)) ∧ wq.heap[w.heap.size + 1]? = some (.cells (W8.cells ⟨0, 0, 0, 0, 0, 0, 0, 0⟩) 215 (0, 0)) ∧ Below w.heap.size w wq) (fun ci _ => 8 - (intOf ci).toNat)
      case atStart => exact ⟨0, by omega, rfl, H6.out, h2, H4.out, HBr.out⟩
      case round =>
        clear h2
        obtain ⟨j, hj, rfl, q6, q2, q4, qB⟩ := hrel
        by_cases hj8 : j < 8
        · have c1 : wr.cell? ⟨w.heap.size, j, none⟩ = some (.int .u32 (h.l.getD j 0 : Nat)) := cell_block q2 (by simpa using wc_at _ _ _ (partL_at h X j hj8))
          have c2 : wr.cell? ⟨g + 1, j, none⟩ = some (.int .u32 (X.l.getD j 0 : Nat)) := cell_block q6 (by
            rw [W8.cells_eq]
            have : X.l[j]? = some (X.l.getD j 0) := by rw [List.getD_eq_getElem?_getD, List.getElem?_eq_getElem (show j < X.l.length from hj8)]; rfl
            simpa using wc_at _ _ _ this)
          have f1 : wr.frozen? ⟨w.heap.size, j, none⟩ = false := Lib.frozen_of_heap q2 j
          obtain ⟨p, hp⟩ : ∃ p, h.l.getD j 0 = p := ⟨_, rfl⟩
          obtain ⟨r, hr⟩ : ∃ r, X.l.getD j 0 = r := ⟨_, rfl⟩
          have hset := partL_set h X j hj8
          rw [hp, hr] at hset
          rw [hp] at c1
          rw [hr] at c2
          have hs : IntKind.u32.wrap ((p : Int) + (r : Int)) = ((addW p r : Nat) : Int) := wrap_add _ _
          have hj8' : (j : Int) < 8 := by omega
          have Q6 := Lib.hid q6
          have Q2 := Lib.hid q2
          have Q4 := Lib.hid q4
          have QB := Lib.hid qB
          have HSET := Lib.hid hset
          clear q6 q2 q4 qB hset hp hr
          go_wp2
          refine wp_region_still_tail 8 (by kernel_rfl) (by kernel_rfl) ?_
          simp only [List.take_succ_cons, List.take_zero, List.drop_succ_cons, List.drop_zero]
          repeat still_step
          refine wpStill_nil ?_
          change wpList _ _ _ _ _ wr.drew
          have c1d : wr.drew.cell? ⟨w.heap.size, j, none⟩ = some (.int .u32 (p : Int)) := c1
          have f1d : wr.drew.frozen? ⟨w.heap.size, j, none⟩ = false := f1
          have Q6d : Hid (wr.drew.heap[g + 1]? = some (.cells X.cells 215 (0, 0))) := Q6
          have Q2d : Hid (wr.drew.heap[w.heap.size]? = some (.cells (wc (partL h X j)).toArray 215 (0, 0))) := Q2
          have Q4d : Hid (wr.drew.heap[w.heap.size + 1]? = some (.cells (W8.cells ⟨0, 0, 0, 0, 0, 0, 0, 0⟩) 215 (0, 0))) := Q4
          have QBd : Hid (Below w.heap.size w wr.drew) := QB.out.drew
          generalize wr.drew = wd at c1d f1d Q6d Q2d Q4d QBd
          clear c1 f1 c2 Q6 Q2 Q4 QB
          go_wp2
          go_roundw
          case rel =>
            refine ⟨_, _, _, _, _, _, _, _, _, _, _, _, _, ?_, rfl⟩
            refine ⟨j + 1, by omega, by go_num, ?_, ?_, ?_, QBd.out.setCell (p := ⟨w.heap.size, j, none⟩) (Nat.le_refl _) _⟩
            · rw [← Q6d.out]; exact Below.heap_setCell _ _ _ _ (by simp; omega)
            · rw [heap_setCell_at wd _ j _ _ _ _ Q2d.out, wc_set, HSET.out]
            · rw [← Q4d.out]; exact Below.heap_setCell _ _ _ _ (by simp)
          case measure => simp [intOf]; omega
        · have hj64 : j = 8 := by omega
          subst hj64
          rw [partL_all, ← W8.cells_eq] at q2
          have Q2 := Lib.hid q2
          have Q4 := Lib.hid q4
          have QB := Lib.hid qB
          clear q6 q2 q4 qB
          go_wp2_with (first
            | (refine wpList_load_row rfl 215 (.tmp 2) rfl w.heap.size rfl 215 (sumF h X).cells (0, 0) _ Q2.out Tryz.underlying215 rfl eight_size ?_)
            | (refine wpl_row_w8 (sumF h X) rfl (.tmp 4) (.tmp 108) rfl (w.heap.size + 1) rfl rfl _ 215 Q4.out rfl ?_))
          (try simp only [Exit.inBlock, Exit.then])
          refine bodyPost_ret (results_cell_row rfl _ _ (w.heap.size + 1) 215 (sumF h X).cells (0, 0) _ rfl (setRow_heap wr (w.heap.size + 1) _ _ _ _ Q4.out) Tryz.underlying215 rfl eight_size) rfl ?_
          exact ⟨by rw [HR.out], below_setRow QB.out (Nat.le_succ _) _⟩
end Go.Proofs.YtcohdfkdhdhegaaGreatDoor
namespace Go.Proofs.YtcohdfkdhdhegaaGreatDoor
open Go.Shelf Go.RowKit
def lays105_ren : Go.Shelf.Ren := ⟨fun | 105 => 188 | 212 => 221 | 99 => 222 | 165 => 189 | 166 => 190 | 170 => 223 | 169 => 120 | 263 => 241 | 264 => 242 | 206 => 243 | 240 => 162 | 241 => 224 | 276 => 195 | 277 => 244 | n => n, fun | 9 => 9 | 3 => 3 | 4 => 4 | 20 => 20 | 0 => 0 | 46 => 115 | 109 => 288 | 5 => 5 | 72 => 167 | 76 => 170 | 51 => 214 | 146 => 269 | 53 => 26 | 148 => 303 | 70 => 165 | 37 => 145 | 75 => 169 | 127 => 224 | 164 => 264 | 80 => 93 | n => n, fun | n => n⟩
theorem lays105 : Go.Proofs.Lays.n105 Tryz.prog lays105_ren := {
  mixed := by kernel_rfl
  f99 := Tryz.func222.trans (congrArg some (by kernel_rfl))
  f105 := Tryz.func188.trans (congrArg some (by kernel_rfl))
  f165 := Tryz.func189.trans (congrArg some (by kernel_rfl))
  f166 := Tryz.func190.trans (congrArg some (by kernel_rfl))
  f169 := Tryz.func120.trans (congrArg some (by kernel_rfl))
  f170 := Tryz.func223.trans (congrArg some (by kernel_rfl))
  f206 := Tryz.func243.trans (congrArg some (by kernel_rfl))
  f212 := Tryz.func221.trans (congrArg some (by kernel_rfl))
  f240 := Tryz.func162.trans (congrArg some (by kernel_rfl))
  f241 := Tryz.func224.trans (congrArg some (by kernel_rfl))
  f263 := Tryz.func241.trans (congrArg some (by kernel_rfl))
  f264 := Tryz.func242.trans (congrArg some (by kernel_rfl))
  f276 := Tryz.func195.trans (congrArg some (by kernel_rfl))
  f277 := Tryz.func244.trans (congrArg some (by kernel_rfl))
  t0 := Tryz.underlying0
  a0 := Tryz.isAgg0
  z0 := Tryz.sizeOf0
  v0 := Tryz.zeroValue0
  t3 := Tryz.underlying3
  a3 := Tryz.isAgg3
  z3 := Tryz.sizeOf3
  v3 := Tryz.zeroValue3
  t4 := Tryz.underlying4
  a4 := Tryz.isAgg4
  z4 := Tryz.sizeOf4
  v4 := Tryz.zeroValue4
  t5 := Tryz.underlying5
  a5 := Tryz.isAgg5
  z5 := Tryz.sizeOf5
  v5 := Tryz.zeroValue5
  t9 := Tryz.underlying9
  a9 := Tryz.isAgg9
  z9 := Tryz.sizeOf9
  v9 := Tryz.zeroValue9
  t20 := Tryz.underlying20
  a20 := Tryz.isAgg20
  z20 := Tryz.sizeOf20
  v20 := Tryz.zeroValue20
  t37 := Tryz.underlying145
  a37 := Tryz.isAgg145
  z37 := Tryz.sizeOf145
  v37 := Tryz.zeroValue145
  t46 := Tryz.underlying115
  a46 := Tryz.isAgg115
  z46 := Tryz.sizeOf115
  v46 := Tryz.zeroValue115
  t51 := Tryz.underlying214
  a51 := Tryz.isAgg214
  z51 := Tryz.sizeOf214
  v51 := Tryz.zeroValue214
  t53 := Tryz.underlying26
  a53 := Tryz.isAgg26
  z53 := Tryz.sizeOf26
  v53 := Tryz.zeroValue26
  t70 := Tryz.underlying165
  a70 := Tryz.isAgg165
  z70 := Tryz.sizeOf165
  v70 := Tryz.zeroValue165
  t72 := Tryz.underlying167
  a72 := Tryz.isAgg167
  z72 := Tryz.sizeOf167
  v72 := Tryz.zeroValue167
  t75 := Tryz.underlying169
  a75 := Tryz.isAgg169
  z75 := Tryz.sizeOf169
  v75 := Tryz.zeroValue169
  t76 := Tryz.underlying170
  a76 := Tryz.isAgg170
  z76 := Tryz.sizeOf170
  v76 := Tryz.zeroValue170
  t109 := Tryz.underlying288
  a109 := Tryz.isAgg288
  z109 := Tryz.sizeOf288
  v109 := Tryz.zeroValue288
  t127 := Tryz.underlying224
  a127 := Tryz.isAgg224
  z127 := Tryz.sizeOf224
  v127 := Tryz.zeroValue224
  t146 := Tryz.underlying269
  a146 := Tryz.isAgg269
  z146 := Tryz.sizeOf269
  v146 := Tryz.zeroValue269
  t148 := Tryz.underlying303
  a148 := Tryz.isAgg303
  z148 := Tryz.sizeOf303
  v148 := Tryz.zeroValue303
  t164 := Tryz.underlying264
  a164 := Tryz.isAgg264
  z164 := Tryz.sizeOf264
  v164 := Tryz.zeroValue264 }
theorem Builder_Extra_105 : Builder.Extra Tryz.prog lays105_ren := {
  sizeBuilder := by kernel_rfl
  liesBuilder := by kernel_rfl
  t5 := Tryz.underlying5
  a5 := Tryz.isAgg5
  z5 := Tryz.sizeOf5
  v5 := Tryz.zeroValue5
  infoByte := by kernel_rfl
  cellsByte := by kernel_rfl
  sizeByte := by kernel_rfl
  neB5 := by decide }

theorem repeatL_zero (k : Nat) : Lib.repeatL [0] k = List.replicate k (0 : UInt8) := by
  induction k with
  | zero => rfl
  | succ k ih => rw [Lib.repeatL, ih]; rfl
theorem noughts_any (k : Nat) (w : World) (hk : k ≤ 1024) :
    Calls Tryz.prog 188 #[.string ⟨#[0]⟩, .int .i64 (k : Int)] w fun e w' => e = .returned (.string ⟨(List.replicate k (0 : UInt8)).toArray⟩) ∧ Below w.heap.size w w' := by
  rcases k with _ | _ | k
  · refine (Any.strings_Repeat_zero lays105 ⟨#[0]⟩ w).mono ?_
    rintro e w' ⟨rfl, rfl⟩
    exact ⟨rfl, Below.refl _ _⟩
  · refine (Any.strings_Repeat_one lays105 ⟨#[0]⟩ w).mono ?_
    rintro e w' ⟨rfl, rfl⟩
    exact ⟨rfl, Below.refl _ _⟩
  · refine (Any.strings_Repeat_main lays105 Builder_Extra_105 ⟨#[0]⟩ (k + 2) w (by omega) (by omega) (by show 1 * (k + 2) ≤ _; omega) (by decide)).mono ?_
    rintro e w' ⟨rfl, hb⟩
    rw [← repeatL_zero]
    exact ⟨rfl, hb⟩
end Go.Proofs.YtcohdfkdhdhegaaGreatDoor
namespace Go.Proofs.YtcohdfkdhdhegaaGreatDoor
open Go.RowKit

/-- Bytes, as whole blocks. -/
def padF (s : List UInt8) : List UInt8 := s ++ 128 :: List.replicate ((119 - s.length % 64) % 64) 0 ++ dig (s.length * 8) 8
theorem padF_length (s : List UInt8) : ∃ k, (padF s).length = 64 * k := by
  simp only [padF, List.length_append, List.length_cons, List.length_replicate, dig_length]
  exact ⟨(s.length + 1 + (119 - s.length % 64) % 64 + 8) / 64, by omega⟩
theorem ba_append (a b : ByteArray) : (a ++ b).data.toList = a.data.toList ++ b.data.toList := by simp

/-- One byte as a text. -/
theorem conv_one (w : World) (b : UInt8) : (convert 145 9 (.slice (some ⟨w.heap.size, 0, none⟩) 1 1)).run Tryz.prog (w.alloc (.cells #[.int .u8 (b.toNat : Int)] 5)) = .ok (.string ⟨#[b]⟩) (w.alloc (.cells #[.int .u8 (b.toNat : Int)] 5)) :=
  run_convert_bytes_back (P := Tryz.prog) _ 145 9 5 ⟨w.heap.size, 0, none⟩ 1 [b] Tryz.underlying145 Tryz.underlying5 Tryz.underlying9 (fun j hj => by
    have hj0 : j = 0 := by simpa using hj
    subst hj0
    exact cell_block (heap_alloc_new w _) rfl)

set_option maxRecDepth 100000 in
set_option maxHeartbeats 2000000 in
theorem pad_any (w : World) (s : ByteArray) (hs : s.size ≤ 1099511627776) :
    Calls Tryz.prog 153 #[.string s] w fun e w' => e = .returned (.string ⟨(padF s.data.toList).toArray⟩) ∧ Below w.heap.size w w' := by
  obtain ⟨n, hn⟩ : ∃ n, s.size = n := ⟨_, rfl⟩
  have hl : s.data.toList.length = n := by simpa using hn
  have hnn := noughts_any ((119 - n % 64) % 64) w (by omega)
  rw [show (((119 - n % 64) % 64 : Nat) : Int) = (119 - (n : Int)) % 64 by omega] at hnn
  have HN := Lib.hid hnn
  clear hnn
  go_enter Tryz.func153, Tryz.ntmps153
  go_wp2_with (go_at_call 188; refine HN.out.mono ?_; rintro e w1 ⟨rfl, hb1⟩)
  have h0 : (s ++ ((⟨#[128]⟩ : ByteArray) ++ ⟨Array.replicate ((119 - n % 64) % 64) 0⟩)).data.toList ++ dig (n * 8) 8 = padF s.data.toList := by
    rw [ba_append, ba_append, padF, hl]
    simp
  generalize s ++ ((⟨#[128]⟩ : ByteArray) ++ ⟨Array.replicate ((119 - n % 64) % 64) 0⟩) = z0 at h0
  have H0 := Lib.hid h0
  clear h0
  go_loopw [0, 4] (fun c0 ci wr => ∃ (i : Nat) (z : ByteArray), i ≤ 8 ∧ ci = .int .i64 ((i : Int) - 1) ∧ c0 = .string z ∧ z.data.toList ++ dig (n * 8) i = padF s.data.toList ∧ Below w.heap.size w wr) (fun _ ci _ => (intOf ci + 1).toNat)
  case atStart => exact ⟨8, z0, by omega, rfl, rfl, H0.out, hb1⟩
  case round =>
    obtain ⟨i, z, hi, rfl, rfl, hz, hB⟩ := hrel
    have HZ := Lib.hid hz
    have HB := Lib.hid hB
    clear hz hB hb1
    by_cases hi0 : 0 < i
    · obtain ⟨j, rfl⟩ : ∃ j, i = j + 1 := ⟨i - 1, by omega⟩
      rw [show ((j + 1 : Nat) : Int) - 1 = (j : Int) by omega]
      obtain ⟨b, hb⟩ : ∃ b, UInt8.ofNat (n * 8 / 256 ^ j) = b := ⟨_, rfl⟩
      have hby : (n : Int) * 8 / 2 ^ (8 * j) % 256 = ((b.toNat : Nat) : Int) := by
        have h := dig_byte (n * 8) j
        rw [show ((n * 8 : Nat) : Int) = (n : Int) * 8 by omega, hb, show (8 * (j : Int)).toNat = 8 * j by omega] at h
        rw [← h]
        simp [IntKind.wrap, IntKind.bits, IntKind.signed]
      have hcv := conv_one wr b
      have HBY := Lib.hid hb
      clear hb
      have hz2 : z.size ≤ 2199023255552 := by
        have h1 := congrArg List.length HZ.out
        simp only [padF, List.length_append, List.length_cons, List.length_replicate, dig_length, hl] at h1
        have h2 : z.data.toList.length = z.size := by simp
        omega
      go_wp2
      go_roundw
      case rel =>
        refine ⟨j, z ++ ⟨#[b]⟩, by omega, by go_num, rfl, ?_, HB.out.alloc HB.out.size _⟩
        rw [← HZ.out, ba_append, dig, HBY.out]
        simp
      case measure => simp [intOf]
    · have hi00 : i = 0 := by omega
      subst hi00
      go_wp2
      go_ret
      refine ⟨?_, HB.out⟩
      rw [← HZ.out]
      simp only [dig, List.append_nil, Array.toArray_toList]
      rfl
end Go.Proofs.YtcohdfkdhdhegaaGreatDoor
