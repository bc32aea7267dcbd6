/- digest.turn, digest.schedule. digest.mix. -/
import Derived.Test.YthpcedficlhanaaGreatDoorOvAC
import Derived.Laws.BitsAllLaws
import Derived.Laws.CopyOwn
namespace Go.Proofs.YthpcedficlhanaaGreatDoor
open Go.RowKit

/-- A word turned to the right. -/
def rotr (x n : Nat) : Nat := (x * 2 ^ (32 - n)) % 4294967296 ||| x / 2 ^ n
theorem rotr_lt (x n : Nat) (hx : x < 4294967296) : rotr x n < 4294967296 :=
  Nat.or_lt_two_pow (n := 32) (Nat.mod_lt _ (by decide)) (Nat.lt_of_le_of_lt (Nat.div_le_self _ _) hx)

theorem rot_count (n : Nat) (hn : 0 < n) (hn2 : n < 32) : bits .and .u64 (IntKind.u64.wrap (-(n : Int))) 31 = ((32 - n : Nat) : Int) := by
  have h1 : IntKind.u64.wrap (-(n : Int)) = ((18446744073709551616 - n : Nat) : Int) := by simp [IntKind.wrap, IntKind.bits, IntKind.signed]; omega
  have h2 := u64_and_nat (18446744073709551616 - n) 31 (by omega) (by omega)
  have h3 : (18446744073709551616 - n) &&& 31 = 32 - n := by
    have := Nat.and_two_pow_sub_one_eq_mod (18446744073709551616 - n) 5
    simp only [Nat.reducePow, Nat.reduceSub] at this
    rw [this]; omega
  rw [h1]
  rw [h3] at h2
  exact h2

set_option maxRecDepth 100000 in
set_option maxHeartbeats 2000000 in
theorem turn_any (w : World) (x n : Nat) (h1 : x < 4294967296) (hn : 0 < n) (hn2 : n < 32) :
    Calls Tryz.prog 188 #[.int .u32 (x : Int), .int .i64 (n : Int)] w fun e w' => e = .returned (.int .u32 (rotr x n : Nat)) ∧ w = w' := by
  have hc := rot_count n hn hn2
  have hv : bits .or .u32 ((x : Int) * 2 ^ (32 - n) % 4294967296) ((x : Int) / 2 ^ (32 - (32 - n))) = ((rotr x n : Nat) : Int) := by
    rw [show 32 - (32 - n) = n by omega]
    have := u32_or_nat (x * 2 ^ (32 - n) % 4294967296) (x / 2 ^ n) (Nat.mod_lt _ (by decide)) (Nat.lt_of_le_of_lt (Nat.div_le_self _ _) h1)
    have e1 : ((x : Int) * 2 ^ (32 - n) % 4294967296) = ((x * 2 ^ (32 - n) % 4294967296 : Nat) : Int) := by rw [Int.natCast_emod, Int.natCast_mul, Int.natCast_pow]; rfl
    have e2 : (x : Int) / 2 ^ n = ((x / 2 ^ n : Nat) : Int) := by rw [Int.natCast_ediv, Int.natCast_pow]; rfl
    rw [rotr, ← this, e1, e2]
  go_enter Tryz.func188, Tryz.ntmps188
  go_wp2
  go_ret
  exact ⟨by rw [← hv]; rfl, rfl⟩
theorem turn_still (w : World) (x n : Nat) (h1 : x < 4294967296) (hn : 0 < n) (hn2 : n < 32) :
    Calls Tryz.prog 188 #[.int .u32 (x : Int), .int .i64 (n : Int)] w fun e w' => e = .returned (.int .u32 (rotr x n : Nat)) ∧ w' = w :=
  (turn_any w x n h1 hn hn2).mono fun _ _ ⟨he, hw⟩ => ⟨he, hw.symm⟩

theorem heap_setCell_at (w : World) (g i : Nat) (cs : Array Value) (T : TypeId) (fr : Nat × Nat) (v : Value) (h : w.heap[g]? = some (.cells cs T fr)) : (w.setCell ⟨g, i, none⟩ v).heap[g]? = some (.cells (cs.setIfInBounds i v) T fr) := by
  simp [World.setCell, Array.getElem?_modify, h]

def wc (l : List Nat) : List Value := l.map fun x : Nat => .int .u32 (x : Int)
theorem wc_length (l : List Nat) : (wc l).length = l.length := by simp [wc]
theorem wc_one (l : List Nat) : ∀ u ∈ wc l, u.oneCell' = true := by
  intro u hu
  simp only [wc, List.mem_map] at hu
  obtain ⟨x, _, rfl⟩ := hu
  rfl
theorem words_size : (Tryz.prog.info? 252).map (·.size) = some 64 := by kernel_rfl
theorem wc_at (l : List Nat) (i x : Nat) (h : l[i]? = some x) : (wc l)[i]? = some (.int .u32 (x : Int)) := by simp [wc, h]
theorem wc_set (l : List Nat) (i x : Nat) : (wc l).toArray.setIfInBounds i (.int .u32 (x : Int)) = (wc (l.set i x)).toArray := by simp [wc, List.map_set]

def addW (a b : Nat) : Nat := (a + b) % 4294967296
def sig0 (a : Nat) : Nat := rotr a 7 ^^^ rotr a 18 ^^^ a / 8
def sig1 (b : Nat) : Nat := rotr b 17 ^^^ rotr b 19 ^^^ b / 1024
/-- Word i of a block, of the words ahead of it. -/
def nextW (l : List Nat) (i : Nat) : Nat := addW (addW (addW (l.getD (i - 16) 0) (sig0 (l.getD (i - 15) 0))) (l.getD (i - 7) 0)) (sig1 (l.getD (i - 2) 0))
def byteD (s : List UInt8) (i : Nat) : Nat := (s.getD i 0).toNat
def wordF (s : List UInt8) (i : Nat) : Nat := byteD s (4 * i) * 16777216 ||| byteD s (4 * i + 1) * 65536 ||| byteD s (4 * i + 2) * 256 ||| byteD s (4 * i + 3)
def schedF (s : List UInt8) : Nat → List Nat
  | 0 => []
  | i + 1 => schedF s i ++ [if i < 16 then wordF s i else nextW (schedF s i) i]
theorem schedF_length (s : List UInt8) (i : Nat) : (schedF s i).length = i := by
  induction i with
  | zero => rfl
  | succ i ih => simp [schedF, ih]
theorem byteD_lt (s : List UInt8) (i : Nat) : byteD s i < 256 := (s.getD i 0).toNat_lt
theorem xor32 {a b : Nat} (ha : a < 4294967296) (hb : b < 4294967296) : a ^^^ b < 4294967296 := Nat.xor_lt_two_pow (n := 32) ha hb
theorem or32 {a b : Nat} (ha : a < 4294967296) (hb : b < 4294967296) : a ||| b < 4294967296 := Nat.or_lt_two_pow (n := 32) ha hb
theorem and32 {a b : Nat} (hb : b < 4294967296) : a &&& b < 4294967296 := Nat.and_lt_two_pow (n := 32) _ hb
theorem addW_lt (a b : Nat) : addW a b < 4294967296 := Nat.mod_lt _ (by decide)
theorem wordF_lt (s : List UInt8) (i : Nat) : wordF s i < 4294967296 := by
  have h0 := byteD_lt s (4 * i); have h1 := byteD_lt s (4 * i + 1); have h2 := byteD_lt s (4 * i + 2); have h3 := byteD_lt s (4 * i + 3)
  exact or32 (or32 (or32 (by omega) (by omega)) (by omega)) (by omega)
theorem schedF_lt (s : List UInt8) (i : Nat) : ∀ x ∈ schedF s i, x < 4294967296 := by
  induction i with
  | zero => intro x hx; simp [schedF] at hx
  | succ i ih =>
    intro x hx
    simp only [schedF, List.mem_append, List.mem_singleton] at hx
    rcases hx with hx | rfl
    · exact ih x hx
    · split
      · exact wordF_lt s i
      · exact addW_lt _ _
/-- The words that are there, and noughts. -/
def wsF (s : List UInt8) (i : Nat) : List Nat := schedF s i ++ List.replicate (64 - i) 0
theorem wsF_length (s : List UInt8) (i : Nat) (hi : i ≤ 64) : (wsF s i).length = 64 := by simp [wsF, schedF_length]; omega
theorem wsF_set (s : List UInt8) (i x : Nat) (hi : i < 64) (hx : x = if i < 16 then wordF s i else nextW (schedF s i) i) : (wsF s i).set i x = wsF s (i + 1) := by
  have hl := schedF_length s i
  rw [wsF, List.set_append_right _ _ (by omega), hl, Nat.sub_self, show 64 - i = (64 - (i + 1)) + 1 by omega, List.replicate_succ, List.set_cons_zero, wsF, schedF, List.append_assoc, hx]
  rfl
theorem wsF_at (s : List UInt8) (i j : Nat) (hj : j < i) : (wsF s i)[j]? = some ((schedF s i).getD j 0) := by
  rw [wsF, List.getElem?_append_left (by rw [schedF_length]; exact hj), List.getD_eq_getElem?_getD, List.getElem?_eq_getElem (by rw [schedF_length]; exact hj)]
  rfl
theorem schedF_getD_lt (s : List UInt8) (i j : Nat) : (schedF s i).getD j 0 < 4294967296 := by
  rw [List.getD_eq_getElem?_getD]
  cases h : (schedF s i)[j]? with
  | none => simp
  | some x => exact schedF_lt s i x (List.mem_of_getElem? h)

/-- A sum of words, as the model reckons it. -/
theorem wrap_add (a b : Nat) : IntKind.u32.wrap ((a : Int) + (b : Int)) = ((addW a b : Nat) : Int) := by rw [IntKind.wrap_u32', addW]; omega

theorem wrap_nat (a : Nat) (h : a < 4294967296) : IntKind.u32.wrap (a : Int) = (a : Int) := by rw [IntKind.wrap_u32']; omega
theorem word_val (l : List UInt8) (i : Nat) : bits .or .u32 (bits .or .u32 (bits .or .u32 (IntKind.u32.wrap (IntKind.u32.wrap (byteD l (4 * i) : Int) * 16777216)) (IntKind.u32.wrap (IntKind.u32.wrap (byteD l (4 * i + 1) : Int) * 65536))) (IntKind.u32.wrap (IntKind.u32.wrap (byteD l (4 * i + 2) : Int) * 256))) (IntKind.u32.wrap (byteD l (4 * i + 3) : Int)) = ((wordF l i : Nat) : Int) := by
  have h0 := byteD_lt l (4 * i); have h1 := byteD_lt l (4 * i + 1); have h2 := byteD_lt l (4 * i + 2); have h3 := byteD_lt l (4 * i + 3)
  have e0 : IntKind.u32.wrap (IntKind.u32.wrap (byteD l (4 * i) : Int) * 16777216) = ((byteD l (4 * i) * 16777216 : Nat) : Int) := by rw [wrap_nat _ (by omega), IntKind.wrap_u32']; omega
  have e1 : IntKind.u32.wrap (IntKind.u32.wrap (byteD l (4 * i + 1) : Int) * 65536) = ((byteD l (4 * i + 1) * 65536 : Nat) : Int) := by rw [wrap_nat _ (by omega), IntKind.wrap_u32']; omega
  have e2 : IntKind.u32.wrap (IntKind.u32.wrap (byteD l (4 * i + 2) : Int) * 256) = ((byteD l (4 * i + 2) * 256 : Nat) : Int) := by rw [wrap_nat _ (by omega), IntKind.wrap_u32']; omega
  rw [e0, e1, e2, wrap_nat _ (by omega), u32_or_nat _ _ (by omega) (by omega), u32_or_nat _ _ (or32 (by omega) (by omega)) (by omega), u32_or_nat _ _ (or32 (or32 (by omega) (by omega)) (by omega)) (by omega)]
  rfl

theorem sig_val (x y A s : Nat) (hx : x < 4294967296) (hy : y < 4294967296) (hA : A < 4294967296) : bits .xor .u32 (bits .xor .u32 (x : Int) (y : Int)) ((A : Int) / (s : Int)) = ((x ^^^ y ^^^ A / s : Nat) : Int) := by
  have e : (A : Int) / (s : Int) = ((A / s : Nat) : Int) := (Int.natCast_ediv A s).symm
  rw [e, u32_xor_nat _ _ hx hy, u32_xor_nat _ _ (xor32 hx hy) (Nat.lt_of_le_of_lt (Nat.div_le_self _ _) hA)]
theorem next_val (A B C D : Nat) (hA : A < 4294967296) (hB : B < 4294967296) :
    IntKind.u32.wrap (IntKind.u32.wrap (IntKind.u32.wrap ((C : Int) + bits .xor .u32 (bits .xor .u32 (rotr A 7 : Nat) (rotr A 18 : Nat)) ((A : Int) / 8)) + (D : Int)) + bits .xor .u32 (bits .xor .u32 (rotr B 17 : Nat) (rotr B 19 : Nat)) ((B : Int) / 1024)) = ((addW (addW (addW C (sig0 A)) D) (sig1 B) : Nat) : Int) := by
  have e1 := sig_val _ _ A 8 (rotr_lt A 7 hA) (rotr_lt A 18 hA) hA
  have e2 := sig_val _ _ B 1024 (rotr_lt B 17 hB) (rotr_lt B 19 hB) hB
  have e1' : bits .xor .u32 (bits .xor .u32 (rotr A 7 : Nat) (rotr A 18 : Nat)) ((A : Int) / 8) = ((sig0 A : Nat) : Int) := e1
  have e2' : bits .xor .u32 (bits .xor .u32 (rotr B 17 : Nat) (rotr B 19 : Nat)) ((B : Int) / 1024) = ((sig1 B : Nat) : Int) := e2
  rw [e1', e2', wrap_add, wrap_add, wrap_add]

set_option maxRecDepth 100000 in
set_option maxHeartbeats 2000000 in
theorem schedule_any (w : World) (s : ByteArray) (hs : s.size = 64) :
    Calls Tryz.prog 187 #[.string s] w fun e w' => e = .returned (.agg (wc (schedF s.data.toList 64)).toArray) ∧ Below w.heap.size w w' := by
  go_enter Tryz.func187, Tryz.ntmps187
  go_wp2
  change Code.wp _ _ _ _ ((w.alloc (.cells (wc (wsF s.data.toList 0)).toArray 252)).alloc (.cells (wc (wsF s.data.toList 0)).toArray 252))
  have hg2 : ((w.alloc (.cells (wc (wsF s.data.toList 0)).toArray 252)).alloc (.cells (wc (wsF s.data.toList 0)).toArray 252)).heap[w.heap.size]? = some (.cells (wc (wsF s.data.toList 0)).toArray 252 (0, 0)) := by
    rw [heap_alloc_if, if_neg (by simp), heap_alloc_if, if_pos rfl]
  have hg3 : ((w.alloc (.cells (wc (wsF s.data.toList 0)).toArray 252)).alloc (.cells (wc (wsF s.data.toList 0)).toArray 252)).heap[w.heap.size + 1]? = some (.cells (wc (wsF s.data.toList 0)).toArray 252 (0, 0)) := by
    rw [heap_alloc_if, if_pos (by simp)]
  have hB : Below w.heap.size w ((w.alloc (.cells (wc (wsF s.data.toList 0)).toArray 252)).alloc (.cells (wc (wsF s.data.toList 0)).toArray 252)) := ((Below.refl _ w).alloc (Nat.le_refl _) _).alloc (by simp) _
  generalize (w.alloc (.cells (wc (wsF s.data.toList 0)).toArray 252)).alloc (.cells (wc (wsF s.data.toList 0)).toArray 252) = W at hg2 hg3 hB
  obtain ⟨l, hl⟩ : ∃ l, s.data.toList = l := ⟨_, rfl⟩
  rw [hl] at hg2 hg3
  have hx : ∀ j (h : j < s.size), (s[j].toNat : Int) = (byteD l j : Int) := fun j h => by
    rw [← hl, byteD, List.getD_eq_getElem?_getD, List.getElem?_eq_getElem (by simpa using h)]
    rfl
  go_loopw [7] (fun ci wr => ∃ i : Nat, i ≤ 64 ∧ ci = .int .i64 i ∧ wr.heap[w.heap.size]? = some (.cells (wc (wsF l 0)).toArray 252 (0, 0)) ∧ wr.heap[w.heap.size + 1]? = some (.cells (wc (wsF l i)).toArray 252 (0, 0)) ∧ Below w.heap.size w wr) (fun ci _ => 64 - (intOf ci).toNat)
  case atStart => exact ⟨0, by omega, rfl, hg2, hg3, hB⟩
  case round =>
    obtain ⟨i, hi, rfl, h2, h3, hBr⟩ := hrel
    clear hg2 hg3 hB
    have H2 := Lib.hid h2
    have H3 := Lib.hid h3
    have HB := Lib.hid hBr
    clear h2 h3 hBr
    by_cases hlt : i < 64
    · have hc : wr.cell? ⟨w.heap.size + 1, i, none⟩ = some (.int .u32 ((wsF l i)[i]?.getD 0 : Nat)) := cell_block H3.out (by
        have : i < (wsF l i).length := by rw [wsF_length l i hi]; exact hlt
        simp [wc, this])
      have hf : wr.frozen? ⟨w.heap.size + 1, i, none⟩ = false := Lib.frozen_of_heap H3.out i
      by_cases h16 : i < 16
      · go_wp2
        have p0 : IntKind.i64.wrap (4 * (i : Int)) = 4 * (i : Int) := IntWalk.i64_in _ (by omega)
        have p1 : IntKind.i64.wrap (4 * (i : Int) + 1) = 4 * (i : Int) + 1 := IntWalk.i64_in _ (by omega)
        have p2 : IntKind.i64.wrap (4 * (i : Int) + 2) = 4 * (i : Int) + 2 := IntWalk.i64_in _ (by omega)
        have p3 : IntKind.i64.wrap (4 * (i : Int) + 3) = 4 * (i : Int) + 3 := IntWalk.i64_in _ (by omega)
        have q : ∀ (J : Int) (j : Nat), J = j → j < 64 → ∀ W, (Instr.index 9 (.string s) (.int .i64 J)).run Tryz.prog W = .ok (.int .u8 (byteD l j : Int)) W := fun J j hJ hj W => by
          subst hJ
          rw [run_index_string W 9 s .i64 j Tryz.underlying9, dif_pos ⟨by omega, by omega⟩]
          have := hx j (by omega)
          simp only [Int.toNat_natCast]
          rw [this]
        have q0 := q (4 * (i : Int)) (4 * i) (by omega) (by omega)
        have q1 := q (4 * (i : Int) + 1) (4 * i + 1) (by omega) (by omega)
        have q2 := q (4 * (i : Int) + 2) (4 * i + 2) (by omega) (by omega)
        have q3 := q (4 * (i : Int) + 3) (4 * i + 3) (by omega) (by omega)
        clear q
        refine wp_region_still_tail 31 (by kernel_rfl) (by kernel_rfl) ?_
        simp only [List.take_succ_cons, List.take_zero, List.drop_succ_cons, List.drop_zero]
        repeat still_step
        rw [word_val l i]
        refine wpStill_nil ?_
        change wpList _ _ _ _ _ wr.drew
        have hcd : wr.drew.cell? ⟨w.heap.size + 1, i, none⟩ = some (.int .u32 ((wsF l i)[i]?.getD 0 : Nat)) := hc
        have hfd : wr.drew.frozen? ⟨w.heap.size + 1, i, none⟩ = false := hf
        have H2d : Hid (wr.drew.heap[w.heap.size]? = some (.cells (wc (wsF l 0)).toArray 252 (0, 0))) := H2
        have H3d : Hid (wr.drew.heap[w.heap.size + 1]? = some (.cells (wc (wsF l i)).toArray 252 (0, 0))) := H3
        have HBd : Hid (Below w.heap.size w wr.drew) := HB.out.drew
        generalize wr.drew = wd at hcd hfd H2d H3d HBd
        clear hc hf q0 q1 q2 q3 p0 p1 p2 p3
        go_wp2
        go_roundw
        case rel =>
          refine ⟨i + 1, by omega, by go_num, ?_, ?_, HBd.out.setCell (p := ⟨w.heap.size + 1, i, none⟩) (Nat.le_succ _) _⟩
          · rw [← H2d.out]; exact Below.heap_setCell _ _ _ _ (by simp)
          · rw [heap_setCell_at wd _ i _ _ _ _ H3d.out, wc_set, wsF_set l i _ hlt (by rw [if_pos h16])]
        case measure => simp [intOf]; omega
      · have hget : ∀ d p : Nat, i - d = p → 0 < d → d ≤ 16 → wr.cell? ⟨w.heap.size + 1, p, none⟩ = some (.int .u32 (((schedF l i).getD p 0 : Nat) : Int)) := fun d p hp hd hd2 =>
          cell_block H3.out (by simpa using wc_at _ _ _ (wsF_at l i p (by omega)))
        obtain ⟨p15, e15⟩ : ∃ p, i - 15 = p := ⟨_, rfl⟩
        obtain ⟨p2, e2⟩ : ∃ p, i - 2 = p := ⟨_, rfl⟩
        obtain ⟨p16, e16⟩ : ∃ p, i - 16 = p := ⟨_, rfl⟩
        obtain ⟨p7, e7⟩ : ∃ p, i - 7 = p := ⟨_, rfl⟩
        have c15 := hget 15 p15 e15 (by omega) (by omega)
        have c2 := hget 2 p2 e2 (by omega) (by omega)
        have c16 := hget 16 p16 e16 (by omega) (by omega)
        have c7 := hget 7 p7 e7 (by omega) (by omega)
        clear hget
        have w15 : IntKind.i64.wrap ((i : Int) - 15) = (p15 : Int) := by rw [IntWalk.i64_in _ (by omega)]; omega
        have w2 : IntKind.i64.wrap ((i : Int) - 2) = (p2 : Int) := by rw [IntWalk.i64_in _ (by omega)]; omega
        have w16 : IntKind.i64.wrap ((i : Int) - 16) = (p16 : Int) := by rw [IntWalk.i64_in _ (by omega)]; omega
        have w7 : IntKind.i64.wrap ((i : Int) - 7) = (p7 : Int) := by rw [IntWalk.i64_in _ (by omega)]; omega
        have b15 : (p15 : Int) < 64 := by omega
        have b2 : (p2 : Int) < 64 := by omega
        have b16 : (p16 : Int) < 64 := by omega
        have b7 : (p7 : Int) < 64 := by omega
        have hn : ∃ A B C D, A < 4294967296 ∧ B < 4294967296 ∧ (schedF l i).getD p15 0 = A ∧ (schedF l i).getD p2 0 = B ∧ (schedF l i).getD p16 0 = C ∧ (schedF l i).getD p7 0 = D :=
          ⟨_, _, _, _, schedF_getD_lt l i p15, schedF_getD_lt l i p2, rfl, rfl, rfl, rfl⟩
        obtain ⟨A, B, C, D, hA, hB, eA, eB, eC, eD⟩ := hn
        rw [eA] at c15
        rw [eB] at c2
        rw [eC] at c16
        rw [eD] at c7
        have HE := Lib.hid (And.intro e15 (And.intro e2 (And.intro e16 (And.intro e7 (And.intro eA (And.intro eB (And.intro eC eD)))))))
        clear e15 e2 e16 e7 eA eB eC eD
        go_wp2
        refine wp_region_still_lit (by kernel_rfl) (by kernel_rfl) ?_
        repeat still_step
        refine wpStill_nil ?_
        change Exit.then _ _ _ _ wr.drew
        have c16d : wr.drew.cell? ⟨w.heap.size + 1, p16, none⟩ = some (.int .u32 (C : Int)) := c16
        have c7d : wr.drew.cell? ⟨w.heap.size + 1, p7, none⟩ = some (.int .u32 (D : Int)) := c7
        have hcd : wr.drew.cell? ⟨w.heap.size + 1, i, none⟩ = some (.int .u32 ((wsF l i)[i]?.getD 0 : Nat)) := hc
        have hfd : wr.drew.frozen? ⟨w.heap.size + 1, i, none⟩ = false := hf
        have H2d : Hid (wr.drew.heap[w.heap.size]? = some (.cells (wc (wsF l 0)).toArray 252 (0, 0))) := H2
        have H3d : Hid (wr.drew.heap[w.heap.size + 1]? = some (.cells (wc (wsF l i)).toArray 252 (0, 0))) := H3
        have HBd : Hid (Below w.heap.size w wr.drew) := HB.out.drew
        generalize wr.drew = wd at c16d c7d hcd hfd H2d H3d HBd
        clear hc hf c15 c2 c16 c7
        go_wp2
        refine wp_region_still_tail 29 (by kernel_rfl) (by kernel_rfl) ?_
        simp only [List.take_succ_cons, List.take_zero, List.drop_succ_cons, List.drop_zero]
        iterate 6 still_step
        still_call (turn_still _ A 7 hA (by decide) (by decide))
        still_step
        still_call (turn_still _ A 18 hA (by decide) (by decide))
        iterate 11 still_step
        still_call (turn_still _ B 17 hB (by decide) (by decide))
        still_step
        still_call (turn_still _ B 19 hB (by decide) (by decide))
        iterate 6 still_step
        rw [next_val A B C D hA hB]
        refine wpStill_nil ?_
        change wpList _ _ _ _ _ wd.drew
        have hce : wd.drew.cell? ⟨w.heap.size + 1, i, none⟩ = some (.int .u32 ((wsF l i)[i]?.getD 0 : Nat)) := hcd
        have hfe : wd.drew.frozen? ⟨w.heap.size + 1, i, none⟩ = false := hfd
        have H2e : Hid (wd.drew.heap[w.heap.size]? = some (.cells (wc (wsF l 0)).toArray 252 (0, 0))) := H2d
        have H3e : Hid (wd.drew.heap[w.heap.size + 1]? = some (.cells (wc (wsF l i)).toArray 252 (0, 0))) := H3d
        have HBe : Hid (Below w.heap.size w wd.drew) := HBd.out.drew
        generalize wd.drew = we at hce hfe H2e H3e HBe
        clear hcd hfd c16d c7d w15 w2 w16 w7 b15 b2 b16 b7
        go_wp2
        go_roundw
        case rel =>
          refine ⟨i + 1, by omega, by go_num, ?_, ?_, HBe.out.setCell (p := ⟨w.heap.size + 1, i, none⟩) (Nat.le_succ _) _⟩
          · rw [← H2e.out]; exact Below.heap_setCell _ _ _ _ (by simp)
          · rw [heap_setCell_at we _ i _ _ _ _ H3e.out, wc_set, wsF_set l i _ hlt ?_]
            obtain ⟨e15, e2, e16, e7, eA, eB, eC, eD⟩ := HE.out
            rw [if_neg h16, nextW, e15, e2, e16, e7, eA, eB, eC, eD]
        case measure => simp [intOf]; omega
    · have hi64 : i = 64 := by omega
      subst hi64
      have hws : wsF l 64 = schedF l 64 := by simp [wsF]
      have hlen : (wc (schedF l 64)).length = 64 := by rw [wc_length, schedF_length]
      rw [hws] at H3
      go_wp2_with (first
        | (refine wpList_load_row rfl 252 (.tmp 3) rfl (w.heap.size + 1) rfl 252 _ (0, 0) _ H3.out Tryz.underlying252 rfl (by simp only [List.size_toArray, hlen]; exact words_size) ?_)
        | (refine wpl_store_row rfl 252 (.tmp 2) _ rfl w.heap.size rfl (wc (schedF l 64)) rfl _ 252 H2.out (by rw [hlen, List.size_toArray, wc_length, wsF_length l 0 (by omega)]) (wc_one _) (by rw [hlen]; exact words_size) ?_))
      (try simp only [Exit.inBlock, Exit.then])
      refine bodyPost_ret (results_cell_row rfl _ _ w.heap.size 252 (wc (schedF l 64)).toArray (0, 0) _ rfl (setRow_heap wr w.heap.size _ _ _ _ H2.out) Tryz.underlying252 rfl (by simp only [List.size_toArray, hlen]; exact words_size)) rfl ?_
      exact ⟨by rw [hl], below_setRow HB.out (Nat.le_refl _) _⟩
end Go.Proofs.YthpcedficlhanaaGreatDoor
namespace Go.Proofs.YthpcedficlhanaaGreatDoor
open Go.RowKit

structure W8 where
  a : Nat
  b : Nat
  c : Nat
  d : Nat
  e : Nat
  f : Nat
  g : Nat
  h : Nat
def W8.l (x : W8) : List Nat := [x.a, x.b, x.c, x.d, x.e, x.f, x.g, x.h]
structure W8.In (x : W8) : Prop where
  a : x.a < 4294967296
  b : x.b < 4294967296
  c : x.c < 4294967296
  d : x.d < 4294967296
  e : x.e < 4294967296
  f : x.f < 4294967296
  g : x.g < 4294967296
  h : x.h < 4294967296
def sigE (e : Nat) : Nat := rotr e 6 ^^^ rotr e 11 ^^^ rotr e 25
def sigA (a : Nat) : Nat := rotr a 2 ^^^ rotr a 13 ^^^ rotr a 22
def chF (e f g : Nat) : Nat := (e &&& f) ^^^ ((4294967295 ^^^ e) &&& g)
def majF (a b c : Nat) : Nat := (a &&& b) ^^^ (a &&& c) ^^^ (b &&& c)
def tF (k w : Nat) (x : W8) : Nat := addW (addW (addW (addW x.h (sigE x.e)) (chF x.e x.f x.g)) k) w
def uF (x : W8) : Nat := addW (sigA x.a) (majF x.a x.b x.c)
/-- One round. -/
def stepF (k w : Nat) (x : W8) : W8 := ⟨addW (tF k w x) (uF x), x.a, x.b, x.c, addW x.d (tF k w x), x.e, x.f, x.g⟩
def keyN : List Nat := [1116352408, 1899447441, 3049323471, 3921009573, 961987163, 1508970993, 2453635748, 2870763221, 3624381080, 310598401, 607225278, 1426881987, 1925078388, 2162078206, 2614888103, 3248222580, 3835390401, 4022224774, 264347078, 604807628, 770255983, 1249150122, 1555081692, 1996064986, 2554220882, 2821834349, 2952996808, 3210313671, 3336571891, 3584528711, 113926993, 338241895, 666307205, 773529912, 1294757372, 1396182291, 1695183700, 1986661051, 2177026350, 2456956037, 2730485921, 2820302411, 3259730800, 3345764771, 3516065817, 3600352804, 4094571909, 275423344, 430227734, 506948616, 659060556, 883997877, 958139571, 1322822218, 1537002063, 1747873779, 1955562222, 2024104815, 2227730452, 2361852424, 2428436474, 2756734187, 3204031479, 3329325298]
def startN : W8 := ⟨1779033703, 3144134277, 1013904242, 2773480762, 1359893119, 2600822924, 528734635, 1541459225⟩
def rndF (ws : List Nat) (x : W8) : Nat → W8
  | 0 => x
  | i + 1 => stepF (keyN.getD i 0) (ws.getD i 0) (rndF ws x i)
def sumF (x y : W8) : W8 := ⟨addW x.a y.a, addW x.b y.b, addW x.c y.c, addW x.d y.d, addW x.e y.e, addW x.f y.f, addW x.g y.g, addW x.h y.h⟩
/-- The eight words behind a block. -/
def mixF (h : W8) (s : List UInt8) : W8 := sumF h (rndF (schedF s 64) h 64)
theorem stepF_in (k w : Nat) (x : W8) (h : x.In) : (stepF k w x).In := ⟨addW_lt _ _, h.a, h.b, h.c, addW_lt _ _, h.e, h.f, h.g⟩
theorem rndF_in (ws : List Nat) (x : W8) (h : x.In) (i : Nat) : (rndF ws x i).In := by
  induction i with
  | zero => exact h
  | succ i ih => exact stepF_in _ _ _ ih
theorem sumF_in (x y : W8) : (sumF x y).In := ⟨addW_lt _ _, addW_lt _ _, addW_lt _ _, addW_lt _ _, addW_lt _ _, addW_lt _ _, addW_lt _ _, addW_lt _ _⟩
theorem startN_in : startN.In := by constructor <;> decide

/-- The tables lie where they lay. -/
structure Tab (w : World) : Prop where
  start : ∀ j u, (wc startN.l)[j]? = some u → w.cell? ⟨0, j, none⟩ = some u
  key : ∀ j u, (wc keyN)[j]? = some u → w.cell? ⟨2, j, none⟩ = some u
  low : 2 < w.heap.size
  low0 : 0 < w.heap.size
theorem Tab.below {w w' : World} (h : Tab w) (hb : Below w.heap.size w w') : Tab w' :=
  ⟨fun j u hu => (hb.cell (p := ⟨0, j, none⟩) h.low0).trans (h.start j u hu), fun j u hu => (hb.cell (p := ⟨2, j, none⟩) h.low).trans (h.key j u hu), Nat.lt_of_lt_of_le h.low hb.size, Nat.lt_of_lt_of_le h.low0 hb.size⟩

theorem eight_size : (Tryz.prog.info? 213).map (·.size) = some 8 := by kernel_rfl
def W8.cells (x : W8) : Array Value := #[.int .u32 (x.a : Int), .int .u32 (x.b : Int), .int .u32 (x.c : Int), .int .u32 (x.d : Int), .int .u32 (x.e : Int), .int .u32 (x.f : Int), .int .u32 (x.g : Int), .int .u32 (x.h : Int)]
theorem W8.cells_eq (x : W8) : x.cells = (wc x.l).toArray := rfl

theorem not_val (e : Nat) (he : e < 4294967296) : bits .xor .u32 (if IntKind.u32.signed = true then -1 else IntKind.u32.max) (e : Int) = ((4294967295 ^^^ e : Nat) : Int) := u32_xor_nat 4294967295 e (by decide) he
theorem t_val (K M : Nat) (x : W8) (hx : x.In) :
    IntKind.u32.wrap (IntKind.u32.wrap (IntKind.u32.wrap (IntKind.u32.wrap ((x.h : Int) + bits .xor .u32 (bits .xor .u32 (rotr x.e 6 : Nat) (rotr x.e 11 : Nat)) (rotr x.e 25 : Nat)) + bits .xor .u32 (bits .and .u32 (x.e : Int) (x.f : Int)) (bits .and .u32 (bits .xor .u32 (if IntKind.u32.signed = true then -1 else IntKind.u32.max) (x.e : Int)) (x.g : Int))) + (K : Int)) + (M : Int)) = ((tF K M x : Nat) : Int) := by
  have r1 := rotr_lt x.e 6 hx.e
  have r2 := rotr_lt x.e 11 hx.e
  have r3 := rotr_lt x.e 25 hx.e
  have hn : 4294967295 ^^^ x.e < 4294967296 := xor32 (by decide) hx.e
  rw [u32_xor_nat _ _ r1 r2, u32_xor_nat _ _ (xor32 r1 r2) r3, not_val _ hx.e, u32_and_nat _ _ hx.e hx.f, u32_and_nat _ _ hn hx.g, u32_xor_nat _ _ (and32 hx.f) (and32 hx.g), wrap_add, wrap_add, wrap_add, wrap_add]
  rfl
theorem u_val (x : W8) (hx : x.In) :
    IntKind.u32.wrap (bits .xor .u32 (bits .xor .u32 (rotr x.a 2 : Nat) (rotr x.a 13 : Nat)) (rotr x.a 22 : Nat) + bits .xor .u32 (bits .xor .u32 (bits .and .u32 (x.a : Int) (x.b : Int)) (bits .and .u32 (x.a : Int) (x.c : Int))) (bits .and .u32 (x.b : Int) (x.c : Int))) = ((uF x : Nat) : Int) := by
  have r1 := rotr_lt x.a 2 hx.a
  have r2 := rotr_lt x.a 13 hx.a
  have r3 := rotr_lt x.a 22 hx.a
  rw [u32_xor_nat _ _ r1 r2, u32_xor_nat _ _ (xor32 r1 r2) r3, u32_and_nat _ _ hx.a hx.b, u32_and_nat _ _ hx.a hx.c, u32_and_nat _ _ hx.b hx.c, u32_xor_nat _ _ (and32 hx.b) (and32 hx.c), u32_xor_nat _ _ (xor32 (and32 hx.b) (and32 hx.c)) (and32 hx.c), wrap_add]
  rfl

theorem heap_setRow_ne (w : World) (g k : Nat) (cs : Array Value) (h : k ≠ g) : (w.setRow g cs).heap[k]? = w.heap[k]? := by
  unfold World.setRow
  simp only [Array.getElem?_modify]
  rw [if_neg (fun e => h e.symm)]

/-- The first j words summed. -/
def partL (h x : W8) (j : Nat) : List Nat := (List.range 8).map fun k => if k < j then addW (h.l.getD k 0) (x.l.getD k 0) else h.l.getD k 0
theorem partL_zero (h x : W8) : partL h x 0 = h.l := rfl
theorem partL_all (h x : W8) : partL h x 8 = (sumF h x).l := rfl
theorem partL_at (h x : W8) (j : Nat) (hj : j < 8) : (partL h x j)[j]? = some (h.l.getD j 0) := by simp [partL, hj]
theorem partL_set (h x : W8) (j : Nat) (hj : j < 8) : (partL h x j).set j (addW (h.l.getD j 0) (x.l.getD j 0)) = partL h x (j + 1) := by
  refine List.ext_getElem? fun k => ?_
  rw [List.getElem?_set]
  simp only [partL, List.length_map, List.length_range, List.getElem?_map, List.getElem?_range]
  by_cases hk : k < 8
  · by_cases e : j = k
    · subst e; simp [hj]
    · have : k < j + 1 ↔ k < j := by omega
      simp [e, hk, this]
  · have : ¬ j = k := by omega
    simp [this, hk]

section
variable {ops : Array Oper} {rest : List Oper} {o : Oper} {a : Act} {Q : Exit → Act → World → Prop}
theorem wpl_store_w8 {W : World} (x : W8) (hgd : o.guard = none) (p v : Operand) (ho : o.op = .store 213 p v) (n : Nat) (hn : n = W.heap.size) (hx : a.eval p = .pointer (some ⟨n, 0, none⟩)) (hy : a.eval v = .agg x.cells) (old : Array Value) (T : TypeId) (hold : old.size = 8)
    (h : wpList Tryz.prog ops Q rest (a.put o.dst undef) (W.alloc (.cells x.cells T))) : wpList Tryz.prog ops Q (o :: rest) a (W.alloc (.cells old T)) :=
  wpl_store_new hgd 213 p v ho (by rw [← hn]; exact hx) (wc x.l) (by rw [← W8.cells_eq]; exact hy) old T (by rw [hold]; rfl) (wc_one _) eight_size (by rw [← W8.cells_eq]; exact h)
theorem wpl_row_w8 {w : World} (x : W8) (hgd : o.guard = none) (p v : Operand) (ho : o.op = .store 213 p v) (g : Nat) (hx : a.eval p = .pointer (some ⟨g, 0, none⟩)) (hy : a.eval v = .agg x.cells) (cur : Array Value) (T : TypeId) (hg : w.heap[g]? = some (.cells cur T (0, 0))) (hold : cur.size = 8)
    (h : wpList Tryz.prog ops Q rest (a.put o.dst undef) (w.setRow g x.cells)) : wpList Tryz.prog ops Q (o :: rest) a w :=
  wpl_store_row hgd 213 p v ho g hx (wc x.l) (by rw [← W8.cells_eq]; exact hy) cur T hg (by rw [hold]; rfl) (wc_one _) eight_size (by rw [← W8.cells_eq]; exact h)
end

set_option maxRecDepth 100000 in
set_option maxHeartbeats 2000000 in
theorem mix_any (w : World) (h : W8) (hin : h.In) (s : ByteArray) (hs : s.size = 64) (ht : Tab w) :
    Calls Tryz.prog 158 #[.agg h.cells, .string s] w fun e w' => e = .returned (.agg (mixF h s.data.toList).cells) ∧ Below w.heap.size w w' := by
  have HT := Lib.hid ht
  have HIN := Lib.hid hin
  clear ht hin
  go_enter Tryz.func158, Tryz.ntmps158
  have hB0 : Below w.heap.size w ((w.alloc (.cells h.cells 213)).alloc (.cells (W8.cells ⟨0, 0, 0, 0, 0, 0, 0, 0⟩) 213)) := ((Below.refl _ w).alloc (Nat.le_refl _) _).alloc (by simp) _
  have hg0 : ((w.alloc (.cells h.cells 213)).alloc (.cells (W8.cells ⟨0, 0, 0, 0, 0, 0, 0, 0⟩) 213)).heap[w.heap.size]? = some (.cells h.cells 213 (0, 0)) := by
    rw [heap_alloc_if, if_neg (by simp), heap_alloc_if, if_pos rfl]
  have hg1 : ((w.alloc (.cells h.cells 213)).alloc (.cells (W8.cells ⟨0, 0, 0, 0, 0, 0, 0, 0⟩) 213)).heap[w.heap.size + 1]? = some (.cells (W8.cells ⟨0, 0, 0, 0, 0, 0, 0, 0⟩) 213 (0, 0)) := by
    rw [heap_alloc_if, if_pos (by simp)]
  have HG0 := Lib.hid hg0
  have HG1 := Lib.hid hg1
  have HB0 := Lib.hid hB0
  clear hg0 hg1 hB0
  go_wp2_with (first
    | (go_at_call 187; refine (schedule_any _ s hs).mono ?_; rintro e w1 ⟨rfl, hb1⟩; have hz1 : w.heap.size + 1 < w1.heap.size := (by have := hb1.size; simp at this; omega); have HK0 : Hid (w1.heap[w.heap.size]? = some (.cells h.cells 213 (0, 0))) := (hb1.block _ (by simp only [World.size_alloc]; omega)).trans HG0.out; have HK1 : Hid (w1.heap[w.heap.size + 1]? = some (.cells (W8.cells ⟨0, 0, 0, 0, 0, 0, 0, 0⟩) 213 (0, 0))) := (hb1.block _ (by simp only [World.size_alloc]; omega)).trans HG1.out; have HB1 : Hid (Below w.heap.size w w1) := HB0.out.trans (hb1.mono HB0.out.size); clear hb1)
    | (refine wpl_store_new rfl 252 _ _ rfl rfl (wc (schedF s.data.toList 64)) rfl _ _ (by rw [wc_length, schedF_length]; simp) (wc_one _) (by rw [wc_length, schedF_length]; exact words_size) ?_)
    | (refine wpList_load_row rfl 213 (.tmp 2) rfl w.heap.size rfl 213 h.cells (0, 0) _ (by rw [heap_alloc_if, if_neg (by omega)]; exact HK0.out) Tryz.underlying213 rfl eight_size ?_)
    | (refine wpl_store_w8 h rfl (.tmp 6) (.tmp 17) rfl (w1.heap.size + 1) (World.size_alloc w1 _).symm rfl rfl _ _ rfl ?_))
  have hg5 : ((w1.alloc (.cells (wc (schedF s.data.toList 64)).toArray 252)).alloc (.cells h.cells 213)).heap[w1.heap.size]? = some (.cells (wc (schedF s.data.toList 64)).toArray 252 (0, 0)) := by
    rw [heap_alloc_if, if_neg (by simp), heap_alloc_if, if_pos rfl]
  have hg6 : ((w1.alloc (.cells (wc (schedF s.data.toList 64)).toArray 252)).alloc (.cells h.cells 213)).heap[w1.heap.size + 1]? = some (.cells h.cells 213 (0, 0)) := by
    rw [heap_alloc_if, if_pos (by simp)]
  have hg2 : ((w1.alloc (.cells (wc (schedF s.data.toList 64)).toArray 252)).alloc (.cells h.cells 213)).heap[w.heap.size]? = some (.cells h.cells 213 (0, 0)) := by
    rw [heap_alloc_if, if_neg (by simp; omega), heap_alloc_if, if_neg (by omega)]; exact HK0.out
  have hg4 : ((w1.alloc (.cells (wc (schedF s.data.toList 64)).toArray 252)).alloc (.cells h.cells 213)).heap[w.heap.size + 1]? = some (.cells (W8.cells ⟨0, 0, 0, 0, 0, 0, 0, 0⟩) 213 (0, 0)) := by
    rw [heap_alloc_if, if_neg (by simp; omega), heap_alloc_if, if_neg (by omega)]; exact HK1.out
  have hBW : Below w.heap.size w ((w1.alloc (.cells (wc (schedF s.data.toList 64)).toArray 252)).alloc (.cells h.cells 213)) := (HB1.out.alloc (by omega) _).alloc (by simp; omega) _
  generalize (w1.alloc (.cells (wc (schedF s.data.toList 64)).toArray 252)).alloc (.cells h.cells 213) = W at hg5 hg6 hg2 hg4 hBW
  obtain ⟨ws, hws⟩ : ∃ ws, schedF s.data.toList 64 = ws := ⟨_, rfl⟩
  have hwl : ws.length = 64 := by rw [← hws, schedF_length]
  have hwlt : ∀ i, ws.getD i 0 < 4294967296 := fun i => by rw [← hws]; exact schedF_getD_lt _ _ _
  rw [hws] at hg5
  have hr : mixF h s.data.toList = sumF h (rndF ws h 64) := by rw [mixF, hws]
  have HR := Lib.hid hr
  clear HG0 HG1 HB0 HK0 HK1 HB1 hws hr
  generalize w1.heap.size = g at hg5 hg6 hz1
  go_loopw [18] (fun ci wr => ∃ i : Nat, i ≤ 64 ∧ ci = .int .i64 i ∧ wr.heap[g + 1]? = some (.cells (rndF ws h i).cells 213 (0, 0)) ∧ wr.heap[g]? = some (.cells (wc ws).toArray 252 (0, 0)) ∧ wr.heap[w.heap.size]? = some (.cells h.cells 213 (0, 0)) ∧ wr.heap[w.heap.size + 1]? = some (.cells (W8.cells ⟨0, 0, 0, 0, 0, 0, 0, 0⟩) 213 (0, 0)) ∧ Below w.heap.size w wr) (fun ci _ => 64 - (intOf ci).toNat)
  case atStart => exact ⟨0, by omega, rfl, hg6, hg5, hg2, hg4, hBW⟩
  case round =>
    obtain ⟨i, hi, rfl, h6, h5, h2, h4, hBr⟩ := hrel
    clear hg5 hg6 hg2 hg4 hBW
    by_cases hlt : i < 64
    · have hxin := rndF_in ws h HIN.out i
      have hkey := ((HT.out.below (hBr.mono (Nat.le_refl _))).key i (.int .u32 (keyN.getD i 0 : Nat)) (by
        have : i < keyN.length := hlt
        rw [wc, List.getElem?_map, List.getD_eq_getElem?_getD, List.getElem?_eq_getElem this]; rfl))
      have hw5 : wr.cell? ⟨g, i, none⟩ = some (.int .u32 (ws.getD i 0 : Nat)) := cell_block h5 (by
        rw [wc, List.getElem?_toArray, List.getElem?_map, List.getD_eq_getElem?_getD, List.getElem?_eq_getElem (by omega)]; rfl)
      obtain ⟨K, hK⟩ : ∃ K, keyN.getD i 0 = K := ⟨_, rfl⟩
      obtain ⟨M, hM⟩ : ∃ M, ws.getD i 0 = M := ⟨_, rfl⟩
      have hstep : rndF ws h (i + 1) = stepF K M (rndF ws h i) := by rw [rndF, hK, hM]
      rw [hK] at hkey
      rw [hM] at hw5
      generalize rndF ws h i = x at hxin hstep h6
      have x0 : wr.cell? ⟨g + 1, 0, none⟩ = some (.int .u32 (x.a : Int)) := cell_block h6 rfl
      have x1 : wr.cell? ⟨g + 1, 1, none⟩ = some (.int .u32 (x.b : Int)) := cell_block h6 rfl
      have x2 : wr.cell? ⟨g + 1, 2, none⟩ = some (.int .u32 (x.c : Int)) := cell_block h6 rfl
      have x3 : wr.cell? ⟨g + 1, 3, none⟩ = some (.int .u32 (x.d : Int)) := cell_block h6 rfl
      have x4 : wr.cell? ⟨g + 1, 4, none⟩ = some (.int .u32 (x.e : Int)) := cell_block h6 rfl
      have x5 : wr.cell? ⟨g + 1, 5, none⟩ = some (.int .u32 (x.f : Int)) := cell_block h6 rfl
      have x6 : wr.cell? ⟨g + 1, 6, none⟩ = some (.int .u32 (x.g : Int)) := cell_block h6 rfl
      have x7 : wr.cell? ⟨g + 1, 7, none⟩ = some (.int .u32 (x.h : Int)) := cell_block h6 rfl
      have H6 := Lib.hid h6
      have H5 := Lib.hid h5
      have H2 := Lib.hid h2
      have H4 := Lib.hid h4
      have HBr := Lib.hid hBr
      have HX := Lib.hid hxin
      have HST := Lib.hid hstep
      clear h6 h5 h2 h4 hBr hxin hstep
      have hi64 : (i : Int) < 64 := by omega
      go_wp2
      refine wp_region_still_lit (by kernel_rfl) (by kernel_rfl) ?_
      iterate 12 still_step
      refine wpStill_nil ?_
      change Exit.then _ _ _ _ wr.drew
      have hkey' : wr.drew.cell? ⟨2, i, none⟩ = some (.int .u32 (K : Int)) := hkey
      have hw5' : wr.drew.cell? ⟨g, i, none⟩ = some (.int .u32 (M : Int)) := hw5
      have x3' : wr.drew.cell? ⟨g + 1, 3, none⟩ = some (.int .u32 (x.d : Int)) := x3
      have x5' : wr.drew.cell? ⟨g + 1, 5, none⟩ = some (.int .u32 (x.f : Int)) := x5
      have x6' : wr.drew.cell? ⟨g + 1, 6, none⟩ = some (.int .u32 (x.g : Int)) := x6
      have x7' : wr.drew.cell? ⟨g + 1, 7, none⟩ = some (.int .u32 (x.h : Int)) := x7
      have H6d : Hid (wr.drew.heap[g + 1]? = some (.cells x.cells 213 (0, 0))) := H6
      have H5d : Hid (wr.drew.heap[g]? = some (.cells (wc ws).toArray 252 (0, 0))) := H5
      have H2d : Hid (wr.drew.heap[w.heap.size]? = some (.cells h.cells 213 (0, 0))) := H2
      have H4d : Hid (wr.drew.heap[w.heap.size + 1]? = some (.cells (W8.cells ⟨0, 0, 0, 0, 0, 0, 0, 0⟩) 213 (0, 0))) := H4
      have HBd : Hid (Below w.heap.size w wr.drew) := HBr.out.drew
      generalize wr.drew = wd at hkey' hw5' x3' x5' x6' x7' H6d H5d H2d H4d HBd
      clear hkey hw5 x0 x1 x2 x3 x4 x5 x6 x7
      go_wp2
      refine wp_region_still_lit (by kernel_rfl) (by kernel_rfl) ?_
      iterate 3 still_step
      still_call (turn_still _ x.e 6 HX.out.e (by decide) (by decide))
      still_step
      still_call (turn_still _ x.e 11 HX.out.e (by decide) (by decide))
      iterate 2 still_step
      still_call (turn_still _ x.e 25 HX.out.e (by decide) (by decide))
      iterate 22 still_step
      rw [t_val K M x HX.out]
      refine wpStill_nil ?_
      change Exit.then _ _ _ _ wd.drew
      have x3' : wd.drew.cell? ⟨g + 1, 3, none⟩ = some (.int .u32 (x.d : Int)) := x3'
      have x5' : wd.drew.cell? ⟨g + 1, 5, none⟩ = some (.int .u32 (x.f : Int)) := x5'
      have x6' : wd.drew.cell? ⟨g + 1, 6, none⟩ = some (.int .u32 (x.g : Int)) := x6'
      have H6d : Hid (wd.drew.heap[g + 1]? = some (.cells x.cells 213 (0, 0))) := H6d
      have H5d : Hid (wd.drew.heap[g]? = some (.cells (wc ws).toArray 252 (0, 0))) := H5d
      have H2d : Hid (wd.drew.heap[w.heap.size]? = some (.cells h.cells 213 (0, 0))) := H2d
      have H4d : Hid (wd.drew.heap[w.heap.size + 1]? = some (.cells (W8.cells ⟨0, 0, 0, 0, 0, 0, 0, 0⟩) 213 (0, 0))) := H4d
      have HBd : Hid (Below w.heap.size w wd.drew) := HBd.out.drew
      generalize wd.drew = we at x3' x5' x6' H6d H5d H2d H4d HBd
      have hu := u_val x HX.out
      obtain ⟨t, hT⟩ : ∃ t, tF K M x = t := ⟨_, rfl⟩
      have hs1 : IntKind.u32.wrap ((t : Int) + ((uF x : Nat) : Int)) = ((addW t (uF x) : Nat) : Int) := wrap_add _ _
      have hs2 : IntKind.u32.wrap ((x.d : Int) + (t : Int)) = ((addW x.d t : Nat) : Int) := wrap_add _ _
      have hstp : stepF K M x = ⟨addW t (uF x), x.a, x.b, x.c, addW x.d t, x.e, x.f, x.g⟩ := by rw [stepF, hT]
      rw [hT]
      have HSP := Lib.hid hstp
      have HTT := Lib.hid hT
      clear hstp hT
      go_wp2_with (first
        | (go_at_call 188; refine (turn_any _ x.a 2 HX.out.a (by decide) (by decide)).mono ?_; rintro e w2 ⟨rfl, rfl⟩)
        | (go_at_call 188; refine (turn_any _ x.a 13 HX.out.a (by decide) (by decide)).mono ?_; rintro e w2 ⟨rfl, rfl⟩)
        | (go_at_call 188; refine (turn_any _ x.a 22 HX.out.a (by decide) (by decide)).mono ?_; rintro e w2 ⟨rfl, rfl⟩)
        | (refine wpl_row_w8 ⟨addW t (uF x), x.a, x.b, x.c, addW x.d t, x.e, x.f, x.g⟩ rfl (.tmp 6) (.tmp 94) rfl (g + 1) rfl rfl _ 213 H6d.out rfl ?_))
      go_roundw
      case rel =>
        refine ⟨i + 1, by omega, by go_num, ?_, ?_, ?_, ?_, below_setRow HBd.out (by have := hz1; omega) _⟩
        · rw [HST.out, HSP.out]; exact setRow_heap we _ _ _ _ _ H6d.out
        · rw [heap_setRow_ne _ _ _ _ (by omega)]; exact H5d.out
        · rw [heap_setRow_ne _ _ _ _ (by omega)]; exact H2d.out
        · rw [heap_setRow_ne _ _ _ _ (by omega)]; exact H4d.out
      case measure => simp [intOf]; omega
    · have hi64 : i = 64 := by omega
      subst hi64
      generalize rndF ws h 64 = X at h6 HR
      have H6 := Lib.hid h6
      have H4 := Lib.hid h4
      have HBr := Lib.hid hBr
      clear h6 h5 h4 hBr
      rw [W8.cells_eq, ← partL_zero h X] at h2
      go_wp2
      go_loopw [96] (fun ci wq => ∃ j : Nat, j ≤ 8 ∧ ci = .int .i64 j ∧ wq.heap[g + 1]? = some (.cells X.cells 213 (0, 0)) ∧ wq.heap[w.heap.size]? = some (.cells (wc (partL h X j)).toArray 213 (0, 0)) ∧ wq.heap[w.heap.size + 1]? = some (.cells (W8.cells ⟨0, 0, 0, 0, 0, 0, 0, 0⟩) 213 (0, 0)) ∧ Below w.heap.size w wq) (fun ci _ => 8 - (intOf ci).toNat)
      case atStart => exact ⟨0, by omega, rfl, H6.out, h2, H4.out, HBr.out⟩
      case round =>
        clear h2
        obtain ⟨j, hj, rfl, q6, q2, q4, qB⟩ := hrel
        by_cases hj8 : j < 8
        · have c1 : wr.cell? ⟨w.heap.size, j, none⟩ = some (.int .u32 (h.l.getD j 0 : Nat)) := cell_block q2 (by simpa using wc_at _ _ _ (partL_at h X j hj8))
          have c2 : wr.cell? ⟨g + 1, j, none⟩ = some (.int .u32 (X.l.getD j 0 : Nat)) := cell_block q6 (by
            rw [W8.cells_eq]
            have : X.l[j]? = some (X.l.getD j 0) := by rw [List.getD_eq_getElem?_getD, List.getElem?_eq_getElem (show j < X.l.length from hj8)]; rfl
            simpa using wc_at _ _ _ this)
          have f1 : wr.frozen? ⟨w.heap.size, j, none⟩ = false := Lib.frozen_of_heap q2 j
          obtain ⟨p, hp⟩ : ∃ p, h.l.getD j 0 = p := ⟨_, rfl⟩
          obtain ⟨r, hr⟩ : ∃ r, X.l.getD j 0 = r := ⟨_, rfl⟩
          have hset := partL_set h X j hj8
          rw [hp, hr] at hset
          rw [hp] at c1
          rw [hr] at c2
          have hs : IntKind.u32.wrap ((p : Int) + (r : Int)) = ((addW p r : Nat) : Int) := wrap_add _ _
          have hj8' : (j : Int) < 8 := by omega
          have Q6 := Lib.hid q6
          have Q2 := Lib.hid q2
          have Q4 := Lib.hid q4
          have QB := Lib.hid qB
          have HSET := Lib.hid hset
          clear q6 q2 q4 qB hset hp hr
          go_wp2
          refine wp_region_still_tail 8 (by kernel_rfl) (by kernel_rfl) ?_
          simp only [List.take_succ_cons, List.take_zero, List.drop_succ_cons, List.drop_zero]
          repeat still_step
          refine wpStill_nil ?_
          change wpList _ _ _ _ _ wr.drew
          have c1d : wr.drew.cell? ⟨w.heap.size, j, none⟩ = some (.int .u32 (p : Int)) := c1
          have f1d : wr.drew.frozen? ⟨w.heap.size, j, none⟩ = false := f1
          have Q6d : Hid (wr.drew.heap[g + 1]? = some (.cells X.cells 213 (0, 0))) := Q6
          have Q2d : Hid (wr.drew.heap[w.heap.size]? = some (.cells (wc (partL h X j)).toArray 213 (0, 0))) := Q2
          have Q4d : Hid (wr.drew.heap[w.heap.size + 1]? = some (.cells (W8.cells ⟨0, 0, 0, 0, 0, 0, 0, 0⟩) 213 (0, 0))) := Q4
          have QBd : Hid (Below w.heap.size w wr.drew) := QB.out.drew
          generalize wr.drew = wd at c1d f1d Q6d Q2d Q4d QBd
          clear c1 f1 c2 Q6 Q2 Q4 QB
          go_wp2
          go_roundw
          case rel =>
            refine ⟨_, _, _, _, _, _, _, _, _, _, _, _, _, ?_, rfl⟩
            refine ⟨j + 1, by omega, by go_num, ?_, ?_, ?_, QBd.out.setCell (p := ⟨w.heap.size, j, none⟩) (Nat.le_refl _) _⟩
            · rw [← Q6d.out]; exact Below.heap_setCell _ _ _ _ (by simp; omega)
            · rw [heap_setCell_at wd _ j _ _ _ _ Q2d.out, wc_set, HSET.out]
            · rw [← Q4d.out]; exact Below.heap_setCell _ _ _ _ (by simp)
          case measure => simp [intOf]; omega
        · have hj64 : j = 8 := by omega
          subst hj64
          rw [partL_all, ← W8.cells_eq] at q2
          have Q2 := Lib.hid q2
          have Q4 := Lib.hid q4
          have QB := Lib.hid qB
          clear q6 q2 q4 qB
          go_wp2_with (first
            | (refine wpList_load_row rfl 213 (.tmp 2) rfl w.heap.size rfl 213 (sumF h X).cells (0, 0) _ Q2.out Tryz.underlying213 rfl eight_size ?_)
            | (refine wpl_row_w8 (sumF h X) rfl (.tmp 4) (.tmp 108) rfl (w.heap.size + 1) rfl rfl _ 213 Q4.out rfl ?_))
          (try simp only [Exit.inBlock, Exit.then])
          refine bodyPost_ret (results_cell_row rfl _ _ (w.heap.size + 1) 213 (sumF h X).cells (0, 0) _ rfl (setRow_heap wr (w.heap.size + 1) _ _ _ _ Q4.out) Tryz.underlying213 rfl eight_size) rfl ?_
          exact ⟨by rw [HR.out], below_setRow QB.out (Nat.le_succ _) _⟩
end Go.Proofs.YthpcedficlhanaaGreatDoor
