/- coxswainref02.Of: rows of words; values; keys. -/
import Derived.Test.YthpcedficlhanaaGreatDoorOvAP
namespace Go.Proofs.YthpcedficlhanaaGreatDoor
open Go.RowKit

/-- Words as cells. -/
def rc (l : List Nat) : List Value := l.map fun x : Nat => .int .u64 (x : Int)
theorem rc_at (l : List Nat) (i x : Nat) (h : l[i]? = some x) : (rc l)[i]? = some (.int .u64 (x : Int)) := by simp [rc, h]
theorem rc_set (l : List Nat) (i x : Nat) : (rc l).toArray.setIfInBounds i (.int .u64 (x : Int)) = (rc (l.set i x)).toArray := by simp [rc, List.map_set]
theorem rc_one (l : List Nat) : ∀ u ∈ rc l, u.oneCell' = true := by
  intro u hu
  simp only [rc, List.mem_map] at hu
  obtain ⟨x, _, rfl⟩ := hu
  rfl

set_option maxRecDepth 100000 in
set_option maxHeartbeats 4000000 in
theorem rkeys_any (w : World) :
    Calls Tryz.prog 200 #[] w fun e w' => e = .returned (.slice (some ⟨w.heap.size, 0, none⟩) 64 64) ∧ w'.heap[w.heap.size]? = some (.cells (rc keyN).toArray 35 (0, 0)) ∧ Below w.heap.size w w' := by
  go_enter Tryz.func200, Tryz.ntmps200
  go_wp2
  go_ret
  exact ⟨rfl, heap_alloc_new w _, (Below.refl _ w).alloc (Nat.le_refl _) _⟩

theorem rc_snoc (l : List Nat) (x : Nat) : rc l ++ [.int .u64 (x : Int)] = rc (l ++ [x]) := by simp [rc]
theorem u64_info : (Tryz.prog.info? 35).map (fun i => (i.zero, i.size, i.bytes)) = some (some (.int .u64 0), 1, 8) := by kernel_rfl
theorem rc_cell {W : World} {base g n cap : Nat} {T : TypeId} {l : List Nat} (h : W.ownsRow base T 1 (.slice (some ⟨g, 0, none⟩) n cap) n (rc l)) (j x : Nat) (hx : l[j]? = some x) : W.cell? ⟨g, j, none⟩ = some (.int .u64 (x : Int)) := by
  have hl := h.1
  rcases h.2 with ⟨hv, -⟩ | ⟨g', cap', cur, hv, -, hg, -, -, hsz, htake⟩
  · cases hv
  · injection hv with h1 h2 h3
    injection h1 with h1
    injection h1 with h1
    subst h1
    refine cell_block hg ?_
    have h4 : (cur.toList.take (n * 1))[j]? = some (.int .u64 (x : Int)) := by rw [htake]; exact rc_at l j x hx
    rw [List.getElem?_take] at h4
    split at h4
    · simpa using h4
    · cases h4
theorem rturn_still (w : World) (x n : Nat) (hx : x < 4294967296) (hn : n ≤ 32) :
    Calls Tryz.prog 201 #[.int .u64 (x : Int), .int .i64 (n : Int)] w fun e w' => e = .returned (.int .u64 (turnN x n : Nat)) ∧ w' = w :=
  (rturn_any w x n hx hn).mono fun _ _ ⟨he, hw⟩ => ⟨he, hw.symm⟩
theorem rdown_still (w : World) (x n : Nat) (hx : x < 4294967296) (hn : n ≤ 32) :
    Calls Tryz.prog 202 #[.int .u64 (x : Int), .int .i64 (n : Int)] w fun e w' => e = .returned (.int .u64 (downN x n : Nat)) ∧ w' = w :=
  (rdown_any w x n hx hn).mono fun _ _ ⟨he, hw⟩ => ⟨he, hw.symm⟩
theorem xor3_val (x y z : Nat) (hx : x < 4294967296) (hy : y < 4294967296) (hz : z < 4294967296) : bits .xor .u64 (bits .xor .u64 (x : Int) (y : Int)) (z : Int) = ((x ^^^ y ^^^ z : Nat) : Int) := by
  rw [u64_xor_nat _ _ (by omega) (by omega), u64_xor_nat _ _ (Nat.lt_trans (xor32 hx hy) (by decide)) (by omega)]
theorem sig0_val (A : Nat) (h : A < 4294967296) : bits .xor .u64 (bits .xor .u64 (turnN A 7 : Nat) (turnN A 18 : Nat)) (downN A 3 : Nat) = ((sig0 A : Nat) : Int) := by
  rw [xor3_val _ _ _ (turnN_lt _ _ h) (turnN_lt _ _ h) (downN_lt _ _ h), turnN_rotr _ _ h (by decide), turnN_rotr _ _ h (by decide), downN_eq]
  rfl
theorem sig1_val (A : Nat) (h : A < 4294967296) : bits .xor .u64 (bits .xor .u64 (turnN A 17 : Nat) (turnN A 19 : Nat)) (downN A 10 : Nat) = ((sig1 A : Nat) : Int) := by
  rw [xor3_val _ _ _ (turnN_lt _ _ h) (turnN_lt _ _ h) (downN_lt _ _ h), turnN_rotr _ _ h (by decide), turnN_rotr _ _ h (by decide), downN_eq]
  rfl
theorem sigE_val (A : Nat) (h : A < 4294967296) : bits .xor .u64 (bits .xor .u64 (turnN A 6 : Nat) (turnN A 11 : Nat)) (turnN A 25 : Nat) = ((sigE A : Nat) : Int) := by
  rw [xor3_val _ _ _ (turnN_lt _ _ h) (turnN_lt _ _ h) (turnN_lt _ _ h), turnN_rotr _ _ h (by decide), turnN_rotr _ _ h (by decide), turnN_rotr _ _ h (by decide)]
  rfl
theorem sigA_val (A : Nat) (h : A < 4294967296) : bits .xor .u64 (bits .xor .u64 (turnN A 2 : Nat) (turnN A 13 : Nat)) (turnN A 22 : Nat) = ((sigA A : Nat) : Int) := by
  rw [xor3_val _ _ _ (turnN_lt _ _ h) (turnN_lt _ _ h) (turnN_lt _ _ h), turnN_rotr _ _ h (by decide), turnN_rotr _ _ h (by decide), turnN_rotr _ _ h (by decide)]
  rfl
theorem ch_val (e f g : Nat) (he : e < 4294967296) (hf : f < 4294967296) (hg : g < 4294967296) : bits .xor .u64 (bits .and .u64 (e : Int) (f : Int)) (bits .and .u64 (4294967295 - (e : Int)) (g : Int)) = ((chF e f g : Nat) : Int) := by
  rw [show (4294967295 : Int) - (e : Int) = ((4294967295 - e : Nat) : Int) by omega, u64_and_nat _ _ (by omega) (by omega), u64_and_nat _ _ (by omega) (by omega), u64_xor_nat _ _ (Nat.lt_trans (and32 hf) (by decide)) (Nat.lt_trans (and32 hg) (by decide)), chF_eq _ _ _ he]
theorem maj_val (a b c : Nat) (ha : a < 4294967296) (hb : b < 4294967296) (hc : c < 4294967296) : bits .xor .u64 (bits .xor .u64 (bits .and .u64 (a : Int) (b : Int)) (bits .and .u64 (a : Int) (c : Int))) (bits .and .u64 (b : Int) (c : Int)) = ((majF a b c : Nat) : Int) := by
  rw [u64_and_nat _ _ (by omega) (by omega), u64_and_nat _ _ (by omega) (by omega), u64_and_nat _ _ (by omega) (by omega), xor3_val _ _ _ (and32 hb) (and32 hc) (and32 hc)]
  rfl

theorem u64w (x : Nat) (h : x < 18446744073709551616) : IntKind.u64.wrap (x : Int) = (x : Int) := by simp [IntKind.wrap, IntKind.bits, IntKind.signed]; omega
theorem add_w (a b : Nat) (h : a + b < 18446744073709551616) : IntKind.u64.wrap ((a : Int) + (b : Int)) = ((a + b : Nat) : Int) := by rw [← Int.natCast_add, u64w _ h]
theorem tmod_w (a : Nat) : ((a : Int)).tmod 4294967296 = ((a % 4294967296 : Nat) : Int) := by rw [show (4294967296 : Int) = ((4294967296 : Nat) : Int) by rfl, ← Int.ofNat_tmod]
theorem sum2_val (a b : Nat) (ha : a < 4294967296) (hb : b < 4294967296) : (IntKind.u64.wrap ((a : Int) + (b : Int))).tmod 4294967296 = ((addW a b : Nat) : Int) := by
  rw [add_w _ _ (by omega), tmod_w]; rfl
theorem sum4_val (a b c d : Nat) (ha : a < 4294967296) (hb : b < 4294967296) (hc : c < 4294967296) (hd : d < 4294967296) : (IntKind.u64.wrap (IntKind.u64.wrap (IntKind.u64.wrap ((a : Int) + (b : Int)) + (c : Int)) + (d : Int))).tmod 4294967296 = (((a + b + c + d) % 4294967296 : Nat) : Int) := by
  rw [add_w _ _ (by omega), add_w _ _ (by omega), add_w _ _ (by omega), tmod_w]
theorem sum5_val (a b c d e : Nat) (ha : a < 4294967296) (hb : b < 4294967296) (hc : c < 4294967296) (hd : d < 4294967296) (he : e < 4294967296) : (IntKind.u64.wrap (IntKind.u64.wrap (IntKind.u64.wrap (IntKind.u64.wrap ((a : Int) + (b : Int)) + (c : Int)) + (d : Int)) + (e : Int))).tmod 4294967296 = (((a + b + c + d + e) % 4294967296 : Nat) : Int) := by
  rw [add_w _ _ (by omega), add_w _ _ (by omega), add_w _ _ (by omega), add_w _ _ (by omega), tmod_w]
theorem chw_val (e f g : Nat) (he : e < 4294967296) (hf : f < 4294967296) (hg : g < 4294967296) : bits .xor .u64 (bits .and .u64 (e : Int) (f : Int)) (bits .and .u64 (IntKind.u64.wrap (4294967295 - (e : Int))) (g : Int)) = ((chF e f g : Nat) : Int) := by
  rw [← ch_val e f g he hf hg, show (4294967295 : Int) - (e : Int) = ((4294967295 - e : Nat) : Int) by omega, u64w _ (by omega)]

/-- What lies while the blocks are mixed. -/
structure ShH (w W : World) (gh gk : Nat) (h : W8) : Prop where
  below : Below w.heap.size w W
  hh : W.heap[gh]? = some (.cells (rc h.l).toArray 35 (0, 0))
  kk : W.heap[gk]? = some (.cells (rc keyN).toArray 35 (0, 0))
  lt : w.heap.size ≤ gh ∧ gh ≠ gk
theorem ShH.beyond {w W W' : World} {gh gk B : Nat} {h : W8} (hS : ShH w W gh gk h) (hb : Below B W W') (hB : gh < B ∧ gk < B) : ShH w W' gh gk h where
  below := hS.below.trans (hb.mono (by have := hS.lt; omega))
  hh := (hb.block gh hB.1).trans hS.hh
  kk := (hb.block gk hB.2).trans hS.kk
  lt := hS.lt

theorem cell_lt {W : World} {g j : Nat} {u : Value} (h : W.cell? ⟨g, j, none⟩ = some u) : g < W.heap.size := by
  simp only [World.cell?] at h
  cases hh : W.heap[g]? with
  | none => rw [hh] at h; cases h
  | some o => exact (Array.getElem?_eq_some_iff.1 hh).1
theorem mixF_in (h : W8) (s : List UInt8) : (mixF h s).In := sumF_in _ _
theorem foldB_in : ∀ (k : Nat) (h : W8) (l : List UInt8), h.In → (foldB k h l).In
  | 0, _, _, h => h
  | k + 1, h, l, _ => foldB_in k (mixF h (l.take 64)) (l.drop 64) (mixF_in _ _)
theorem w8_lt {x : W8} (h : x.In) (i : Nat) : x.l.getD i 0 < 4294967296 := by
  match i with
  | 0 => exact h.a
  | 1 => exact h.b
  | 2 => exact h.c
  | 3 => exact h.d
  | 4 => exact h.e
  | 5 => exact h.f
  | 6 => exact h.g
  | 7 => exact h.h
  | _ + 8 => show (0 : Nat) < 4294967296; decide
theorem keyN_lt (i : Nat) : keyN.getD i 0 < 4294967296 := by
  rw [List.getD_eq_getElem?_getD]
  cases h : keyN[i]? with
  | none => simp
  | some x =>
    have h1 : ∀ x ∈ keyN, x < 4294967296 := by decide
    exact h1 x (List.mem_of_getElem? h)
/-- What a round reads. -/
structure RdS (w1 W : World) (gv g gk i : Nat) (x : W8) (K D : Nat) : Prop where
  v : ∀ j y : Nat, x.l[j]? = some y → W.cell? ⟨gv, j, none⟩ = some (.int .u64 (y : Int))
  k : W.cell? ⟨gk, i, none⟩ = some (.int .u64 (K : Int))
  d : W.cell? ⟨g, i, none⟩ = some (.int .u64 (D : Int))
  below : Below w1.heap.size w1 W
section
variable {w1 W : World} {gv g gk i : Nat} {x : W8} {K D : Nat}
theorem RdS.drew (h : RdS w1 W gv g gk i x K D) : RdS w1 W.drew gv g gk i x K D := ⟨h.v, h.k, h.d, h.below.drew⟩
theorem RdS.alloc (h : RdS w1 W gv g gk i x K D) (o : Obj) : RdS w1 (W.alloc o) gv g gk i x K D where
  v := fun j y hy => (((Below.refl _ W).alloc (Nat.le_refl _) o).cell (p := ⟨gv, j, none⟩) (cell_lt (h.v j y hy))).trans (h.v j y hy)
  k := (((Below.refl _ W).alloc (Nat.le_refl _) o).cell (p := ⟨gk, i, none⟩) (cell_lt h.k)).trans h.k
  d := (((Below.refl _ W).alloc (Nat.le_refl _) o).cell (p := ⟨g, i, none⟩) (cell_lt h.d)).trans h.d
  below := h.below.alloc h.below.size o
end
section
variable {P : Program} {ops : Array Oper} {rest : List Oper} {o : Oper} {a : Act} {Q : Exit → Act → World → Prop}
theorem wpl_appS {W : World} (base : Nat) (hgd : o.guard = none) (s x : Operand) (t e : TypeId) (z : Value) (size bytes : Nat)
    (ho : o.op = .call { callee := .builtin .append, args := #[s, x], argTypes := #[t, t] })
    (ht : P.underlying t = some (.slice e)) (hinfo : (P.info? e).map (fun i => (i.zero, i.size, i.bytes)) = some (some z, size, bytes)) (hz : z.cells.size = size) (hs0 : 0 < size) (hb0 : 0 < bytes)
    (v : Value) (n : Nat) (xs : List Value) (hs : a.eval s = v) (b off m c : Nat) (hx : a.eval x = .slice (some ⟨b, off, none⟩) m c) (news : List Value) (hlen : news.length = m * size) (hcell : ∀ j u, news[j]? = some u → W.cell? ⟨b, off + j, none⟩ = some u) (h1 : ∀ u ∈ news, u.oneCell' = true)
    (HO : W.ownsRow base e size v n xs) (hbase : base ≤ W.heap.size) (hl : (n + m) * bytes ≤ 140737488355328)
    (hK : ∀ v1 w1, w1.ownsRow base e size v1 (n + m) (xs ++ news) → W.grownBy w1 v.ownBlock → (v1.ownBlock = v.ownBlock ∨ ∃ b, v1.ownBlock = some b ∧ W.heap.size ≤ b) → wpList P ops Q rest (a.put o.dst v1) w1) : wpList P ops Q (o :: rest) a W :=
  wpList_plain hgd fun K' hK' => by
    obtain ⟨v1, w1, hr, r1, r2, r3⟩ := exec_appS (o := o) (a := a) base s x t e z size bytes ho ht hinfo hz hs0 hb0 v n xs hs b off m c hx news hlen hcell h1 HO hbase hl
    unfold Oper.wp
    rw [hr]
    exact hK' _ _ (hK v1 w1 r1 r2 r3)
end
theorem conv4 (w : World) (a b c d : UInt8) : (convert 133 9 (.slice (some ⟨w.heap.size, 0, none⟩) 4 4)).run Tryz.prog (w.alloc (.cells #[.int .u8 (a.toNat : Int), .int .u8 (b.toNat : Int), .int .u8 (c.toNat : Int), .int .u8 (d.toNat : Int)] 5)) = .ok (.string ⟨#[a, b, c, d]⟩) (w.alloc (.cells #[.int .u8 (a.toNat : Int), .int .u8 (b.toNat : Int), .int .u8 (c.toNat : Int), .int .u8 (d.toNat : Int)] 5)) :=
  run_convert_bytes_back (P := Tryz.prog) _ 133 9 5 ⟨w.heap.size, 0, none⟩ 4 [a, b, c, d] Tryz.underlying133 Tryz.underlying5 Tryz.underlying9 (fun j hj => by
    have h4 : j < 4 := by simpa using hj
    match j, h4 with
    | 0, _ => exact cell_block (heap_alloc_new w _) rfl
    | 1, _ => exact cell_block (heap_alloc_new w _) rfl
    | 2, _ => exact cell_block (heap_alloc_new w _) rfl
    | 3, _ => exact cell_block (heap_alloc_new w _) rfl)
end Go.Proofs.YthpcedficlhanaaGreatDoor
