/- The document's digest, by plain numbers, is the program's. No program in sight. coxswainref02.turn, down. coxswainref02.Of: rows of words; values; keys. -/
import Derived.Test.YtcohdfkdhdhegaaGreatDoorPbAF
import Derived.Test.YtcohdfkdhdhegaaGreatDoorPbAJ
import Derived.Test.YtcohdfkdhdhegaaGreatDoorPbAL
namespace Go.Proofs.YtcohdfkdhdhegaaGreatDoor

/-- One bit to the right, n times. -/
def turnN (x : Nat) : Nat → Nat
  | 0 => x
  | n + 1 => turnN x n / 2 + turnN x n % 2 * 2147483648
def downN (x : Nat) : Nat → Nat
  | 0 => x
  | n + 1 => downN x n / 2
theorem downN_eq (x n : Nat) : downN x n = x / 2 ^ n := by
  induction n with
  | zero => simp [downN]
  | succ n ih => rw [downN, ih, Nat.div_div_eq_div_mul, Nat.pow_succ]
theorem turnN_eq (x n : Nat) (hn : n ≤ 32) : turnN x n = x / 2 ^ n + x % 2 ^ n * 2 ^ (32 - n) := by
  induction n with
  | zero => simp [turnN, Nat.mod_one]
  | succ n ih =>
    have e1 : 32 - n = (31 - n) + 1 := by omega
    have e2 : 32 - (n + 1) = 31 - n := by omega
    have e3 : 2 ^ n * 2 ^ (31 - n) = 2147483648 := by rw [← Nat.pow_add, show n + (31 - n) = 31 by omega]
    have e4 : x / 2 ^ (n + 1) = x / 2 ^ n / 2 := by rw [Nat.pow_succ, Nat.div_div_eq_div_mul]
    have e5 : x % 2 ^ (n + 1) = x % 2 ^ n + 2 ^ n * (x / 2 ^ n % 2) := by rw [Nat.pow_succ]; exact Nat.mod_mul
    rw [turnN, ih (by omega), e1, e2, e4, e5, Nat.pow_succ, Nat.add_mul, Nat.mul_right_comm (2 ^ n), e3, ← Nat.mul_assoc]
    generalize x / 2 ^ n = q
    generalize x % 2 ^ n * 2 ^ (31 - n) = r
    omega
theorem turnN_rotr (x n : Nat) (hx : x < 4294967296) (hn : n < 32) : turnN x n = rotr x n := by
  have e0 : (4294967296 : Nat) = 2 ^ n * 2 ^ (32 - n) := by rw [← Nat.pow_add, show n + (32 - n) = 32 by omega]
  have e : x * 2 ^ (32 - n) % 4294967296 = 2 ^ (32 - n) * (x % 2 ^ n) := by
    rw [e0, Nat.mul_mod_mul_right, Nat.mul_comm]
  rw [turnN_eq x n (by omega), rotr, e, ← Nat.two_pow_add_eq_or_of_lt (Nat.div_lt_of_lt_mul (by rw [← e0]; exact hx)), Nat.add_comm, Nat.mul_comm]
theorem turnN_lt (x n : Nat) (hx : x < 4294967296) : turnN x n < 4294967296 := by
  induction n with
  | zero => exact hx
  | succ n ih => rw [turnN]; omega
theorem downN_lt (x n : Nat) (hx : x < 4294967296) : downN x n < 4294967296 := by rw [downN_eq]; exact Nat.lt_of_le_of_lt (Nat.div_le_self _ _) hx

theorem xor_all (e : Nat) (h : e < 4294967296) : 4294967295 ^^^ e = 4294967295 - e := by
  refine Nat.eq_of_testBit_eq fun i => ?_
  have h1 : 4294967295 - e = 2 ^ 32 - (e + 1) := by omega
  rw [h1, Nat.testBit_two_pow_sub_succ (n := 32) h, Nat.testBit_xor, show 4294967295 = 2 ^ 32 - 1 from rfl, Nat.testBit_two_pow_sub_one]
  by_cases hi : i < 32
  · simp [hi]
  · have : e.testBit i = false := Nat.testBit_lt_two_pow (Nat.lt_of_lt_of_le h (Nat.pow_le_pow_right (n := 2) (by decide) (by omega : 32 ≤ i)))
    simp [hi, this]

/-- The bytes of a word, at a place, the greatest first: j of them. -/
def partW (s : List UInt8) (o : Nat) : Nat → Nat
  | 0 => 0
  | j + 1 => partW s o j * 256 + byteD s (o + j)
theorem partW_lt (s : List UInt8) (o j : Nat) : partW s o j < 256 ^ j := by
  induction j with
  | zero => simp [partW]
  | succ j ih =>
    have := byteD_lt s (o + j)
    rw [partW, Nat.pow_succ]
    generalize 256 ^ j = p at *
    omega
theorem wordF_sum (s : List UInt8) (i : Nat) : wordF s i = partW s (4 * i) 4 := by
  have h0 := byteD_lt s (4 * i); have h1 := byteD_lt s (4 * i + 1); have h2 := byteD_lt s (4 * i + 2); have h3 := byteD_lt s (4 * i + 3)
  simp only [wordF, partW, Nat.add_zero]
  generalize byteD s (4 * i) = a at *
  generalize byteD s (4 * i + 1) = b at *
  generalize byteD s (4 * i + 2) = c at *
  generalize byteD s (4 * i + 3) = d at *
  have e1 : a * 16777216 ||| b * 65536 = 2 ^ 24 * a + b * 65536 := by
    have := Nat.two_pow_add_eq_or_of_lt (i := 24) (b := b * 65536) (by omega) a
    rw [show a * 16777216 = 2 ^ 24 * a by omega]
    exact this.symm
  have e2 : (2 ^ 24 * a + b * 65536) ||| c * 256 = 2 ^ 16 * (256 * a + b) + c * 256 := by
    have := Nat.two_pow_add_eq_or_of_lt (i := 16) (b := c * 256) (by omega) (256 * a + b)
    rw [show 2 ^ 24 * a + b * 65536 = 2 ^ 16 * (256 * a + b) by omega]
    exact this.symm
  have e3 : (2 ^ 16 * (256 * a + b) + c * 256) ||| d = 2 ^ 8 * (65536 * a + 256 * b + c) + d := by
    have := Nat.two_pow_add_eq_or_of_lt (i := 8) (b := d) (by omega) (65536 * a + 256 * b + c)
    rw [show 2 ^ 16 * (256 * a + b) + c * 256 = 2 ^ 8 * (65536 * a + 256 * b + c) by omega]
    exact this.symm
  rw [e1, e2, e3]
  omega
theorem byteD_at (s : List UInt8) (at_ k : Nat) (hk : k < 64) : byteD ((s.drop at_).take 64) k = byteD s (at_ + k) := by
  simp only [byteD, List.getD_eq_getElem?_getD]
  rw [List.getElem?_take_of_lt hk, List.getElem?_drop]
theorem wordF_at (s : List UInt8) (at_ i : Nat) (hi : i < 16) : wordF ((s.drop at_).take 64) i = partW s (at_ + 4 * i) 4 := by
  rw [wordF_sum]
  simp only [partW, Nat.add_zero]
  rw [byteD_at s at_ _ (by omega), byteD_at s at_ _ (by omega), byteD_at s at_ _ (by omega), byteD_at s at_ _ (by omega)]
  simp only [Nat.add_assoc]

theorem nextW_eq (l : List Nat) (i : Nat) : nextW l i = (l.getD (i - 16) 0 + sig0 (l.getD (i - 15) 0) + l.getD (i - 7) 0 + sig1 (l.getD (i - 2) 0)) % 4294967296 := by
  unfold nextW addW; omega
theorem tF_eq (k w : Nat) (x : W8) : tF k w x = (x.h + sigE x.e + chF x.e x.f x.g + k + w) % 4294967296 := by
  unfold tF addW; omega
theorem chF_eq (e f g : Nat) (h : e < 4294967296) : chF e f g = (e &&& f) ^^^ ((4294967295 - e) &&& g) := by rw [chF, xor_all e h]

/-- A word's four bytes. -/
def four (x : Nat) : List UInt8 := [UInt8.ofNat (x / 16777216), UInt8.ofNat (x / 65536), UInt8.ofNat (x / 256), UInt8.ofNat (x / 1)]
theorem outF_four (h : W8) : outF h = h.l.flatMap four := rfl
theorem foldB_snoc : ∀ (k : Nat) (h : W8) (l : List UInt8), foldB (k + 1) h l = mixF (foldB k h l) ((l.drop (64 * k)).take 64)
  | 0, h, l => by simp [foldB]
  | k + 1, h, l => by
    rw [foldB, foldB_snoc k, foldB, List.drop_drop]
    congr 3
    omega
end Go.Proofs.YtcohdfkdhdhegaaGreatDoor
namespace Go.Proofs.YtcohdfkdhdhegaaGreatDoor
open Go.RowKit

set_option maxRecDepth 100000 in
set_option maxHeartbeats 1000000 in
theorem rturn_any (w : World) (x n : Nat) (hx : x < 4294967296) (hn : n ≤ 32) :
    Calls Tryz.prog 173 #[.int .u64 (x : Int), .int .i64 (n : Int)] w fun e w' => e = .returned (.int .u64 (turnN x n : Nat)) ∧ w = w' := by
  have HX := Lib.hid hx
  clear hx
  go_enter Tryz.func173, Tryz.ntmps173
  go_wp2
  go_loop [0, 5] (fun v i => ∃ k : Nat, k ≤ n ∧ i = .int .i64 k ∧ v = .int .u64 (turnN x k : Nat)) (fun _ i => n - (intOf i).toNat)
  case atStart => exact ⟨0, Nat.zero_le _, rfl, rfl⟩
  case round =>
    obtain ⟨k, hk, rfl, rfl⟩ := hrel
    obtain ⟨y, hy⟩ : ∃ y, turnN x k = y := ⟨_, rfl⟩
    have hyl : y < 4294967296 := by rw [← hy]; exact turnN_lt x k HX.out
    have HS : Hid (turnN x (k + 1) = y / 2 + y % 2 * 2147483648) := Lib.hid (by rw [← hy]; rfl)
    rw [hy]
    have HY := Lib.hid hy
    clear hy
    by_cases hlt : k < n
    · go_wp2
      go_round
      case rel => exact ⟨k + 1, by omega, by go_num, by rw [HS.out]; congr 1⟩
      case measure => simp [intOf]; omega
    · have HKN : Hid (k = n) := Lib.hid (by omega)
      go_wp2
      go_ret
      exact ⟨by rw [← HKN.out, HY.out]; rfl, rfl⟩

set_option maxRecDepth 100000 in
set_option maxHeartbeats 1000000 in
theorem rdown_any (w : World) (x n : Nat) (hx : x < 4294967296) (hn : n ≤ 32) :
    Calls Tryz.prog 174 #[.int .u64 (x : Int), .int .i64 (n : Int)] w fun e w' => e = .returned (.int .u64 (downN x n : Nat)) ∧ w = w' := by
  have HX := Lib.hid hx
  clear hx
  go_enter Tryz.func174, Tryz.ntmps174
  go_wp2
  go_loop [0, 5] (fun v i => ∃ k : Nat, k ≤ n ∧ i = .int .i64 k ∧ v = .int .u64 (downN x k : Nat)) (fun _ i => n - (intOf i).toNat)
  case atStart => exact ⟨0, Nat.zero_le _, rfl, rfl⟩
  case round =>
    obtain ⟨k, hk, rfl, rfl⟩ := hrel
    obtain ⟨y, hy⟩ : ∃ y, downN x k = y := ⟨_, rfl⟩
    have hyl : y < 4294967296 := by rw [← hy]; exact downN_lt x k HX.out
    have HS : Hid (downN x (k + 1) = y / 2) := Lib.hid (by rw [← hy]; rfl)
    rw [hy]
    have HY := Lib.hid hy
    clear hy
    by_cases hlt : k < n
    · go_wp2
      go_round
      case rel => exact ⟨k + 1, by omega, by go_num, by rw [HS.out]; congr 1⟩
      case measure => simp [intOf]; omega
    · have HKN : Hid (k = n) := Lib.hid (by omega)
      go_wp2
      go_ret
      exact ⟨by rw [← HKN.out, HY.out]; rfl, rfl⟩
end Go.Proofs.YtcohdfkdhdhegaaGreatDoor
namespace Go.Proofs.YtcohdfkdhdhegaaGreatDoor
open Go.RowKit

/-- Words as cells. -/
def rc (l : List Nat) : List Value := l.map fun x : Nat => .int .u64 (x : Int)
theorem rc_at (l : List Nat) (i x : Nat) (h : l[i]? = some x) : (rc l)[i]? = some (.int .u64 (x : Int)) := by simp [rc, h]
theorem rc_set (l : List Nat) (i x : Nat) : (rc l).toArray.setIfInBounds i (.int .u64 (x : Int)) = (rc (l.set i x)).toArray := by simp [rc, List.map_set]
theorem rc_one (l : List Nat) : ∀ u ∈ rc l, u.oneCell' = true := by
  intro u hu
  simp only [rc, List.mem_map] at hu
  obtain ⟨x, _, rfl⟩ := hu
  rfl

set_option maxRecDepth 100000 in
set_option maxHeartbeats 4000000 in
theorem rkeys_any (w : World) :
    Calls Tryz.prog 172 #[] w fun e w' => e = .returned (.slice (some ⟨w.heap.size, 0, none⟩) 64 64) ∧ w'.heap[w.heap.size]? = some (.cells (rc keyN).toArray 26 (0, 0)) ∧ Below w.heap.size w w' := by
  go_enter Tryz.func172, Tryz.ntmps172
  go_wp2
  go_ret
  exact ⟨rfl, heap_alloc_new w _, (Below.refl _ w).alloc (Nat.le_refl _) _⟩

theorem rc_snoc (l : List Nat) (x : Nat) : rc l ++ [.int .u64 (x : Int)] = rc (l ++ [x]) := by simp [rc]
theorem u64_info : (Tryz.prog.info? 26).map (fun i => (i.zero, i.size, i.bytes)) = some (some (.int .u64 0), 1, 8) := by kernel_rfl
theorem rc_cell {W : World} {base g n cap : Nat} {T : TypeId} {l : List Nat} (h : W.ownsRow base T 1 (.slice (some ⟨g, 0, none⟩) n cap) n (rc l)) (j x : Nat) (hx : l[j]? = some x) : W.cell? ⟨g, j, none⟩ = some (.int .u64 (x : Int)) := by
  have hl := h.1
  rcases h.2 with ⟨hv, -⟩ | ⟨g', cap', cur, hv, -, hg, -, -, hsz, htake⟩
  · cases hv
  · injection hv with h1 h2 h3
    injection h1 with h1
    injection h1 with h1
    subst h1
    refine cell_block hg ?_
    have h4 : (cur.toList.take (n * 1))[j]? = some (.int .u64 (x : Int)) := by rw [htake]; exact rc_at l j x hx
    rw [List.getElem?_take] at h4
    split at h4
    · simpa using h4
    · cases h4
theorem rturn_still (w : World) (x n : Nat) (hx : x < 4294967296) (hn : n ≤ 32) :
    Calls Tryz.prog 173 #[.int .u64 (x : Int), .int .i64 (n : Int)] w fun e w' => e = .returned (.int .u64 (turnN x n : Nat)) ∧ w' = w :=
  (rturn_any w x n hx hn).mono fun _ _ ⟨he, hw⟩ => ⟨he, hw.symm⟩
theorem rdown_still (w : World) (x n : Nat) (hx : x < 4294967296) (hn : n ≤ 32) :
    Calls Tryz.prog 174 #[.int .u64 (x : Int), .int .i64 (n : Int)] w fun e w' => e = .returned (.int .u64 (downN x n : Nat)) ∧ w' = w :=
  (rdown_any w x n hx hn).mono fun _ _ ⟨he, hw⟩ => ⟨he, hw.symm⟩
theorem xor3_val (x y z : Nat) (hx : x < 4294967296) (hy : y < 4294967296) (hz : z < 4294967296) : bits .xor .u64 (bits .xor .u64 (x : Int) (y : Int)) (z : Int) = ((x ^^^ y ^^^ z : Nat) : Int) := by
  rw [u64_xor_nat _ _ (by omega) (by omega), u64_xor_nat _ _ (Nat.lt_trans (xor32 hx hy) (by decide)) (by omega)]
theorem sig0_val (A : Nat) (h : A < 4294967296) : bits .xor .u64 (bits .xor .u64 (turnN A 7 : Nat) (turnN A 18 : Nat)) (downN A 3 : Nat) = ((sig0 A : Nat) : Int) := by
  rw [xor3_val _ _ _ (turnN_lt _ _ h) (turnN_lt _ _ h) (downN_lt _ _ h), turnN_rotr _ _ h (by decide), turnN_rotr _ _ h (by decide), downN_eq]
  rfl
theorem sig1_val (A : Nat) (h : A < 4294967296) : bits .xor .u64 (bits .xor .u64 (turnN A 17 : Nat) (turnN A 19 : Nat)) (downN A 10 : Nat) = ((sig1 A : Nat) : Int) := by
  rw [xor3_val _ _ _ (turnN_lt _ _ h) (turnN_lt _ _ h) (downN_lt _ _ h), turnN_rotr _ _ h (by decide), turnN_rotr _ _ h (by decide), downN_eq]
  rfl
theorem sigE_val (A : Nat) (h : A < 4294967296) : bits .xor .u64 (bits .xor .u64 (turnN A 6 : Nat) (turnN A 11 : Nat)) (turnN A 25 : Nat) = ((sigE A : Nat) : Int) := by
  rw [xor3_val _ _ _ (turnN_lt _ _ h) (turnN_lt _ _ h) (turnN_lt _ _ h), turnN_rotr _ _ h (by decide), turnN_rotr _ _ h (by decide), turnN_rotr _ _ h (by decide)]
  rfl
theorem sigA_val (A : Nat) (h : A < 4294967296) : bits .xor .u64 (bits .xor .u64 (turnN A 2 : Nat) (turnN A 13 : Nat)) (turnN A 22 : Nat) = ((sigA A : Nat) : Int) := by
  rw [xor3_val _ _ _ (turnN_lt _ _ h) (turnN_lt _ _ h) (turnN_lt _ _ h), turnN_rotr _ _ h (by decide), turnN_rotr _ _ h (by decide), turnN_rotr _ _ h (by decide)]
  rfl
theorem ch_val (e f g : Nat) (he : e < 4294967296) (hf : f < 4294967296) (hg : g < 4294967296) : bits .xor .u64 (bits .and .u64 (e : Int) (f : Int)) (bits .and .u64 (4294967295 - (e : Int)) (g : Int)) = ((chF e f g : Nat) : Int) := by
  rw [show (4294967295 : Int) - (e : Int) = ((4294967295 - e : Nat) : Int) by omega, u64_and_nat _ _ (by omega) (by omega), u64_and_nat _ _ (by omega) (by omega), u64_xor_nat _ _ (Nat.lt_trans (and32 hf) (by decide)) (Nat.lt_trans (and32 hg) (by decide)), chF_eq _ _ _ he]
theorem maj_val (a b c : Nat) (ha : a < 4294967296) (hb : b < 4294967296) (hc : c < 4294967296) : bits .xor .u64 (bits .xor .u64 (bits .and .u64 (a : Int) (b : Int)) (bits .and .u64 (a : Int) (c : Int))) (bits .and .u64 (b : Int) (c : Int)) = ((majF a b c : Nat) : Int) := by
  rw [u64_and_nat _ _ (by omega) (by omega), u64_and_nat _ _ (by omega) (by omega), u64_and_nat _ _ (by omega) (by omega), xor3_val _ _ _ (and32 hb) (and32 hc) (and32 hc)]
  rfl

theorem u64w (x : Nat) (h : x < 18446744073709551616) : IntKind.u64.wrap (x : Int) = (x : Int) := by simp [IntKind.wrap, IntKind.bits, IntKind.signed]; omega
theorem add_w (a b : Nat) (h : a + b < 18446744073709551616) : IntKind.u64.wrap ((a : Int) + (b : Int)) = ((a + b : Nat) : Int) := by rw [← Int.natCast_add, u64w _ h]
theorem tmod_w (a : Nat) : ((a : Int)).tmod 4294967296 = ((a % 4294967296 : Nat) : Int) := by rw [show (4294967296 : Int) = ((4294967296 : Nat) : Int) by rfl, ← Int.ofNat_tmod]
theorem sum2_val (a b : Nat) (ha : a < 4294967296) (hb : b < 4294967296) : (IntKind.u64.wrap ((a : Int) + (b : Int))).tmod 4294967296 = ((addW a b : Nat) : Int) := by
  rw [add_w _ _ (by omega), tmod_w]; rfl
theorem sum4_val (a b c d : Nat) (ha : a < 4294967296) (hb : b < 4294967296) (hc : c < 4294967296) (hd : d < 4294967296) : (IntKind.u64.wrap (IntKind.u64.wrap (IntKind.u64.wrap ((a : Int) + (b : Int)) + (c : Int)) + (d : Int))).tmod 4294967296 = (((a + b + c + d) % 4294967296 : Nat) : Int) := by
  rw [add_w _ _ (by omega), add_w _ _ (by omega), add_w _ _ (by omega), tmod_w]
theorem sum5_val (a b c d e : Nat) (ha : a < 4294967296) (hb : b < 4294967296) (hc : c < 4294967296) (hd : d < 4294967296) (he : e < 4294967296) : (IntKind.u64.wrap (IntKind.u64.wrap (IntKind.u64.wrap (IntKind.u64.wrap ((a : Int) + (b : Int)) + (c : Int)) + (d : Int)) + (e : Int))).tmod 4294967296 = (((a + b + c + d + e) % 4294967296 : Nat) : Int) := by
  rw [add_w _ _ (by omega), add_w _ _ (by omega), add_w _ _ (by omega), add_w _ _ (by omega), tmod_w]
theorem chw_val (e f g : Nat) (he : e < 4294967296) (hf : f < 4294967296) (hg : g < 4294967296) : bits .xor .u64 (bits .and .u64 (e : Int) (f : Int)) (bits .and .u64 (IntKind.u64.wrap (4294967295 - (e : Int))) (g : Int)) = ((chF e f g : Nat) : Int) := by
  rw [← ch_val e f g he hf hg, show (4294967295 : Int) - (e : Int) = ((4294967295 - e : Nat) : Int) by omega, u64w _ (by omega)]

/-- What lies while the blocks are mixed. -/
structure ShH (w W : World) (gh gk : Nat) (h : W8) : Prop where
  below : Below w.heap.size w W
  hh : W.heap[gh]? = some (.cells (rc h.l).toArray 26 (0, 0))
  kk : W.heap[gk]? = some (.cells (rc keyN).toArray 26 (0, 0))
  lt : w.heap.size ≤ gh ∧ gh ≠ gk
theorem ShH.beyond {w W W' : World} {gh gk B : Nat} {h : W8} (hS : ShH w W gh gk h) (hb : Below B W W') (hB : gh < B ∧ gk < B) : ShH w W' gh gk h where
  below := hS.below.trans (hb.mono (by have := hS.lt; omega))
  hh := (hb.block gh hB.1).trans hS.hh
  kk := (hb.block gk hB.2).trans hS.kk
  lt := hS.lt

theorem cell_lt {W : World} {g j : Nat} {u : Value} (h : W.cell? ⟨g, j, none⟩ = some u) : g < W.heap.size := by
  simp only [World.cell?] at h
  cases hh : W.heap[g]? with
  | none => rw [hh] at h; cases h
  | some o => exact (Array.getElem?_eq_some_iff.1 hh).1
theorem mixF_in (h : W8) (s : List UInt8) : (mixF h s).In := sumF_in _ _
theorem foldB_in : ∀ (k : Nat) (h : W8) (l : List UInt8), h.In → (foldB k h l).In
  | 0, _, _, h => h
  | k + 1, h, l, _ => foldB_in k (mixF h (l.take 64)) (l.drop 64) (mixF_in _ _)
theorem w8_lt {x : W8} (h : x.In) (i : Nat) : x.l.getD i 0 < 4294967296 := by
  match i with
  | 0 => exact h.a
  | 1 => exact h.b
  | 2 => exact h.c
  | 3 => exact h.d
  | 4 => exact h.e
  | 5 => exact h.f
  | 6 => exact h.g
  | 7 => exact h.h
  | _ + 8 => show (0 : Nat) < 4294967296; decide
theorem keyN_lt (i : Nat) : keyN.getD i 0 < 4294967296 := by
  rw [List.getD_eq_getElem?_getD]
  cases h : keyN[i]? with
  | none => simp
  | some x =>
    have h1 : ∀ x ∈ keyN, x < 4294967296 := by decide
    exact h1 x (List.mem_of_getElem? h)
/-- What a round reads. -/
structure RdS (w1 W : World) (gv g gk i : Nat) (x : W8) (K D : Nat) : Prop where
  v : ∀ j y : Nat, x.l[j]? = some y → W.cell? ⟨gv, j, none⟩ = some (.int .u64 (y : Int))
  k : W.cell? ⟨gk, i, none⟩ = some (.int .u64 (K : Int))
  d : W.cell? ⟨g, i, none⟩ = some (.int .u64 (D : Int))
  below : Below w1.heap.size w1 W
section
variable {w1 W : World} {gv g gk i : Nat} {x : W8} {K D : Nat}
theorem RdS.drew (h : RdS w1 W gv g gk i x K D) : RdS w1 W.drew gv g gk i x K D := ⟨h.v, h.k, h.d, h.below.drew⟩
theorem RdS.alloc (h : RdS w1 W gv g gk i x K D) (o : Obj) : RdS w1 (W.alloc o) gv g gk i x K D where
  v := fun j y hy => (((Below.refl _ W).alloc (Nat.le_refl _) o).cell (p := ⟨gv, j, none⟩) (cell_lt (h.v j y hy))).trans (h.v j y hy)
  k := (((Below.refl _ W).alloc (Nat.le_refl _) o).cell (p := ⟨gk, i, none⟩) (cell_lt h.k)).trans h.k
  d := (((Below.refl _ W).alloc (Nat.le_refl _) o).cell (p := ⟨g, i, none⟩) (cell_lt h.d)).trans h.d
  below := h.below.alloc h.below.size o
end
section
variable {P : Program} {ops : Array Oper} {rest : List Oper} {o : Oper} {a : Act} {Q : Exit → Act → World → Prop}
theorem wpl_appS {W : World} (base : Nat) (hgd : o.guard = none) (s x : Operand) (t e : TypeId) (z : Value) (size bytes : Nat)
    (ho : o.op = .call { callee := .builtin .append, args := #[s, x], argTypes := #[t, t] })
    (ht : P.underlying t = some (.slice e)) (hinfo : (P.info? e).map (fun i => (i.zero, i.size, i.bytes)) = some (some z, size, bytes)) (hz : z.cells.size = size) (hs0 : 0 < size) (hb0 : 0 < bytes)
    (v : Value) (n : Nat) (xs : List Value) (hs : a.eval s = v) (b off m c : Nat) (hx : a.eval x = .slice (some ⟨b, off, none⟩) m c) (news : List Value) (hlen : news.length = m * size) (hcell : ∀ j u, news[j]? = some u → W.cell? ⟨b, off + j, none⟩ = some u) (h1 : ∀ u ∈ news, u.oneCell' = true)
    (HO : W.ownsRow base e size v n xs) (hbase : base ≤ W.heap.size) (hl : (n + m) * bytes ≤ 140737488355328)
    (hK : ∀ v1 w1, w1.ownsRow base e size v1 (n + m) (xs ++ news) → W.grownBy w1 v.ownBlock → (v1.ownBlock = v.ownBlock ∨ ∃ b, v1.ownBlock = some b ∧ W.heap.size ≤ b) → wpList P ops Q rest (a.put o.dst v1) w1) : wpList P ops Q (o :: rest) a W :=
  wpList_plain hgd fun K' hK' => by
    obtain ⟨v1, w1, hr, r1, r2, r3⟩ := exec_appS (o := o) (a := a) base s x t e z size bytes ho ht hinfo hz hs0 hb0 v n xs hs b off m c hx news hlen hcell h1 HO hbase hl
    unfold Oper.wp
    rw [hr]
    exact hK' _ _ (hK v1 w1 r1 r2 r3)
end
theorem conv4 (w : World) (a b c d : UInt8) : (convert 145 9 (.slice (some ⟨w.heap.size, 0, none⟩) 4 4)).run Tryz.prog (w.alloc (.cells #[.int .u8 (a.toNat : Int), .int .u8 (b.toNat : Int), .int .u8 (c.toNat : Int), .int .u8 (d.toNat : Int)] 5)) = .ok (.string ⟨#[a, b, c, d]⟩) (w.alloc (.cells #[.int .u8 (a.toNat : Int), .int .u8 (b.toNat : Int), .int .u8 (c.toNat : Int), .int .u8 (d.toNat : Int)] 5)) :=
  run_convert_bytes_back (P := Tryz.prog) _ 145 9 5 ⟨w.heap.size, 0, none⟩ 4 [a, b, c, d] Tryz.underlying145 Tryz.underlying5 Tryz.underlying9 (fun j hj => by
    have h4 : j < 4 := by simpa using hj
    match j, h4 with
    | 0, _ => exact cell_block (heap_alloc_new w _) rfl
    | 1, _ => exact cell_block (heap_alloc_new w _) rfl
    | 2, _ => exact cell_block (heap_alloc_new w _) rfl
    | 3, _ => exact cell_block (heap_alloc_new w _) rfl)
end Go.Proofs.YtcohdfkdhdhegaaGreatDoor
