/- header.Family, header.Check, Genesis. digest.turn, digest.schedule. -/
import Derived.Test.YtcohdfkdhdhegaaGreatDoorPbAC
import Derived.Laws.BitsAllLaws
import Derived.Laws.CopyOwn
namespace Go.Proofs.YtcohdfkdhdhegaaGreatDoor
open Go.RowKit

theorem key_s (B b n : Nat) (l : List UInt8) (v : Value) (ps : List ID) (w W : World) (h : BufAt 219 B b l w) (hB : B ≤ w.heap.size) (hl : l.length ≤ n) (hW : Below B W w) (hS : Sl idE (fun k => k < B) W v ps) (hlen : ps.length ≤ 4294967296) (hd : ps.Nodup) :
    Calls Tryz.prog 40 #[v] w fun e w' => e = .returned (.string (keyB ps)) ∧ BufAt 219 B b l w' ∧ B ≤ w'.heap.size ∧ l.length ≤ n ∧ Below B W w' :=
  (key_any w v ps _ (hS.fr (Fr.below hW fun _k hk _ => hk)) hlen hd).mono fun _e _w' ⟨he, hb⟩ => ⟨he, h.below hb, Nat.le_trans hB hb.size, hl, hW.trans (hb.mono hB)⟩
theorem bytes_s (B b n : Nat) (l : List UInt8) (w W : World) (h : BufAt 219 B b l w) (_hB : B ≤ w.heap.size) (hl : l.length ≤ n) (hW : Below B W w) (h0 : l ≠ []) :
    Calls Tryz.prog 159 #[.pointer (some ⟨b, 0, none⟩)] w fun e w' => e = .returned (.string ⟨l.toArray⟩) ∧ l.length ≤ n ∧ Below B W w' :=
  (bytes_any B b l w h h0).mono fun _e _w' ⟨he, hb⟩ => ⟨he, hl, hW.trans hb⟩

/-- A family. -/
def famB (h : Hdr) : List UInt8 := numB h.height.toNat ++ numB h.power.toNat ++ textB (keyB h.parents)
theorem keyB_size (l : List ID) : (keyB l).size = l.length * 32 := by
  have := joinI_length (sortI l)
  rw [(sortI_perm l).length_eq] at this
  simp [keyB, ByteArray.size, this]

theorem keep3 {w w' : World} {B b : Nat} {v0 v4 v5 : Value} (hb : Below B w w') (hlt : b < B)
    (h : w.cell? ⟨b, 0, none⟩ = some v0 ∧ w.cell? ⟨b, 4, none⟩ = some v4 ∧ w.cell? ⟨b, 5, none⟩ = some v5) :
    w'.cell? ⟨b, 0, none⟩ = some v0 ∧ w'.cell? ⟨b, 4, none⟩ = some v4 ∧ w'.cell? ⟨b, 5, none⟩ = some v5 := by
  have hc : ∀ i, w'.cell? ⟨b, i, none⟩ = w.cell? ⟨b, i, none⟩ := fun i => hb.cell (p := ⟨b, i, none⟩) hlt
  simpa only [hc] using h

set_option maxRecDepth 100000 in
set_option maxHeartbeats 2000000 in
theorem family_any (w : World) (x : LH) (ok : Nat → Prop) (hx : x.At ok w) (hok : x.h.Ok) (hd : x.h.parents.Nodup) :
    Calls Tryz.prog 135 #[.agg x.cells.toArray] w fun e w' => e = .returned (.string ⟨(famB x.h).toArray⟩) ∧ Below w.heap.size w w' := by
  obtain ⟨⟨height, miner, ticket, wins, power, parents, salt⟩, A, c⟩ := x
  have HL := Lib.hid hx
  obtain ⟨⟨h1, h2⟩, -, -, -, h9, h10, -, h12⟩ := hok
  simp only at h1 h2 h9 h10 h12 hd
  clear hx
  change Calls _ _ #[.agg #[.int .i64 height, .int .i64 miner, .string ticket, .int .i64 wins, .int .u64 power, .slice A parents.length c, .int .i64 salt]] w fun e w' => e = .returned (.string ⟨(famB ⟨height, miner, ticket, wins, power, parents, salt⟩).toArray⟩) ∧ Below w.heap.size w w'
  change Hid (Sl idE ok w (.slice A parents.length c) parents) at HL
  obtain ⟨-, hc, hm⟩ := HL.out.len
  go_enter Tryz.func135, Tryz.ntmps135
  go_wp2
  have hb0 : BufAt 219 (w.heap.size + 1) (w.heap.size + 1) [] ((w.alloc (.cells #[.int .i64 height, .int .i64 miner, .string ticket, .int .i64 wins, .int .u64 power, .slice A parents.length c, .int .i64 salt] 41)).alloc (.cells #[.pointer none, .slice none 0 0] 219)) := by
    have := buf_new 219 (w.alloc (.cells #[.int .i64 height, .int .i64 miner, .string ticket, .int .i64 wins, .int .u64 power, .slice A parents.length c, .int .i64 salt] 41)) (w.heap.size + 1) (by simp)
    rwa [World.size_alloc] at this
  have hB0 : Below w.heap.size w ((w.alloc (.cells #[.int .i64 height, .int .i64 miner, .string ticket, .int .i64 wins, .int .u64 power, .slice A parents.length c, .int .i64 salt] 41)).alloc (.cells #[.pointer none, .slice none 0 0] 219)) := ((Below.refl _ w).alloc (Nat.le_refl _) _).alloc (by simp) _
  have hK : ∀ i u, (#[Value.int .i64 height, .int .i64 miner, .string ticket, .int .i64 wins, .int .u64 power, .slice A parents.length c, .int .i64 salt] : Array Value)[i]? = some u → ((w.alloc (.cells #[.int .i64 height, .int .i64 miner, .string ticket, .int .i64 wins, .int .u64 power, .slice A parents.length c, .int .i64 salt] 41)).alloc (.cells #[.pointer none, .slice none 0 0] 219)).cell? ⟨w.heap.size, i, none⟩ = some u := fun i u hu => by
    refine cell_block (fr := (0, 0)) (T := 41) ?_ hu
    rw [heap_alloc_if, if_neg (by simp), heap_alloc_if, if_pos rfl]
  generalize hW : (w.alloc (.cells #[.int .i64 height, .int .i64 miner, .string ticket, .int .i64 wins, .int .u64 power, .slice A parents.length c, .int .i64 salt] 41)).alloc (.cells #[.pointer none, .slice none 0 0] 219) = W at hb0 hB0 hK
  have hS0 : W.drew.cell? ⟨w.heap.size, 0, none⟩ = some (.int .i64 height) ∧ W.drew.cell? ⟨w.heap.size, 4, none⟩ = some (.int .u64 power) ∧ W.drew.cell? ⟨w.heap.size, 5, none⟩ = some (.slice A parents.length c) :=
    ⟨hK 0 _ rfl, hK 4 _ rfl, hK 5 _ rfl⟩
  have hsz : w.heap.size + 1 ≤ W.heap.size := by rw [← hW]; simp
  have hb0 : BufAt 219 (w.heap.size + 1) (w.heap.size + 1) [] W.drew := hb0
  have hbw : Below (w.heap.size + 1) W W.drew := (Below.refl _ W).drew
  have hsz' : w.heap.size + 1 ≤ W.drew.heap.size := hsz
  have hl0 : ([] : List UInt8).length ≤ 0 := Nat.le_refl _
  have hSl : Sl idE (fun k => k < w.heap.size + 1) W (.slice A parents.length c) parents := (HL.out.old.below hB0).mono fun k hk => by omega
  have hplen : parents.length ≤ 4294967296 := by omega
  have hks : (keyB parents).size ≤ 68719476736 := by rw [keyB_size]; omega
  clear hK HL
  have hpw : IntKind.i64.wrap power = power := IntWalk.i64_in _ (by omega)
  go_region_held3 (fun w' => w'.cell? ⟨w.heap.size, 0, none⟩ = some (.int .i64 height) ∧ w'.cell? ⟨w.heap.size, 4, none⟩ = some (.int .u64 power) ∧ w'.cell? ⟨w.heap.size, 5, none⟩ = some (.slice A parents.length c))
    (first | assumption | exact keep3 (w := W) (by assumption) (Nat.lt_succ_self _) hS0)
    (first
      | (go_at_call 156; refine (num_s _ _ _ _ _ _ W (by assumption) (by assumption) (by assumption) (by assumption) (by omega) (by omega) (by omega)).mono ?_; rintro e w' ⟨rfl, hbu, hbs, hbl, hbb⟩)
      | (go_at_call 40; refine (key_s _ _ _ _ _ _ _ W (by assumption) (by assumption) (by assumption) (by assumption) hSl hplen hd).mono ?_; rintro e w' ⟨rfl, hbu, hbs, hbl, hbb⟩)
      | (go_at_call 157; refine (text_s _ _ _ _ _ _ W (by assumption) (by assumption) (by assumption) (by assumption) (by omega) (by omega)).mono ?_; rintro e w' ⟨rfl, hbu, hbs, hbl, hbb⟩)
      | (go_at_call 159; refine (bytes_s _ _ _ _ _ W (by assumption) (by assumption) (by assumption) (by assumption) (by simp [textB, numB_ne])).mono ?_; rintro e w' ⟨rfl, hbl, hbb⟩))
  all_goals
    go_wp2
    go_ret
    exact ⟨by simp [famB, List.append_assoc], hB0.trans (hbb.mono (by omega))⟩

set_option maxRecDepth 100000 in
set_option maxHeartbeats 1000000 in
theorem among_any (w : World) (x a b : Int) :
    Calls Tryz.prog 104 #[.int .i64 x, .int .i64 a, .int .i64 b] w fun e w' => e = .returned (.bool (decide (a ≤ x ∧ x ≤ b))) ∧ w = w' := by
  go_enter Tryz.func104, Tryz.ntmps104
  go_wp2
  all_goals (go_ret; exact ⟨by simp; omega, rfl⟩)

theorem among_or (w : World) (x a b : Int) :
    Calls Tryz.prog 104 #[.int .i64 x, .int .i64 a, .int .i64 b] w fun e w' => (e = .returned (.bool true) ∧ a ≤ x ∧ x ≤ b ∧ w = w') ∨ (e = .returned (.bool false) ∧ ¬ (a ≤ x ∧ x ≤ b) ∧ w = w') :=
  (among_any w x a b).mono fun _ _ ⟨he, hw⟩ => by
    by_cases h : a ≤ x ∧ x ≤ b
    · rw [decide_eq_true h] at he; exact .inl ⟨he, h.1, h.2, hw⟩
    · rw [decide_eq_false h] at he; exact .inr ⟨he, h, hw⟩

/-- What is wrong with a header. -/
def checkH (h : Hdr) : Int :=
  if h.parents.length > 5 then 4
  else if (1 ≤ h.height ∧ h.height ≤ 1073741824) ∧ (0 ≤ h.miner ∧ h.miner ≤ 63) ∧ (1 ≤ h.ticket.size ∧ h.ticket.size ≤ 8) ∧ (1 ≤ h.wins ∧ h.wins ≤ 15) ∧ (0 ≤ h.salt ∧ h.salt ≤ 1073741824) ∧ (2 ≤ h.power ∧ h.power ≤ 4611686018427387904) ∧ h.parents.length ≠ 0 ∧ riseB h.parents = true then 0
  else 1

set_option maxRecDepth 100000 in
set_option maxHeartbeats 2000000 in
theorem check_any (w : World) (x : LH) (ok : Nat → Prop) (hx : x.At ok w) (hlen : x.h.parents.length ≤ 4294967296) (hp0 : 0 ≤ x.h.power) (htk : x.h.ticket.size ≤ 4294967296) :
    Calls Tryz.prog 90 #[.agg x.cells.toArray] w fun e w' => e = .returned (.int .i64 (checkH x.h)) ∧ Below w.heap.size w w' := by
  obtain ⟨⟨height, miner, ticket, wins, power, parents, salt⟩, A, c⟩ := x
  have HL := Lib.hid hx
  simp only at hlen hp0 htk
  clear hx
  change Calls _ _ #[.agg #[.int .i64 height, .int .i64 miner, .string ticket, .int .i64 wins, .int .u64 power, .slice A parents.length c, .int .i64 salt]] w fun e w' => e = .returned (.int .i64 (checkH ⟨height, miner, ticket, wins, power, parents, salt⟩)) ∧ Below w.heap.size w w'
  change Hid (Sl idE ok w (.slice A parents.length c) parents) at HL
  obtain ⟨-, hc, hm⟩ := HL.out.len
  have hB0 : Below w.heap.size w (w.alloc (.cells #[.int .i64 height, .int .i64 miner, .string ticket, .int .i64 wins, .int .u64 power, .slice A parents.length c, .int .i64 salt] 41)) := (Below.refl _ w).alloc (Nat.le_refl _) _
  have HR := Lib.hid (rise_any _ _ parents ok (HL.out.below hB0))
  have HB0 := Lib.hid hB0
  clear hB0
  go_enter Tryz.func90, Tryz.ntmps90
  by_cases g0 : parents.length > 5
  · go_wp2
    go_ret
    exact ⟨by rw [checkH, if_pos g0]; rfl, HB0.out⟩
  · by_cases g1 : (1 ≤ height ∧ height ≤ 1073741824) ∧ (0 ≤ miner ∧ miner ≤ 63) ∧ (1 ≤ ticket.size ∧ ticket.size ≤ 8) ∧ (1 ≤ wins ∧ wins ≤ 15) ∧ (0 ≤ salt ∧ salt ≤ 1073741824)
    · obtain ⟨⟨a1, a2⟩, ⟨a3, a4⟩, ⟨a5, a6⟩, ⟨a7, a8⟩, a9, a10⟩ := g1
      by_cases g2 : 2 ≤ power ∧ power ≤ 4611686018427387904 ∧ parents.length ≠ 0
      · obtain ⟨b1, b2, b3⟩ := g2
        have hres1 : riseB parents = false → checkH ⟨height, miner, ticket, wins, power, parents, salt⟩ = 1 := fun hrb => by rw [checkH, if_neg g0, if_neg (fun h => by simp [hrb] at h)]
        have hres0 : riseB parents = true → checkH ⟨height, miner, ticket, wins, power, parents, salt⟩ = 0 := fun hrb => by rw [checkH, if_neg g0, if_pos ⟨⟨a1, a2⟩, ⟨a3, a4⟩, ⟨a5, a6⟩, ⟨a7, a8⟩, ⟨a9, a10⟩, ⟨b1, b2⟩, b3, hrb⟩]
        have e1 : decide (power < 2) = false := decide_eq_false (by omega)
        have e2 : decide (4611686018427387904 < power) = false := decide_eq_false (by omega)
        have H1 := Lib.hid hres1
        have H0 := Lib.hid hres0
        clear hres1 hres0
        go_wp2_with (first
          | (go_at_call 104; refine (among_any _ _ _ _).mono ?_; rintro e w1 ⟨rfl, rfl⟩; rw [decide_eq_true (by omega)])
          | (go_at_call 105; refine HR.out.mono ?_; rintro e w1 ⟨rfl, hb1⟩; rcases hrb : riseB parents with _ | _))
        all_goals (first | (exfalso; omega) | skip)
        all_goals go_ret
        all_goals (first
          | exact ⟨by rw [H1.out hrb]; rfl, HB0.out.trans (hb1.mono HB0.out.size)⟩
          | exact ⟨by rw [H0.out hrb]; rfl, HB0.out.trans (hb1.mono HB0.out.size)⟩)
      · have hres : checkH ⟨height, miner, ticket, wins, power, parents, salt⟩ = 1 := by
          rw [checkH, if_neg g0, if_neg (fun h => g2 ⟨h.2.2.2.2.2.1.1, h.2.2.2.2.2.1.2, h.2.2.2.2.2.2.1⟩)]
        have hc3 : power < 2 ∨ (2 ≤ power ∧ 4611686018427387904 < power) ∨ (2 ≤ power ∧ power ≤ 4611686018427387904 ∧ parents.length = 0) := by omega
        clear g2
        rcases hc3 with q | ⟨q, q2⟩ | ⟨q, q2, q3⟩
        · have e1 : decide (power < 2) = true := decide_eq_true q
          go_wp2_with (go_at_call 104; refine (among_any _ _ _ _).mono ?_; rintro e w1 ⟨rfl, rfl⟩; rw [decide_eq_true (by omega)])
          go_ret
          exact ⟨by rw [hres]; rfl, HB0.out⟩
        · have e1 : decide (power < 2) = false := decide_eq_false (by omega)
          have e2 : decide (4611686018427387904 < power) = true := decide_eq_true q2
          go_wp2_with (go_at_call 104; refine (among_any _ _ _ _).mono ?_; rintro e w1 ⟨rfl, rfl⟩; rw [decide_eq_true (by omega)])
          go_ret
          exact ⟨by rw [hres]; rfl, HB0.out⟩
        · have e1 : decide (power < 2) = false := decide_eq_false (by omega)
          have e2 : decide (4611686018427387904 < power) = false := decide_eq_false (by omega)
          go_wp2_with (go_at_call 104; refine (among_any _ _ _ _).mono ?_; rintro e w1 ⟨rfl, rfl⟩; rw [decide_eq_true (by omega)])
          go_ret
          exact ⟨by rw [hres]; rfl, by have := HB0.out; rw [q3] at this; exact this⟩
    · have hres : checkH ⟨height, miner, ticket, wins, power, parents, salt⟩ = 1 := by
        rw [checkH, if_neg g0, if_neg (fun h => g1 ⟨h.1, h.2.1, h.2.2.1, h.2.2.2.1, h.2.2.2.2.1⟩)]
      have HG1 := Lib.hid g1
      clear g1
      go_wp2_with (go_at_call 104; refine (among_or _ _ _ _).mono ?_; rintro e w1 (⟨rfl, p1, p2, rfl⟩ | ⟨rfl, -, rfl⟩))
      all_goals (first | (exfalso; have h := HG1.out; omega) | skip)
      all_goals go_ret
      all_goals exact ⟨by rw [hres]; rfl, HB0.out⟩
end Go.Proofs.YtcohdfkdhdhegaaGreatDoor
namespace Go.Proofs.YtcohdfkdhdhegaaGreatDoor
open Go.RowKit

/-- A word turned to the right. -/
def rotr (x n : Nat) : Nat := (x * 2 ^ (32 - n)) % 4294967296 ||| x / 2 ^ n
theorem rotr_lt (x n : Nat) (hx : x < 4294967296) : rotr x n < 4294967296 :=
  Nat.or_lt_two_pow (n := 32) (Nat.mod_lt _ (by decide)) (Nat.lt_of_le_of_lt (Nat.div_le_self _ _) hx)

theorem rot_count (n : Nat) (hn : 0 < n) (hn2 : n < 32) : bits .and .u64 (IntKind.u64.wrap (-(n : Int))) 31 = ((32 - n : Nat) : Int) := by
  have h1 : IntKind.u64.wrap (-(n : Int)) = ((18446744073709551616 - n : Nat) : Int) := by simp [IntKind.wrap, IntKind.bits, IntKind.signed]; omega
  have h2 := u64_and_nat (18446744073709551616 - n) 31 (by omega) (by omega)
  have h3 : (18446744073709551616 - n) &&& 31 = 32 - n := by
    have := Nat.and_two_pow_sub_one_eq_mod (18446744073709551616 - n) 5
    simp only [Nat.reducePow, Nat.reduceSub] at this
    rw [this]; omega
  rw [h1]
  rw [h3] at h2
  exact h2

set_option maxRecDepth 100000 in
set_option maxHeartbeats 2000000 in
theorem turn_any (w : World) (x n : Nat) (h1 : x < 4294967296) (hn : 0 < n) (hn2 : n < 32) :
    Calls Tryz.prog 192 #[.int .u32 (x : Int), .int .i64 (n : Int)] w fun e w' => e = .returned (.int .u32 (rotr x n : Nat)) ∧ w = w' := by
  have hc := rot_count n hn hn2
  have hv : bits .or .u32 ((x : Int) * 2 ^ (32 - n) % 4294967296) ((x : Int) / 2 ^ (32 - (32 - n))) = ((rotr x n : Nat) : Int) := by
    rw [show 32 - (32 - n) = n by omega]
    have := u32_or_nat (x * 2 ^ (32 - n) % 4294967296) (x / 2 ^ n) (Nat.mod_lt _ (by decide)) (Nat.lt_of_le_of_lt (Nat.div_le_self _ _) h1)
    have e1 : ((x : Int) * 2 ^ (32 - n) % 4294967296) = ((x * 2 ^ (32 - n) % 4294967296 : Nat) : Int) := by rw [Int.natCast_emod, Int.natCast_mul, Int.natCast_pow]; rfl
    have e2 : (x : Int) / 2 ^ n = ((x / 2 ^ n : Nat) : Int) := by rw [Int.natCast_ediv, Int.natCast_pow]; rfl
    rw [rotr, ← this, e1, e2]
  go_enter Tryz.func192, Tryz.ntmps192
  go_wp2
  go_ret
  exact ⟨by rw [← hv]; rfl, rfl⟩
theorem turn_still (w : World) (x n : Nat) (h1 : x < 4294967296) (hn : 0 < n) (hn2 : n < 32) :
    Calls Tryz.prog 192 #[.int .u32 (x : Int), .int .i64 (n : Int)] w fun e w' => e = .returned (.int .u32 (rotr x n : Nat)) ∧ w' = w :=
  (turn_any w x n h1 hn hn2).mono fun _ _ ⟨he, hw⟩ => ⟨he, hw.symm⟩

theorem heap_setCell_at (w : World) (g i : Nat) (cs : Array Value) (T : TypeId) (fr : Nat × Nat) (v : Value) (h : w.heap[g]? = some (.cells cs T fr)) : (w.setCell ⟨g, i, none⟩ v).heap[g]? = some (.cells (cs.setIfInBounds i v) T fr) := by
  simp [World.setCell, Array.getElem?_modify, h]

def wc (l : List Nat) : List Value := l.map fun x : Nat => .int .u32 (x : Int)
theorem wc_length (l : List Nat) : (wc l).length = l.length := by simp [wc]
theorem wc_one (l : List Nat) : ∀ u ∈ wc l, u.oneCell' = true := by
  intro u hu
  simp only [wc, List.mem_map] at hu
  obtain ⟨x, _, rfl⟩ := hu
  rfl
theorem words_size : (Tryz.prog.info? 259).map (·.size) = some 64 := by kernel_rfl
theorem wc_at (l : List Nat) (i x : Nat) (h : l[i]? = some x) : (wc l)[i]? = some (.int .u32 (x : Int)) := by simp [wc, h]
theorem wc_set (l : List Nat) (i x : Nat) : (wc l).toArray.setIfInBounds i (.int .u32 (x : Int)) = (wc (l.set i x)).toArray := by simp [wc, List.map_set]

def addW (a b : Nat) : Nat := (a + b) % 4294967296
def sig0 (a : Nat) : Nat := rotr a 7 ^^^ rotr a 18 ^^^ a / 8
def sig1 (b : Nat) : Nat := rotr b 17 ^^^ rotr b 19 ^^^ b / 1024
/-- Word i of a block, of the words ahead of it. -/
def nextW (l : List Nat) (i : Nat) : Nat := addW (addW (addW (l.getD (i - 16) 0) (sig0 (l.getD (i - 15) 0))) (l.getD (i - 7) 0)) (sig1 (l.getD (i - 2) 0))
def byteD (s : List UInt8) (i : Nat) : Nat := (s.getD i 0).toNat
def wordF (s : List UInt8) (i : Nat) : Nat := byteD s (4 * i) * 16777216 ||| byteD s (4 * i + 1) * 65536 ||| byteD s (4 * i + 2) * 256 ||| byteD s (4 * i + 3)
def schedF (s : List UInt8) : Nat → List Nat
  | 0 => []
  | i + 1 => schedF s i ++ [if i < 16 then wordF s i else nextW (schedF s i) i]
theorem schedF_length (s : List UInt8) (i : Nat) : (schedF s i).length = i := by
  induction i with
  | zero => rfl
  | succ i ih => simp [schedF, ih]
theorem byteD_lt (s : List UInt8) (i : Nat) : byteD s i < 256 := (s.getD i 0).toNat_lt
theorem xor32 {a b : Nat} (ha : a < 4294967296) (hb : b < 4294967296) : a ^^^ b < 4294967296 := Nat.xor_lt_two_pow (n := 32) ha hb
theorem or32 {a b : Nat} (ha : a < 4294967296) (hb : b < 4294967296) : a ||| b < 4294967296 := Nat.or_lt_two_pow (n := 32) ha hb
theorem and32 {a b : Nat} (hb : b < 4294967296) : a &&& b < 4294967296 := Nat.and_lt_two_pow (n := 32) _ hb
theorem addW_lt (a b : Nat) : addW a b < 4294967296 := Nat.mod_lt _ (by decide)
theorem wordF_lt (s : List UInt8) (i : Nat) : wordF s i < 4294967296 := by
  have h0 := byteD_lt s (4 * i); have h1 := byteD_lt s (4 * i + 1); have h2 := byteD_lt s (4 * i + 2); have h3 := byteD_lt s (4 * i + 3)
  exact or32 (or32 (or32 (by omega) (by omega)) (by omega)) (by omega)
theorem schedF_lt (s : List UInt8) (i : Nat) : ∀ x ∈ schedF s i, x < 4294967296 := by
  induction i with
  | zero => intro x hx; simp [schedF] at hx
  | succ i ih =>
    intro x hx
    simp only [schedF, List.mem_append, List.mem_singleton] at hx
    rcases hx with hx | rfl
    · exact ih x hx
    · split
      · exact wordF_lt s i
      · exact addW_lt _ _
/-- The words that are there, and noughts. -/
def wsF (s : List UInt8) (i : Nat) : List Nat := schedF s i ++ List.replicate (64 - i) 0
theorem wsF_length (s : List UInt8) (i : Nat) (hi : i ≤ 64) : (wsF s i).length = 64 := by simp [wsF, schedF_length]; omega
theorem wsF_set (s : List UInt8) (i x : Nat) (hi : i < 64) (hx : x = if i < 16 then wordF s i else nextW (schedF s i) i) : (wsF s i).set i x = wsF s (i + 1) := by
  have hl := schedF_length s i
  rw [wsF, List.set_append_right _ _ (by omega), hl, Nat.sub_self, show 64 - i = (64 - (i + 1)) + 1 by omega, List.replicate_succ, List.set_cons_zero, wsF, schedF, List.append_assoc, hx]
  rfl
theorem wsF_at (s : List UInt8) (i j : Nat) (hj : j < i) : (wsF s i)[j]? = some ((schedF s i).getD j 0) := by
  rw [wsF, List.getElem?_append_left (by rw [schedF_length]; exact hj), List.getD_eq_getElem?_getD, List.getElem?_eq_getElem (by rw [schedF_length]; exact hj)]
  rfl
theorem schedF_getD_lt (s : List UInt8) (i j : Nat) : (schedF s i).getD j 0 < 4294967296 := by
  rw [List.getD_eq_getElem?_getD]
  cases h : (schedF s i)[j]? with
  | none => simp
  | some x => exact schedF_lt s i x (List.mem_of_getElem? h)

/-- A sum of words, as the model reckons it. -/
theorem wrap_add (a b : Nat) : IntKind.u32.wrap ((a : Int) + (b : Int)) = ((addW a b : Nat) : Int) := by rw [IntKind.wrap_u32', addW]; omega

theorem wrap_nat (a : Nat) (h : a < 4294967296) : IntKind.u32.wrap (a : Int) = (a : Int) := by rw [IntKind.wrap_u32']; omega
theorem word_val (l : List UInt8) (i : Nat) : bits .or .u32 (bits .or .u32 (bits .or .u32 (IntKind.u32.wrap (IntKind.u32.wrap (byteD l (4 * i) : Int) * 16777216)) (IntKind.u32.wrap (IntKind.u32.wrap (byteD l (4 * i + 1) : Int) * 65536))) (IntKind.u32.wrap (IntKind.u32.wrap (byteD l (4 * i + 2) : Int) * 256))) (IntKind.u32.wrap (byteD l (4 * i + 3) : Int)) = ((wordF l i : Nat) : Int) := by
  have h0 := byteD_lt l (4 * i); have h1 := byteD_lt l (4 * i + 1); have h2 := byteD_lt l (4 * i + 2); have h3 := byteD_lt l (4 * i + 3)
  have e0 : IntKind.u32.wrap (IntKind.u32.wrap (byteD l (4 * i) : Int) * 16777216) = ((byteD l (4 * i) * 16777216 : Nat) : Int) := by rw [wrap_nat _ (by omega), IntKind.wrap_u32']; omega
  have e1 : IntKind.u32.wrap (IntKind.u32.wrap (byteD l (4 * i + 1) : Int) * 65536) = ((byteD l (4 * i + 1) * 65536 : Nat) : Int) := by rw [wrap_nat _ (by omega), IntKind.wrap_u32']; omega
  have e2 : IntKind.u32.wrap (IntKind.u32.wrap (byteD l (4 * i + 2) : Int) * 256) = ((byteD l (4 * i + 2) * 256 : Nat) : Int) := by rw [wrap_nat _ (by omega), IntKind.wrap_u32']; omega
  rw [e0, e1, e2, wrap_nat _ (by omega), u32_or_nat _ _ (by omega) (by omega), u32_or_nat _ _ (or32 (by omega) (by omega)) (by omega), u32_or_nat _ _ (or32 (or32 (by omega) (by omega)) (by omega)) (by omega)]
  rfl

theorem sig_val (x y A s : Nat) (hx : x < 4294967296) (hy : y < 4294967296) (hA : A < 4294967296) : bits .xor .u32 (bits .xor .u32 (x : Int) (y : Int)) ((A : Int) / (s : Int)) = ((x ^^^ y ^^^ A / s : Nat) : Int) := by
  have e : (A : Int) / (s : Int) = ((A / s : Nat) : Int) := (Int.natCast_ediv A s).symm
  rw [e, u32_xor_nat _ _ hx hy, u32_xor_nat _ _ (xor32 hx hy) (Nat.lt_of_le_of_lt (Nat.div_le_self _ _) hA)]
theorem next_val (A B C D : Nat) (hA : A < 4294967296) (hB : B < 4294967296) :
    IntKind.u32.wrap (IntKind.u32.wrap (IntKind.u32.wrap ((C : Int) + bits .xor .u32 (bits .xor .u32 (rotr A 7 : Nat) (rotr A 18 : Nat)) ((A : Int) / 8)) + (D : Int)) + bits .xor .u32 (bits .xor .u32 (rotr B 17 : Nat) (rotr B 19 : Nat)) ((B : Int) / 1024)) = ((addW (addW (addW C (sig0 A)) D) (sig1 B) : Nat) : Int) := by
  have e1 := sig_val _ _ A 8 (rotr_lt A 7 hA) (rotr_lt A 18 hA) hA
  have e2 := sig_val _ _ B 1024 (rotr_lt B 17 hB) (rotr_lt B 19 hB) hB
  have e1' : bits .xor .u32 (bits .xor .u32 (rotr A 7 : Nat) (rotr A 18 : Nat)) ((A : Int) / 8) = ((sig0 A : Nat) : Int) := e1
  have e2' : bits .xor .u32 (bits .xor .u32 (rotr B 17 : Nat) (rotr B 19 : Nat)) ((B : Int) / 1024) = ((sig1 B : Nat) : Int) := e2
  rw [e1', e2', wrap_add, wrap_add, wrap_add]

set_option maxRecDepth 100000 in
set_option maxHeartbeats 2000000 in
theorem schedule_any (w : World) (s : ByteArray) (hs : s.size = 64) :
    Calls Tryz.prog 191 #[.string s] w fun e w' => e = .returned (.agg (wc (schedF s.data.toList 64)).toArray) ∧ Below w.heap.size w w' := by
  go_enter Tryz.func191, Tryz.ntmps191
  go_wp2
  change Code.wp _ _ _ _ ((w.alloc (.cells (wc (wsF s.data.toList 0)).toArray 259)).alloc (.cells (wc (wsF s.data.toList 0)).toArray 259))
  have hg2 : ((w.alloc (.cells (wc (wsF s.data.toList 0)).toArray 259)).alloc (.cells (wc (wsF s.data.toList 0)).toArray 259)).heap[w.heap.size]? = some (.cells (wc (wsF s.data.toList 0)).toArray 259 (0, 0)) := by
    rw [heap_alloc_if, if_neg (by simp), heap_alloc_if, if_pos rfl]
  have hg3 : ((w.alloc (.cells (wc (wsF s.data.toList 0)).toArray 259)).alloc (.cells (wc (wsF s.data.toList 0)).toArray 259)).heap[w.heap.size + 1]? = some (.cells (wc (wsF s.data.toList 0)).toArray 259 (0, 0)) := by
    rw [heap_alloc_if, if_pos (by simp)]
  have hB : Below w.heap.size w ((w.alloc (.cells (wc (wsF s.data.toList 0)).toArray 259)).alloc (.cells (wc (wsF s.data.toList 0)).toArray 259)) := ((Below.refl _ w).alloc (Nat.le_refl _) _).alloc (by simp) _
  generalize (w.alloc (.cells (wc (wsF s.data.toList 0)).toArray 259)).alloc (.cells (wc (wsF s.data.toList 0)).toArray 259) = W at hg2 hg3 hB
  obtain ⟨l, hl⟩ : ∃ l, s.data.toList = l := ⟨_, rfl⟩
  rw [hl] at hg2 hg3
  have hx : ∀ j (h : j < s.size), (s[j].toNat : Int) = (byteD l j : Int) := fun j h => by
    rw [← hl, byteD, List.getD_eq_getElem?_getD, List.getElem?_eq_getElem (by simpa using h)]
    rfl
  go_loopw [7] (fun ci wr => ∃ i : Nat, i ≤ 64 ∧ ci = .int .i64 i ∧ wr.heap[w.heap.size]? = some (.cells (wc (wsF l 0)).toArray 259 (0, 0)) ∧ wr.heap[w.heap.size + 1]? = some (.cells (wc (wsF l i)).toArray 259 (0, 0)) ∧ Below w.heap.size w wr) (fun ci _ => 64 - (intOf ci).toNat)
  case atStart => exact ⟨0, by omega, rfl, hg2, hg3, hB⟩
  case round =>
    obtain ⟨i, hi, rfl, h2, h3, hBr⟩ := hrel
    clear hg2 hg3 hB
    have H2 := Lib.hid h2
    have H3 := Lib.hid h3
    have HB := Lib.hid hBr
    clear h2 h3 hBr
    by_cases hlt : i < 64
    · have hc : wr.cell? ⟨w.heap.size + 1, i, none⟩ = some (.int .u32 ((wsF l i)[i]?.getD 0 : Nat)) := cell_block H3.out (by
        have : i < (wsF l i).length := by rw [wsF_length l i hi]; exact hlt
        simp [wc, this])
      have hf : wr.frozen? ⟨w.heap.size + 1, i, none⟩ = false := Lib.frozen_of_heap H3.out i
      by_cases h16 : i < 16
      · go_wp2
        have p0 : IntKind.i64.wrap (4 * (i : Int)) = 4 * (i : Int) := IntWalk.i64_in _ (by omega)
        have p1 : IntKind.i64.wrap (4 * (i : Int) + 1) = 4 * (i : Int) + 1 := IntWalk.i64_in _ (by omega)
        have p2 : IntKind.i64.wrap (4 * (i : Int) + 2) = 4 * (i : Int) + 2 := IntWalk.i64_in _ (by omega)
        have p3 : IntKind.i64.wrap (4 * (i : Int) + 3) = 4 * (i : Int) + 3 := IntWalk.i64_in _ (by omega)
        have q : ∀ (J : Int) (j : Nat), J = j → j < 64 → ∀ W, (Instr.index 9 (.string s) (.int .i64 J)).run Tryz.prog W = .ok (.int .u8 (byteD l j : Int)) W := fun J j hJ hj W => by
          subst hJ
          rw [run_index_string W 9 s .i64 j Tryz.underlying9, dif_pos ⟨by omega, by omega⟩]
          have := hx j (by omega)
          simp only [Int.toNat_natCast]
          rw [this]
        have q0 := q (4 * (i : Int)) (4 * i) (by omega) (by omega)
        have q1 := q (4 * (i : Int) + 1) (4 * i + 1) (by omega) (by omega)
        have q2 := q (4 * (i : Int) + 2) (4 * i + 2) (by omega) (by omega)
        have q3 := q (4 * (i : Int) + 3) (4 * i + 3) (by omega) (by omega)
        clear q
        refine wp_region_still_tail 31 (by kernel_rfl) (by kernel_rfl) ?_
        simp only [List.take_succ_cons, List.take_zero, List.drop_succ_cons, List.drop_zero]
        repeat still_step
        rw [word_val l i]
        refine wpStill_nil ?_
        change wpList _ _ _ _ _ wr.drew
        have hcd : wr.drew.cell? ⟨w.heap.size + 1, i, none⟩ = some (.int .u32 ((wsF l i)[i]?.getD 0 : Nat)) := hc
        have hfd : wr.drew.frozen? ⟨w.heap.size + 1, i, none⟩ = false := hf
        have H2d : Hid (wr.drew.heap[w.heap.size]? = some (.cells (wc (wsF l 0)).toArray 259 (0, 0))) := H2
        have H3d : Hid (wr.drew.heap[w.heap.size + 1]? = some (.cells (wc (wsF l i)).toArray 259 (0, 0))) := H3
        have HBd : Hid (Below w.heap.size w wr.drew) := HB.out.drew
        generalize wr.drew = wd at hcd hfd H2d H3d HBd
        clear hc hf q0 q1 q2 q3 p0 p1 p2 p3
        go_wp2
        go_roundw
        case rel =>
          refine ⟨i + 1, by omega, by go_num, ?_, ?_, HBd.out.setCell (p := ⟨w.heap.size + 1, i, none⟩) (Nat.le_succ _) _⟩
          · rw [← H2d.out]; exact Below.heap_setCell _ _ _ _ (by simp)
          · rw [heap_setCell_at wd _ i _ _ _ _ H3d.out, wc_set, wsF_set l i _ hlt (by rw [if_pos h16])]
        case measure => simp [intOf]; omega
      · have hget : ∀ d p : Nat, i - d = p → 0 < d → d ≤ 16 → wr.cell? ⟨w.heap.size + 1, p, none⟩ = some (.int .u32 (((schedF l i).getD p 0 : Nat) : Int)) := fun d p hp hd hd2 =>
          cell_block H3.out (by simpa using wc_at _ _ _ (wsF_at l i p (by omega)))
        obtain ⟨p15, e15⟩ : ∃ p, i - 15 = p := ⟨_, rfl⟩
        obtain ⟨p2, e2⟩ : ∃ p, i - 2 = p := ⟨_, rfl⟩
        obtain ⟨p16, e16⟩ : ∃ p, i - 16 = p := ⟨_, rfl⟩
        obtain ⟨p7, e7⟩ : ∃ p, i - 7 = p := ⟨_, rfl⟩
        have c15 := hget 15 p15 e15 (by omega) (by omega)
        have c2 := hget 2 p2 e2 (by omega) (by omega)
        have c16 := hget 16 p16 e16 (by omega) (by omega)
        have c7 := hget 7 p7 e7 (by omega) (by omega)
        clear hget
        have w15 : IntKind.i64.wrap ((i : Int) - 15) = (p15 : Int) := by rw [IntWalk.i64_in _ (by omega)]; omega
        have w2 : IntKind.i64.wrap ((i : Int) - 2) = (p2 : Int) := by rw [IntWalk.i64_in _ (by omega)]; omega
        have w16 : IntKind.i64.wrap ((i : Int) - 16) = (p16 : Int) := by rw [IntWalk.i64_in _ (by omega)]; omega
        have w7 : IntKind.i64.wrap ((i : Int) - 7) = (p7 : Int) := by rw [IntWalk.i64_in _ (by omega)]; omega
        have b15 : (p15 : Int) < 64 := by omega
        have b2 : (p2 : Int) < 64 := by omega
        have b16 : (p16 : Int) < 64 := by omega
        have b7 : (p7 : Int) < 64 := by omega
        have hn : ∃ A B C D, A < 4294967296 ∧ B < 4294967296 ∧ (schedF l i).getD p15 0 = A ∧ (schedF l i).getD p2 0 = B ∧ (schedF l i).getD p16 0 = C ∧ (schedF l i).getD p7 0 = D :=
          ⟨_, _, _, _, schedF_getD_lt l i p15, schedF_getD_lt l i p2, rfl, rfl, rfl, rfl⟩
        obtain ⟨A, B, C, D, hA, hB, eA, eB, eC, eD⟩ := hn
        rw [eA] at c15
        rw [eB] at c2
        rw [eC] at c16
        rw [eD] at c7
        have HE := Lib.hid (And.intro e15 (And.intro e2 (And.intro e16 (And.intro e7 (And.intro eA (And.intro eB (And.intro eC eD)))))))
        clear e15 e2 e16 e7 eA eB eC eD
        go_wp2
        refine wp_region_still_lit (by kernel_rfl) (by kernel_rfl) ?_
        repeat still_step
        refine wpStill_nil ?_
        change Exit.then _ _ _ _ wr.drew
        have c16d : wr.drew.cell? ⟨w.heap.size + 1, p16, none⟩ = some (.int .u32 (C : Int)) := c16
        have c7d : wr.drew.cell? ⟨w.heap.size + 1, p7, none⟩ = some (.int .u32 (D : Int)) := c7
        have hcd : wr.drew.cell? ⟨w.heap.size + 1, i, none⟩ = some (.int .u32 ((wsF l i)[i]?.getD 0 : Nat)) := hc
        have hfd : wr.drew.frozen? ⟨w.heap.size + 1, i, none⟩ = false := hf
        have H2d : Hid (wr.drew.heap[w.heap.size]? = some (.cells (wc (wsF l 0)).toArray 259 (0, 0))) := H2
        have H3d : Hid (wr.drew.heap[w.heap.size + 1]? = some (.cells (wc (wsF l i)).toArray 259 (0, 0))) := H3
        have HBd : Hid (Below w.heap.size w wr.drew) := HB.out.drew
        generalize wr.drew = wd at c16d c7d hcd hfd H2d H3d HBd
        clear hc hf c15 c2 c16 c7
        go_wp2
        refine wp_region_still_tail 29 (by kernel_rfl) (by kernel_rfl) ?_
        simp only [List.take_succ_cons, List.take_zero, List.drop_succ_cons, List.drop_zero]
        iterate 6 still_step
        still_call (turn_still _ A 7 hA (by decide) (by decide))
        still_step
        still_call (turn_still _ A 18 hA (by decide) (by decide))
        iterate 11 still_step
        still_call (turn_still _ B 17 hB (by decide) (by decide))
        still_step
        still_call (turn_still _ B 19 hB (by decide) (by decide))
        iterate 6 still_step
        rw [next_val A B C D hA hB]
        refine wpStill_nil ?_
        change wpList _ _ _ _ _ wd.drew
        have hce : wd.drew.cell? ⟨w.heap.size + 1, i, none⟩ = some (.int .u32 ((wsF l i)[i]?.getD 0 : Nat)) := hcd
        have hfe : wd.drew.frozen? ⟨w.heap.size + 1, i, none⟩ = false := hfd
        have H2e : Hid (wd.drew.heap[w.heap.size]? = some (.cells (wc (wsF l 0)).toArray 259 (0, 0))) := H2d
        have H3e : Hid (wd.drew.heap[w.heap.size + 1]? = some (.cells (wc (wsF l i)).toArray 259 (0, 0))) := H3d
        have HBe : Hid (Below w.heap.size w wd.drew) := HBd.out.drew
        generalize wd.drew = we at hce hfe H2e H3e HBe
        clear hcd hfd c16d c7d w15 w2 w16 w7 b15 b2 b16 b7
        go_wp2
        go_roundw
        case rel =>
          refine ⟨i + 1, by omega, by go_num, ?_, ?_, HBe.out.setCell (p := ⟨w.heap.size + 1, i, none⟩) (Nat.le_succ _) _⟩
          · rw [← H2e.out]; exact Below.heap_setCell _ _ _ _ (by simp)
          · rw [heap_setCell_at we _ i _ _ _ _ H3e.out, wc_set, wsF_set l i _ hlt ?_]
            obtain ⟨e15, e2, e16, e7, eA, eB, eC, eD⟩ := HE.out
            rw [if_neg h16, nextW, e15, e2, e16, e7, eA, eB, eC, eD]
        case measure => simp [intOf]; omega
    · have hi64 : i = 64 := by omega
      subst hi64
      have hws : wsF l 64 = schedF l 64 := by simp [wsF]
      have hlen : (wc (schedF l 64)).length = 64 := by rw [wc_length, schedF_length]
      rw [hws] at H3
      go_wp2_with (first
        | (refine wpList_load_row rfl 259 (.tmp 3) rfl (w.heap.size + 1) rfl 259 _ (0, 0) _ H3.out Tryz.underlying259 rfl (by simp only [List.size_toArray, hlen]; exact words_size) ?_)
        | (refine wpl_store_row rfl 259 (.tmp 2) _ rfl w.heap.size rfl (wc (schedF l 64)) rfl _ 259 H2.out (by rw [hlen, List.size_toArray, wc_length, wsF_length l 0 (by omega)]) (wc_one _) (by rw [hlen]; exact words_size) ?_))
      (try simp only [Exit.inBlock, Exit.then])
      refine bodyPost_ret (results_cell_row rfl _ _ w.heap.size 259 (wc (schedF l 64)).toArray (0, 0) _ rfl (setRow_heap wr w.heap.size _ _ _ _ H2.out) Tryz.underlying259 rfl (by simp only [List.size_toArray, hlen]; exact words_size)) rfl ?_
      exact ⟨by rw [hl], below_setRow HB.out (Nat.le_refl _) _⟩
end Go.Proofs.YtcohdfkdhdhegaaGreatDoor
