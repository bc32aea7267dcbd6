/- header.Family, header.Check, Genesis. -/
import Derived.Test.YthpcedficlhanaaGreatDoorHdr
namespace Go.Proofs.YthpcedficlhanaaGreatDoor
open Go.RowKit

theorem key_s (B b n : Nat) (l : List UInt8) (v : Value) (ps : List ID) (w W : World) (h : BufAt 217 B b l w) (hB : B ≤ w.heap.size) (hl : l.length ≤ n) (hW : Below B W w) (hS : Sl idE (fun k => k < B) W v ps) (hlen : ps.length ≤ 4294967296) (hd : ps.Nodup) :
    Calls Tryz.prog 44 #[v] w fun e w' => e = .returned (.string (keyB ps)) ∧ BufAt 217 B b l w' ∧ B ≤ w'.heap.size ∧ l.length ≤ n ∧ Below B W w' :=
  (key_any w v ps _ (hS.fr (Fr.below hW fun k hk _ => hk)) hlen hd).mono fun e w' ⟨he, hb⟩ => ⟨he, h.below hb, Nat.le_trans hB hb.size, hl, hW.trans (hb.mono hB)⟩
theorem bytes_s (B b n : Nat) (l : List UInt8) (w W : World) (h : BufAt 217 B b l w) (hB : B ≤ w.heap.size) (hl : l.length ≤ n) (hW : Below B W w) (h0 : l ≠ []) :
    Calls Tryz.prog 162 #[.pointer (some ⟨b, 0, none⟩)] w fun e w' => e = .returned (.string ⟨l.toArray⟩) ∧ l.length ≤ n ∧ Below B W w' :=
  (bytes_any B b l w h h0).mono fun e w' ⟨he, hb⟩ => ⟨he, hl, hW.trans hb⟩

/-- A family. -/
def famB (h : Hdr) : List UInt8 := numB h.height.toNat ++ numB h.power.toNat ++ textB (keyB h.parents)
theorem keyB_size (l : List ID) : (keyB l).size = l.length * 32 := by
  have := joinI_length (sortI l)
  rw [(sortI_perm l).length_eq] at this
  simp [keyB, ByteArray.size, this]

theorem keep3 {w w' : World} {B b : Nat} {v0 v4 v5 : Value} (hb : Below B w w') (hlt : b < B)
    (h : w.cell? ⟨b, 0, none⟩ = some v0 ∧ w.cell? ⟨b, 4, none⟩ = some v4 ∧ w.cell? ⟨b, 5, none⟩ = some v5) :
    w'.cell? ⟨b, 0, none⟩ = some v0 ∧ w'.cell? ⟨b, 4, none⟩ = some v4 ∧ w'.cell? ⟨b, 5, none⟩ = some v5 := by
  have hc : ∀ i, w'.cell? ⟨b, i, none⟩ = w.cell? ⟨b, i, none⟩ := fun i => hb.cell (p := ⟨b, i, none⟩) hlt
  simpa only [hc] using h

set_option maxRecDepth 100000 in
set_option maxHeartbeats 2000000 in
theorem family_any (w : World) (x : LH) (ok : Nat → Prop) (hx : x.At ok w) (hok : x.h.Ok) (hd : x.h.parents.Nodup) :
    Calls Tryz.prog 151 #[.agg x.cells.toArray] w fun e w' => e = .returned (.string ⟨(famB x.h).toArray⟩) ∧ Below w.heap.size w w' := by
  obtain ⟨⟨height, miner, ticket, wins, power, parents, salt⟩, A, c⟩ := x
  have HL := Lib.hid hx
  obtain ⟨⟨h1, h2⟩, -, -, -, h9, h10, -, h12⟩ := hok
  simp only at h1 h2 h9 h10 h12 hd
  clear hx
  change Calls _ _ #[.agg #[.int .i64 height, .int .i64 miner, .string ticket, .int .i64 wins, .int .u64 power, .slice A parents.length c, .int .i64 salt]] w fun e w' => e = .returned (.string ⟨(famB ⟨height, miner, ticket, wins, power, parents, salt⟩).toArray⟩) ∧ Below w.heap.size w w'
  change Hid (Sl idE ok w (.slice A parents.length c) parents) at HL
  obtain ⟨-, hc, hm⟩ := HL.out.len
  go_enter Tryz.func151, Tryz.ntmps151
  go_wp2
  have hb0 : BufAt 217 (w.heap.size + 1) (w.heap.size + 1) [] ((w.alloc (.cells #[.int .i64 height, .int .i64 miner, .string ticket, .int .i64 wins, .int .u64 power, .slice A parents.length c, .int .i64 salt] 38)).alloc (.cells #[.pointer none, .slice none 0 0] 217)) := by
    have := buf_new 217 (w.alloc (.cells #[.int .i64 height, .int .i64 miner, .string ticket, .int .i64 wins, .int .u64 power, .slice A parents.length c, .int .i64 salt] 38)) (w.heap.size + 1) (by simp)
    rwa [World.size_alloc] at this
  have hB0 : Below w.heap.size w ((w.alloc (.cells #[.int .i64 height, .int .i64 miner, .string ticket, .int .i64 wins, .int .u64 power, .slice A parents.length c, .int .i64 salt] 38)).alloc (.cells #[.pointer none, .slice none 0 0] 217)) := ((Below.refl _ w).alloc (Nat.le_refl _) _).alloc (by simp) _
  have hK : ∀ i u, (#[Value.int .i64 height, .int .i64 miner, .string ticket, .int .i64 wins, .int .u64 power, .slice A parents.length c, .int .i64 salt] : Array Value)[i]? = some u → ((w.alloc (.cells #[.int .i64 height, .int .i64 miner, .string ticket, .int .i64 wins, .int .u64 power, .slice A parents.length c, .int .i64 salt] 38)).alloc (.cells #[.pointer none, .slice none 0 0] 217)).cell? ⟨w.heap.size, i, none⟩ = some u := fun i u hu => by
    refine cell_block (fr := (0, 0)) (T := 38) ?_ hu
    rw [heap_alloc_if, if_neg (by simp), heap_alloc_if, if_pos rfl]
  generalize hW : (w.alloc (.cells #[.int .i64 height, .int .i64 miner, .string ticket, .int .i64 wins, .int .u64 power, .slice A parents.length c, .int .i64 salt] 38)).alloc (.cells #[.pointer none, .slice none 0 0] 217) = W at hb0 hB0 hK
  have hS0 : W.drew.cell? ⟨w.heap.size, 0, none⟩ = some (.int .i64 height) ∧ W.drew.cell? ⟨w.heap.size, 4, none⟩ = some (.int .u64 power) ∧ W.drew.cell? ⟨w.heap.size, 5, none⟩ = some (.slice A parents.length c) :=
    ⟨hK 0 _ rfl, hK 4 _ rfl, hK 5 _ rfl⟩
  have hsz : w.heap.size + 1 ≤ W.heap.size := by rw [← hW]; simp
  have hb0 : BufAt 217 (w.heap.size + 1) (w.heap.size + 1) [] W.drew := hb0
  have hbw : Below (w.heap.size + 1) W W.drew := (Below.refl _ W).drew
  have hsz' : w.heap.size + 1 ≤ W.drew.heap.size := hsz
  have hl0 : ([] : List UInt8).length ≤ 0 := Nat.le_refl _
  have hSl : Sl idE (fun k => k < w.heap.size + 1) W (.slice A parents.length c) parents := (HL.out.old.below hB0).mono fun k hk => by omega
  have hplen : parents.length ≤ 4294967296 := by omega
  have hks : (keyB parents).size ≤ 68719476736 := by rw [keyB_size]; omega
  clear hK HL
  have hpw : IntKind.i64.wrap power = power := IntWalk.i64_in _ (by omega)
  go_region_held3 (fun w' => w'.cell? ⟨w.heap.size, 0, none⟩ = some (.int .i64 height) ∧ w'.cell? ⟨w.heap.size, 4, none⟩ = some (.int .u64 power) ∧ w'.cell? ⟨w.heap.size, 5, none⟩ = some (.slice A parents.length c))
    (first | assumption | exact keep3 (w := W) (by assumption) (Nat.lt_succ_self _) hS0)
    (first
      | (go_at_call 159; refine (num_s _ _ _ _ _ _ W (by assumption) (by assumption) (by assumption) (by assumption) (by omega) (by omega) (by omega)).mono ?_; rintro e w' ⟨rfl, hbu, hbs, hbl, hbb⟩)
      | (go_at_call 44; refine (key_s _ _ _ _ _ _ _ W (by assumption) (by assumption) (by assumption) (by assumption) hSl hplen hd).mono ?_; rintro e w' ⟨rfl, hbu, hbs, hbl, hbb⟩)
      | (go_at_call 160; refine (text_s _ _ _ _ _ _ W (by assumption) (by assumption) (by assumption) (by assumption) (by omega) (by omega)).mono ?_; rintro e w' ⟨rfl, hbu, hbs, hbl, hbb⟩)
      | (go_at_call 162; refine (bytes_s _ _ _ _ _ W (by assumption) (by assumption) (by assumption) (by assumption) (by simp [textB, numB_ne])).mono ?_; rintro e w' ⟨rfl, hbl, hbb⟩))
  all_goals
    go_wp2
    go_ret
    exact ⟨by simp [famB, List.append_assoc], hB0.trans (hbb.mono (by omega))⟩

set_option maxRecDepth 100000 in
set_option maxHeartbeats 1000000 in
theorem among_any (w : World) (x a b : Int) :
    Calls Tryz.prog 126 #[.int .i64 x, .int .i64 a, .int .i64 b] w fun e w' => e = .returned (.bool (decide (a ≤ x ∧ x ≤ b))) ∧ w = w' := by
  go_enter Tryz.func126, Tryz.ntmps126
  go_wp2
  all_goals (go_ret; exact ⟨by simp; omega, rfl⟩)

theorem among_or (w : World) (x a b : Int) :
    Calls Tryz.prog 126 #[.int .i64 x, .int .i64 a, .int .i64 b] w fun e w' => (e = .returned (.bool true) ∧ a ≤ x ∧ x ≤ b ∧ w = w') ∨ (e = .returned (.bool false) ∧ ¬ (a ≤ x ∧ x ≤ b) ∧ w = w') :=
  (among_any w x a b).mono fun _ _ ⟨he, hw⟩ => by
    by_cases h : a ≤ x ∧ x ≤ b
    · rw [decide_eq_true h] at he; exact .inl ⟨he, h.1, h.2, hw⟩
    · rw [decide_eq_false h] at he; exact .inr ⟨he, h, hw⟩

/-- What is wrong with a header. -/
def checkH (h : Hdr) : Int :=
  if h.parents.length > 5 then 4
  else if (1 ≤ h.height ∧ h.height ≤ 1073741824) ∧ (0 ≤ h.miner ∧ h.miner ≤ 63) ∧ (1 ≤ h.ticket.size ∧ h.ticket.size ≤ 8) ∧ (1 ≤ h.wins ∧ h.wins ≤ 15) ∧ (0 ≤ h.salt ∧ h.salt ≤ 1073741824) ∧ (2 ≤ h.power ∧ h.power ≤ 4611686018427387904) ∧ h.parents.length ≠ 0 ∧ riseB h.parents = true then 0
  else 1

set_option maxRecDepth 100000 in
set_option maxHeartbeats 2000000 in
theorem check_any (w : World) (x : LH) (ok : Nat → Prop) (hx : x.At ok w) (hlen : x.h.parents.length ≤ 4294967296) (hp0 : 0 ≤ x.h.power) (htk : x.h.ticket.size ≤ 4294967296) :
    Calls Tryz.prog 125 #[.agg x.cells.toArray] w fun e w' => e = .returned (.int .i64 (checkH x.h)) ∧ Below w.heap.size w w' := by
  obtain ⟨⟨height, miner, ticket, wins, power, parents, salt⟩, A, c⟩ := x
  have HL := Lib.hid hx
  simp only at hlen hp0 htk
  clear hx
  change Calls _ _ #[.agg #[.int .i64 height, .int .i64 miner, .string ticket, .int .i64 wins, .int .u64 power, .slice A parents.length c, .int .i64 salt]] w fun e w' => e = .returned (.int .i64 (checkH ⟨height, miner, ticket, wins, power, parents, salt⟩)) ∧ Below w.heap.size w w'
  change Hid (Sl idE ok w (.slice A parents.length c) parents) at HL
  obtain ⟨-, hc, hm⟩ := HL.out.len
  have hB0 : Below w.heap.size w (w.alloc (.cells #[.int .i64 height, .int .i64 miner, .string ticket, .int .i64 wins, .int .u64 power, .slice A parents.length c, .int .i64 salt] 38)) := (Below.refl _ w).alloc (Nat.le_refl _) _
  have HR := Lib.hid (rise_any _ _ parents ok (HL.out.below hB0))
  have HB0 := Lib.hid hB0
  clear hB0
  go_enter Tryz.func125, Tryz.ntmps125
  by_cases g0 : parents.length > 5
  · go_wp2
    go_ret
    exact ⟨by rw [checkH, if_pos g0]; rfl, HB0.out⟩
  · by_cases g1 : (1 ≤ height ∧ height ≤ 1073741824) ∧ (0 ≤ miner ∧ miner ≤ 63) ∧ (1 ≤ ticket.size ∧ ticket.size ≤ 8) ∧ (1 ≤ wins ∧ wins ≤ 15) ∧ (0 ≤ salt ∧ salt ≤ 1073741824)
    · obtain ⟨⟨a1, a2⟩, ⟨a3, a4⟩, ⟨a5, a6⟩, ⟨a7, a8⟩, a9, a10⟩ := g1
      by_cases g2 : 2 ≤ power ∧ power ≤ 4611686018427387904 ∧ parents.length ≠ 0
      · obtain ⟨b1, b2, b3⟩ := g2
        have hres1 : riseB parents = false → checkH ⟨height, miner, ticket, wins, power, parents, salt⟩ = 1 := fun hrb => by rw [checkH, if_neg g0, if_neg (fun h => by simp [hrb] at h)]
        have hres0 : riseB parents = true → checkH ⟨height, miner, ticket, wins, power, parents, salt⟩ = 0 := fun hrb => by rw [checkH, if_neg g0, if_pos ⟨⟨a1, a2⟩, ⟨a3, a4⟩, ⟨a5, a6⟩, ⟨a7, a8⟩, ⟨a9, a10⟩, ⟨b1, b2⟩, b3, hrb⟩]
        have e1 : decide (power < 2) = false := decide_eq_false (by omega)
        have e2 : decide (4611686018427387904 < power) = false := decide_eq_false (by omega)
        have H1 := Lib.hid hres1
        have H0 := Lib.hid hres0
        clear hres1 hres0
        go_wp2_with (first
          | (go_at_call 126; refine (among_any _ _ _ _).mono ?_; rintro e w1 ⟨rfl, rfl⟩; rw [decide_eq_true (by omega)])
          | (go_at_call 127; refine HR.out.mono ?_; rintro e w1 ⟨rfl, hb1⟩; rcases hrb : riseB parents with _ | _))
        all_goals (first | (exfalso; omega) | skip)
        all_goals go_ret
        all_goals (first
          | exact ⟨by rw [H1.out hrb]; rfl, HB0.out.trans (hb1.mono HB0.out.size)⟩
          | exact ⟨by rw [H0.out hrb]; rfl, HB0.out.trans (hb1.mono HB0.out.size)⟩)
      · have hres : checkH ⟨height, miner, ticket, wins, power, parents, salt⟩ = 1 := by
          rw [checkH, if_neg g0, if_neg (fun h => g2 ⟨h.2.2.2.2.2.1.1, h.2.2.2.2.2.1.2, h.2.2.2.2.2.2.1⟩)]
        have hc3 : power < 2 ∨ (2 ≤ power ∧ 4611686018427387904 < power) ∨ (2 ≤ power ∧ power ≤ 4611686018427387904 ∧ parents.length = 0) := by omega
        clear g2
        rcases hc3 with q | ⟨q, q2⟩ | ⟨q, q2, q3⟩
        · have e1 : decide (power < 2) = true := decide_eq_true q
          go_wp2_with (go_at_call 126; refine (among_any _ _ _ _).mono ?_; rintro e w1 ⟨rfl, rfl⟩; rw [decide_eq_true (by omega)])
          go_ret
          exact ⟨by rw [hres]; rfl, HB0.out⟩
        · have e1 : decide (power < 2) = false := decide_eq_false (by omega)
          have e2 : decide (4611686018427387904 < power) = true := decide_eq_true q2
          go_wp2_with (go_at_call 126; refine (among_any _ _ _ _).mono ?_; rintro e w1 ⟨rfl, rfl⟩; rw [decide_eq_true (by omega)])
          go_ret
          exact ⟨by rw [hres]; rfl, HB0.out⟩
        · have e1 : decide (power < 2) = false := decide_eq_false (by omega)
          have e2 : decide (4611686018427387904 < power) = false := decide_eq_false (by omega)
          go_wp2_with (go_at_call 126; refine (among_any _ _ _ _).mono ?_; rintro e w1 ⟨rfl, rfl⟩; rw [decide_eq_true (by omega)])
          go_ret
          exact ⟨by rw [hres]; rfl, by have := HB0.out; rw [q3] at this; exact this⟩
    · have hres : checkH ⟨height, miner, ticket, wins, power, parents, salt⟩ = 1 := by
        rw [checkH, if_neg g0, if_neg (fun h => g1 ⟨h.1, h.2.1, h.2.2.1, h.2.2.2.1, h.2.2.2.2.1⟩)]
      have HG1 := Lib.hid g1
      clear g1
      go_wp2_with (go_at_call 126; refine (among_or _ _ _ _).mono ?_; rintro e w1 (⟨rfl, p1, p2, rfl⟩ | ⟨rfl, -, rfl⟩))
      all_goals (first | (exfalso; have h := HG1.out; omega) | skip)
      all_goals go_ret
      all_goals exact ⟨by rw [hres]; rfl, HB0.out⟩
end Go.Proofs.YthpcedficlhanaaGreatDoor
