/- codec.Out: Num, Text, Raw, Bytes. -/
import Derived.Test.YthpcedficlhanaaGreatDoorOut
import Derived.IntWalk
namespace Go.Proofs.YthpcedficlhanaaGreatDoor
open Go.RowKit

/-- How many bytes a number has, at most f. -/
def numLen : Nat → Nat → Nat
  | 0, _ => 0
  | f + 1, y => if y = 0 then 0 else 1 + numLen f (y / 256)
/-- Its n lowest bytes, the greatest first. -/
def dig (x : Nat) : Nat → List UInt8
  | 0 => []
  | i + 1 => UInt8.ofNat (x / 256 ^ i) :: dig x i
/-- A number's bytes. -/
def numB (x : Nat) : List UInt8 := UInt8.ofNat (numLen 8 x) :: dig x (numLen 8 x)
theorem numLen_le (f y : Nat) : numLen f y ≤ f := by
  induction f generalizing y with
  | zero => simp [numLen]
  | succ f ih =>
    have := ih (y / 256)
    simp only [numLen]
    split <;> omega
theorem numLen_succ (f y : Nat) (h : 0 < y) : numLen (f + 1) y = 1 + numLen f (y / 256) := by rw [numLen, if_neg (by omega)]
theorem dig_length (x n : Nat) : (dig x n).length = n := by induction n with
  | zero => rfl
  | succ n ih => simp [dig, ih]
theorem numB_length (x : Nat) : (numB x).length ≤ 9 := by have := numLen_le 8 x; simp [numB, dig_length]; omega
theorem numB_ne (x : Nat) : numB x ≠ [] := by simp [numB]

theorem dig_byte (m j : Nat) : IntKind.u8.wrap ((m : Int) / 2 ^ (8 * (j : Int)).toNat) = (((UInt8.ofNat (m / 256 ^ j)).toNat : Nat) : Int) := by
  have h1 : (8 * (j : Int)).toNat = 8 * j := by omega
  have h2 : (2 : Int) ^ (8 * j) = ((256 ^ j : Nat) : Int) := by rw [Int.pow_mul]; norm_cast
  rw [h1, h2]
  simp [IntKind.wrap]
  rfl

set_option maxRecDepth 100000 in
set_option maxHeartbeats 2000000 in
theorem num_any (B b : Nat) (l : List UInt8) (x : Int) (w : World) (h : BufAt 217 B b l w) (h0 : -9223372036854775808 ≤ x) (h1 : x ≤ 9223372036854775807) (hlen : l.length + 9 ≤ 140737488355328) (hBw : B ≤ w.heap.size) :
    Calls Tryz.prog 159 #[.pointer (some ⟨b, 0, none⟩), .int .i64 x] w fun e w' => e = .returned (.pointer (some ⟨b, 0, none⟩)) ∧ UsedAt 217 B b (l ++ numB x.toNat) w' ∧ Below B w w' := by
  have HL := Lib.hid hlen
  have HB := Lib.hid hBw
  clear hlen hBw
  go_enter Tryz.func159, Tryz.ntmps159
  obtain ⟨m, hm⟩ : ∃ m : Nat, max x 0 = (m : Int) := ⟨(max x 0).toNat, by omega⟩
  have hmx : x.toNat = m := by omega
  have hml : m ≤ 9223372036854775807 := by omega
  rw [hmx]
  go_wp2
  go_loop [5, 6] (fun cn cy => ∃ n y : Nat, cn = .int .i64 n ∧ cy = .int .i64 y ∧ n ≤ 8 ∧ y ≤ 9223372036854775807 ∧ y < 256 ^ (8 - n) ∧ numLen 8 m = n + numLen (8 - n) y) (fun cn _ => 8 - (intOf cn).toNat)
  case atStart => exact ⟨0, m, rfl, rfl, by omega, hml, by simp; omega, by simp⟩
  case round =>
    obtain ⟨n, y, rfl, rfl, hn, hy, hy8, hL⟩ := hrel
    have HH := Lib.hid hL; clear hL
    have H8 := Lib.hid hy8; clear hy8
    by_cases hy0 : 0 < y
    · go_wp2
      have hn8 : n < 8 := by
        rcases Nat.lt_or_ge n 8 with h | h
        · exact h
        · have h8 := H8.out
          rw [show 8 - n = 0 by omega] at h8
          simp at h8
          omega
      go_round
      case rel =>
        refine ⟨n + 1, y / 256, by go_num, by go_num, by omega, by omega, ?_, ?_⟩
        · have h8 := H8.out
          rw [show 8 - n = (8 - (n + 1)) + 1 by omega, Nat.pow_succ] at h8
          exact Nat.div_lt_of_lt_mul (by omega)
        · have hl := HH.out
          rw [show 8 - n = (8 - (n + 1)) + 1 by omega, numLen_succ _ _ hy0] at hl
          omega
      case measure => simp [intOf]; omega
    · have hln : numLen 8 m = n := by
        have hl := HH.out
        have : y = 0 := by omega
        subst this
        have h0 : ∀ f, numLen f 0 = 0 := fun f => by cases f <;> simp [numLen]
        rw [h0] at hl
        omega
      have hcn : (((UInt8.ofNat n).toNat : Nat) : Int) = n := by simp; omega
      have HW := writeByte_any 217 bt_out B b l (UInt8.ofNat n) w h (by have := HL.out; omega) HB.out
      rw [hcn] at HW
      have HW := Lib.hid HW
      have HLN := Lib.hid hln
      clear h hln
      go_wp2_with (go_at_call 189; refine HW.out.mono ?_; rintro e w1 ⟨rfl, h1, hb1⟩)
      have hs1 := hb1.size
      have HH1 := Lib.hid h1
      have HB1 := Lib.hid hb1
      clear h1 hb1
      go_loopw [7] (fun ci wr => ∃ i : Nat, i ≤ n ∧ ci = .int .i64 ((i : Int) - 1) ∧ ∃ z, z ++ dig m i = numB m ∧ UsedAt 217 B b (l ++ z) wr ∧ Below B w wr) (fun ci _ => (intOf ci + 1).toNat)
      case atStart => exact ⟨n, by omega, rfl, [UInt8.ofNat n], by rw [numB, HLN.out]; rfl, HH1.out, HB1.out⟩
      case round =>
        obtain ⟨i, hi, rfl, z, hz, hU, hBB⟩ := hrel
        have HZ := Lib.hid hz
        have HU := Lib.hid hU
        have HBB := Lib.hid hBB
        clear hz hU hBB
        by_cases hi0 : 0 < i
        · obtain ⟨j, rfl⟩ : ∃ j, i = j + 1 := ⟨i - 1, by omega⟩
          rw [show ((j + 1 : Nat) : Int) - 1 = (j : Int) by omega]
          have hw8 : IntKind.i64.wrap (8 * (j : Int)) = 8 * j := IntWalk.i64_in _ (by omega)
          go_wp2
          refine wp_region_still_tail 8 (by kernel_rfl) (by kernel_rfl) ?_
          simp only [List.take_succ_cons, List.take_zero, List.drop_succ_cons, List.drop_zero]
          repeat still_step
          refine wpStill_nil ?_
          change wpList _ _ _ _ _ wr.drew
          have hBd : Below B w wr.drew := HBB.out.drew
          have hUd : UsedAt 217 B b (l ++ z) wr.drew := HU.out
          generalize wr.drew = wd at hBd hUd
          have hzl : z.length + (j + 1) ≤ 9 := by
            have h1 := congrArg List.length HZ.out
            have h2 := numB_length m
            simp [dig_length] at h1
            omega
          have HX := writeByte_any 217 bt_out B b (l ++ z) (UInt8.ofNat (m / 256 ^ j)) wd hUd.buf (by have := HL.out; simp; omega) (Nat.le_trans HB.out hBd.size)
          rw [← dig_byte] at HX
          have HX := Lib.hid HX
          go_wp2_with (go_at_call 189; refine HX.out.mono ?_; rintro e w2 ⟨rfl, h2, hb2⟩)
          go_roundw
          case rel => exact ⟨j, by omega, by go_num, z ++ [UInt8.ofNat (m / 256 ^ j)], by rw [← HZ.out]; simp [dig], by rw [← List.append_assoc]; exact h2, hBd.trans (hb2.mono (Nat.le_refl _))⟩
          case measure => simp [intOf]
        · have hi00 : i = 0 := by omega
          subst hi00
          have hzz : z = numB m := by have := HZ.out; simpa [dig] using this
          go_wp2
          go_ret
          exact ⟨rfl, hzz ▸ HU.out, HBB.out⟩

set_option maxRecDepth 100000 in
set_option maxHeartbeats 2000000 in
theorem raw_any (B b : Nat) (l : List UInt8) (s : ByteArray) (w : World) (h : BufAt 217 B b l w) (hlen : l.length + s.size ≤ 140737488355328) (hBw : B ≤ w.heap.size) :
    Calls Tryz.prog 161 #[.pointer (some ⟨b, 0, none⟩), .string s] w fun e w' => e = .returned (.pointer (some ⟨b, 0, none⟩)) ∧ UsedAt 217 B b (l ++ s.data.toList) w' ∧ Below B w w' := by
  have HW := Lib.hid (writeString_any 217 bt_out B b l s w h hlen hBw)
  clear h hlen hBw
  go_enter Tryz.func161, Tryz.ntmps161
  go_wp2_with (go_at_call 186; refine HW.out.mono ?_; rintro e w1 ⟨rfl, h1, hb1⟩)
  go_ret
  exact ⟨rfl, h1, hb1⟩

/-- A text's bytes. -/
def textB (s : ByteArray) : List UInt8 := numB s.size ++ s.data.toList

set_option maxRecDepth 100000 in
set_option maxHeartbeats 2000000 in
theorem text_any (B b : Nat) (l : List UInt8) (s : ByteArray) (w : World) (h : BufAt 217 B b l w) (hlen : l.length + 9 + s.size ≤ 140737488355328) (hBw : B ≤ w.heap.size) :
    Calls Tryz.prog 160 #[.pointer (some ⟨b, 0, none⟩), .string s] w fun e w' => e = .returned (.pointer (some ⟨b, 0, none⟩)) ∧ UsedAt 217 B b (l ++ textB s) w' ∧ Below B w w' := by
  have HW := num_any B b l s.size w h (by omega) (by omega) (by omega) hBw
  rw [show ((s.size : Int)).toNat = s.size by omega] at HW
  have HW := Lib.hid HW
  have HL := Lib.hid hlen
  have HB := Lib.hid hBw
  clear h hlen hBw
  go_enter Tryz.func160, Tryz.ntmps160
  go_wp2_with (first
    | (go_at_call 159; refine HW.out.mono ?_; rintro e w1 ⟨rfl, h1, hb1⟩; have HW2 := Lib.hid (raw_any B b _ s w1 h1.buf (by have := HL.out; have := numB_length s.size; simp; omega) (Nat.le_trans HB.out hb1.size)); clear h1)
    | (go_at_call 161; refine HW2.out.mono ?_; rintro e w2 ⟨rfl, h2, hb2⟩))
  go_ret
  exact ⟨rfl, by rw [textB, ← List.append_assoc]; exact h2, hb1.trans (hb2.mono (Nat.le_refl _))⟩

set_option maxRecDepth 100000 in
set_option maxHeartbeats 2000000 in
theorem bytes_any (B b : Nat) (l : List UInt8) (w : World) (h : BufAt 217 B b l w) (h0 : l ≠ []) :
    Calls Tryz.prog 162 #[.pointer (some ⟨b, 0, none⟩)] w fun e w' => e = .returned (.string ⟨l.toArray⟩) ∧ Below B w w' := by
  have HW := Lib.hid (builderString_any 217 B b l w h h0)
  clear h h0
  go_enter Tryz.func162, Tryz.ntmps162
  go_wp2_with (go_at_call 117; refine HW.out.mono ?_; rintro e w1 ⟨rfl, hb1⟩)
  go_ret
  exact ⟨rfl, hb1⟩
end Go.Proofs.YthpcedficlhanaaGreatDoor
