/- digest.pad. -/
import Derived.Test.YthpcedficlhanaaGreatDoorMix
import Derived.Test.YthpcedficlhanaaGreatDoorLayR
namespace Go.Proofs.YthpcedficlhanaaGreatDoor
open Go.RowKit

/-- Bytes, as whole blocks. -/
def padF (s : List UInt8) : List UInt8 := s ++ 128 :: List.replicate ((119 - s.length % 64) % 64) 0 ++ dig (s.length * 8) 8
theorem padF_length (s : List UInt8) : ∃ k, (padF s).length = 64 * k := by
  simp only [padF, List.length_append, List.length_cons, List.length_replicate, dig_length]
  exact ⟨(s.length + 1 + (119 - s.length % 64) % 64 + 8) / 64, by omega⟩
theorem ba_append (a b : ByteArray) : (a ++ b).data.toList = a.data.toList ++ b.data.toList := by simp

/-- One byte as a text. -/
theorem conv_one (w : World) (b : UInt8) : (convert 133 9 (.slice (some ⟨w.heap.size, 0, none⟩) 1 1)).run Tryz.prog (w.alloc (.cells #[.int .u8 (b.toNat : Int)] 5)) = .ok (.string ⟨#[b]⟩) (w.alloc (.cells #[.int .u8 (b.toNat : Int)] 5)) :=
  run_convert_bytes_back (P := Tryz.prog) _ 133 9 5 ⟨w.heap.size, 0, none⟩ 1 [b] Tryz.underlying133 Tryz.underlying5 Tryz.underlying9 (fun j hj => by
    have hj0 : j = 0 := by simpa using hj
    subst hj0
    exact cell_block (heap_alloc_new w _) rfl)

set_option maxRecDepth 100000 in
set_option maxHeartbeats 2000000 in
theorem pad_any (w : World) (s : ByteArray) (hs : s.size ≤ 1099511627776) :
    Calls Tryz.prog 156 #[.string s] w fun e w' => e = .returned (.string ⟨(padF s.data.toList).toArray⟩) ∧ Below w.heap.size w w' := by
  obtain ⟨n, hn⟩ : ∃ n, s.size = n := ⟨_, rfl⟩
  have hl : s.data.toList.length = n := by simpa using hn
  have hnn := noughts_any ((119 - n % 64) % 64) w (by omega)
  rw [show (((119 - n % 64) % 64 : Nat) : Int) = (119 - (n : Int)) % 64 by omega] at hnn
  have HN := Lib.hid hnn
  clear hnn
  go_enter Tryz.func156, Tryz.ntmps156
  go_wp2_with (go_at_call 184; refine HN.out.mono ?_; rintro e w1 ⟨rfl, hb1⟩)
  have h0 : (s ++ ((⟨#[128]⟩ : ByteArray) ++ ⟨Array.replicate ((119 - n % 64) % 64) 0⟩)).data.toList ++ dig (n * 8) 8 = padF s.data.toList := by
    rw [ba_append, ba_append, padF, hl]
    simp
  generalize s ++ ((⟨#[128]⟩ : ByteArray) ++ ⟨Array.replicate ((119 - n % 64) % 64) 0⟩) = z0 at h0
  have H0 := Lib.hid h0
  clear h0
  go_loopw [0, 4] (fun c0 ci wr => ∃ (i : Nat) (z : ByteArray), i ≤ 8 ∧ ci = .int .i64 ((i : Int) - 1) ∧ c0 = .string z ∧ z.data.toList ++ dig (n * 8) i = padF s.data.toList ∧ Below w.heap.size w wr) (fun _ ci _ => (intOf ci + 1).toNat)
  case atStart => exact ⟨8, z0, by omega, rfl, rfl, H0.out, hb1⟩
  case round =>
    obtain ⟨i, z, hi, rfl, rfl, hz, hB⟩ := hrel
    have HZ := Lib.hid hz
    have HB := Lib.hid hB
    clear hz hB hb1
    by_cases hi0 : 0 < i
    · obtain ⟨j, rfl⟩ : ∃ j, i = j + 1 := ⟨i - 1, by omega⟩
      rw [show ((j + 1 : Nat) : Int) - 1 = (j : Int) by omega]
      obtain ⟨b, hb⟩ : ∃ b, UInt8.ofNat (n * 8 / 256 ^ j) = b := ⟨_, rfl⟩
      have hby : (n : Int) * 8 / 2 ^ (8 * j) % 256 = ((b.toNat : Nat) : Int) := by
        have h := dig_byte (n * 8) j
        rw [show ((n * 8 : Nat) : Int) = (n : Int) * 8 by omega, hb, show (8 * (j : Int)).toNat = 8 * j by omega] at h
        rw [← h]
        simp [IntKind.wrap, IntKind.bits, IntKind.signed]
      have hcv := conv_one wr b
      have HBY := Lib.hid hb
      clear hb
      have hz2 : z.size ≤ 2199023255552 := by
        have h1 := congrArg List.length HZ.out
        simp only [padF, List.length_append, List.length_cons, List.length_replicate, dig_length, hl] at h1
        have h2 : z.data.toList.length = z.size := by simp
        omega
      go_wp2
      go_roundw
      case rel =>
        refine ⟨j, z ++ ⟨#[b]⟩, by omega, by go_num, rfl, ?_, HB.out.alloc HB.out.size _⟩
        rw [← HZ.out, ba_append, dig, HBY.out]
        simp
      case measure => simp [intOf]
    · have hi00 : i = 0 := by omega
      subst hi00
      go_wp2
      go_ret
      refine ⟨?_, HB.out⟩
      rw [← HZ.out]
      simp only [dig, List.append_nil, Array.toArray_toList]
      rfl
end Go.Proofs.YthpcedficlhanaaGreatDoor
