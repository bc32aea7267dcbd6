/- coxswainref02.Of. -/
import Derived.Test.YtcohdfkdhdhegaaGreatDoorPbAN
import Derived.Test.YtcohdfkdhdhegaaGreatDoorPbAQ
namespace Go.Proofs.YtcohdfkdhdhegaaGreatDoor
open Go.RowKit

section
variable {P : Program} {Q : Exit → Act → World → Prop} {w : World}
/-- A loop whose frames are told by a state, and by one function for all slots of which nothing is said. -/
theorem wp_loopS {σ : Type} {c : Code} (mk : σ → (Nat → Value) → Array Value) (R : σ → World → Prop) (μ : σ → Nat) (m : Act → Nat) (hm : ∀ s f, m ⟨mk s f, []⟩ = μ s) (s0 : σ) {T : Array Value} (h0 : mk s0 (fun k => T.getD k undef) = T) (hR : R s0 w)
    (round : ∀ (K : Act → World → Prop) (s : σ) (f : Nat → Value) (w : World), R s w → (∀ (s' : σ) (T : Array Value) (w' : World), mk s' (fun k => T.getD k undef) = T → R s' w' → μ s' < μ s → K ⟨T, []⟩ w') → c.wp P (Exit.then K Q) ⟨mk s f, []⟩ w) : (Code.loop c).wp P Q ⟨T, []⟩ w :=
  wp_loop (fun a' w' => ∃ s' f', a' = ⟨mk s' f', []⟩ ∧ R s' w') (fun a _ => m a) ⟨s0, _, by rw [h0], hR⟩ (by
    rintro a w' ⟨s, f, rfl, h⟩
    refine round _ s f w' h fun s' T w'' hT hR' hlt => ⟨⟨s', _, by rw [hT], hR'⟩, ?_⟩
    rw [← hT, hm, hm]
    exact hlt)
end
def mkA (pd : ByteArray) (gh : Nat) : Nat → (Nat → Value) → Array Value := fun b f => #[.string pd, f 1, f 2, f 3, f 4, f 5, .slice (some ⟨gh, 0, none⟩) 8 8, .slice (some ⟨gh + 1, 0, none⟩) 64 64, .int .i64 ((64 * b : Nat) : Int), f 9, f 10, f 11, f 12, f 13, f 14, f 15, f 16, f 17, f 18, f 19, f 20, f 21, f 22, f 23, f 24, f 25, f 26, f 27, f 28, f 29, f 30, f 31, f 32, f 33, f 34, f 35, f 36, f 37, f 38, f 39, f 40, f 41, f 42, f 43, f 44, f 45, f 46, f 47, f 48, f 49, f 50, f 51, f 52, f 53, f 54, f 55, f 56, f 57, f 58, f 59, f 60, f 61, f 62, f 63, f 64, f 65, f 66, f 67, f 68, f 69, f 70, f 71, f 72, f 73, f 74, f 75, f 76, f 77, f 78, f 79, f 80, f 81, f 82, f 83, f 84, f 85, f 86, f 87, f 88, f 89, f 90, f 91, f 92, f 93, f 94, f 95, f 96, f 97, f 98, f 99, f 100, f 101, f 102, f 103, f 104, f 105, f 106, f 107, f 108, f 109, f 110, f 111, f 112, f 113, f 114, f 115, f 116, f 117, f 118, f 119, f 120, f 121, f 122, f 123, f 124, f 125, f 126, f 127, f 128, f 129, f 130, f 131, f 132, f 133, f 134, f 135, f 136, f 137, f 138, f 139, f 140, f 141, f 142, f 143, f 144, f 145, f 146, f 147, f 148, f 149, f 150, f 151, f 152, f 153, f 154, f 155, f 156, f 157, f 158, f 159, f 160, f 161, f 162, f 163, f 164, f 165, f 166, f 167, f 168, f 169, f 170, f 171, f 172, f 173, f 174, f 175, f 176, f 177, f 178, f 179, f 180, f 181, f 182, f 183, f 184, f 185, f 186, f 187, f 188, f 189, f 190, f 191, f 192, f 193, f 194, f 195, f 196, f 197, f 198, f 199, f 200, f 201, f 202, f 203, f 204, f 205, f 206, f 207, f 208, f 209, f 210, f 211, f 212, f 213, f 214, f 215, f 216, f 217, f 218, f 219, f 220, f 221, f 222, f 223, f 224, f 225, f 226, f 227, f 228, f 229, f 230, f 231, f 232, f 233, f 234, f 235, f 236, f 237, f 238, f 239, f 240, f 241, f 242, f 243, f 244, f 245, f 246, f 247, f 248, f 249, f 250, f 251, f 252, f 253, f 254, f 255, f 256, f 257, f 258, f 259, f 260, f 261, f 262, f 263, f 264, f 265, f 266, f 267, f 268, f 269, f 270, f 271, f 272, f 273, f 274, f 275, f 276, f 277, f 278, f 279, f 280, f 281, f 282, f 283, f 284, f 285, f 286, f 287, f 288, f 289, f 290, f 291, f 292, f 293, f 294, f 295, f 296, f 297, f 298, f 299, f 300, f 301, f 302, f 303, f 304, f 305, f 306, f 307, f 308, f 309, f 310, f 311, f 312, f 313, f 314, f 315, f 316, f 317, f 318, f 319, f 320, f 321, f 322, f 323, f 324, f 325]
def mkB (pd : ByteArray) (gh b : Nat) : Nat × Value → (Nat → Value) → Array Value := fun x f => #[.string pd, f 1, f 2, f 3, f 4, f 5, .slice (some ⟨gh, 0, none⟩) 8 8, .slice (some ⟨gh + 1, 0, none⟩) 64 64, .int .i64 ((64 * b : Nat) : Int), x.2, f 10, f 11, f 12, .int .i64 (x.1 : Int), f 14, f 15, f 16, f 17, f 18, f 19, f 20, f 21, f 22, f 23, f 24, f 25, f 26, f 27, f 28, f 29, f 30, f 31, f 32, f 33, f 34, f 35, f 36, f 37, f 38, f 39, f 40, f 41, f 42, f 43, f 44, f 45, f 46, f 47, f 48, f 49, f 50, f 51, f 52, f 53, f 54, f 55, f 56, f 57, f 58, f 59, f 60, f 61, f 62, f 63, f 64, f 65, f 66, f 67, f 68, f 69, f 70, f 71, f 72, f 73, f 74, f 75, f 76, f 77, f 78, f 79, f 80, f 81, f 82, f 83, f 84, f 85, f 86, f 87, f 88, f 89, f 90, f 91, f 92, f 93, f 94, f 95, f 96, f 97, f 98, f 99, f 100, f 101, f 102, f 103, f 104, f 105, f 106, f 107, f 108, f 109, f 110, f 111, f 112, f 113, f 114, f 115, f 116, f 117, f 118, f 119, f 120, f 121, f 122, f 123, f 124, f 125, f 126, f 127, f 128, f 129, f 130, f 131, f 132, f 133, f 134, f 135, f 136, f 137, f 138, f 139, f 140, f 141, f 142, f 143, f 144, f 145, f 146, f 147, f 148, f 149, f 150, f 151, f 152, f 153, f 154, f 155, f 156, f 157, f 158, f 159, f 160, f 161, f 162, f 163, f 164, f 165, f 166, f 167, f 168, f 169, f 170, f 171, f 172, f 173, f 174, f 175, f 176, f 177, f 178, f 179, f 180, f 181, f 182, f 183, f 184, f 185, f 186, f 187, f 188, f 189, f 190, f 191, f 192, f 193, f 194, f 195, f 196, f 197, f 198, f 199, f 200, f 201, f 202, f 203, f 204, f 205, f 206, f 207, f 208, f 209, f 210, f 211, f 212, f 213, f 214, f 215, f 216, f 217, f 218, f 219, f 220, f 221, f 222, f 223, f 224, f 225, f 226, f 227, f 228, f 229, f 230, f 231, f 232, f 233, f 234, f 235, f 236, f 237, f 238, f 239, f 240, f 241, f 242, f 243, f 244, f 245, f 246, f 247, f 248, f 249, f 250, f 251, f 252, f 253, f 254, f 255, f 256, f 257, f 258, f 259, f 260, f 261, f 262, f 263, f 264, f 265, f 266, f 267, f 268, f 269, f 270, f 271, f 272, f 273, f 274, f 275, f 276, f 277, f 278, f 279, f 280, f 281, f 282, f 283, f 284, f 285, f 286, f 287, f 288, f 289, f 290, f 291, f 292, f 293, f 294, f 295, f 296, f 297, f 298, f 299, f 300, f 301, f 302, f 303, f 304, f 305, f 306, f 307, f 308, f 309, f 310, f 311, f 312, f 313, f 314, f 315, f 316, f 317, f 318, f 319, f 320, f 321, f 322, f 323, f 324, f 325]
def mkC (pd : ByteArray) (gh b g cap : Nat) : Nat × Nat × Nat → (Nat → Value) → Array Value := fun x f => #[.string pd, f 1, f 2, f 3, f 4, f 5, .slice (some ⟨gh, 0, none⟩) 8 8, .slice (some ⟨gh + 1, 0, none⟩) 64 64, .int .i64 ((64 * b : Nat) : Int), .slice (some ⟨g, 0, none⟩) 64 cap, f 10, f 11, f 12, f 13, f 14, f 15, .slice (some ⟨x.2.1, 0, none⟩) 8 x.2.2, .int .i64 (x.1 : Int), f 18, f 19, f 20, f 21, f 22, f 23, f 24, f 25, f 26, f 27, f 28, f 29, f 30, f 31, f 32, f 33, f 34, f 35, f 36, f 37, f 38, f 39, f 40, f 41, f 42, f 43, f 44, f 45, f 46, f 47, f 48, f 49, f 50, f 51, f 52, f 53, f 54, f 55, f 56, f 57, f 58, f 59, f 60, f 61, f 62, f 63, f 64, f 65, f 66, f 67, f 68, f 69, f 70, f 71, f 72, f 73, f 74, f 75, f 76, f 77, f 78, f 79, f 80, f 81, f 82, f 83, f 84, f 85, f 86, f 87, f 88, f 89, f 90, f 91, f 92, f 93, f 94, f 95, f 96, f 97, f 98, f 99, f 100, f 101, f 102, f 103, f 104, f 105, f 106, f 107, f 108, f 109, f 110, f 111, f 112, f 113, f 114, f 115, f 116, f 117, f 118, f 119, f 120, f 121, f 122, f 123, f 124, f 125, f 126, f 127, f 128, f 129, f 130, f 131, f 132, f 133, f 134, f 135, f 136, f 137, f 138, f 139, f 140, f 141, f 142, f 143, f 144, f 145, f 146, f 147, f 148, f 149, f 150, f 151, f 152, f 153, f 154, f 155, f 156, f 157, f 158, f 159, f 160, f 161, f 162, f 163, f 164, f 165, f 166, f 167, f 168, f 169, f 170, f 171, f 172, f 173, f 174, f 175, f 176, f 177, f 178, f 179, f 180, f 181, f 182, f 183, f 184, f 185, f 186, f 187, f 188, f 189, f 190, f 191, f 192, f 193, f 194, f 195, f 196, f 197, f 198, f 199, f 200, f 201, f 202, f 203, f 204, f 205, f 206, f 207, f 208, f 209, f 210, f 211, f 212, f 213, f 214, f 215, f 216, f 217, f 218, f 219, f 220, f 221, f 222, f 223, f 224, f 225, f 226, f 227, f 228, f 229, f 230, f 231, f 232, f 233, f 234, f 235, f 236, f 237, f 238, f 239, f 240, f 241, f 242, f 243, f 244, f 245, f 246, f 247, f 248, f 249, f 250, f 251, f 252, f 253, f 254, f 255, f 256, f 257, f 258, f 259, f 260, f 261, f 262, f 263, f 264, f 265, f 266, f 267, f 268, f 269, f 270, f 271, f 272, f 273, f 274, f 275, f 276, f 277, f 278, f 279, f 280, f 281, f 282, f 283, f 284, f 285, f 286, f 287, f 288, f 289, f 290, f 291, f 292, f 293, f 294, f 295, f 296, f 297, f 298, f 299, f 300, f 301, f 302, f 303, f 304, f 305, f 306, f 307, f 308, f 309, f 310, f 311, f 312, f 313, f 314, f 315, f 316, f 317, f 318, f 319, f 320, f 321, f 322, f 323, f 324, f 325]

set_option maxRecDepth 100000 in
set_option maxHeartbeats 100000000 in
theorem rof_any (w : World) (s : ByteArray) (hs : s.size ≤ 1099511627776) :
    Calls Tryz.prog 138 #[.string s] w fun e w' => e = .returned (.string (shaF s.data.toList).1) ∧ Below w.heap.size w w' := by
  obtain ⟨n, hn⟩ : ∃ n, s.size = n := ⟨_, rfl⟩
  have hl : s.data.toList.length = n := by simpa using hn
  have hn40 : n ≤ 1099511627776 := by omega
  have HL := Lib.hid hl
  have HNN := Lib.hid hn
  have hsz : s.size ≤ 1099511627776 := by omega
  have hcv : (convert 145 9 (.slice (some ⟨w.heap.size, 0, none⟩) 1 1)).run Tryz.prog (w.alloc (.cells #[.int .u8 128] 5)) = .ok (.string ⟨#[128]⟩) (w.alloc (.cells #[.int .u8 128] 5)) := conv_one w 128
  clear hn hs hl
  go_enter Tryz.func138, Tryz.ntmps138
  go_wp2
  go_loopw [0] (fun c0 wr => ∃ (k : Nat) (z : ByteArray), k ≤ (119 - n % 64) % 64 ∧ c0 = .string z ∧ z.data.toList = s.data.toList ++ 128 :: List.replicate k 0 ∧ Below w.heap.size w wr) (fun c0 _ => n + 65 - strLen c0)
  case atStart => exact ⟨0, _, Nat.zero_le _, rfl, by rw [ba_append]; rfl, (Below.refl _ w).alloc (Nat.le_refl _) _⟩
  case round =>
    obtain ⟨k, z, hk, rfl, hz, hB⟩ := hrel
    have hzs : z.size = n + 1 + k := by
      have h1 := congrArg List.length hz
      simp only [List.length_append, List.length_cons, List.length_replicate, HL.out] at h1
      have h2 : z.data.toList.length = z.size := by simp
      omega
    have HZ := Lib.hid hz
    have HB := Lib.hid hB
    clear hz hB hcv
    by_cases hk0 : k < (119 - n % 64) % 64
    · skip
      have hne : ((z.size : Int) % 64 = 56) = False := by simp only [eq_iff_iff, iff_false]; omega
      have hcv : (convert 145 9 (.slice (some ⟨wr.heap.size, 0, none⟩) 1 1)).run Tryz.prog (wr.alloc (.cells #[.int .u8 0] 5)) = .ok (.string ⟨#[0]⟩) (wr.alloc (.cells #[.int .u8 0] 5)) := conv_one wr 0
      have hzb : z.size ≤ 2199023255552 := by omega
      go_wp2
      go_roundw
      case rel =>
        refine ⟨k + 1, z ++ ⟨#[0]⟩, by omega, rfl, ?_, HB.out.alloc HB.out.size _⟩
        rw [ba_append, HZ.out, List.append_assoc, List.cons_append, List.replicate_succ']
      case measure =>
        have hlt : z.size < n + 65 := by omega
        have e1 : (z ++ (⟨#[0]⟩ : ByteArray)).size = z.size + 1 := by simp; rfl
        simp only [strLen, e1]
        omega
    · have hkm : k = (119 - n % 64) % 64 := by omega
      have heq : ((z.size : Int) % 64 = 56) = True := by simp only [eq_iff_iff, iff_true]; omega
      go_wp2
      go_loopw [3, 4, 5] (fun c3 c4 c5 wr => ∃ (i : Nat) (t : ByteArray), i ≤ 8 ∧ c5 = .int .i64 (i : Int) ∧ c3 = .int .u64 ((n * 8 / 256 ^ i : Nat) : Int) ∧ c4 = .string t ∧ t.data.toList = dig (n * 8) i ∧ Below w.heap.size w wr) (fun _ _ c5 _ => 8 - (intOf c5).toNat)
      case atStart => exact ⟨0, ⟨#[]⟩, by omega, rfl, by rw [HNN.out]; simp, rfl, rfl, HB.out⟩
      case round =>
        obtain ⟨i, t, hi, rfl, rfl, rfl, ht, hB2⟩ := hrel
        have HB2 := Lib.hid hB2
        have HT := Lib.hid ht
        clear hB2 ht
        by_cases hi8 : i < 8
        · skip
          obtain ⟨x, hx⟩ : ∃ x, n * 8 / 256 ^ i = x := ⟨_, rfl⟩
          obtain ⟨b, hb⟩ : ∃ b, UInt8.ofNat x = b := ⟨_, rfl⟩
          have hbn : (x : Int) % 256 = ((b.toNat : Nat) : Int) := by rw [← hb]; simp
          have hcv := conv_one wr b
          have hxl : x ≤ 8796093022208 := by rw [← hx]; exact Nat.le_trans (Nat.div_le_self _ _) (by omega)
          have hb2 : b.toNat < 256 := b.toNat_lt
          rw [hx]
          have HX := Lib.hid hx
          have HBB := Lib.hid hb
          have hts : t.size ≤ 8 := by
            have h1 := congrArg List.length HT.out
            rw [dig_length] at h1
            have h2 : t.data.toList.length = t.size := by simp
            omega
          clear hx hb
          go_wp2
          go_roundw
          case rel =>
            refine ⟨i + 1, ⟨#[b]⟩ ++ t, by omega, by go_num, ?_, rfl, ?_, HB2.out.alloc HB2.out.size _⟩
            · rw [Nat.pow_succ, ← Nat.div_div_eq_div_mul, HX.out]; rfl
            · rw [ba_append, HT.out, dig, HX.out, HBB.out]; rfl
          case measure => simp [intOf]; omega
        · have hi88 : i = 8 := by omega
          subst hi88
          obtain ⟨pd, hpd⟩ : ∃ pd : ByteArray, z ++ t = pd := ⟨_, rfl⟩
          have HPL : Hid (pd.data.toList = padF s.data.toList) := Lib.hid (by
            rw [← hpd, ba_append, HZ.out, HT.out, padF, HL.out, hkm])
          obtain ⟨nb, hnb⟩ : ∃ nb, (padF s.data.toList).length = 64 * nb := padF_length _
          have hpsz : pd.size = 64 * nb := by
            have h2 : pd.data.toList.length = pd.size := by simp
            rw [← h2, HPL.out, hnb]
          have hts : t.size = 8 := by
            have h1 := congrArg List.length HT.out
            rw [dig_length] at h1
            have h2 : t.data.toList.length = t.size := by simp
            omega
          have hzt : z.size + t.size = 64 * nb := by rw [← hpsz, ← hpd]; simp
          have HNB := Lib.hid hnb
          clear hnb
          generalize hQ0 : n * 8 / 256 ^ 8 = q0
          have htb : t.size ≤ 8 := by omega
          have hzb : z.size ≤ 2199023255552 := by omega
          clear hQ0 hts hzs
          go_wp2_with (go_at_call 172; refine (rkeys_any _).mono ?_; rintro e wk ⟨rfl, hk1, hbk⟩)
          obtain ⟨gh, hgh⟩ : ∃ gh, wr.heap.size = gh := ⟨_, rfl⟩
          have hS : ShH w wk gh (gh + 1) startN := by
            subst hgh
            refine ⟨(HB2.out.alloc HB2.out.size _).trans (hbk.mono (by simp only [World.size_alloc]; have := HB2.out.size; omega)), (hbk.block _ (by simp)).trans (heap_alloc_new wr _), ?_, HB2.out.size, by omega⟩
            simp only [World.size_alloc] at hk1
            exact hk1
          have HS := Lib.hid hS
          simp only [hgh]
          clear hS hk1 hbk hgh
          refine wp_loopS (mkA pd gh) (fun b W => b ≤ nb ∧ ShH w W gh (gh + 1) (foldB b startN (padF s.data.toList))) (fun b => 64 * nb + 1 - 64 * b) (fun a => 64 * nb + 1 - (intOf (a.tmps.getD 8 undef)).toNat) (fun _ _ => rfl) 0 (by kernel_rfl) ⟨Nat.zero_le _, HS.out⟩ ?_
          · intro KA b fa W3 hRA hKA
            obtain ⟨hb, hS⟩ := hRA
            have HKA := Lib.hid hKA
            clear hKA
            dsimp only [mkA]
            have HS3 := Lib.hid hS
            have hpb : pd.size ≤ 4398046511104 := by omega
            have hb3 : 64 * b ≤ pd.size := by omega
            clear hS HS hkm heq hzt
            by_cases hbn : b < nb
            · have hlt3 : 64 * (b : Int) < pd.size := by omega
              have hpx : ∀ (J : Int) (j : Nat), J = j → j < pd.size → ∀ W, (Instr.index 9 (.string pd) (.int .i64 J)).run Tryz.prog W = .ok (.int .u8 (byteD (padF s.data.toList) j : Int)) W := fun J j hJ hj W => by
                subst hJ
                rw [run_index_string W 9 pd .i64 j Tryz.underlying9, dif_pos ⟨by omega, by omega⟩]
                simp only [Int.toNat_natCast]
                rw [← HPL.out, byteD, List.getD_eq_getElem?_getD, List.getElem?_eq_getElem (by simpa using hj)]
                rfl
              have HPX := Lib.hid hpx
              clear hpx
              go_wp2
              go_loopw [9, 10] (fun c9 c10 W => ∃ i : Nat, i ≤ 16 ∧ c10 = .int .i64 (i : Int) ∧ W.ownsRow W3.heap.size 26 1 c9 i (rc (schedF (((padF s.data.toList).drop (64 * b)).take 64) i)) ∧ Below W3.heap.size W3 W) (fun _ c10 _ => 16 - (intOf c10).toNat)
              case atStart => exact ⟨0, by omega, rfl, own_empty W3 W3.heap.size 26 1 (Nat.le_refl _), (Below.refl _ W3).alloc (Nat.le_refl _) _⟩
              case round =>
                obtain ⟨i, hi, rfl, hO, hBW⟩ := hrel
                have HO := Lib.hid hO
                have HBW := Lib.hid hBW
                clear hO hBW
                rename World => W4
                by_cases hi16 : i < 16
                · skip
                  go_wp2
                  go_loop [11, 12] (fun x j => ∃ k : Nat, k ≤ 4 ∧ j = .int .i64 (k : Int) ∧ x = .int .u64 ((partW (padF s.data.toList) (64 * b + 4 * i) k : Nat) : Int)) (fun _ j => 4 - (intOf j).toNat)
                  case atStart => exact ⟨0, by omega, rfl, rfl⟩
                  case round =>
                    obtain ⟨k2, hk2, rfl, rfl⟩ := hrel
                    obtain ⟨p, hp⟩ : ∃ p, partW (padF s.data.toList) (64 * b + 4 * i) k2 = p := ⟨_, rfl⟩
                    rw [hp]
                    have HP := Lib.hid hp
                    by_cases hk4 : k2 < 4
                    · have hpl : p ≤ 16777216 := by
                        have h1 := partW_lt (padF s.data.toList) (64 * b + 4 * i) k2
                        have h2 : 256 ^ k2 ≤ 256 ^ 3 := Nat.pow_le_pow_right (by decide) (by omega)
                        omega
                      obtain ⟨d, hd⟩ : ∃ d, byteD (padF s.data.toList) (64 * b + 4 * i + k2) = d := ⟨_, rfl⟩
                      have hdl : d < 256 := by rw [← hd]; exact byteD_lt _ _
                      have hq : ∀ W, (Instr.index 9 (.string pd) (.int .i64 (64 * (b : Int) + 4 * (i : Int) + (k2 : Int)))).run Tryz.prog W = .ok (.int .u8 (d : Int)) W := fun W => by
                        rw [HPX.out _ (64 * b + 4 * i + k2) (by omega) (by omega), hd]
                      have HD := Lib.hid hd
                      clear hp hd
                      go_wp2
                      go_round
                      case rel => exact ⟨k2 + 1, by omega, by go_num, by rw [partW, HP.out, HD.out]; push_cast; rfl⟩
                      case measure => simp [intOf]; omega
                    · have hk44 : k2 = 4 := by omega
                      subst hk44
                      have hpl : p < 4294967296 := by rw [← HP.out]; exact partW_lt _ _ 4
                      have HPW : Hid (schedF (((padF s.data.toList).drop (64 * b)).take 64) (i + 1) = schedF (((padF s.data.toList).drop (64 * b)).take 64) i ++ [p]) := Lib.hid (by rw [schedF, if_pos hi16, wordF_at _ _ _ hi16, HP.out])
                      clear hp
                      go_wp2_with (at_builtin; refine wpl_app1 #[.int .u64 (p : Int)] W3.heap.size rfl (.tmp 89) (.tmp 91) 242 26 _ 1 8 rfl Tryz.underlying242 u64_info rfl (by decide) (by decide) u9 i _ rfl rfl rfl (by simp [Value.oneCell']) HO.out HBW.out.size (by omega) ?_; intro v1 w1 ho1 hg1 hat1)
                      go_roundw
                      case rel => exact ⟨i + 1, by omega, by go_num, by rw [HPW.out, ← rc_snoc]; exact ho1, below_grown_own HBW.out HO.out (Nat.le_refl _) HBW.out.size hg1⟩
                      case measure => simp [intOf]; omega
                · have hi66 : i = 16 := by omega
                  subst hi66
                  go_wp2
                  refine wp_loopS (mkB pd gh b) (fun x W => 16 ≤ x.1 ∧ x.1 ≤ 64 ∧ W.ownsRow W3.heap.size 26 1 x.2 x.1 (rc (schedF (((padF s.data.toList).drop (64 * b)).take 64) x.1)) ∧ Below W3.heap.size W3 W) (fun x => 64 - x.1) (fun a => 64 - (intOf (a.tmps.getD 13 undef)).toNat) (fun _ _ => rfl) (16, _) (by kernel_rfl) ⟨by show 16 ≤ 16; omega, by show 16 ≤ 64; omega, HO.out, HBW.out⟩ ?_
                  · intro KB x fb W5 hRB hKB
                    obtain ⟨i, u9⟩ := x
                    obtain ⟨hi0, hi, hO, hBW⟩ := hRB
                    simp only at hi0 hi hO
                    have HKB := Lib.hid hKB
                    clear hKB
                    dsimp only [mkB]
                    clear HO HBW
                    have HO := Lib.hid hO
                    have HBW := Lib.hid hBW
                    clear hO hBW
                    by_cases hi64 : i < 64
                    · skip
                      obtain ⟨g, cap, rfl, hgb, hgl⟩ := HO.out.form (by omega)
                      have hget : ∀ d p : Nat, i - d = p → 0 < d → d ≤ 16 → W5.cell? ⟨g, p, none⟩ = some (.int .u64 (((schedF (((padF s.data.toList).drop (64 * b)).take 64) i).getD p 0 : Nat) : Int)) := fun d p hp hd hd2 =>
                        rc_cell HO.out p _ (by rw [List.getD_eq_getElem?_getD, List.getElem?_eq_getElem (by rw [schedF_length]; omega)]; rfl)
                      obtain ⟨p15, e15⟩ : ∃ p, i - 15 = p := ⟨_, rfl⟩
                      obtain ⟨p2, e2⟩ : ∃ p, i - 2 = p := ⟨_, rfl⟩
                      obtain ⟨p16, e16⟩ : ∃ p, i - 16 = p := ⟨_, rfl⟩
                      obtain ⟨p7, e7⟩ : ∃ p, i - 7 = p := ⟨_, rfl⟩
                      have c15 := hget 15 p15 e15 (by omega) (by omega)
                      have c2 := hget 2 p2 e2 (by omega) (by omega)
                      have c16 := hget 16 p16 e16 (by omega) (by omega)
                      have c7 := hget 7 p7 e7 (by omega) (by omega)
                      clear hget
                      have w15 : IntKind.i64.wrap ((i : Int) - 15) = (p15 : Int) := by rw [IntWalk.i64_in _ (by omega)]; omega
                      have w2 : IntKind.i64.wrap ((i : Int) - 2) = (p2 : Int) := by rw [IntWalk.i64_in _ (by omega)]; omega
                      have w16 : IntKind.i64.wrap ((i : Int) - 16) = (p16 : Int) := by rw [IntWalk.i64_in _ (by omega)]; omega
                      have w7 : IntKind.i64.wrap ((i : Int) - 7) = (p7 : Int) := by rw [IntWalk.i64_in _ (by omega)]; omega
                      have b15 : (p15 : Int) < i := by omega
                      have b2 : (p2 : Int) < i := by omega
                      have b16 : (p16 : Int) < i := by omega
                      have b7 : (p7 : Int) < i := by omega
                      have hn : ∃ A B C D, A < 4294967296 ∧ B < 4294967296 ∧ C < 4294967296 ∧ D < 4294967296 ∧ (schedF (((padF s.data.toList).drop (64 * b)).take 64) i).getD p15 0 = A ∧ (schedF (((padF s.data.toList).drop (64 * b)).take 64) i).getD p2 0 = B ∧ (schedF (((padF s.data.toList).drop (64 * b)).take 64) i).getD p16 0 = C ∧ (schedF (((padF s.data.toList).drop (64 * b)).take 64) i).getD p7 0 = D :=
                        ⟨_, _, _, _, schedF_getD_lt _ i p15, schedF_getD_lt _ i p2, schedF_getD_lt _ i p16, schedF_getD_lt _ i p7, rfl, rfl, rfl, rfl⟩
                      obtain ⟨A, B, C, D, hA, hB, hC, hD, eA, eB, eC, eD⟩ := hn
                      rw [eA] at c15
                      rw [eB] at c2
                      rw [eC] at c16
                      rw [eD] at c7
                      have HE := Lib.hid (And.intro e15 (And.intro e2 (And.intro e16 (And.intro e7 (And.intro eA (And.intro eB (And.intro eC eD)))))))
                      clear e15 e2 e16 e7 eA eB eC eD
                      have hg0 : sig0 A < 4294967296 := xor32 (xor32 (rotr_lt _ _ hA) (rotr_lt _ _ hA)) (by omega)
                      have hg1 : sig1 B < 4294967296 := xor32 (xor32 (rotr_lt _ _ hB) (rotr_lt _ _ hB)) (by omega)
                      obtain ⟨s0, hs0⟩ : ∃ x, sig0 A = x := ⟨_, rfl⟩
                      obtain ⟨s1, hs1⟩ : ∃ x, sig1 B = x := ⟨_, rfl⟩
                      have HV0 := Lib.hid (sig0_val A hA)
                      have HV1 := Lib.hid (sig1_val B hB)
                      rw [hs0] at hg0 HV0
                      rw [hs1] at hg1 HV1
                      have HS0 := Lib.hid hs0
                      have HS1 := Lib.hid hs1
                      clear hs0 hs1
                      go_upto_region 30 with fail
                      refine wp_region_still_lit (by kernel_rfl) (by kernel_rfl) ?_
                      iterate 5 still_step
                      still_call (rturn_still _ A 7 hA (by decide))
                      iterate 5 still_step
                      still_call (rturn_still _ A 18 hA (by decide))
                      iterate 6 still_step
                      still_call (rdown_still _ A 3 hA (by decide))
                      iterate 2 still_step
                      rw [HV0.out]
                      refine wpStill_nil ?_
                      change Exit.then _ _ _ _ W5.drew
                      have c2d : W5.drew.cell? ⟨g, p2, none⟩ = some (.int .u64 (B : Int)) := c2
                      have c16d : W5.drew.cell? ⟨g, p16, none⟩ = some (.int .u64 (C : Int)) := c16
                      have c7d : W5.drew.cell? ⟨g, p7, none⟩ = some (.int .u64 (D : Int)) := c7
                      have HOd : Hid (W5.drew.ownsRow W3.heap.size 26 1 (.slice (some ⟨g, 0, none⟩) i cap) i (rc (schedF (((padF s.data.toList).drop (64 * b)).take 64) i))) := HO
                      have HBd : Hid (Below W3.heap.size W3 W5.drew) := Lib.hid HBW.out.drew
                      generalize W5.drew = W6 at c2d c16d c7d HOd HBd
                      clear c15 c2 c16 c7
                      go_wp2
                      refine wp_region_still_lit (by kernel_rfl) (by kernel_rfl) ?_
                      iterate 5 still_step
                      still_call (rturn_still _ B 17 hB (by decide))
                      iterate 5 still_step
                      still_call (rturn_still _ B 19 hB (by decide))
                      iterate 6 still_step
                      still_call (rdown_still _ B 10 hB (by decide))
                      iterate 2 still_step
                      rw [HV1.out]
                      refine wpStill_nil ?_
                      change Exit.then _ _ _ _ W6.drew
                      have c16e : W6.drew.cell? ⟨g, p16, none⟩ = some (.int .u64 (C : Int)) := c16d
                      have c7e : W6.drew.cell? ⟨g, p7, none⟩ = some (.int .u64 (D : Int)) := c7d
                      have HOe : Hid (W6.drew.ownsRow W3.heap.size 26 1 (.slice (some ⟨g, 0, none⟩) i cap) i (rc (schedF (((padF s.data.toList).drop (64 * b)).take 64) i))) := HOd
                      have HBe : Hid (Below W3.heap.size W3 W6.drew) := Lib.hid HBd.out.drew
                      generalize W6.drew = W7 at c16e c7e HOe HBe
                      clear c2d c16d c7d
                      have HNV : Hid ((IntKind.u64.wrap (IntKind.u64.wrap (IntKind.u64.wrap ((C : Int) + (s0 : Int)) + (D : Int)) + (s1 : Int))).tmod 4294967296 = ((nextW (schedF (((padF s.data.toList).drop (64 * b)).take 64) i) i : Nat) : Int)) := Lib.hid (by
                        obtain ⟨e15, e2, e16, e7, eA, eB, eC, eD⟩ := HE.out
                        rw [nextW_eq, e15, e2, e16, e7, eA, eB, eC, eD, HS0.out, HS1.out]
                        exact sum4_val C s0 D s1 hC hg0 hD hg1)
                      obtain ⟨x, hx⟩ : ∃ x, nextW (schedF (((padF s.data.toList).drop (64 * b)).take 64) i) i = x := ⟨_, rfl⟩
                      rw [hx] at HNV
                      have HPW : Hid (schedF (((padF s.data.toList).drop (64 * b)).take 64) (i + 1) = schedF (((padF s.data.toList).drop (64 * b)).take 64) i ++ [x]) := Lib.hid (by rw [schedF, if_neg (by omega), hx])
                      clear hx
                      go_wp2
                      have HWd := Lib.hid (show W7.drew.cell? ⟨g, p16, none⟩ = some (.int .u64 (C : Int)) ∧ W7.drew.cell? ⟨g, p7, none⟩ = some (.int .u64 (D : Int)) from ⟨c16e, c7e⟩)
                      have HOf : Hid (W7.drew.ownsRow W3.heap.size 26 1 (.slice (some ⟨g, 0, none⟩) i cap) i (rc (schedF (((padF s.data.toList).drop (64 * b)).take 64) i))) := HOe
                      have HBf : Hid (Below W3.heap.size W3 W7.drew) := Lib.hid HBe.out.drew
                      refine stD_ (S := (fun W' => W'.cell? ⟨g, p16, none⟩ = some (.int .u64 (C : Int)) ∧ W'.cell? ⟨g, p7, none⟩ = some (.int .u64 (D : Int)))) [18, 19] 20 (bt 0 20) (by kernel_rfl) rfl (by rfl) HWd.out (fun hHeld => ?_)
                      refine tkT_ 0 (some 137) (bt 1 19) (v := ?_) (a' := ?_) rfl rfl (by kernel_rfl) (fun _ _ _ h => h) (yieldsIf_run rfl ?_) hHeld ?_ ?_
                      rotate_left
                      · intro w'
                        go_simp
                        with_reducible rfl
                      rotate_left
                      · simp only [Act.put, List.setIfInBounds_toArray, List.set_cons_zero, List.set_cons_succ]
                        rfl
                      refine tkT_ 1 (some 138) (bt 2 18) (v := ?_) (a' := ?_) rfl rfl (by kernel_rfl) (fun _ _ _ h => h) (yieldsIf_run rfl ?_) hHeld ?_ ?_
                      rotate_left
                      · intro w'
                        go_simp
                        with_reducible rfl
                      rotate_left
                      · simp only [Act.put, List.setIfInBounds_toArray, List.set_cons_zero, List.set_cons_succ]
                        rfl
                      refine tkT_ 2 (some 139) (bt 3 17) (v := ?_) (a' := ?_) rfl rfl (by kernel_rfl) (fun _ _ _ h => h) (yieldsIf_run rfl ?_) hHeld ?_ ?_
                      rotate_left
                      · intro w'
                        go_simp
                        with_reducible rfl
                      rotate_left
                      · simp only [Act.put, List.setIfInBounds_toArray, List.set_cons_zero, List.set_cons_succ]
                        rfl
                      refine tkT_ 3 (some 140) (bt 4 16) (v := ?_) (a' := ?_) rfl rfl (by kernel_rfl) (fun _ _ _ h => h) (yieldsIf_run rfl ?_) hHeld ?_ ?_
                      rotate_left
                      · intro w'
                        go_simp
                        with_reducible rfl
                      rotate_left
                      · simp only [Act.put, List.setIfInBounds_toArray, List.set_cons_zero, List.set_cons_succ]
                        rfl
                      refine tkT_ 4 (some 141) (bt 5 15) (v := ?_) (a' := ?_) rfl rfl (by kernel_rfl) (fun _ _ _ h => h) (yieldsIf_run rfl ?_) hHeld ?_ ?_
                      rotate_left
                      · intro w'
                        go_simp
                        with_reducible rfl
                      rotate_left
                      · simp only [Act.put, List.setIfInBounds_toArray, List.set_cons_zero, List.set_cons_succ]
                        rfl
                      refine tkT_ 5 (some 142) (bt 6 14) rfl rfl (by kernel_rfl) (fun _ _ _ h => h) (yieldsIf_cell rfl 26 (.tmp 141) rfl ⟨g, p16, none⟩ rfl (.int .u64 (C : Int)) _ (fun W' h => h.1) Tryz.underlying26 rfl) hHeld (a' := ?_) ?_ ?_
                      rotate_left
                      · simp only [Act.put, List.setIfInBounds_toArray, List.set_cons_zero, List.set_cons_succ]
                        rfl
                      refine tkT_ 6 (some 143) (bt 7 13) (v := ?_) (a' := ?_) rfl rfl (by kernel_rfl) (fun _ _ _ h => h) (yieldsIf_run rfl ?_) hHeld ?_ ?_
                      rotate_left
                      · intro w'
                        go_simp
                        with_reducible rfl
                      rotate_left
                      · simp only [Act.put, List.setIfInBounds_toArray, List.set_cons_zero, List.set_cons_succ]
                        rfl
                      refine tkT_ 7 (some 144) (bt 8 12) (v := ?_) (a' := ?_) rfl rfl (by kernel_rfl) (fun _ _ _ h => h) (yieldsIf_run rfl ?_) hHeld ?_ ?_
                      rotate_left
                      · intro w'
                        go_simp
                        with_reducible rfl
                      rotate_left
                      · simp only [Act.put, List.setIfInBounds_toArray, List.set_cons_zero, List.set_cons_succ]
                        rfl
                      refine tkT_ 8 (some 145) (bt 9 11) (v := ?_) (a' := ?_) rfl rfl (by kernel_rfl) (fun _ _ _ h => h) (yieldsIf_run rfl ?_) hHeld ?_ ?_
                      rotate_left
                      · intro w'
                        go_simp
                        with_reducible rfl
                      rotate_left
                      · simp only [Act.put, List.setIfInBounds_toArray, List.set_cons_zero, List.set_cons_succ]
                        rfl
                      refine tkT_ 9 (some 146) (bt 10 10) (v := ?_) (a' := ?_) rfl rfl (by kernel_rfl) (fun _ _ _ h => h) (yieldsIf_run rfl ?_) hHeld ?_ ?_
                      rotate_left
                      · intro w'
                        go_simp
                        with_reducible rfl
                      rotate_left
                      · simp only [Act.put, List.setIfInBounds_toArray, List.set_cons_zero, List.set_cons_succ]
                        rfl
                      refine tkT_ 10 (some 147) (bt 11 9) (v := ?_) (a' := ?_) rfl rfl (by kernel_rfl) (fun _ _ _ h => h) (yieldsIf_run rfl ?_) hHeld ?_ ?_
                      rotate_left
                      · intro w'
                        go_simp
                        with_reducible rfl
                      rotate_left
                      · simp only [Act.put, List.setIfInBounds_toArray, List.set_cons_zero, List.set_cons_succ]
                        rfl
                      refine tkT_ 11 (some 148) (bt 12 8) (v := ?_) (a' := ?_) rfl rfl (by kernel_rfl) (fun _ _ _ h => h) (yieldsIf_run rfl ?_) hHeld ?_ ?_
                      rotate_left
                      · intro w'
                        go_simp
                        with_reducible rfl
                      rotate_left
                      · simp only [Act.put, List.setIfInBounds_toArray, List.set_cons_zero, List.set_cons_succ]
                        rfl
                      refine tkT_ 12 (some 149) (bt 13 7) rfl rfl (by kernel_rfl) (fun _ _ _ h => h) (yieldsIf_cell rfl 26 (.tmp 148) rfl ⟨g, p7, none⟩ rfl (.int .u64 (D : Int)) _ (fun W' h => h.2) Tryz.underlying26 rfl) hHeld (a' := ?_) ?_ ?_
                      rotate_left
                      · simp only [Act.put, List.setIfInBounds_toArray, List.set_cons_zero, List.set_cons_succ]
                        rfl
                      refine tkT_ 13 (some 150) (bt 14 6) (v := ?_) (a' := ?_) rfl rfl (by kernel_rfl) (fun _ _ _ h => h) (yieldsIf_run rfl ?_) hHeld ?_ ?_
                      rotate_left
                      · intro w'
                        go_simp
                        with_reducible rfl
                      rotate_left
                      · simp only [Act.put, List.setIfInBounds_toArray, List.set_cons_zero, List.set_cons_succ]
                        rfl
                      refine tkT_ 14 (some 151) (bt 15 5) (v := ?_) (a' := ?_) rfl rfl (by kernel_rfl) (fun _ _ _ h => h) (yieldsIf_run rfl ?_) hHeld ?_ ?_
                      rotate_left
                      · intro w'
                        go_simp
                        with_reducible rfl
                      rotate_left
                      · simp only [Act.put, List.setIfInBounds_toArray, List.set_cons_zero, List.set_cons_succ]
                        rfl
                      refine tkT_ 15 (some 152) (bt 16 4) (v := ?_) (a' := ?_) rfl rfl (by kernel_rfl) (fun _ _ _ h => h) (yieldsIf_run rfl ?_) hHeld ?_ ?_
                      rotate_left
                      · intro w'
                        go_simp
                        with_reducible rfl
                      rotate_left
                      · simp only [Act.put, List.setIfInBounds_toArray, List.set_cons_zero, List.set_cons_succ]
                        rfl
                      refine tkT_ 16 (some 153) (bt 17 3) (v := ?_) (a' := ?_) rfl rfl (by kernel_rfl) (fun _ _ _ h => h) (yieldsIf_run rfl ?_) hHeld ?_ ?_
                      rotate_left
                      · intro w'
                        go_simp
                        with_reducible rfl
                      rotate_left
                      · simp only [Act.put, List.setIfInBounds_toArray, List.set_cons_zero, List.set_cons_succ]
                        rfl
                      have hHeld := And.intro ((((Below.refl _ W7.drew).alloc (Nat.le_refl _) (.cells #[.int .u64 (x : Int)] 26)).cell (p := ⟨g, p16, none⟩) (cell_lt HWd.out.1)).trans HWd.out.1) ((((Below.refl _ W7.drew).alloc (Nat.le_refl _) (.cells #[.int .u64 (x : Int)] 26)).cell (p := ⟨g, p7, none⟩) (cell_lt HWd.out.2)).trans HWd.out.2)
                      refine valD_ 17 (some 154) (bt 18 2) rfl rfl (by kernel_rfl) rfl ((.slice (some ⟨W7.drew.heap.size, 0, none⟩) 1 1)) ((W7.drew.alloc (.cells #[.int .u64 (x : Int)] 26))) (by (go_simp; rw [HNV.out])) (fun _ => hHeld) (a' := ?_) ?_ ?_
                      rotate_left
                      · simp only [Act.put, List.setIfInBounds_toArray, List.set_cons_zero, List.set_cons_succ]
                        rfl
                      refine stepD_ 18 (some 155) (bt 19 1) rfl rfl (by kernel_rfl) rfl (exec_app1 #[.int .u64 (x : Int)] W3.heap.size (.tmp 137) (.tmp 154) 242 26 _ 1 8 rfl Tryz.underlying242 u64_info rfl (by decide) (by decide) (.slice (some ⟨g, 0, none⟩) i cap) i _ rfl rfl rfl (by simp [Value.oneCell']) HOf.out HBf.out.size (by omega)) ?_
                      rintro v1 w1 ⟨ho1, hg1, hat1⟩
                      refine ⟨(fun h => absurd (by decide) h), ?_, ?_, ?_⟩
                      rotate_left
                      · simp only [Act.put, List.setIfInBounds_toArray, List.set_cons_zero, List.set_cons_succ]
                        rfl
                      refine valD_ 19 (some 9) (bt 20 0) rfl rfl (by kernel_rfl) rfl (v1) (w1) (by go_simp) (fun h => absurd (by decide) h) (a' := ?_) ?_ ?_
                      rotate_left
                      · simp only [Act.put, List.setIfInBounds_toArray, List.set_cons_zero, List.set_cons_succ]
                        rfl
                      refine doneD_ (by kernel_rfl) ?_ _
                      change Exit.inBlock _ _ _ _ _
                      go_wp2
                      refine HKB.out (i + 1, v1) _ _ (by kernel_rfl) ⟨by show 16 ≤ i + 1; omega, by show i + 1 ≤ 64; omega, ?_, below_grown_own HBf.out HOf.out (Nat.le_refl _) HBf.out.size hg1⟩ (by show 64 - (i + 1) < 64 - i; omega)
                      show w1.ownsRow W3.heap.size 26 1 v1 (i + 1) (rc (schedF (((padF s.data.toList).drop (64 * b)).take 64) (i + 1)))
                      rw [HPW.out, ← rc_snoc]
                      exact ho1
                    · have hi65 : i = 64 := by omega
                      subst hi65
                      obtain ⟨blk, hblk⟩ : ∃ l, ((padF s.data.toList).drop (64 * b)).take 64 = l := ⟨_, rfl⟩
                      rw [hblk] at HO
                      obtain ⟨H0, hH0⟩ : ∃ h, foldB b startN (padF s.data.toList) = h := ⟨_, rfl⟩
                      have hin : H0.In := by rw [← hH0]; exact foldB_in _ _ _ startN_in
                      rw [hH0] at HS3
                      have HSd : Hid (ShH w W5 gh (gh + 1) H0) := Lib.hid (HS3.out.beyond HBW.out ⟨(Array.getElem?_eq_some_iff.1 HS3.out.hh).1, (Array.getElem?_eq_some_iff.1 HS3.out.kk).1⟩)
                      have HBL := Lib.hid hblk
                      have HH0 := Lib.hid hH0
                      have HIN := Lib.hid hin
                      clear hblk hH0 hin
                      obtain ⟨g, cap, rfl, hgb, hgl⟩ := HO.out.form (by omega)
                      have HWC : Hid (∀ j x : Nat, (schedF blk 64)[j]? = some x → W5.cell? ⟨g, j, none⟩ = some (.int .u64 (x : Int))) := Lib.hid fun j x hx => rc_cell HO.out j x hx
                      clear HO
                      go_wp2_with (at_builtin; refine wpl_appS W5.heap.size rfl (.tmp 156) (.tmp 157) 242 26 _ 1 8 rfl Tryz.underlying242 u64_info rfl (by decide) (by decide) (.slice (some ⟨W5.heap.size, 0, none⟩) 0 0) 0 [] rfl gh 0 8 8 rfl (rc H0.l) rfl (fun j u hu => by (rw [Nat.zero_add]; exact cell_block ((((Below.refl _ W5).alloc (Nat.le_refl _) _).block gh (Array.getElem?_eq_some_iff.1 HSd.out.hh).1).trans HSd.out.hh) (by simpa using hu))) (rc_one _) (own_empty W5 W5.heap.size 26 1 (Nat.le_refl _)) (by simp) (by omega) ?_; intro v1 w1 ho1 hg1 hat1)
                      have HB7 : Hid (Below W5.heap.size W5 w1) := Lib.hid (((Below.refl _ W5).alloc (Nat.le_refl _) _).grown hg1 (by simp) fun k hk => Nat.le_of_eq (Option.some.inj (show some W5.heap.size = some k from hk)))
                      obtain ⟨gv, cv, rfl, hgvb, hgvl⟩ := ho1.form (by omega)
                      have HV : Hid (∀ j x : Nat, H0.l[j]? = some x → w1.cell? ⟨gv, j, none⟩ = some (.int .u64 (x : Int))) := Lib.hid fun j x hx => rc_cell (n := 8) (by simpa using ho1) j x hx
                      have HW7 : Hid (∀ j x : Nat, (schedF blk 64)[j]? = some x → w1.cell? ⟨g, j, none⟩ = some (.int .u64 (x : Int))) := Lib.hid fun j x hx => (HB7.out.cell (p := ⟨g, j, none⟩) hgl).trans (HWC.out j x hx)
                      have HS7 : Hid (ShH w w1 gh (gh + 1) H0) := Lib.hid (HSd.out.beyond HB7.out ⟨(Array.getElem?_eq_some_iff.1 HSd.out.hh).1, (Array.getElem?_eq_some_iff.1 HSd.out.kk).1⟩)
                      have HGV : Hid (gh < gv) := Lib.hid (by have := (Array.getElem?_eq_some_iff.1 HSd.out.hh).1; omega)
                      have HG7 : Hid (gh + 1 < w1.heap.size) := Lib.hid (Array.getElem?_eq_some_iff.1 HS7.out.kk).1
                      clear ho1 hg1 hat1 HWC HSd HB7 HBW hgvb hgvl hgb hgl
                      refine wp_loopS (mkC pd gh b g cap) (fun x W => x.1 ≤ 64 ∧ (∀ j y : Nat, (rndF (schedF blk 64) H0 x.1).l[j]? = some y → W.cell? ⟨x.2.1, j, none⟩ = some (.int .u64 (y : Int))) ∧ gh < x.2.1 ∧ Below w1.heap.size w1 W) (fun x => 64 - x.1) (fun a => 64 - (intOf (a.tmps.getD 17 undef)).toNat) (fun _ _ => rfl) (0, gv, cv) (by kernel_rfl) ⟨by show 0 ≤ 64; omega, HV.out, HGV.out, Below.refl _ w1⟩ ?_
                      · intro KC x fc W8 hRC hKC
                        obtain ⟨i, gv, cv⟩ := x
                        obtain ⟨hi, hv, hgg, hBW⟩ := hRC
                        simp only at hi hv hgg
                        have HKC := Lib.hid hKC
                        clear hKC
                        dsimp only [mkC]
                        have HGG := Lib.hid hgg
                        clear hgg
                        have HVV := Lib.hid hv
                        have HBW := Lib.hid hBW
                        clear hv hBW
                        by_cases hi64 : i < 64
                        · skip
                          obtain ⟨x, hx⟩ : ∃ x, rndF (schedF blk 64) H0 i = x := ⟨_, rfl⟩
                          obtain ⟨K, hK⟩ : ∃ K, keyN.getD i 0 = K := ⟨_, rfl⟩
                          obtain ⟨D, hD⟩ : ∃ D, (schedF blk 64).getD i 0 = D := ⟨_, rfl⟩
                          have hKl : K < 4294967296 := by rw [← hK]; exact keyN_lt i
                          have hDl : D < 4294967296 := by rw [← hD]; exact schedF_getD_lt _ _ _
                          have HXN : Hid (rndF (schedF blk 64) H0 (i + 1) = stepF K D x) := Lib.hid (by rw [rndF, hx, hK, hD])
                          have hxi : x.In := by rw [← hx]; exact rndF_in _ _ HIN.out i
                          rw [hx] at HVV
                          have hxa := hxi.a; have hxb := hxi.b; have hxc := hxi.c; have hxd := hxi.d; have hxe := hxi.e; have hxf := hxi.f; have hxg := hxi.g; have hxh := hxi.h
                          have HR : Hid (RdS w1 W8 gv g (gh + 1) i x K D) := Lib.hid ⟨HVV.out, (HBW.out.cell (p := ⟨gh + 1, i, none⟩) (Array.getElem?_eq_some_iff.1 HS7.out.kk).1).trans (cell_block HS7.out.kk (by rw [← hK, List.getD_eq_getElem?_getD]; have h64 : i < keyN.length := hi64; rw [List.getElem?_eq_getElem h64]; simpa using rc_at keyN i keyN[i] (List.getElem?_eq_getElem h64))), (HBW.out.cell (p := ⟨g, i, none⟩) (cell_lt (HW7.out i D (by rw [← hD, List.getD_eq_getElem?_getD, List.getElem?_eq_getElem (by rw [schedF_length]; exact hi64)]; rfl)))).trans (HW7.out i D (by rw [← hD, List.getD_eq_getElem?_getD, List.getElem?_eq_getElem (by rw [schedF_length]; exact hi64)]; rfl)), HBW.out⟩
                          clear hx hK hD hxi HVV
                          have ce := HR.out.v 4 x.e rfl
                          go_upto_region 37 with fail
                          refine wp_region_still_lit (by kernel_rfl) (by kernel_rfl) ?_
                          iterate 3 still_step
                          still_call (rturn_still _ x.e 6 hxe (by decide))
                          iterate 3 still_step
                          still_call (rturn_still _ x.e 11 hxe (by decide))
                          iterate 4 still_step
                          still_call (rturn_still _ x.e 25 hxe (by decide))
                          iterate 2 still_step
                          rw [sigE_val x.e hxe]
                          refine wpStill_nil ?_
                          change Exit.then _ _ _ _ W8.drew
                          clear ce
                          have HR' : Hid (RdS w1 W8.drew gv g (gh + 1) i x K D) := Lib.hid HR.out.drew
                          clear HR
                          generalize W8.drew = V37 at HR'
                          have HR := HR'
                          clear HR'
                          have hsE : sigE x.e < 4294967296 := xor32 (xor32 (rotr_lt _ _ hxe) (rotr_lt _ _ hxe)) (rotr_lt _ _ hxe)
                          obtain ⟨sE, hsE0⟩ : ∃ y, sigE x.e = y := ⟨_, rfl⟩
                          rw [hsE0] at hsE ⊢
                          have HSE := Lib.hid hsE0
                          clear hsE0
                          have ce := HR.out.v 4 x.e rfl
                          have cf := HR.out.v 5 x.f rfl
                          have cg := HR.out.v 6 x.g rfl
                          go_upto_region 38 with fail
                          refine wp_region_still_lit (by kernel_rfl) (by kernel_rfl) ?_
                          iterate 17 still_step
                          rw [chw_val x.e x.f x.g hxe hxf hxg]
                          refine wpStill_nil ?_
                          change Exit.then _ _ _ _ V37.drew
                          clear ce cf cg
                          have HR' : Hid (RdS w1 V37.drew gv g (gh + 1) i x K D) := Lib.hid HR.out.drew
                          clear HR
                          generalize V37.drew = V38 at HR'
                          have HR := HR'
                          clear HR'
                          have hch : chF x.e x.f x.g < 4294967296 := xor32 (and32 hxf) (and32 hxg)
                          obtain ⟨cH, hch0⟩ : ∃ y, chF x.e x.f x.g = y := ⟨_, rfl⟩
                          rw [hch0] at hch ⊢
                          have HCH := Lib.hid hch0
                          clear hch0
                          have ch := HR.out.v 7 x.h rfl
                          have ck := HR.out.k
                          have cd := HR.out.d
                          go_upto_region 39 with fail
                          refine wp_region_still_lit (by kernel_rfl) (by kernel_rfl) ?_
                          iterate 19 still_step
                          rw [sum5_val x.h sE cH K D hxh hsE hch hKl hDl]
                          refine wpStill_nil ?_
                          change Exit.then _ _ _ _ V38.drew
                          clear ch ck cd
                          have HR' : Hid (RdS w1 V38.drew gv g (gh + 1) i x K D) := Lib.hid HR.out.drew
                          clear HR
                          generalize V38.drew = V39 at HR'
                          have HR := HR'
                          clear HR'
                          obtain ⟨t0, ht0⟩ : ∃ y, (x.h + sE + cH + K + D) % 4294967296 = y := ⟨_, rfl⟩
                          rw [ht0]
                          have ht0l : t0 < 4294967296 := by omega
                          have HT0 : Hid (tF K D x = t0) := Lib.hid (by rw [tF_eq, HSE.out, HCH.out, ht0])
                          clear ht0 hsE hch
                          have ca := HR.out.v 0 x.a rfl
                          go_upto_region 40 with fail
                          refine wp_region_still_lit (by kernel_rfl) (by kernel_rfl) ?_
                          iterate 3 still_step
                          still_call (rturn_still _ x.a 2 hxa (by decide))
                          iterate 3 still_step
                          still_call (rturn_still _ x.a 13 hxa (by decide))
                          iterate 4 still_step
                          still_call (rturn_still _ x.a 22 hxa (by decide))
                          iterate 2 still_step
                          rw [sigA_val x.a hxa]
                          refine wpStill_nil ?_
                          change Exit.then _ _ _ _ V39.drew
                          clear ca
                          have HR' : Hid (RdS w1 V39.drew gv g (gh + 1) i x K D) := Lib.hid HR.out.drew
                          clear HR
                          generalize V39.drew = V40 at HR'
                          have HR := HR'
                          clear HR'
                          have hsA : sigA x.a < 4294967296 := xor32 (xor32 (rotr_lt _ _ hxa) (rotr_lt _ _ hxa)) (rotr_lt _ _ hxa)
                          obtain ⟨sA, hsA0⟩ : ∃ y, sigA x.a = y := ⟨_, rfl⟩
                          rw [hsA0] at hsA ⊢
                          have HSA := Lib.hid hsA0
                          clear hsA0
                          have ca := HR.out.v 0 x.a rfl
                          have cb := HR.out.v 1 x.b rfl
                          have cc := HR.out.v 2 x.c rfl
                          go_upto_region 41 with fail
                          refine wp_region_still_lit (by kernel_rfl) (by kernel_rfl) ?_
                          iterate 24 still_step
                          rw [maj_val x.a x.b x.c hxa hxb hxc]
                          refine wpStill_nil ?_
                          change Exit.then _ _ _ _ V40.drew
                          clear ca cb cc
                          have HR' : Hid (RdS w1 V40.drew gv g (gh + 1) i x K D) := Lib.hid HR.out.drew
                          clear HR
                          generalize V40.drew = V41 at HR'
                          have HR := HR'
                          clear HR'
                          have hmj : majF x.a x.b x.c < 4294967296 := xor32 (xor32 (and32 hxb) (and32 hxc)) (and32 hxc)
                          obtain ⟨mJ, hmj0⟩ : ∃ y, majF x.a x.b x.c = y := ⟨_, rfl⟩
                          rw [hmj0] at hmj ⊢
                          have HMJ := Lib.hid hmj0
                          clear hmj0
                          obtain ⟨u0, hu0⟩ : ∃ y, addW sA mJ = y := ⟨_, rfl⟩
                          have hu0l : u0 < 4294967296 := by rw [← hu0]; exact addW_lt _ _
                          have hu : ((sA : Int) + (mJ : Int)) % 4294967296 = (u0 : Int) := by rw [← hu0, addW]; omega
                          have HUV := Lib.hid hu
                          have HU0 : Hid (uF x = u0) := Lib.hid (by rw [uF, HSA.out, HMJ.out, hu0])
                          clear hu0
                          go_upto_region 43 with fail
                          clear hu hsA hmj
                          have HRd := Lib.hid HR.out.drew
                          refine st_ (S := (fun W' => RdS w1 W' gv g (gh + 1) i x K D)) 30 (bt 0 30) (by kernel_rfl) rfl (by rfl) HRd.out (fun hHeld => ?_)
                          refine tk_ 0 (some 252) (bt 1 29) (v := ?_) (a' := ?_) rfl rfl (by kernel_rfl) (fun _ _ _ h => h) (yieldsIf_run rfl ?_) hHeld ?_ ?_
                          rotate_left
                          · intro w'
                            go_simp
                            with_reducible rfl
                          rotate_left
                          · simp only [Act.put, List.setIfInBounds_toArray, List.set_cons_zero, List.set_cons_succ]
                            rfl
                          refine tk_ 1 (some 253) (bt 2 28) (v := ?_) (a' := ?_) rfl rfl (by kernel_rfl) (fun _ _ _ h => h) (yieldsIf_run rfl ?_) hHeld ?_ ?_
                          rotate_left
                          · intro w'
                            go_simp
                            with_reducible rfl
                          rotate_left
                          · simp only [Act.put, List.setIfInBounds_toArray, List.set_cons_zero, List.set_cons_succ]
                            rfl
                          refine tk_ 2 (some 254) (bt 3 27) (v := ?_) (a' := ?_) rfl rfl (by kernel_rfl) (fun _ _ _ h => h) (yieldsIf_run rfl ?_) hHeld ?_ ?_
                          rotate_left
                          · intro w'
                            go_simp
                            with_reducible rfl
                          rotate_left
                          · simp only [Act.put, List.setIfInBounds_toArray, List.set_cons_zero, List.set_cons_succ]
                            rfl
                          refine tk_ 3 (some 255) (bt 4 26) (v := ?_) (a' := ?_) rfl rfl (by kernel_rfl) (fun _ _ _ h => h) (yieldsIf_run rfl ?_) hHeld ?_ ?_
                          rotate_left
                          · intro w'
                            go_simp
                            with_reducible rfl
                          rotate_left
                          · simp only [Act.put, List.setIfInBounds_toArray, List.set_cons_zero, List.set_cons_succ]
                            rfl
                          refine tk_ 4 (some 256) (bt 5 25) (v := ?_) (a' := ?_) rfl rfl (by kernel_rfl) (fun _ _ _ h => h) (yieldsIf_run rfl ?_) hHeld ?_ ?_
                          rotate_left
                          · intro w'
                            go_simp
                            with_reducible rfl
                          rotate_left
                          · simp only [Act.put, List.setIfInBounds_toArray, List.set_cons_zero, List.set_cons_succ]
                            rfl
                          refine tk_ 5 (some 257) (bt 6 24) (v := ?_) (a' := ?_) rfl rfl (by kernel_rfl) (fun _ _ _ h => h) (yieldsIf_run rfl ?_) hHeld ?_ ?_
                          rotate_left
                          · intro w'
                            go_simp
                            with_reducible rfl
                          rotate_left
                          · simp only [Act.put, List.setIfInBounds_toArray, List.set_cons_zero, List.set_cons_succ]
                            rfl
                          refine tk_ 6 (some 258) (bt 7 23) rfl rfl (by kernel_rfl) (fun _ _ _ h => h) (yieldsIf_cell rfl 26 (.tmp 257) rfl ⟨gv, 0, none⟩ rfl (.int .u64 (x.a : Int)) _ (fun W' h => h.v 0 x.a rfl) Tryz.underlying26 rfl) hHeld (a' := ?_) ?_ ?_
                          rotate_left
                          · simp only [Act.put, List.setIfInBounds_toArray, List.set_cons_zero, List.set_cons_succ]
                            rfl
                          refine tk_ 7 (some 259) (bt 8 22) (v := ?_) (a' := ?_) rfl rfl (by kernel_rfl) (fun _ _ _ h => h) (yieldsIf_run rfl ?_) hHeld ?_ ?_
                          rotate_left
                          · intro w'
                            go_simp
                            with_reducible rfl
                          rotate_left
                          · simp only [Act.put, List.setIfInBounds_toArray, List.set_cons_zero, List.set_cons_succ]
                            rfl
                          refine tk_ 8 (some 260) (bt 9 21) (v := ?_) (a' := ?_) rfl rfl (by kernel_rfl) (fun _ _ _ h => h) (yieldsIf_run rfl ?_) hHeld ?_ ?_
                          rotate_left
                          · intro w'
                            go_simp
                            with_reducible rfl
                          rotate_left
                          · simp only [Act.put, List.setIfInBounds_toArray, List.set_cons_zero, List.set_cons_succ]
                            rfl
                          refine tk_ 9 (some 261) (bt 10 20) rfl rfl (by kernel_rfl) (fun _ _ _ h => h) (yieldsIf_cell rfl 26 (.tmp 260) rfl ⟨gv, 1, none⟩ rfl (.int .u64 (x.b : Int)) _ (fun W' h => h.v 1 x.b rfl) Tryz.underlying26 rfl) hHeld (a' := ?_) ?_ ?_
                          rotate_left
                          · simp only [Act.put, List.setIfInBounds_toArray, List.set_cons_zero, List.set_cons_succ]
                            rfl
                          refine tk_ 10 (some 262) (bt 11 19) (v := ?_) (a' := ?_) rfl rfl (by kernel_rfl) (fun _ _ _ h => h) (yieldsIf_run rfl ?_) hHeld ?_ ?_
                          rotate_left
                          · intro w'
                            go_simp
                            with_reducible rfl
                          rotate_left
                          · simp only [Act.put, List.setIfInBounds_toArray, List.set_cons_zero, List.set_cons_succ]
                            rfl
                          refine tk_ 11 (some 263) (bt 12 18) (v := ?_) (a' := ?_) rfl rfl (by kernel_rfl) (fun _ _ _ h => h) (yieldsIf_run rfl ?_) hHeld ?_ ?_
                          rotate_left
                          · intro w'
                            go_simp
                            with_reducible rfl
                          rotate_left
                          · simp only [Act.put, List.setIfInBounds_toArray, List.set_cons_zero, List.set_cons_succ]
                            rfl
                          refine tk_ 12 (some 264) (bt 13 17) rfl rfl (by kernel_rfl) (fun _ _ _ h => h) (yieldsIf_cell rfl 26 (.tmp 263) rfl ⟨gv, 2, none⟩ rfl (.int .u64 (x.c : Int)) _ (fun W' h => h.v 2 x.c rfl) Tryz.underlying26 rfl) hHeld (a' := ?_) ?_ ?_
                          rotate_left
                          · simp only [Act.put, List.setIfInBounds_toArray, List.set_cons_zero, List.set_cons_succ]
                            rfl
                          refine tk_ 13 (some 265) (bt 14 16) (v := ?_) (a' := ?_) rfl rfl (by kernel_rfl) (fun _ _ _ h => h) (yieldsIf_run rfl ?_) hHeld ?_ ?_
                          rotate_left
                          · intro w'
                            go_simp
                            with_reducible rfl
                          rotate_left
                          · simp only [Act.put, List.setIfInBounds_toArray, List.set_cons_zero, List.set_cons_succ]
                            rfl
                          refine tk_ 14 (some 266) (bt 15 15) (v := ?_) (a' := ?_) rfl rfl (by kernel_rfl) (fun _ _ _ h => h) (yieldsIf_run rfl ?_) hHeld ?_ ?_
                          rotate_left
                          · intro w'
                            go_simp
                            with_reducible rfl
                          rotate_left
                          · simp only [Act.put, List.setIfInBounds_toArray, List.set_cons_zero, List.set_cons_succ]
                            rfl
                          refine tk_ 15 (some 267) (bt 16 14) rfl rfl (by kernel_rfl) (fun _ _ _ h => h) (yieldsIf_cell rfl 26 (.tmp 266) rfl ⟨gv, 3, none⟩ rfl (.int .u64 (x.d : Int)) _ (fun W' h => h.v 3 x.d rfl) Tryz.underlying26 rfl) hHeld (a' := ?_) ?_ ?_
                          rotate_left
                          · simp only [Act.put, List.setIfInBounds_toArray, List.set_cons_zero, List.set_cons_succ]
                            rfl
                          refine tk_ 16 (some 268) (bt 17 13) (v := ?_) (a' := ?_) rfl rfl (by kernel_rfl) (fun _ _ _ h => h) (yieldsIf_run rfl ?_) hHeld ?_ ?_
                          rotate_left
                          · intro w'
                            go_simp
                            with_reducible rfl
                          rotate_left
                          · simp only [Act.put, List.setIfInBounds_toArray, List.set_cons_zero, List.set_cons_succ]
                            rfl
                          refine tk_ 17 (some 269) (bt 18 12) (v := ?_) (a' := ?_) rfl rfl (by kernel_rfl) (fun _ _ _ h => h) (yieldsIf_run rfl ?_) hHeld ?_ ?_
                          rotate_left
                          · intro w'
                            go_simp
                            with_reducible rfl
                          rotate_left
                          · simp only [Act.put, List.setIfInBounds_toArray, List.set_cons_zero, List.set_cons_succ]
                            rfl
                          refine tk_ 18 (some 270) (bt 19 11) (v := ?_) (a' := ?_) rfl rfl (by kernel_rfl) (fun _ _ _ h => h) (yieldsIf_run rfl ?_) hHeld ?_ ?_
                          rotate_left
                          · intro w'
                            go_simp
                            with_reducible rfl
                          rotate_left
                          · simp only [Act.put, List.setIfInBounds_toArray, List.set_cons_zero, List.set_cons_succ]
                            rfl
                          refine tk_ 19 (some 271) (bt 20 10) (v := ?_) (a' := ?_) rfl rfl (by kernel_rfl) (fun _ _ _ h => h) (yieldsIf_run rfl ?_) hHeld ?_ ?_
                          rotate_left
                          · intro w'
                            go_simp
                            with_reducible rfl
                          rotate_left
                          · simp only [Act.put, List.setIfInBounds_toArray, List.set_cons_zero, List.set_cons_succ]
                            rfl
                          refine tk_ 20 (some 272) (bt 21 9) (v := ?_) (a' := ?_) rfl rfl (by kernel_rfl) (fun _ _ _ h => h) (yieldsIf_run rfl ?_) hHeld ?_ ?_
                          rotate_left
                          · intro w'
                            go_simp
                            with_reducible rfl
                          rotate_left
                          · simp only [Act.put, List.setIfInBounds_toArray, List.set_cons_zero, List.set_cons_succ]
                            rfl
                          refine tk_ 21 (some 273) (bt 22 8) rfl rfl (by kernel_rfl) (fun _ _ _ h => h) (yieldsIf_cell rfl 26 (.tmp 272) rfl ⟨gv, 4, none⟩ rfl (.int .u64 (x.e : Int)) _ (fun W' h => h.v 4 x.e rfl) Tryz.underlying26 rfl) hHeld (a' := ?_) ?_ ?_
                          rotate_left
                          · simp only [Act.put, List.setIfInBounds_toArray, List.set_cons_zero, List.set_cons_succ]
                            rfl
                          refine tk_ 22 (some 274) (bt 23 7) (v := ?_) (a' := ?_) rfl rfl (by kernel_rfl) (fun _ _ _ h => h) (yieldsIf_run rfl ?_) hHeld ?_ ?_
                          rotate_left
                          · intro w'
                            go_simp
                            with_reducible rfl
                          rotate_left
                          · simp only [Act.put, List.setIfInBounds_toArray, List.set_cons_zero, List.set_cons_succ]
                            rfl
                          refine tk_ 23 (some 275) (bt 24 6) (v := ?_) (a' := ?_) rfl rfl (by kernel_rfl) (fun _ _ _ h => h) (yieldsIf_run rfl ?_) hHeld ?_ ?_
                          rotate_left
                          · intro w'
                            go_simp
                            with_reducible rfl
                          rotate_left
                          · simp only [Act.put, List.setIfInBounds_toArray, List.set_cons_zero, List.set_cons_succ]
                            rfl
                          refine tk_ 24 (some 276) (bt 25 5) rfl rfl (by kernel_rfl) (fun _ _ _ h => h) (yieldsIf_cell rfl 26 (.tmp 275) rfl ⟨gv, 5, none⟩ rfl (.int .u64 (x.f : Int)) _ (fun W' h => h.v 5 x.f rfl) Tryz.underlying26 rfl) hHeld (a' := ?_) ?_ ?_
                          rotate_left
                          · simp only [Act.put, List.setIfInBounds_toArray, List.set_cons_zero, List.set_cons_succ]
                            rfl
                          refine tk_ 25 (some 277) (bt 26 4) (v := ?_) (a' := ?_) rfl rfl (by kernel_rfl) (fun _ _ _ h => h) (yieldsIf_run rfl ?_) hHeld ?_ ?_
                          rotate_left
                          · intro w'
                            go_simp
                            with_reducible rfl
                          rotate_left
                          · simp only [Act.put, List.setIfInBounds_toArray, List.set_cons_zero, List.set_cons_succ]
                            rfl
                          refine tk_ 26 (some 278) (bt 27 3) (v := ?_) (a' := ?_) rfl rfl (by kernel_rfl) (fun _ _ _ h => h) (yieldsIf_run rfl ?_) hHeld ?_ ?_
                          rotate_left
                          · intro w'
                            go_simp
                            with_reducible rfl
                          rotate_left
                          · simp only [Act.put, List.setIfInBounds_toArray, List.set_cons_zero, List.set_cons_succ]
                            rfl
                          refine tk_ 27 (some 279) (bt 28 2) rfl rfl (by kernel_rfl) (fun _ _ _ h => h) (yieldsIf_cell rfl 26 (.tmp 278) rfl ⟨gv, 6, none⟩ rfl (.int .u64 (x.g : Int)) _ (fun W' h => h.v 6 x.g rfl) Tryz.underlying26 rfl) hHeld (a' := ?_) ?_ ?_
                          rotate_left
                          · simp only [Act.put, List.setIfInBounds_toArray, List.set_cons_zero, List.set_cons_succ]
                            rfl
                          have hHeld := HRd.out.alloc (.cells (rc [addW t0 u0, x.a, x.b, x.c, addW x.d t0, x.e, x.f, x.g]).toArray 26)
                          refine val_ 28 (some 280) (bt 29 1) rfl rfl (by kernel_rfl) rfl ((.slice (some ⟨V41.drew.heap.size, 0, none⟩) 8 8)) ((V41.drew.alloc (.cells (rc [addW t0 u0, x.a, x.b, x.c, addW x.d t0, x.e, x.f, x.g]).toArray 26))) (by (go_simp; rw [HUV.out, sum2_val t0 u0 ht0l hu0l, sum2_val x.d t0 hxd ht0l]; rfl)) hHeld (a' := ?_) ?_ ?_
                          rotate_left
                          · simp only [Act.put, List.setIfInBounds_toArray, List.set_cons_zero, List.set_cons_succ]
                            rfl
                          refine tk_ 29 (some 16) (bt 30 0) (v := ?_) (a' := ?_) rfl rfl (by kernel_rfl) (fun _ _ _ h => h) (yieldsIf_run rfl ?_) hHeld ?_ ?_
                          rotate_left
                          · intro w'
                            go_simp
                            with_reducible rfl
                          rotate_left
                          · simp only [Act.put, List.setIfInBounds_toArray, List.set_cons_zero, List.set_cons_succ]
                            rfl
                          refine wpAnyH_done (by kernel_rfl) ?_ _
                          change Exit.inBlock _ _ _ _ _
                          go_wp2
                          refine HKC.out (i + 1, V41.heap.size, 8) _ _ (by kernel_rfl) ⟨by show i + 1 ≤ 64; omega, fun j y hy => ?_, ?_, HRd.out.below.alloc HRd.out.below.size _⟩ (by show 64 - (i + 1) < 64 - i; omega)
                          · simp only at hy
                            rw [HXN.out, stepF, HT0.out, HU0.out] at hy
                            exact cell_block (heap_alloc_new V41.drew _) (by have h9 : (rc [addW t0 u0, x.a, x.b, x.c, addW x.d t0, x.e, x.f, x.g])[j]? = some (.int .u64 (y : Int)) := rc_at _ j y hy; simpa using h9)
                          · have h8 := HRd.out.below.size
                            have h9 := HG7.out
                            show gh < V41.drew.heap.size
                            omega
                        · have hi65 : i = 64 := by omega
                          subst hi65
                          obtain ⟨x, hx⟩ : ∃ x, rndF (schedF blk 64) H0 64 = x := ⟨_, rfl⟩
                          rw [hx] at HVV
                          have hxi : x.In := by rw [← hx]; exact rndF_in _ _ HIN.out 64
                          have HXI := Lib.hid hxi
                          have HMX : Hid (foldB (b + 1) startN (padF s.data.toList) = sumF H0 x) := Lib.hid (by rw [foldB_snoc, HH0.out, HBL.out, ← hx]; rfl)
                          have HS8 : Hid (ShH w W8 gh (gh + 1) H0) := Lib.hid (HS7.out.beyond HBW.out ⟨by have := HG7.out; omega, HG7.out⟩)
                          have HGW : Hid (gv < W8.heap.size) := Lib.hid (cell_lt (HVV.out 0 x.a rfl))
                          clear hx hxi HS7 HBW HW7 HV
                          go_wp2
                          go_loopw [283] (fun c W => ∃ j : Nat, j ≤ 8 ∧ c = .int .i64 (j : Int) ∧ W.heap[gh]? = some (.cells (rc (partL H0 x j)).toArray 26 (0, 0)) ∧ Chg (fun k => k = gh) W8 W) (fun c _ => 8 - (intOf c).toNat)
                          case atStart => exact ⟨0, by omega, rfl, by rw [partL_zero]; exact HS8.out.hh, Chg.refl _ _⟩
                          case round =>
                            obtain ⟨j, hj, rfl, hh, hC⟩ := hrel
                            rename World => W9
                            have HH := Lib.hid hh
                            have HC := Lib.hid hC
                            clear hh hC
                            by_cases hj8 : j < 8
                            · skip
                              obtain ⟨A, hA⟩ : ∃ A, H0.l.getD j 0 = A := ⟨_, rfl⟩
                              obtain ⟨B, hB⟩ : ∃ B, x.l.getD j 0 = B := ⟨_, rfl⟩
                              have hAl : A < 4294967296 := by rw [← hA]; exact w8_lt HIN.out j
                              have hBl : B < 4294967296 := by rw [← hB]; exact w8_lt HXI.out j
                              have cA : W9.cell? ⟨gh, j, none⟩ = some (.int .u64 (A : Int)) := cell_block HH.out (by simpa using rc_at _ j A (by rw [partL_at _ _ _ hj8, hA]))
                              have cB : W9.cell? ⟨gv, j, none⟩ = some (.int .u64 (B : Int)) := (World.cell?_of_block (w := W8) (HC.out.block gv HGW.out fun e => by have := HGG.out; omega)).trans (HVV.out j B (by rw [← hB, List.getD_eq_getElem?_getD, List.getElem?_eq_getElem (by exact hj8)]; rfl))
                              have hfr : W9.frozen? ⟨gh, j, none⟩ = false := Lib.frozen_of_heap HH.out j
                              have HPS : Hid ((partL H0 x j).set j (addW A B) = partL H0 x (j + 1)) := Lib.hid (by rw [← hA, ← hB]; exact partL_set H0 x j hj8)
                              clear hA hB
                              go_upto_region 47 with fail
                              refine wp_region_still_tail 13 (by kernel_rfl) (by kernel_rfl) ?_
                              simp only [List.take_succ_cons, List.take_zero, List.drop_succ_cons, List.drop_zero]
                              iterate 13 still_step
                              rw [sum2_val A B hAl hBl]
                              refine wpStill_nil ?_
                              change wpList _ _ _ _ _ W9.drew
                              have cAd : W9.drew.cell? ⟨gh, j, none⟩ = some (.int .u64 (A : Int)) := cA
                              have hfd : W9.drew.frozen? ⟨gh, j, none⟩ = false := hfr
                              have HHd : Hid (W9.drew.heap[gh]? = some (.cells (rc (partL H0 x j)).toArray 26 (0, 0))) := HH
                              have HCd : Hid (Chg (fun k => k = gh) W8 W9.drew) := Lib.hid ⟨HC.out.os, HC.out.tape, HC.out.output, HC.out.size, HC.out.block⟩
                              generalize W9.drew = W10 at cAd hfd HHd HCd
                              clear cA cB hfr
                              go_wp2
                              go_roundw
                              case rel =>
                                refine ⟨j + 1, by omega, by go_num, ?_, ?_⟩
                                · rw [heap_setCell_at W10 gh j _ _ _ _ HHd.out, rc_set, HPS.out]
                                · exact ⟨HCd.out.os, HCd.out.tape, HCd.out.output, by simpa using HCd.out.size, fun k hk hne => (by simp [World.setCell, Array.getElem?_modify, Ne.symm hne] : (W10.setCell ⟨gh, j, none⟩ (.int .u64 (addW A B : Nat))).heap[k]? = W10.heap[k]?).trans (HCd.out.block k hk hne)⟩
                              case measure => simp [intOf]; omega
                            · have hj88 : j = 8 := by omega
                              subst hj88
                              have HS9 : Hid (ShH w W9 gh (gh + 1) (foldB (b + 1) startN (padF s.data.toList))) := Lib.hid (by
                                rw [HMX.out]
                                refine ⟨HS8.out.below.trans (HC.out.below HS8.out.below.size fun k hk => by rw [hk]; exact HS8.out.lt.1), ?_, (HC.out.block (gh + 1) (Array.getElem?_eq_some_iff.1 HS8.out.kk).1 (by omega)).trans HS8.out.kk, HS8.out.lt⟩
                                rw [HH.out, partL_all])
                              go_wp2
                              exact HKA.out (b + 1) _ _ (by kernel_rfl) ⟨by omega, HS9.out⟩ (by show 64 * nb + 1 - 64 * (b + 1) < 64 * nb + 1 - 64 * b; omega)
            · have hbb : b = nb := by omega
              have HSF : Hid (ShH w W3 gh (gh + 1) (wordsF s.data.toList)) := Lib.hid (by rw [wordsF, HNB.out, Nat.mul_div_cancel_left _ (by decide), ← hbb]; exact HS3.out)
              have hFI : (wordsF s.data.toList).In := foldB_in _ _ _ startN_in
              obtain ⟨F, hF⟩ : ∃ F, wordsF s.data.toList = F := ⟨_, rfl⟩
              rw [hF] at HSF hFI
              have HF := Lib.hid hF
              have HFI := Lib.hid hFI
              clear hF hFI HS3
              go_wp2
              go_loopw [25, 302] (fun c25 c302 W => ∃ (j : Nat) (o : ByteArray), j ≤ 8 ∧ c302 = .int .i64 (j : Int) ∧ c25 = .string o ∧ o.data.toList = (F.l.take j).flatMap four ∧ Below W3.heap.size W3 W) (fun _ c _ => 8 - (intOf c).toNat)
              case atStart => exact ⟨0, ⟨#[]⟩, by omega, rfl, rfl, rfl, Below.refl _ W3⟩
              case round =>
                obtain ⟨j, o, hj, rfl, rfl, ho, hBW⟩ := hrel
                rename World => W4
                have HO := Lib.hid ho
                have HBW := Lib.hid hBW
                clear ho hBW
                by_cases hj8 : j < 8
                · skip
                  obtain ⟨y, hy⟩ : ∃ y, F.l.getD j 0 = y := ⟨_, rfl⟩
                  have hyl : y < 4294967296 := by rw [← hy]; exact w8_lt HFI.out j
                  have hyj : F.l[j]? = some y := by rw [← hy, List.getD_eq_getElem?_getD, List.getElem?_eq_getElem (by exact hj8)]; rfl
                  have cy : W4.cell? ⟨gh, j, none⟩ = some (.int .u64 (y : Int)) := (HBW.out.cell (p := ⟨gh, j, none⟩) (Array.getElem?_eq_some_iff.1 HSF.out.hh).1).trans (cell_block HSF.out.hh (by simpa using rc_at _ j y hyj))
                  have HTK : Hid (F.l.take (j + 1) = F.l.take j ++ [y]) := Lib.hid (by rw [List.take_add_one, hyj]; rfl)
                  obtain ⟨b0, h0⟩ : ∃ b, UInt8.ofNat (y / 16777216) = b := ⟨_, rfl⟩
                  obtain ⟨b1, h1⟩ : ∃ b, UInt8.ofNat (y / 65536) = b := ⟨_, rfl⟩
                  obtain ⟨b2, h2⟩ : ∃ b, UInt8.ofNat (y / 256) = b := ⟨_, rfl⟩
                  obtain ⟨b3, h3⟩ : ∃ b, UInt8.ofNat y = b := ⟨_, rfl⟩
                  have e0 : (y : Int) / 16777216 = ((b0.toNat : Nat) : Int) := by rw [← h0]; simp; omega
                  have e1 : (y : Int) / 65536 % 256 = ((b1.toNat : Nat) : Int) := by rw [← h1]; simp
                  have e2 : (y : Int) / 256 % 256 = ((b2.toNat : Nat) : Int) := by rw [← h2]; simp
                  have e3 : (y : Int) % 256 = ((b3.toNat : Nat) : Int) := by rw [← h3]; simp
                  have l0 := b0.toNat_lt; have l1 := b1.toNat_lt; have l2 := b2.toNat_lt; have l3 := b3.toNat_lt
                  have HB0 := Lib.hid h0; have HB1 := Lib.hid h1; have HB2 := Lib.hid h2; have HB3 := Lib.hid h3
                  have hcv := conv4 W4 b0 b1 b2 b3
                  have hos : o.size ≤ 1000 := by
                    have q1 := congrArg List.length HO.out
                    have q2 : o.data.toList.length = o.size := by simp
                    have q3 : ((F.l.take j).flatMap four).length ≤ 4 * 8 := by
                      have : ∀ l : List Nat, (l.flatMap four).length = 4 * l.length := fun l => by induction l with | nil => rfl | cons a l ih => (rw [List.flatMap_cons, List.length_append, ih]; simp [four]; omega)
                      rw [this, List.length_take]
                      omega
                    omega
                  clear hy hyj h0 h1 h2 h3
                  go_wp2
                  go_roundw
                  case rel =>
                    refine ⟨j + 1, o ++ ⟨#[b0, b1, b2, b3]⟩, by omega, by go_num, rfl, ?_, HBW.out.alloc HBW.out.size _⟩
                    rw [ba_append, HO.out, HTK.out, List.flatMap_append, ← HB0.out, ← HB1.out, ← HB2.out, ← HB3.out]
                    simp [four]
                  case measure => simp [intOf]; omega
                · have hj88 : j = 8 := by omega
                  subst hj88
                  go_wp2
                  go_ret
                  have hfin : o = (shaF s.data.toList).val := ByteArray.ext (Array.toList_inj.1 (by
                    rw [HO.out]
                    show _ = (outF (wordsF s.data.toList)).toArray.toList
                    rw [HF.out, outF_four, List.take_of_length_le (by exact Nat.le_refl 8)]))
                  exact ⟨congrArg (fun o => Ending.returned (Value.string o)) hfin, HSF.out.below.trans (HBW.out.mono HSF.out.below.size)⟩
end Go.Proofs.YtcohdfkdhdhegaaGreatDoor
