/- coxswainref01.Num, Text. coxswainref01.Text; coxswainref05.Join, Bytes. The document's digest, by plain numbers, is the program's. No program in sight. coxswainref02.turn, down. -/
import Derived.Test.YthpcedficlhanaaGreatDoorOvAO
namespace Go.Proofs.YthpcedficlhanaaGreatDoor
open Go.RowKit

/-- How many bytes a number has: the greatest one is not nought. -/
theorem numLen_stop (f : Nat) : ∀ (y i : Nat), y < 256 ^ f → (∀ j, j < i → 0 < y / 256 ^ j) → y / 256 ^ i = 0 → numLen f y = i := by
  induction f with
  | zero =>
    intro y i hy h _
    have hy0 : y = 0 := by simpa using hy
    subst hy0
    cases i with
    | zero => rfl
    | succ i => exact absurd (h 0 (by omega)) (by simp)
  | succ f ih =>
    intro y i hy h h0
    cases i with
    | zero =>
      have : y = 0 := by simpa using h0
      subst this
      simp [numLen]
    | succ i =>
      have hp : 0 < y := by simpa using h 0 (by omega)
      rw [numLen_succ f y hp, ih (y / 256) i]
      · omega
      · rw [Nat.pow_succ] at hy
        exact Nat.div_lt_of_lt_mul (by rw [Nat.mul_comm]; exact hy)
      · intro j hj
        have := h (j + 1) (by omega)
        rwa [Nat.div_div_eq_div_mul, Nat.mul_comm, ← Nat.pow_succ]
      · rwa [Nat.div_div_eq_div_mul, Nat.mul_comm, ← Nat.pow_succ]

set_option maxRecDepth 100000 in
set_option maxHeartbeats 2000000 in
theorem rnum_any (w : World) (x : Int) (h0 : -9223372036854775808 ≤ x) (h1 : x ≤ 9223372036854775807) :
    Calls Tryz.prog 152 #[.int .i64 x] w fun e w' => e = .returned (.string ⟨(numB x.toNat).toArray⟩) ∧ Below w.heap.size w w' := by
  obtain ⟨X, hX⟩ : ∃ X : Nat, max x 0 = (X : Int) := ⟨x.toNat, by omega⟩
  have hXl : X ≤ 9223372036854775807 := by omega
  have HXT : Hid (x.toNat = X) := Lib.hid (by omega)
  have HM := Lib.hid hX
  clear hX
  go_enter Tryz.func152, Tryz.ntmps152
  have hX := HM.out
  go_wp2
  clear hX
  go_loopw [0, 3] (fun c0 c3 wr => ∃ i : Nat, i ≤ 8 ∧ c0 = .int .i64 ((X / 256 ^ i : Nat) : Int) ∧ c3 = .string ⟨(dig X i).toArray⟩ ∧ (∀ j, j < i → 0 < X / 256 ^ j) ∧ Below w.heap.size w wr) (fun c0 _ _ => (intOf c0).toNat)
  case atStart => exact ⟨0, by omega, by simp, rfl, fun j hj => by omega, Below.refl _ _⟩
  case round =>
    obtain ⟨i, hi, rfl, rfl, hp, hB⟩ := hrel
    have HP := Lib.hid hp
    have HB := Lib.hid hB
    obtain ⟨y, hy⟩ : ∃ y, X / 256 ^ i = y := ⟨_, rfl⟩
    have hyX : y ≤ X := by rw [← hy]; exact Nat.div_le_self _ _
    rw [hy]
    have hS : X / 256 ^ (i + 1) = y / 256 := by rw [← hy, Nat.pow_succ, Nat.div_div_eq_div_mul]
    have HS := Lib.hid hS
    have hD : dig X (i + 1) = UInt8.ofNat y :: dig X i := by rw [← hy]; rfl
    have HD := Lib.hid hD
    have HY := Lib.hid hy
    have h8 : i = 8 → y = 0 := by
      intro e
      subst e
      have := HY.out
      have h2 : X < 256 ^ 8 := by have : (256 : Nat) ^ 8 = 18446744073709551616 := by decide
                                  omega
      rw [Nat.div_eq_of_lt h2] at this
      exact this.symm
    clear hp hB hy hS hD
    obtain ⟨z, hz⟩ : ∃ z, dig X i = z := ⟨_, rfl⟩
    have hzl : z.length = i := by rw [← hz, dig_length]
    rw [hz]
    have HZ := Lib.hid hz
    clear hz
    by_cases hlt : 0 < y
    · have hi8 : i < 8 := by have := h8; omega
      obtain ⟨b, hb⟩ : ∃ b, UInt8.ofNat y = b := ⟨_, rfl⟩
      have hby : (y : Int) % 256 = ((b.toNat : Nat) : Int) := by rw [← hb]; simp
      have hcv := conv_one wr b
      have HBB := Lib.hid hb
      clear hb h8
      go_wp2
      go_roundw
      case rel =>
        refine ⟨i + 1, by omega, by rw [HS.out]; congr 1, ?_, ?_, HB.out.alloc HB.out.size _⟩
        · rw [HD.out, HZ.out, HBB.out]
          congr 1
        · intro j hj
          rcases Nat.lt_or_eq_of_le (Nat.le_of_lt_succ hj) with h | h
          · exact HP.out j h
          · subst h; rw [HY.out]; exact hlt
      case measure => simp [intOf]; omega
    · have hy0 : y = 0 := by omega
      subst hy0
      have hL : numLen 8 X = i := numLen_stop 8 X i (by have : (256 : Nat) ^ 8 = 18446744073709551616 := by decide
                                                        omega) HP.out HY.out
      obtain ⟨b, hb⟩ : ∃ b, UInt8.ofNat i = b := ⟨_, rfl⟩
      have hby : (i : Int) = ((b.toNat : Nat) : Int) := by rw [← hb, UInt8.toNat_ofNat_of_lt' (by show i < 256; omega)]
      have hcv := conv_one wr b
      have HF : Hid (numB X = b :: z) := Lib.hid (by rw [numB, hL, hb, HZ.out])
      clear hL hb
      go_wp2
      go_ret
      refine ⟨?_, HB.out.alloc HB.out.size _⟩
      rw [HXT.out, HF.out]
      congr 1
end Go.Proofs.YthpcedficlhanaaGreatDoor
namespace Go.Proofs.YthpcedficlhanaaGreatDoor
open Go.RowKit

theorem str_add (a b : List UInt8) : (⟨a.toArray⟩ : ByteArray) ++ ⟨b.toArray⟩ = ⟨(a ++ b).toArray⟩ := ByteArray.ext (Array.toList_inj.1 (by simp))
theorem str_of (s : ByteArray) : s = ⟨s.data.toList.toArray⟩ := ByteArray.ext (by simp)

set_option maxRecDepth 100000 in
set_option maxHeartbeats 2000000 in
theorem rtext_any (w : World) (s : ByteArray) (hs : s.size ≤ 1099511627776) :
    Calls Tryz.prog 153 #[.string s] w fun e w' => e = .returned (.string ⟨(textB s).toArray⟩) ∧ Below w.heap.size w w' := by
  obtain ⟨nb, hnb⟩ : ∃ nb, numB s.size = nb := ⟨_, rfl⟩
  have hnl : nb.length ≤ 9 := by rw [← hnb]; exact numB_length _
  have HN := Lib.hid (rnum_any w (s.size : Int) (by omega) (by omega))
  rw [Int.toNat_natCast, hnb] at HN
  have HNB := Lib.hid hnb
  clear hnb
  have hz : (⟨nb.toArray⟩ : ByteArray).size ≤ 9 := by show nb.toArray.size ≤ 9; simpa using hnl
  go_enter Tryz.func153, Tryz.ntmps153
  go_wp2_with (go_at_call 152; refine HN.out.mono ?_; rintro e w1 ⟨rfl, hb1⟩)
  go_ret
  refine ⟨?_, hb1⟩
  have h1 : (⟨nb.toArray⟩ : ByteArray) ++ s = ⟨(textB s).toArray⟩ := by
    conv => lhs; rw [str_of s]
    rw [str_add, textB, HNB.out]
  exact congrArg (fun o => Ending.returned (Value.string o)) h1

/-- Texts, one behind the other. -/
def joinS (l : List ByteArray) : List UInt8 := l.flatMap fun s => s.data.toList
set_option maxRecDepth 100000 in
set_option maxHeartbeats 2000000 in
theorem rjoin_any (w : World) (v : Value) (l : List ByteArray) (ok : Nat → Prop) (hl : Sl strE ok w v l) (hlen : l.length ≤ 1000) (hz : ∀ s ∈ l, s.size ≤ 1000000) :
    Calls Tryz.prog 53 #[v] w fun e w' => e = .returned (.string ⟨(joinS l).toArray⟩) ∧ w = w' := by
  obtain ⟨A, c, rfl, hc, hm⟩ := hl.form
  have HL := Lib.hid hl
  have HZ := Lib.hid hz
  clear hl hz
  go_enter Tryz.func53, Tryz.ntmps53
  go_wp2
  go_loop [3, 8] (fun c3 c8 => ∃ (i : Nat) (o : ByteArray), i ≤ l.length ∧ c8 = .int .i64 (i : Int) ∧ c3 = .string o ∧ o.data.toList = joinS (l.take i) ∧ o.size ≤ 1000000 * i) (fun _ c8 => l.length - (intOf c8).toNat)
  case atStart => exact ⟨0, ⟨#[]⟩, by omega, rfl, rfl, rfl, by show (0 : Nat) ≤ _; omega⟩
  case round =>
    obtain ⟨i, o, hi, rfl, rfl, ho, hos⟩ := hrel
    have HO := Lib.hid ho
    clear ho
    by_cases hil : i < l.length
    · obtain ⟨x, hx⟩ : ∃ x, l[i]? = some x := ⟨_, List.getElem?_eq_getElem hil⟩
      obtain ⟨b, off, rfl, hbl, -, hcx⟩ := HL.out.at_ i x hx
      have hxs : x.size ≤ 1000000 := HZ.out x (List.mem_of_getElem? hx)
      have hcell : w.cell? ⟨b, off + i * 1, none⟩ = some (.string x) := hcx 0 _ rfl
      rw [Nat.mul_one] at hcell
      have HTK : Hid (joinS (l.take (i + 1)) = joinS (l.take i) ++ x.data.toList) := Lib.hid (by rw [List.take_add_one, hx]; simp [joinS])
      have hos2 : o.size ≤ 1000000000 := by omega
      clear hcx hx
      go_wp2
      go_round
      case rel => exact ⟨i + 1, o ++ x, by omega, by go_num, rfl, by rw [ba_append, HO.out, HTK.out], by rw [ByteArray.size_append]; omega⟩
      case measure => simp [intOf]; omega
    · have hin : i = l.length := by omega
      subst hin
      go_wp2
      go_ret
      have h1 : o = ⟨(joinS l).toArray⟩ := ByteArray.ext (Array.toList_inj.1 (by rw [HO.out, List.take_length]))
      exact ⟨congrArg (fun o => Ending.returned (Value.string o)) h1, rfl⟩

theorem exec_addS {o : Oper} {a : Act} {W : World} (x y : Operand) (ho : o.op = .binOp .add 9 x y 9) {s t : ByteArray} (hx : a.eval x = .string s) (hy : a.eval y = .string t) (hz : s.size + t.size ≤ 9223372036854775807) :
    (execOp a.eval o).run Tryz.prog W = .ok (.value (.string (s ++ t))) W := by
  unfold execOp
  simp only [ho, hx, hy]
  have hlt : ¬ 9223372036854775807 < s.size + t.size := by omega
  go_simp
/-- A header's bytes, as the document tells them. -/
def rhdrB (h : RH) : List UInt8 :=
  numB h.height.toNat ++ numB h.miner.toNat ++ textB h.ticket ++ (numB h.wins.toNat ++ numB (IntKind.i64.wrap h.power).toNat ++ numB h.parents.length) ++ joinS h.parents ++ numB h.salt.toNat
/-- A header that may be told. -/
structure TellH (h : RH) : Prop where
  height : I64 h.height
  miner : I64 h.miner
  wins : I64 h.wins
  salt : I64 h.salt
  ticket : h.ticket.size ≤ 1000
  parents : h.parents.length ≤ 100
  names : ∀ s ∈ h.parents, s.size ≤ 1000
structure BytS (w W : World) (x : LRH) (ok : Nat → Prop) : Prop where
  box : W.heap[w.heap.size]? = some (.cells x.cells.toArray 53 (0, 0))
  at_ : x.At ok W
  below : Below w.heap.size w W
theorem BytS.next {w W W' : World} {x : LRH} {ok : Nat → Prop} (h : BytS w W x ok) (hb : Below W.heap.size W W') : BytS w W' x ok where
  box := (hb.block _ (Array.getElem?_eq_some_iff.1 h.box).1).trans h.box
  at_ := Sl.below h.at_ hb
  below := h.below.trans (hb.mono h.below.size)
theorem numS_size (x : Nat) : (⟨(numB x).toArray⟩ : ByteArray).size ≤ 9 := by
  show (numB x).toArray.size ≤ 9
  have := numB_length x
  simpa using this

set_option maxRecDepth 100000 in
set_option maxHeartbeats 2000000 in
theorem rbytes_any (w : World) (x : LRH) (ok : Nat → Prop) (hx : x.At ok w) (hok : TellH x.h) :
    Calls Tryz.prog 169 #[.agg x.cells.toArray] w fun e w' => e = .returned (.string ⟨(rhdrB x.h).toArray⟩) ∧ Below w.heap.size w w' := by
  obtain ⟨⟨height, miner, ticket, wins, power, parents, salt⟩, A, c⟩ := x
  have HS0 : Hid (BytS w (w.alloc (.cells (LRH.cells ⟨⟨height, miner, ticket, wins, power, parents, salt⟩, A, c⟩).toArray 53)) ⟨⟨height, miner, ticket, wins, power, parents, salt⟩, A, c⟩ ok) := Lib.hid ⟨heap_alloc_new w _, Sl.below hx ((Below.refl _ w).alloc (Nat.le_refl _) _), (Below.refl _ w).alloc (Nat.le_refl _) _⟩
  have HOK := Lib.hid hok
  have htk : ticket.size ≤ 1000 := hok.ticket
  obtain ⟨s1, h1⟩ : ∃ s : ByteArray, (⟨(numB height.toNat).toArray⟩ : ByteArray) = s := ⟨_, rfl⟩
  obtain ⟨s2, h2⟩ : ∃ s : ByteArray, (⟨(numB miner.toNat).toArray⟩ : ByteArray) = s := ⟨_, rfl⟩
  obtain ⟨s3, h3⟩ : ∃ s : ByteArray, (⟨(textB ticket).toArray⟩ : ByteArray) = s := ⟨_, rfl⟩
  obtain ⟨s4, h4⟩ : ∃ s : ByteArray, (⟨(numB wins.toNat).toArray⟩ : ByteArray) = s := ⟨_, rfl⟩
  obtain ⟨s5, h5⟩ : ∃ s : ByteArray, (⟨(numB (IntKind.i64.wrap power).toNat).toArray⟩ : ByteArray) = s := ⟨_, rfl⟩
  obtain ⟨s6, h6⟩ : ∃ s : ByteArray, (⟨(numB parents.length).toArray⟩ : ByteArray) = s := ⟨_, rfl⟩
  obtain ⟨s8, h8⟩ : ∃ s : ByteArray, (⟨(numB salt.toNat).toArray⟩ : ByteArray) = s := ⟨_, rfl⟩
  have z1 : s1.size ≤ 9 := by rw [← h1]; exact numS_size _
  have z2 : s2.size ≤ 9 := by rw [← h2]; exact numS_size _
  have z4 : s4.size ≤ 9 := by rw [← h4]; exact numS_size _
  have z5 : s5.size ≤ 9 := by rw [← h5]; exact numS_size _
  have z6 : s6.size ≤ 9 := by rw [← h6]; exact numS_size _
  have z8 : s8.size ≤ 9 := by rw [← h8]; exact numS_size _
  have z3 : s3.size ≤ 1009 := by
    rw [← h3]
    show (textB ticket).toArray.size ≤ 1009
    have := numB_length ticket.size
    have h0 : ticket.data.toList.length = ticket.size := by simp
    rw [List.size_toArray, textB, List.length_append, h0]
    omega
  have HC1 : Hid (∀ W, Calls Tryz.prog 152 #[.int .i64 height] W fun e w' => e = .returned (.string s1) ∧ Below W.heap.size W w') := Lib.hid fun W => by rw [← h1]; exact rnum_any W _ hok.height.1 hok.height.2
  have HC2 : Hid (∀ W, Calls Tryz.prog 152 #[.int .i64 miner] W fun e w' => e = .returned (.string s2) ∧ Below W.heap.size W w') := Lib.hid fun W => by rw [← h2]; exact rnum_any W _ hok.miner.1 hok.miner.2
  have HC3 : Hid (∀ W, Calls Tryz.prog 153 #[.string ticket] W fun e w' => e = .returned (.string s3) ∧ Below W.heap.size W w') := Lib.hid fun W => by rw [← h3]; exact rtext_any W _ (by omega)
  have HC4 : Hid (∀ W, Calls Tryz.prog 152 #[.int .i64 wins] W fun e w' => e = .returned (.string s4) ∧ Below W.heap.size W w') := Lib.hid fun W => by rw [← h4]; exact rnum_any W _ hok.wins.1 hok.wins.2
  have HC5 : Hid (∀ W, Calls Tryz.prog 152 #[.int .i64 (IntKind.i64.wrap power)] W fun e w' => e = .returned (.string s5) ∧ Below W.heap.size W w') := Lib.hid fun W => by rw [← h5]; exact rnum_any W _ (by simp [IntKind.wrap, IntKind.bits, IntKind.signed]; omega) (by simp [IntKind.wrap, IntKind.bits, IntKind.signed]; omega)
  have HC6 : Hid (∀ W, Calls Tryz.prog 152 #[.int .i64 (parents.length : Int)] W fun e w' => e = .returned (.string s6) ∧ Below W.heap.size W w') := Lib.hid fun W => by
    have := rnum_any W (parents.length : Int) (by omega) (by have : parents.length ≤ 100 := hok.parents; omega)
    rw [Int.toNat_natCast, h6] at this
    exact this
  have HC8 : Hid (∀ W, Calls Tryz.prog 152 #[.int .i64 salt] W fun e w' => e = .returned (.string s8) ∧ Below W.heap.size W w') := Lib.hid fun W => by rw [← h8]; exact rnum_any W _ hok.salt.1 hok.salt.2
  have HB := Lib.hid (show (rhdrB ⟨height, miner, ticket, wins, power, parents, salt⟩) = s1.data.toList ++ s2.data.toList ++ s3.data.toList ++ (s4.data.toList ++ s5.data.toList ++ s6.data.toList) ++ joinS parents ++ s8.data.toList by
    rw [← h1, ← h2, ← h3, ← h4, ← h5, ← h6, ← h8]; simp [rhdrB])
  clear h1 h2 h3 h4 h5 h6 h8 hx hok
  go_enter Tryz.func169, Tryz.ntmps169
  go_upto_region 1 with fail
  change Code.wp _ _ _ _ (w.alloc (.cells (LRH.cells ⟨⟨height, miner, ticket, wins, power, parents, salt⟩, A, c⟩).toArray 53))
  generalize w.alloc (.cells (LRH.cells ⟨⟨height, miner, ticket, wins, power, parents, salt⟩, A, c⟩).toArray 53) = W0 at HS0 ⊢
  have HS1 := Lib.hid (HS0.out.next (Below.refl _ W0).drew)
  refine st_ (S := (fun W' => BytS w W' ⟨⟨height, miner, ticket, wins, power, parents, salt⟩, A, c⟩ ok)) 12 #[false, false, false, false, false, false, false, false, false, false, false, false] (by kernel_rfl) rfl (by rfl) HS1.out (fun hHeld => ?_)
  refine tk_ 0 (some 6) #[true, false, false, false, false, false, false, false, false, false, false, false] (v := ?_) (a' := ?_) rfl rfl (by kernel_rfl) (fun _ _ _ h => h) (yieldsIf_run rfl ?_) hHeld ?_ ?_
  rotate_left
  · intro w'
    go_simp
    with_reducible rfl
  rotate_left
  · simp only [Act.put, List.setIfInBounds_toArray, List.set_cons_zero, List.set_cons_succ]
    rfl
  refine tk_ 1 (some 7) #[true, true, false, false, false, false, false, false, false, false, false, false] rfl rfl (by kernel_rfl) (fun _ _ _ h => h) (yieldsIf_cell rfl 3 (.tmp 6) rfl ⟨w.heap.size, 0, none⟩ rfl (.int .i64 height) _ (fun W' h => cell_block h.box rfl) Tryz.underlying3 rfl) hHeld (a' := ?_) ?_ ?_
  rotate_left
  · simp only [Act.put, List.setIfInBounds_toArray, List.set_cons_zero, List.set_cons_succ]
    rfl
  refine tk_ 3 (some 9) #[true, true, false, true, false, false, false, false, false, false, false, false] (v := ?_) (a' := ?_) rfl rfl (by kernel_rfl) (fun _ _ _ h => h) (yieldsIf_run rfl ?_) hHeld ?_ ?_
  rotate_left
  · intro w'
    go_simp
    with_reducible rfl
  rotate_left
  · simp only [Act.put, List.setIfInBounds_toArray, List.set_cons_zero, List.set_cons_succ]
    rfl
  refine tk_ 4 (some 10) #[true, true, false, true, true, false, false, false, false, false, false, false] rfl rfl (by kernel_rfl) (fun _ _ _ h => h) (yieldsIf_cell rfl 3 (.tmp 9) rfl ⟨w.heap.size, 1, none⟩ rfl (.int .i64 miner) _ (fun W' h => cell_block h.box rfl) Tryz.underlying3 rfl) hHeld (a' := ?_) ?_ ?_
  rotate_left
  · simp only [Act.put, List.setIfInBounds_toArray, List.set_cons_zero, List.set_cons_succ]
    rfl
  refine tk_ 7 (some 13) #[true, true, false, true, true, false, false, true, false, false, false, false] (v := ?_) (a' := ?_) rfl rfl (by kernel_rfl) (fun _ _ _ h => h) (yieldsIf_run rfl ?_) hHeld ?_ ?_
  rotate_left
  · intro w'
    go_simp
    with_reducible rfl
  rotate_left
  · simp only [Act.put, List.setIfInBounds_toArray, List.set_cons_zero, List.set_cons_succ]
    rfl
  refine tk_ 8 (some 14) #[true, true, false, true, true, false, false, true, true, false, false, false] rfl rfl (by kernel_rfl) (fun _ _ _ h => h) (yieldsIf_cell rfl 9 (.tmp 13) rfl ⟨w.heap.size, 2, none⟩ rfl (.string ticket) _ (fun W' h => cell_block h.box rfl) Tryz.underlying9 rfl) hHeld (a' := ?_) ?_ ?_
  rotate_left
  · simp only [Act.put, List.setIfInBounds_toArray, List.set_cons_zero, List.set_cons_succ]
    rfl
  refine call_ 2 (some 8) #[true, true, true, true, true, false, false, true, true, false, false, false] rfl rfl (by kernel_rfl) rfl 152 _ (by kernel_rfl) (HC1.out _) ?_
  rintro e w1 ⟨rfl, hb1⟩
  refine ⟨_, rfl, hHeld.next hb1, fun hHeld => ⟨?_, ?_, ?_⟩⟩
  rotate_left
  · simp only [Act.put, List.setIfInBounds_toArray, List.set_cons_zero, List.set_cons_succ]
    rfl
  refine call_ 5 (some 11) #[true, true, true, true, true, true, false, true, true, false, false, false] rfl rfl (by kernel_rfl) rfl 152 _ (by kernel_rfl) (HC2.out _) ?_
  rintro e w2 ⟨rfl, hb2⟩
  refine ⟨_, rfl, hHeld.next hb2, fun hHeld => ⟨?_, ?_, ?_⟩⟩
  rotate_left
  · simp only [Act.put, List.setIfInBounds_toArray, List.set_cons_zero, List.set_cons_succ]
    rfl
  refine tk_ 6 (some 12) #[true, true, true, true, true, true, true, true, true, false, false, false] rfl rfl (by kernel_rfl) (fun _ _ _ h => h) (yieldsIf_of (v := .string (s1 ++ s2)) rfl fun W' _ => exec_addS (.tmp 8) (.tmp 11) rfl rfl rfl (by omega)) hHeld (a' := ?_) ?_ ?_
  rotate_left
  · simp only [Act.put, List.setIfInBounds_toArray, List.set_cons_zero, List.set_cons_succ]
    rfl
  refine call_ 9 (some 15) #[true, true, true, true, true, true, true, true, true, true, false, false] rfl rfl (by kernel_rfl) rfl 153 _ (by kernel_rfl) (HC3.out _) ?_
  rintro e w3 ⟨rfl, hb3⟩
  refine ⟨_, rfl, hHeld.next hb3, fun hHeld => ⟨?_, ?_, ?_⟩⟩
  rotate_left
  · simp only [Act.put, List.setIfInBounds_toArray, List.set_cons_zero, List.set_cons_succ]
    rfl
  refine tk_ 10 (some 16) #[true, true, true, true, true, true, true, true, true, true, true, false] rfl rfl (by kernel_rfl) (fun _ _ _ h => h) (yieldsIf_of (v := .string (s1 ++ s2 ++ s3)) rfl fun W' _ => exec_addS (.tmp 12) (.tmp 15) rfl rfl rfl (by rw [ByteArray.size_append]; omega)) hHeld (a' := ?_) ?_ ?_
  rotate_left
  · simp only [Act.put, List.setIfInBounds_toArray, List.set_cons_zero, List.set_cons_succ]
    rfl
  refine tk_ 11 (some 3) #[true, true, true, true, true, true, true, true, true, true, true, true] (v := ?_) (a' := ?_) rfl rfl (by kernel_rfl) (fun _ _ _ h => h) (yieldsIf_run rfl ?_) hHeld ?_ ?_
  rotate_left
  · intro w'
    go_simp
    with_reducible rfl
  rotate_left
  · simp only [Act.put, List.setIfInBounds_toArray, List.set_cons_zero, List.set_cons_succ]
    rfl
  refine wpAnyH_done (by kernel_rfl) ?_ _
  change Exit.then _ _ _ _ _
  have HS3 := Lib.hid (hHeld.next (Below.refl _ _).drew)
  obtain ⟨sa, hsa⟩ : ∃ s, s1 ++ s2 ++ s3 = s := ⟨_, rfl⟩
  have za : sa.size ≤ 1100 := by rw [← hsa, ByteArray.size_append, ByteArray.size_append]; omega
  rw [hsa]
  have HSA : Hid (sa.data.toList = s1.data.toList ++ s2.data.toList ++ s3.data.toList) := Lib.hid (by rw [← hsa, ba_append, ba_append])
  clear hsa z1 z2 z3
  go_upto_region 2 with fail
  refine st_ (S := (fun W' => BytS w W' ⟨⟨height, miner, ticket, wins, power, parents, salt⟩, A, c⟩ ok)) 16 #[false, false, false, false, false, false, false, false, false, false, false, false, false, false, false, false] (by kernel_rfl) rfl (by rfl) HS3.out (fun hHeld => ?_)
  refine tk_ 0 (some 17) #[true, false, false, false, false, false, false, false, false, false, false, false, false, false, false, false] (v := ?_) (a' := ?_) rfl rfl (by kernel_rfl) (fun _ _ _ h => h) (yieldsIf_run rfl ?_) hHeld ?_ ?_
  rotate_left
  · intro w'
    go_simp
    with_reducible rfl
  rotate_left
  · simp only [Act.put, List.setIfInBounds_toArray, List.set_cons_zero, List.set_cons_succ]
    rfl
  refine tk_ 1 (some 18) #[true, true, false, false, false, false, false, false, false, false, false, false, false, false, false, false] (v := ?_) (a' := ?_) rfl rfl (by kernel_rfl) (fun _ _ _ h => h) (yieldsIf_run rfl ?_) hHeld ?_ ?_
  rotate_left
  · intro w'
    go_simp
    with_reducible rfl
  rotate_left
  · simp only [Act.put, List.setIfInBounds_toArray, List.set_cons_zero, List.set_cons_succ]
    rfl
  refine tk_ 2 (some 19) #[true, true, true, false, false, false, false, false, false, false, false, false, false, false, false, false] rfl rfl (by kernel_rfl) (fun _ _ _ h => h) (yieldsIf_cell rfl 3 (.tmp 18) rfl ⟨w.heap.size, 3, none⟩ rfl (.int .i64 wins) _ (fun W' h => cell_block h.box rfl) Tryz.underlying3 rfl) hHeld (a' := ?_) ?_ ?_
  rotate_left
  · simp only [Act.put, List.setIfInBounds_toArray, List.set_cons_zero, List.set_cons_succ]
    rfl
  refine tk_ 4 (some 21) #[true, true, true, false, true, false, false, false, false, false, false, false, false, false, false, false] (v := ?_) (a' := ?_) rfl rfl (by kernel_rfl) (fun _ _ _ h => h) (yieldsIf_run rfl ?_) hHeld ?_ ?_
  rotate_left
  · intro w'
    go_simp
    with_reducible rfl
  rotate_left
  · simp only [Act.put, List.setIfInBounds_toArray, List.set_cons_zero, List.set_cons_succ]
    rfl
  refine tk_ 5 (some 22) #[true, true, true, false, true, true, false, false, false, false, false, false, false, false, false, false] rfl rfl (by kernel_rfl) (fun _ _ _ h => h) (yieldsIf_cell rfl 35 (.tmp 21) rfl ⟨w.heap.size, 4, none⟩ rfl (.int .u64 power) _ (fun W' h => cell_block h.box rfl) Tryz.underlying35 rfl) hHeld (a' := ?_) ?_ ?_
  rotate_left
  · simp only [Act.put, List.setIfInBounds_toArray, List.set_cons_zero, List.set_cons_succ]
    rfl
  refine tk_ 6 (some 23) #[true, true, true, false, true, true, true, false, false, false, false, false, false, false, false, false] rfl rfl (by kernel_rfl) (fun _ _ _ h => h) (yieldsIf_of (v := .int .i64 (IntKind.i64.wrap power)) rfl fun W' _ => by kernel_rfl) hHeld (a' := ?_) ?_ ?_
  rotate_left
  · simp only [Act.put, List.setIfInBounds_toArray, List.set_cons_zero, List.set_cons_succ]
    rfl
  refine tk_ 9 (some 26) #[true, true, true, false, true, true, true, false, false, true, false, false, false, false, false, false] (v := ?_) (a' := ?_) rfl rfl (by kernel_rfl) (fun _ _ _ h => h) (yieldsIf_run rfl ?_) hHeld ?_ ?_
  rotate_left
  · intro w'
    go_simp
    with_reducible rfl
  rotate_left
  · simp only [Act.put, List.setIfInBounds_toArray, List.set_cons_zero, List.set_cons_succ]
    rfl
  refine tk_ 10 (some 27) #[true, true, true, false, true, true, true, false, false, true, true, false, false, false, false, false] rfl rfl (by kernel_rfl) (fun _ _ _ h => h) (yieldsIf_cell rfl 51 (.tmp 26) rfl ⟨w.heap.size, 5, none⟩ rfl (.slice A parents.length c) _ (fun W' h => cell_block h.box rfl) Tryz.underlying51 rfl) hHeld (a' := ?_) ?_ ?_
  rotate_left
  · simp only [Act.put, List.setIfInBounds_toArray, List.set_cons_zero, List.set_cons_succ]
    rfl
  refine tk_ 11 (some 28) #[true, true, true, false, true, true, true, false, false, true, true, true, false, false, false, false] (v := ?_) (a' := ?_) rfl rfl (by kernel_rfl) (fun _ _ _ h => h) (yieldsIf_run rfl ?_) hHeld ?_ ?_
  rotate_left
  · intro w'
    go_simp
    with_reducible rfl
  rotate_left
  · simp only [Act.put, List.setIfInBounds_toArray, List.set_cons_zero, List.set_cons_succ]
    rfl
  refine call_ 3 (some 20) #[true, true, true, true, true, true, true, false, false, true, true, true, false, false, false, false] rfl rfl (by kernel_rfl) rfl 152 _ (by kernel_rfl) (HC4.out _) ?_
  rintro e w4 ⟨rfl, hb4⟩
  refine ⟨_, rfl, hHeld.next hb4, fun hHeld => ⟨?_, ?_, ?_⟩⟩
  rotate_left
  · simp only [Act.put, List.setIfInBounds_toArray, List.set_cons_zero, List.set_cons_succ]
    rfl
  refine call_ 7 (some 24) #[true, true, true, true, true, true, true, true, false, true, true, true, false, false, false, false] rfl rfl (by kernel_rfl) rfl 152 _ (by kernel_rfl) (HC5.out _) ?_
  rintro e w5 ⟨rfl, hb5⟩
  refine ⟨_, rfl, hHeld.next hb5, fun hHeld => ⟨?_, ?_, ?_⟩⟩
  rotate_left
  · simp only [Act.put, List.setIfInBounds_toArray, List.set_cons_zero, List.set_cons_succ]
    rfl
  refine tk_ 8 (some 25) #[true, true, true, true, true, true, true, true, true, true, true, true, false, false, false, false] rfl rfl (by kernel_rfl) (fun _ _ _ h => h) (yieldsIf_of (v := .string (s4 ++ s5)) rfl fun W' _ => exec_addS (.tmp 20) (.tmp 24) rfl rfl rfl (by omega)) hHeld (a' := ?_) ?_ ?_
  rotate_left
  · simp only [Act.put, List.setIfInBounds_toArray, List.set_cons_zero, List.set_cons_succ]
    rfl
  refine call_ 12 (some 29) #[true, true, true, true, true, true, true, true, true, true, true, true, true, false, false, false] rfl rfl (by kernel_rfl) rfl 152 _ (by kernel_rfl) (HC6.out _) ?_
  rintro e w6 ⟨rfl, hb6⟩
  refine ⟨_, rfl, hHeld.next hb6, fun hHeld => ⟨?_, ?_, ?_⟩⟩
  rotate_left
  · simp only [Act.put, List.setIfInBounds_toArray, List.set_cons_zero, List.set_cons_succ]
    rfl
  refine tk_ 13 (some 30) #[true, true, true, true, true, true, true, true, true, true, true, true, true, true, false, false] rfl rfl (by kernel_rfl) (fun _ _ _ h => h) (yieldsIf_of (v := .string (s4 ++ s5 ++ s6)) rfl fun W' _ => exec_addS (.tmp 25) (.tmp 29) rfl rfl rfl (by rw [ByteArray.size_append]; omega)) hHeld (a' := ?_) ?_ ?_
  rotate_left
  · simp only [Act.put, List.setIfInBounds_toArray, List.set_cons_zero, List.set_cons_succ]
    rfl
  refine tk_ 14 (some 31) #[true, true, true, true, true, true, true, true, true, true, true, true, true, true, true, false] rfl rfl (by kernel_rfl) (fun _ _ _ h => h) (yieldsIf_of (v := .string (sa ++ (s4 ++ s5 ++ s6))) rfl fun W' _ => exec_addS (.tmp 17) (.tmp 30) rfl rfl rfl (by rw [ByteArray.size_append, ByteArray.size_append]; omega)) hHeld (a' := ?_) ?_ ?_
  rotate_left
  · simp only [Act.put, List.setIfInBounds_toArray, List.set_cons_zero, List.set_cons_succ]
    rfl
  refine tk_ 15 (some 3) #[true, true, true, true, true, true, true, true, true, true, true, true, true, true, true, true] (v := ?_) (a' := ?_) rfl rfl (by kernel_rfl) (fun _ _ _ h => h) (yieldsIf_run rfl ?_) hHeld ?_ ?_
  rotate_left
  · intro w'
    go_simp
    with_reducible rfl
  rotate_left
  · simp only [Act.put, List.setIfInBounds_toArray, List.set_cons_zero, List.set_cons_succ]
    rfl
  refine wpAnyH_done (by kernel_rfl) ?_ _
  change Exit.then _ _ _ _ _
  have HS6 := Lib.hid hHeld
  obtain ⟨sb, hsb⟩ : ∃ s, sa ++ (s4 ++ s5 ++ s6) = s := ⟨_, rfl⟩
  have zb : sb.size ≤ 1200 := by rw [← hsb, ByteArray.size_append, ByteArray.size_append, ByteArray.size_append]; omega
  rw [hsb]
  have HSB : Hid (sb.data.toList = s1.data.toList ++ s2.data.toList ++ s3.data.toList ++ (s4.data.toList ++ s5.data.toList ++ s6.data.toList)) := Lib.hid (by rw [← hsb, ba_append, ba_append, ba_append, HSA.out])
  clear hsb za z4 z5 z6 hHeld
  have hpl : parents.length ≤ 100 := HOK.out.parents
  have hnm : ∀ s ∈ parents, s.size ≤ 1000 := HOK.out.names
  have HNM := Lib.hid hnm
  clear hnm
  have hc5 : w6.cell? ⟨w.heap.size, 5, none⟩ = some (.slice A parents.length c) := cell_block HS6.out.box rfl
  have hc6 : w6.cell? ⟨w.heap.size, 6, none⟩ = some (.int .i64 salt) := cell_block HS6.out.box rfl
  have HAT : Hid (Sl strE ok w6 (.slice A parents.length c) parents) := Lib.hid HS6.out.at_
  obtain ⟨-, hcl, hcm⟩ := HAT.out.len
  go_wp2
  go_loop [3, 35] (fun c3 c8 => ∃ (i : Nat) (o : ByteArray), i ≤ parents.length ∧ c8 = .int .i64 (i : Int) ∧ c3 = .string o ∧ o.data.toList = sb.data.toList ++ joinS (parents.take i) ∧ o.size ≤ 1200 + 1000 * i) (fun _ c8 => parents.length - (intOf c8).toNat)
  case atStart => exact ⟨0, sb, by omega, rfl, rfl, by simp [joinS], by omega⟩
  case round =>
    obtain ⟨i, o, hi, rfl, rfl, ho, hos⟩ := hrel
    have HO := Lib.hid ho
    clear ho
    by_cases hil : i < parents.length
    · obtain ⟨x, hx⟩ : ∃ x, parents[i]? = some x := ⟨_, List.getElem?_eq_getElem hil⟩
      obtain ⟨b, off, rfl, hbl, -, hcx⟩ := HAT.out.at_ i x hx
      have hxs : x.size ≤ 1000 := HNM.out x (List.mem_of_getElem? hx)
      have hcell : w6.cell? ⟨b, off + i * 1, none⟩ = some (.string x) := hcx 0 _ rfl
      rw [Nat.mul_one] at hcell
      have HTK : Hid (joinS (parents.take (i + 1)) = joinS (parents.take i) ++ x.data.toList) := Lib.hid (by rw [List.take_add_one, hx]; simp [joinS])
      have hos2 : o.size ≤ 1000000 := by omega
      clear hcx hx
      go_wp2
      go_round
      case rel => exact ⟨i + 1, o ++ x, by omega, by go_num, rfl, by rw [ba_append, HO.out, HTK.out, List.append_assoc], by rw [ByteArray.size_append]; omega⟩
      case measure => simp [intOf]; omega
    · have hin : i = parents.length := by omega
      subst hin
      have hos2 : o.size ≤ 1000000 := by omega
      go_wp2_with (go_at_call 152; refine (HC8.out _).mono ?_; rintro e w8 ⟨rfl, hb8⟩)
      go_ret
      have h1 : o ++ s8 = ⟨(rhdrB ⟨height, miner, ticket, wins, power, parents, salt⟩).toArray⟩ := ByteArray.ext (Array.toList_inj.1 (by rw [ba_append, HO.out, List.take_length, HSB.out, HB.out]))
      exact ⟨congrArg (fun o => Ending.returned (Value.string o)) h1, HS6.out.below.trans (hb8.mono HS6.out.below.size)⟩
end Go.Proofs.YthpcedficlhanaaGreatDoor
namespace Go.Proofs.YthpcedficlhanaaGreatDoor

/-- One bit to the right, n times. -/
def turnN (x : Nat) : Nat → Nat
  | 0 => x
  | n + 1 => turnN x n / 2 + turnN x n % 2 * 2147483648
def downN (x : Nat) : Nat → Nat
  | 0 => x
  | n + 1 => downN x n / 2
theorem downN_eq (x n : Nat) : downN x n = x / 2 ^ n := by
  induction n with
  | zero => simp [downN]
  | succ n ih => rw [downN, ih, Nat.div_div_eq_div_mul, Nat.pow_succ]
theorem turnN_eq (x n : Nat) (hn : n ≤ 32) : turnN x n = x / 2 ^ n + x % 2 ^ n * 2 ^ (32 - n) := by
  induction n with
  | zero => simp [turnN, Nat.mod_one]
  | succ n ih =>
    have e1 : 32 - n = (31 - n) + 1 := by omega
    have e2 : 32 - (n + 1) = 31 - n := by omega
    have e3 : 2 ^ n * 2 ^ (31 - n) = 2147483648 := by rw [← Nat.pow_add, show n + (31 - n) = 31 by omega]
    have e4 : x / 2 ^ (n + 1) = x / 2 ^ n / 2 := by rw [Nat.pow_succ, Nat.div_div_eq_div_mul]
    have e5 : x % 2 ^ (n + 1) = x % 2 ^ n + 2 ^ n * (x / 2 ^ n % 2) := by rw [Nat.pow_succ]; exact Nat.mod_mul
    rw [turnN, ih (by omega), e1, e2, e4, e5, Nat.pow_succ, Nat.add_mul, Nat.mul_right_comm (2 ^ n), e3, ← Nat.mul_assoc]
    generalize x / 2 ^ n = q
    generalize x % 2 ^ n * 2 ^ (31 - n) = r
    omega
theorem turnN_rotr (x n : Nat) (hx : x < 4294967296) (hn : n < 32) : turnN x n = rotr x n := by
  have e0 : (4294967296 : Nat) = 2 ^ n * 2 ^ (32 - n) := by rw [← Nat.pow_add, show n + (32 - n) = 32 by omega]
  have e : x * 2 ^ (32 - n) % 4294967296 = 2 ^ (32 - n) * (x % 2 ^ n) := by
    rw [e0, Nat.mul_mod_mul_right, Nat.mul_comm]
  rw [turnN_eq x n (by omega), rotr, e, ← Nat.two_pow_add_eq_or_of_lt (Nat.div_lt_of_lt_mul (by rw [← e0]; exact hx)), Nat.add_comm, Nat.mul_comm]
theorem turnN_lt (x n : Nat) (hx : x < 4294967296) : turnN x n < 4294967296 := by
  induction n with
  | zero => exact hx
  | succ n ih => rw [turnN]; omega
theorem downN_lt (x n : Nat) (hx : x < 4294967296) : downN x n < 4294967296 := by rw [downN_eq]; exact Nat.lt_of_le_of_lt (Nat.div_le_self _ _) hx

theorem xor_all (e : Nat) (h : e < 4294967296) : 4294967295 ^^^ e = 4294967295 - e := by
  refine Nat.eq_of_testBit_eq fun i => ?_
  have h1 : 4294967295 - e = 2 ^ 32 - (e + 1) := by omega
  rw [h1, Nat.testBit_two_pow_sub_succ (n := 32) h, Nat.testBit_xor, show 4294967295 = 2 ^ 32 - 1 from rfl, Nat.testBit_two_pow_sub_one]
  by_cases hi : i < 32
  · simp [hi]
  · have : e.testBit i = false := Nat.testBit_lt_two_pow (Nat.lt_of_lt_of_le h (Nat.pow_le_pow_right (n := 2) (by decide) (by omega : 32 ≤ i)))
    simp [hi, this]

/-- The bytes of a word, at a place, the greatest first: j of them. -/
def partW (s : List UInt8) (o : Nat) : Nat → Nat
  | 0 => 0
  | j + 1 => partW s o j * 256 + byteD s (o + j)
theorem partW_lt (s : List UInt8) (o j : Nat) : partW s o j < 256 ^ j := by
  induction j with
  | zero => simp [partW]
  | succ j ih =>
    have := byteD_lt s (o + j)
    rw [partW, Nat.pow_succ]
    generalize 256 ^ j = p at *
    omega
theorem wordF_sum (s : List UInt8) (i : Nat) : wordF s i = partW s (4 * i) 4 := by
  have h0 := byteD_lt s (4 * i); have h1 := byteD_lt s (4 * i + 1); have h2 := byteD_lt s (4 * i + 2); have h3 := byteD_lt s (4 * i + 3)
  simp only [wordF, partW, Nat.add_zero]
  generalize byteD s (4 * i) = a at *
  generalize byteD s (4 * i + 1) = b at *
  generalize byteD s (4 * i + 2) = c at *
  generalize byteD s (4 * i + 3) = d at *
  have e1 : a * 16777216 ||| b * 65536 = 2 ^ 24 * a + b * 65536 := by
    have := Nat.two_pow_add_eq_or_of_lt (i := 24) (b := b * 65536) (by omega) a
    rw [show a * 16777216 = 2 ^ 24 * a by omega]
    exact this.symm
  have e2 : (2 ^ 24 * a + b * 65536) ||| c * 256 = 2 ^ 16 * (256 * a + b) + c * 256 := by
    have := Nat.two_pow_add_eq_or_of_lt (i := 16) (b := c * 256) (by omega) (256 * a + b)
    rw [show 2 ^ 24 * a + b * 65536 = 2 ^ 16 * (256 * a + b) by omega]
    exact this.symm
  have e3 : (2 ^ 16 * (256 * a + b) + c * 256) ||| d = 2 ^ 8 * (65536 * a + 256 * b + c) + d := by
    have := Nat.two_pow_add_eq_or_of_lt (i := 8) (b := d) (by omega) (65536 * a + 256 * b + c)
    rw [show 2 ^ 16 * (256 * a + b) + c * 256 = 2 ^ 8 * (65536 * a + 256 * b + c) by omega]
    exact this.symm
  rw [e1, e2, e3]
  omega
theorem byteD_at (s : List UInt8) (at_ k : Nat) (hk : k < 64) : byteD ((s.drop at_).take 64) k = byteD s (at_ + k) := by
  simp only [byteD, List.getD_eq_getElem?_getD]
  rw [List.getElem?_take_of_lt hk, List.getElem?_drop]
theorem wordF_at (s : List UInt8) (at_ i : Nat) (hi : i < 16) : wordF ((s.drop at_).take 64) i = partW s (at_ + 4 * i) 4 := by
  rw [wordF_sum]
  simp only [partW, Nat.add_zero]
  rw [byteD_at s at_ _ (by omega), byteD_at s at_ _ (by omega), byteD_at s at_ _ (by omega), byteD_at s at_ _ (by omega)]
  simp only [Nat.add_assoc]

theorem nextW_eq (l : List Nat) (i : Nat) : nextW l i = (l.getD (i - 16) 0 + sig0 (l.getD (i - 15) 0) + l.getD (i - 7) 0 + sig1 (l.getD (i - 2) 0)) % 4294967296 := by
  unfold nextW addW; omega
theorem tF_eq (k w : Nat) (x : W8) : tF k w x = (x.h + sigE x.e + chF x.e x.f x.g + k + w) % 4294967296 := by
  unfold tF addW; omega
theorem chF_eq (e f g : Nat) (h : e < 4294967296) : chF e f g = (e &&& f) ^^^ ((4294967295 - e) &&& g) := by rw [chF, xor_all e h]

/-- A word's four bytes. -/
def four (x : Nat) : List UInt8 := [UInt8.ofNat (x / 16777216), UInt8.ofNat (x / 65536), UInt8.ofNat (x / 256), UInt8.ofNat (x / 1)]
theorem outF_four (h : W8) : outF h = h.l.flatMap four := rfl
theorem foldB_snoc : ∀ (k : Nat) (h : W8) (l : List UInt8), foldB (k + 1) h l = mixF (foldB k h l) ((l.drop (64 * k)).take 64)
  | 0, h, l => by simp [foldB]
  | k + 1, h, l => by
    rw [foldB, foldB_snoc k, foldB, List.drop_drop]
    congr 3
    omega
end Go.Proofs.YthpcedficlhanaaGreatDoor
namespace Go.Proofs.YthpcedficlhanaaGreatDoor
open Go.RowKit

set_option maxRecDepth 100000 in
set_option maxHeartbeats 1000000 in
theorem rturn_any (w : World) (x n : Nat) (hx : x < 4294967296) (hn : n ≤ 32) :
    Calls Tryz.prog 201 #[.int .u64 (x : Int), .int .i64 (n : Int)] w fun e w' => e = .returned (.int .u64 (turnN x n : Nat)) ∧ w = w' := by
  have HX := Lib.hid hx
  clear hx
  go_enter Tryz.func201, Tryz.ntmps201
  go_wp2
  go_loop [0, 5] (fun v i => ∃ k : Nat, k ≤ n ∧ i = .int .i64 k ∧ v = .int .u64 (turnN x k : Nat)) (fun _ i => n - (intOf i).toNat)
  case atStart => exact ⟨0, Nat.zero_le _, rfl, rfl⟩
  case round =>
    obtain ⟨k, hk, rfl, rfl⟩ := hrel
    obtain ⟨y, hy⟩ : ∃ y, turnN x k = y := ⟨_, rfl⟩
    have hyl : y < 4294967296 := by rw [← hy]; exact turnN_lt x k HX.out
    have HS : Hid (turnN x (k + 1) = y / 2 + y % 2 * 2147483648) := Lib.hid (by rw [← hy]; rfl)
    rw [hy]
    have HY := Lib.hid hy
    clear hy
    by_cases hlt : k < n
    · go_wp2
      go_round
      case rel => exact ⟨k + 1, by omega, by go_num, by rw [HS.out]; congr 1⟩
      case measure => simp [intOf]; omega
    · have HKN : Hid (k = n) := Lib.hid (by omega)
      go_wp2
      go_ret
      exact ⟨by rw [← HKN.out, HY.out]; rfl, rfl⟩

set_option maxRecDepth 100000 in
set_option maxHeartbeats 1000000 in
theorem rdown_any (w : World) (x n : Nat) (hx : x < 4294967296) (hn : n ≤ 32) :
    Calls Tryz.prog 202 #[.int .u64 (x : Int), .int .i64 (n : Int)] w fun e w' => e = .returned (.int .u64 (downN x n : Nat)) ∧ w = w' := by
  have HX := Lib.hid hx
  clear hx
  go_enter Tryz.func202, Tryz.ntmps202
  go_wp2
  go_loop [0, 5] (fun v i => ∃ k : Nat, k ≤ n ∧ i = .int .i64 k ∧ v = .int .u64 (downN x k : Nat)) (fun _ i => n - (intOf i).toNat)
  case atStart => exact ⟨0, Nat.zero_le _, rfl, rfl⟩
  case round =>
    obtain ⟨k, hk, rfl, rfl⟩ := hrel
    obtain ⟨y, hy⟩ : ∃ y, downN x k = y := ⟨_, rfl⟩
    have hyl : y < 4294967296 := by rw [← hy]; exact downN_lt x k HX.out
    have HS : Hid (downN x (k + 1) = y / 2) := Lib.hid (by rw [← hy]; rfl)
    rw [hy]
    have HY := Lib.hid hy
    clear hy
    by_cases hlt : k < n
    · go_wp2
      go_round
      case rel => exact ⟨k + 1, by omega, by go_num, by rw [HS.out]; congr 1⟩
      case measure => simp [intOf]; omega
    · have HKN : Hid (k = n) := Lib.hid (by omega)
      go_wp2
      go_ret
      exact ⟨by rw [← HKN.out, HY.out]; rfl, rfl⟩
end Go.Proofs.YthpcedficlhanaaGreatDoor
