/- coxswainref01.Text; coxswainref05.Join, Bytes. Regions that draw their order: two operations of which either may come first. No program in sight. Regions that draw their order: the last operations wait for the first through others. No program in sight. tipset.New, in one contract; what it answers for blocks in another order. -/
import Derived.Test.YthpcedficlhanaaGreatDoorGrAO
namespace Go.Proofs.YthpcedficlhanaaGreatDoor
open Go.RowKit

theorem str_add (a b : List UInt8) : (⟨a.toArray⟩ : ByteArray) ++ ⟨b.toArray⟩ = ⟨(a ++ b).toArray⟩ := ByteArray.ext (Array.toList_inj.1 (by simp))
theorem str_of (s : ByteArray) : s = ⟨s.data.toList.toArray⟩ := ByteArray.ext (by simp)

set_option maxRecDepth 100000 in
set_option maxHeartbeats 2000000 in
theorem rtext_any (w : World) (s : ByteArray) (hs : s.size ≤ 1099511627776) :
    Calls Tryz.prog 153 #[.string s] w fun e w' => e = .returned (.string ⟨(textB s).toArray⟩) ∧ Below w.heap.size w w' := by
  obtain ⟨nb, hnb⟩ : ∃ nb, numB s.size = nb := ⟨_, rfl⟩
  have hnl : nb.length ≤ 9 := by rw [← hnb]; exact numB_length _
  have HN := Lib.hid (rnum_any w (s.size : Int) (by omega) (by omega))
  rw [Int.toNat_natCast, hnb] at HN
  have HNB := Lib.hid hnb
  clear hnb
  have hz : (⟨nb.toArray⟩ : ByteArray).size ≤ 9 := by show nb.toArray.size ≤ 9; simpa using hnl
  go_enter Tryz.func153, Tryz.ntmps153
  go_wp2_with (go_at_call 152; refine HN.out.mono ?_; rintro e w1 ⟨rfl, hb1⟩)
  go_ret
  refine ⟨?_, hb1⟩
  have h1 : (⟨nb.toArray⟩ : ByteArray) ++ s = ⟨(textB s).toArray⟩ := by
    conv => lhs; rw [str_of s]
    rw [str_add, textB, HNB.out]
  exact congrArg (fun o => Ending.returned (Value.string o)) h1

/-- Texts, one behind the other. -/
def joinS (l : List ByteArray) : List UInt8 := l.flatMap fun s => s.data.toList
set_option maxRecDepth 100000 in
set_option maxHeartbeats 2000000 in
theorem rjoin_any (w : World) (v : Value) (l : List ByteArray) (ok : Nat → Prop) (hl : Sl strE ok w v l) (hlen : l.length ≤ 1000) (hz : ∀ s ∈ l, s.size ≤ 1000000) :
    Calls Tryz.prog 53 #[v] w fun e w' => e = .returned (.string ⟨(joinS l).toArray⟩) ∧ w = w' := by
  obtain ⟨A, c, rfl, hc, hm⟩ := hl.form
  have HL := Lib.hid hl
  have HZ := Lib.hid hz
  clear hl hz
  go_enter Tryz.func53, Tryz.ntmps53
  go_wp2
  go_loop [3, 8] (fun c3 c8 => ∃ (i : Nat) (o : ByteArray), i ≤ l.length ∧ c8 = .int .i64 (i : Int) ∧ c3 = .string o ∧ o.data.toList = joinS (l.take i) ∧ o.size ≤ 1000000 * i) (fun _ c8 => l.length - (intOf c8).toNat)
  case atStart => exact ⟨0, ⟨#[]⟩, by omega, rfl, rfl, rfl, by show (0 : Nat) ≤ _; omega⟩
  case round =>
    obtain ⟨i, o, hi, rfl, rfl, ho, hos⟩ := hrel
    have HO := Lib.hid ho
    clear ho
    by_cases hil : i < l.length
    · obtain ⟨x, hx⟩ : ∃ x, l[i]? = some x := ⟨_, List.getElem?_eq_getElem hil⟩
      obtain ⟨b, off, rfl, hbl, -, hcx⟩ := HL.out.at_ i x hx
      have hxs : x.size ≤ 1000000 := HZ.out x (List.mem_of_getElem? hx)
      have hcell : w.cell? ⟨b, off + i * 1, none⟩ = some (.string x) := hcx 0 _ rfl
      rw [Nat.mul_one] at hcell
      have HTK : Hid (joinS (l.take (i + 1)) = joinS (l.take i) ++ x.data.toList) := Lib.hid (by rw [List.take_add_one, hx]; simp [joinS])
      have hos2 : o.size ≤ 1000000000 := by omega
      clear hcx hx
      go_wp2
      go_round
      case rel => exact ⟨i + 1, o ++ x, by omega, by go_num, rfl, by rw [ba_append, HO.out, HTK.out], by rw [ByteArray.size_append]; omega⟩
      case measure => simp [intOf]; omega
    · have hin : i = l.length := by omega
      subst hin
      go_wp2
      go_ret
      have h1 : o = ⟨(joinS l).toArray⟩ := ByteArray.ext (Array.toList_inj.1 (by rw [HO.out, List.take_length]))
      exact ⟨congrArg (fun o => Ending.returned (Value.string o)) h1, rfl⟩

theorem exec_addS {o : Oper} {a : Act} {W : World} (x y : Operand) (ho : o.op = .binOp .add 9 x y 9) {s t : ByteArray} (hx : a.eval x = .string s) (hy : a.eval y = .string t) (hz : s.size + t.size ≤ 9223372036854775807) :
    (execOp a.eval o).run Tryz.prog W = .ok (.value (.string (s ++ t))) W := by
  unfold execOp
  simp only [ho, hx, hy]
  have hlt : ¬ 9223372036854775807 < s.size + t.size := by omega
  go_simp
/-- A header's bytes, as the document tells them. -/
def rhdrB (h : RH) : List UInt8 :=
  numB h.height.toNat ++ numB h.miner.toNat ++ textB h.ticket ++ (numB h.wins.toNat ++ numB (IntKind.i64.wrap h.power).toNat ++ numB h.parents.length) ++ joinS h.parents ++ numB h.salt.toNat
/-- A header that may be told. -/
structure TellH (h : RH) : Prop where
  height : I64 h.height
  miner : I64 h.miner
  wins : I64 h.wins
  salt : I64 h.salt
  ticket : h.ticket.size ≤ 1000
  parents : h.parents.length ≤ 100
  names : ∀ s ∈ h.parents, s.size ≤ 1000
structure BytS (w W : World) (x : LRH) (ok : Nat → Prop) : Prop where
  box : W.heap[w.heap.size]? = some (.cells x.cells.toArray 53 (0, 0))
  at_ : x.At ok W
  below : Below w.heap.size w W
theorem BytS.next {w W W' : World} {x : LRH} {ok : Nat → Prop} (h : BytS w W x ok) (hb : Below W.heap.size W W') : BytS w W' x ok where
  box := (hb.block _ (Array.getElem?_eq_some_iff.1 h.box).1).trans h.box
  at_ := Sl.below h.at_ hb
  below := h.below.trans (hb.mono h.below.size)
theorem numS_size (x : Nat) : (⟨(numB x).toArray⟩ : ByteArray).size ≤ 9 := by
  show (numB x).toArray.size ≤ 9
  have := numB_length x
  simpa using this

set_option maxRecDepth 100000 in
set_option maxHeartbeats 2000000 in
theorem rbytes_any (w : World) (x : LRH) (ok : Nat → Prop) (hx : x.At ok w) (hok : TellH x.h) :
    Calls Tryz.prog 169 #[.agg x.cells.toArray] w fun e w' => e = .returned (.string ⟨(rhdrB x.h).toArray⟩) ∧ Below w.heap.size w w' := by
  obtain ⟨⟨height, miner, ticket, wins, power, parents, salt⟩, A, c⟩ := x
  have HS0 : Hid (BytS w (w.alloc (.cells (LRH.cells ⟨⟨height, miner, ticket, wins, power, parents, salt⟩, A, c⟩).toArray 53)) ⟨⟨height, miner, ticket, wins, power, parents, salt⟩, A, c⟩ ok) := Lib.hid ⟨heap_alloc_new w _, Sl.below hx ((Below.refl _ w).alloc (Nat.le_refl _) _), (Below.refl _ w).alloc (Nat.le_refl _) _⟩
  have HOK := Lib.hid hok
  have htk : ticket.size ≤ 1000 := hok.ticket
  obtain ⟨s1, h1⟩ : ∃ s : ByteArray, (⟨(numB height.toNat).toArray⟩ : ByteArray) = s := ⟨_, rfl⟩
  obtain ⟨s2, h2⟩ : ∃ s : ByteArray, (⟨(numB miner.toNat).toArray⟩ : ByteArray) = s := ⟨_, rfl⟩
  obtain ⟨s3, h3⟩ : ∃ s : ByteArray, (⟨(textB ticket).toArray⟩ : ByteArray) = s := ⟨_, rfl⟩
  obtain ⟨s4, h4⟩ : ∃ s : ByteArray, (⟨(numB wins.toNat).toArray⟩ : ByteArray) = s := ⟨_, rfl⟩
  obtain ⟨s5, h5⟩ : ∃ s : ByteArray, (⟨(numB (IntKind.i64.wrap power).toNat).toArray⟩ : ByteArray) = s := ⟨_, rfl⟩
  obtain ⟨s6, h6⟩ : ∃ s : ByteArray, (⟨(numB parents.length).toArray⟩ : ByteArray) = s := ⟨_, rfl⟩
  obtain ⟨s8, h8⟩ : ∃ s : ByteArray, (⟨(numB salt.toNat).toArray⟩ : ByteArray) = s := ⟨_, rfl⟩
  have z1 : s1.size ≤ 9 := by rw [← h1]; exact numS_size _
  have z2 : s2.size ≤ 9 := by rw [← h2]; exact numS_size _
  have z4 : s4.size ≤ 9 := by rw [← h4]; exact numS_size _
  have z5 : s5.size ≤ 9 := by rw [← h5]; exact numS_size _
  have z6 : s6.size ≤ 9 := by rw [← h6]; exact numS_size _
  have z8 : s8.size ≤ 9 := by rw [← h8]; exact numS_size _
  have z3 : s3.size ≤ 1009 := by
    rw [← h3]
    show (textB ticket).toArray.size ≤ 1009
    have := numB_length ticket.size
    have h0 : ticket.data.toList.length = ticket.size := by simp
    rw [List.size_toArray, textB, List.length_append, h0]
    omega
  have HC1 : Hid (∀ W, Calls Tryz.prog 152 #[.int .i64 height] W fun e w' => e = .returned (.string s1) ∧ Below W.heap.size W w') := Lib.hid fun W => by rw [← h1]; exact rnum_any W _ hok.height.1 hok.height.2
  have HC2 : Hid (∀ W, Calls Tryz.prog 152 #[.int .i64 miner] W fun e w' => e = .returned (.string s2) ∧ Below W.heap.size W w') := Lib.hid fun W => by rw [← h2]; exact rnum_any W _ hok.miner.1 hok.miner.2
  have HC3 : Hid (∀ W, Calls Tryz.prog 153 #[.string ticket] W fun e w' => e = .returned (.string s3) ∧ Below W.heap.size W w') := Lib.hid fun W => by rw [← h3]; exact rtext_any W _ (by omega)
  have HC4 : Hid (∀ W, Calls Tryz.prog 152 #[.int .i64 wins] W fun e w' => e = .returned (.string s4) ∧ Below W.heap.size W w') := Lib.hid fun W => by rw [← h4]; exact rnum_any W _ hok.wins.1 hok.wins.2
  have HC5 : Hid (∀ W, Calls Tryz.prog 152 #[.int .i64 (IntKind.i64.wrap power)] W fun e w' => e = .returned (.string s5) ∧ Below W.heap.size W w') := Lib.hid fun W => by rw [← h5]; exact rnum_any W _ (by simp [IntKind.wrap, IntKind.bits, IntKind.signed]; omega) (by simp [IntKind.wrap, IntKind.bits, IntKind.signed]; omega)
  have HC6 : Hid (∀ W, Calls Tryz.prog 152 #[.int .i64 (parents.length : Int)] W fun e w' => e = .returned (.string s6) ∧ Below W.heap.size W w') := Lib.hid fun W => by
    have := rnum_any W (parents.length : Int) (by omega) (by have : parents.length ≤ 100 := hok.parents; omega)
    rw [Int.toNat_natCast, h6] at this
    exact this
  have HC8 : Hid (∀ W, Calls Tryz.prog 152 #[.int .i64 salt] W fun e w' => e = .returned (.string s8) ∧ Below W.heap.size W w') := Lib.hid fun W => by rw [← h8]; exact rnum_any W _ hok.salt.1 hok.salt.2
  have HB := Lib.hid (show (rhdrB ⟨height, miner, ticket, wins, power, parents, salt⟩) = s1.data.toList ++ s2.data.toList ++ s3.data.toList ++ (s4.data.toList ++ s5.data.toList ++ s6.data.toList) ++ joinS parents ++ s8.data.toList by
    rw [← h1, ← h2, ← h3, ← h4, ← h5, ← h6, ← h8]; simp [rhdrB])
  clear h1 h2 h3 h4 h5 h6 h8 hx hok
  go_enter Tryz.func169, Tryz.ntmps169
  go_upto_region 1 with fail
  change Code.wp _ _ _ _ (w.alloc (.cells (LRH.cells ⟨⟨height, miner, ticket, wins, power, parents, salt⟩, A, c⟩).toArray 53))
  generalize w.alloc (.cells (LRH.cells ⟨⟨height, miner, ticket, wins, power, parents, salt⟩, A, c⟩).toArray 53) = W0 at HS0 ⊢
  have HS1 := Lib.hid (HS0.out.next (Below.refl _ W0).drew)
  refine st_ (S := (fun W' => BytS w W' ⟨⟨height, miner, ticket, wins, power, parents, salt⟩, A, c⟩ ok)) 12 #[false, false, false, false, false, false, false, false, false, false, false, false] (by kernel_rfl) rfl (by rfl) HS1.out (fun hHeld => ?_)
  refine tk_ 0 (some 6) #[true, false, false, false, false, false, false, false, false, false, false, false] (v := ?_) (a' := ?_) rfl rfl (by kernel_rfl) (fun _ _ _ h => h) (yieldsIf_run rfl ?_) hHeld ?_ ?_
  rotate_left
  · intro w'
    go_simp
    with_reducible rfl
  rotate_left
  · simp only [Act.put, List.setIfInBounds_toArray, List.set_cons_zero, List.set_cons_succ]
    rfl
  refine tk_ 1 (some 7) #[true, true, false, false, false, false, false, false, false, false, false, false] rfl rfl (by kernel_rfl) (fun _ _ _ h => h) (yieldsIf_cell rfl 3 (.tmp 6) rfl ⟨w.heap.size, 0, none⟩ rfl (.int .i64 height) _ (fun W' h => cell_block h.box rfl) Tryz.underlying3 rfl) hHeld (a' := ?_) ?_ ?_
  rotate_left
  · simp only [Act.put, List.setIfInBounds_toArray, List.set_cons_zero, List.set_cons_succ]
    rfl
  refine tk_ 3 (some 9) #[true, true, false, true, false, false, false, false, false, false, false, false] (v := ?_) (a' := ?_) rfl rfl (by kernel_rfl) (fun _ _ _ h => h) (yieldsIf_run rfl ?_) hHeld ?_ ?_
  rotate_left
  · intro w'
    go_simp
    with_reducible rfl
  rotate_left
  · simp only [Act.put, List.setIfInBounds_toArray, List.set_cons_zero, List.set_cons_succ]
    rfl
  refine tk_ 4 (some 10) #[true, true, false, true, true, false, false, false, false, false, false, false] rfl rfl (by kernel_rfl) (fun _ _ _ h => h) (yieldsIf_cell rfl 3 (.tmp 9) rfl ⟨w.heap.size, 1, none⟩ rfl (.int .i64 miner) _ (fun W' h => cell_block h.box rfl) Tryz.underlying3 rfl) hHeld (a' := ?_) ?_ ?_
  rotate_left
  · simp only [Act.put, List.setIfInBounds_toArray, List.set_cons_zero, List.set_cons_succ]
    rfl
  refine tk_ 7 (some 13) #[true, true, false, true, true, false, false, true, false, false, false, false] (v := ?_) (a' := ?_) rfl rfl (by kernel_rfl) (fun _ _ _ h => h) (yieldsIf_run rfl ?_) hHeld ?_ ?_
  rotate_left
  · intro w'
    go_simp
    with_reducible rfl
  rotate_left
  · simp only [Act.put, List.setIfInBounds_toArray, List.set_cons_zero, List.set_cons_succ]
    rfl
  refine tk_ 8 (some 14) #[true, true, false, true, true, false, false, true, true, false, false, false] rfl rfl (by kernel_rfl) (fun _ _ _ h => h) (yieldsIf_cell rfl 9 (.tmp 13) rfl ⟨w.heap.size, 2, none⟩ rfl (.string ticket) _ (fun W' h => cell_block h.box rfl) Tryz.underlying9 rfl) hHeld (a' := ?_) ?_ ?_
  rotate_left
  · simp only [Act.put, List.setIfInBounds_toArray, List.set_cons_zero, List.set_cons_succ]
    rfl
  refine call_ 2 (some 8) #[true, true, true, true, true, false, false, true, true, false, false, false] rfl rfl (by kernel_rfl) rfl 152 _ (by kernel_rfl) (HC1.out _) ?_
  rintro e w1 ⟨rfl, hb1⟩
  refine ⟨_, rfl, hHeld.next hb1, fun hHeld => ⟨?_, ?_, ?_⟩⟩
  rotate_left
  · simp only [Act.put, List.setIfInBounds_toArray, List.set_cons_zero, List.set_cons_succ]
    rfl
  refine call_ 5 (some 11) #[true, true, true, true, true, true, false, true, true, false, false, false] rfl rfl (by kernel_rfl) rfl 152 _ (by kernel_rfl) (HC2.out _) ?_
  rintro e w2 ⟨rfl, hb2⟩
  refine ⟨_, rfl, hHeld.next hb2, fun hHeld => ⟨?_, ?_, ?_⟩⟩
  rotate_left
  · simp only [Act.put, List.setIfInBounds_toArray, List.set_cons_zero, List.set_cons_succ]
    rfl
  refine tk_ 6 (some 12) #[true, true, true, true, true, true, true, true, true, false, false, false] rfl rfl (by kernel_rfl) (fun _ _ _ h => h) (yieldsIf_of (v := .string (s1 ++ s2)) rfl fun W' _ => exec_addS (.tmp 8) (.tmp 11) rfl rfl rfl (by omega)) hHeld (a' := ?_) ?_ ?_
  rotate_left
  · simp only [Act.put, List.setIfInBounds_toArray, List.set_cons_zero, List.set_cons_succ]
    rfl
  refine call_ 9 (some 15) #[true, true, true, true, true, true, true, true, true, true, false, false] rfl rfl (by kernel_rfl) rfl 153 _ (by kernel_rfl) (HC3.out _) ?_
  rintro e w3 ⟨rfl, hb3⟩
  refine ⟨_, rfl, hHeld.next hb3, fun hHeld => ⟨?_, ?_, ?_⟩⟩
  rotate_left
  · simp only [Act.put, List.setIfInBounds_toArray, List.set_cons_zero, List.set_cons_succ]
    rfl
  refine tk_ 10 (some 16) #[true, true, true, true, true, true, true, true, true, true, true, false] rfl rfl (by kernel_rfl) (fun _ _ _ h => h) (yieldsIf_of (v := .string (s1 ++ s2 ++ s3)) rfl fun W' _ => exec_addS (.tmp 12) (.tmp 15) rfl rfl rfl (by rw [ByteArray.size_append]; omega)) hHeld (a' := ?_) ?_ ?_
  rotate_left
  · simp only [Act.put, List.setIfInBounds_toArray, List.set_cons_zero, List.set_cons_succ]
    rfl
  refine tk_ 11 (some 3) #[true, true, true, true, true, true, true, true, true, true, true, true] (v := ?_) (a' := ?_) rfl rfl (by kernel_rfl) (fun _ _ _ h => h) (yieldsIf_run rfl ?_) hHeld ?_ ?_
  rotate_left
  · intro w'
    go_simp
    with_reducible rfl
  rotate_left
  · simp only [Act.put, List.setIfInBounds_toArray, List.set_cons_zero, List.set_cons_succ]
    rfl
  refine wpAnyH_done (by kernel_rfl) ?_ _
  change Exit.then _ _ _ _ _
  have HS3 := Lib.hid (hHeld.next (Below.refl _ _).drew)
  obtain ⟨sa, hsa⟩ : ∃ s, s1 ++ s2 ++ s3 = s := ⟨_, rfl⟩
  have za : sa.size ≤ 1100 := by rw [← hsa, ByteArray.size_append, ByteArray.size_append]; omega
  rw [hsa]
  have HSA : Hid (sa.data.toList = s1.data.toList ++ s2.data.toList ++ s3.data.toList) := Lib.hid (by rw [← hsa, ba_append, ba_append])
  clear hsa z1 z2 z3
  go_upto_region 2 with fail
  refine st_ (S := (fun W' => BytS w W' ⟨⟨height, miner, ticket, wins, power, parents, salt⟩, A, c⟩ ok)) 16 #[false, false, false, false, false, false, false, false, false, false, false, false, false, false, false, false] (by kernel_rfl) rfl (by rfl) HS3.out (fun hHeld => ?_)
  refine tk_ 0 (some 17) #[true, false, false, false, false, false, false, false, false, false, false, false, false, false, false, false] (v := ?_) (a' := ?_) rfl rfl (by kernel_rfl) (fun _ _ _ h => h) (yieldsIf_run rfl ?_) hHeld ?_ ?_
  rotate_left
  · intro w'
    go_simp
    with_reducible rfl
  rotate_left
  · simp only [Act.put, List.setIfInBounds_toArray, List.set_cons_zero, List.set_cons_succ]
    rfl
  refine tk_ 1 (some 18) #[true, true, false, false, false, false, false, false, false, false, false, false, false, false, false, false] (v := ?_) (a' := ?_) rfl rfl (by kernel_rfl) (fun _ _ _ h => h) (yieldsIf_run rfl ?_) hHeld ?_ ?_
  rotate_left
  · intro w'
    go_simp
    with_reducible rfl
  rotate_left
  · simp only [Act.put, List.setIfInBounds_toArray, List.set_cons_zero, List.set_cons_succ]
    rfl
  refine tk_ 2 (some 19) #[true, true, true, false, false, false, false, false, false, false, false, false, false, false, false, false] rfl rfl (by kernel_rfl) (fun _ _ _ h => h) (yieldsIf_cell rfl 3 (.tmp 18) rfl ⟨w.heap.size, 3, none⟩ rfl (.int .i64 wins) _ (fun W' h => cell_block h.box rfl) Tryz.underlying3 rfl) hHeld (a' := ?_) ?_ ?_
  rotate_left
  · simp only [Act.put, List.setIfInBounds_toArray, List.set_cons_zero, List.set_cons_succ]
    rfl
  refine tk_ 4 (some 21) #[true, true, true, false, true, false, false, false, false, false, false, false, false, false, false, false] (v := ?_) (a' := ?_) rfl rfl (by kernel_rfl) (fun _ _ _ h => h) (yieldsIf_run rfl ?_) hHeld ?_ ?_
  rotate_left
  · intro w'
    go_simp
    with_reducible rfl
  rotate_left
  · simp only [Act.put, List.setIfInBounds_toArray, List.set_cons_zero, List.set_cons_succ]
    rfl
  refine tk_ 5 (some 22) #[true, true, true, false, true, true, false, false, false, false, false, false, false, false, false, false] rfl rfl (by kernel_rfl) (fun _ _ _ h => h) (yieldsIf_cell rfl 35 (.tmp 21) rfl ⟨w.heap.size, 4, none⟩ rfl (.int .u64 power) _ (fun W' h => cell_block h.box rfl) Tryz.underlying35 rfl) hHeld (a' := ?_) ?_ ?_
  rotate_left
  · simp only [Act.put, List.setIfInBounds_toArray, List.set_cons_zero, List.set_cons_succ]
    rfl
  refine tk_ 6 (some 23) #[true, true, true, false, true, true, true, false, false, false, false, false, false, false, false, false] rfl rfl (by kernel_rfl) (fun _ _ _ h => h) (yieldsIf_of (v := .int .i64 (IntKind.i64.wrap power)) rfl fun W' _ => by kernel_rfl) hHeld (a' := ?_) ?_ ?_
  rotate_left
  · simp only [Act.put, List.setIfInBounds_toArray, List.set_cons_zero, List.set_cons_succ]
    rfl
  refine tk_ 9 (some 26) #[true, true, true, false, true, true, true, false, false, true, false, false, false, false, false, false] (v := ?_) (a' := ?_) rfl rfl (by kernel_rfl) (fun _ _ _ h => h) (yieldsIf_run rfl ?_) hHeld ?_ ?_
  rotate_left
  · intro w'
    go_simp
    with_reducible rfl
  rotate_left
  · simp only [Act.put, List.setIfInBounds_toArray, List.set_cons_zero, List.set_cons_succ]
    rfl
  refine tk_ 10 (some 27) #[true, true, true, false, true, true, true, false, false, true, true, false, false, false, false, false] rfl rfl (by kernel_rfl) (fun _ _ _ h => h) (yieldsIf_cell rfl 51 (.tmp 26) rfl ⟨w.heap.size, 5, none⟩ rfl (.slice A parents.length c) _ (fun W' h => cell_block h.box rfl) Tryz.underlying51 rfl) hHeld (a' := ?_) ?_ ?_
  rotate_left
  · simp only [Act.put, List.setIfInBounds_toArray, List.set_cons_zero, List.set_cons_succ]
    rfl
  refine tk_ 11 (some 28) #[true, true, true, false, true, true, true, false, false, true, true, true, false, false, false, false] (v := ?_) (a' := ?_) rfl rfl (by kernel_rfl) (fun _ _ _ h => h) (yieldsIf_run rfl ?_) hHeld ?_ ?_
  rotate_left
  · intro w'
    go_simp
    with_reducible rfl
  rotate_left
  · simp only [Act.put, List.setIfInBounds_toArray, List.set_cons_zero, List.set_cons_succ]
    rfl
  refine call_ 3 (some 20) #[true, true, true, true, true, true, true, false, false, true, true, true, false, false, false, false] rfl rfl (by kernel_rfl) rfl 152 _ (by kernel_rfl) (HC4.out _) ?_
  rintro e w4 ⟨rfl, hb4⟩
  refine ⟨_, rfl, hHeld.next hb4, fun hHeld => ⟨?_, ?_, ?_⟩⟩
  rotate_left
  · simp only [Act.put, List.setIfInBounds_toArray, List.set_cons_zero, List.set_cons_succ]
    rfl
  refine call_ 7 (some 24) #[true, true, true, true, true, true, true, true, false, true, true, true, false, false, false, false] rfl rfl (by kernel_rfl) rfl 152 _ (by kernel_rfl) (HC5.out _) ?_
  rintro e w5 ⟨rfl, hb5⟩
  refine ⟨_, rfl, hHeld.next hb5, fun hHeld => ⟨?_, ?_, ?_⟩⟩
  rotate_left
  · simp only [Act.put, List.setIfInBounds_toArray, List.set_cons_zero, List.set_cons_succ]
    rfl
  refine tk_ 8 (some 25) #[true, true, true, true, true, true, true, true, true, true, true, true, false, false, false, false] rfl rfl (by kernel_rfl) (fun _ _ _ h => h) (yieldsIf_of (v := .string (s4 ++ s5)) rfl fun W' _ => exec_addS (.tmp 20) (.tmp 24) rfl rfl rfl (by omega)) hHeld (a' := ?_) ?_ ?_
  rotate_left
  · simp only [Act.put, List.setIfInBounds_toArray, List.set_cons_zero, List.set_cons_succ]
    rfl
  refine call_ 12 (some 29) #[true, true, true, true, true, true, true, true, true, true, true, true, true, false, false, false] rfl rfl (by kernel_rfl) rfl 152 _ (by kernel_rfl) (HC6.out _) ?_
  rintro e w6 ⟨rfl, hb6⟩
  refine ⟨_, rfl, hHeld.next hb6, fun hHeld => ⟨?_, ?_, ?_⟩⟩
  rotate_left
  · simp only [Act.put, List.setIfInBounds_toArray, List.set_cons_zero, List.set_cons_succ]
    rfl
  refine tk_ 13 (some 30) #[true, true, true, true, true, true, true, true, true, true, true, true, true, true, false, false] rfl rfl (by kernel_rfl) (fun _ _ _ h => h) (yieldsIf_of (v := .string (s4 ++ s5 ++ s6)) rfl fun W' _ => exec_addS (.tmp 25) (.tmp 29) rfl rfl rfl (by rw [ByteArray.size_append]; omega)) hHeld (a' := ?_) ?_ ?_
  rotate_left
  · simp only [Act.put, List.setIfInBounds_toArray, List.set_cons_zero, List.set_cons_succ]
    rfl
  refine tk_ 14 (some 31) #[true, true, true, true, true, true, true, true, true, true, true, true, true, true, true, false] rfl rfl (by kernel_rfl) (fun _ _ _ h => h) (yieldsIf_of (v := .string (sa ++ (s4 ++ s5 ++ s6))) rfl fun W' _ => exec_addS (.tmp 17) (.tmp 30) rfl rfl rfl (by rw [ByteArray.size_append, ByteArray.size_append]; omega)) hHeld (a' := ?_) ?_ ?_
  rotate_left
  · simp only [Act.put, List.setIfInBounds_toArray, List.set_cons_zero, List.set_cons_succ]
    rfl
  refine tk_ 15 (some 3) #[true, true, true, true, true, true, true, true, true, true, true, true, true, true, true, true] (v := ?_) (a' := ?_) rfl rfl (by kernel_rfl) (fun _ _ _ h => h) (yieldsIf_run rfl ?_) hHeld ?_ ?_
  rotate_left
  · intro w'
    go_simp
    with_reducible rfl
  rotate_left
  · simp only [Act.put, List.setIfInBounds_toArray, List.set_cons_zero, List.set_cons_succ]
    rfl
  refine wpAnyH_done (by kernel_rfl) ?_ _
  change Exit.then _ _ _ _ _
  have HS6 := Lib.hid hHeld
  obtain ⟨sb, hsb⟩ : ∃ s, sa ++ (s4 ++ s5 ++ s6) = s := ⟨_, rfl⟩
  have zb : sb.size ≤ 1200 := by rw [← hsb, ByteArray.size_append, ByteArray.size_append, ByteArray.size_append]; omega
  rw [hsb]
  have HSB : Hid (sb.data.toList = s1.data.toList ++ s2.data.toList ++ s3.data.toList ++ (s4.data.toList ++ s5.data.toList ++ s6.data.toList)) := Lib.hid (by rw [← hsb, ba_append, ba_append, ba_append, HSA.out])
  clear hsb za z4 z5 z6 hHeld
  have hpl : parents.length ≤ 100 := HOK.out.parents
  have hnm : ∀ s ∈ parents, s.size ≤ 1000 := HOK.out.names
  have HNM := Lib.hid hnm
  clear hnm
  have hc5 : w6.cell? ⟨w.heap.size, 5, none⟩ = some (.slice A parents.length c) := cell_block HS6.out.box rfl
  have hc6 : w6.cell? ⟨w.heap.size, 6, none⟩ = some (.int .i64 salt) := cell_block HS6.out.box rfl
  have HAT : Hid (Sl strE ok w6 (.slice A parents.length c) parents) := Lib.hid HS6.out.at_
  obtain ⟨-, hcl, hcm⟩ := HAT.out.len
  go_wp2
  go_loop [3, 35] (fun c3 c8 => ∃ (i : Nat) (o : ByteArray), i ≤ parents.length ∧ c8 = .int .i64 (i : Int) ∧ c3 = .string o ∧ o.data.toList = sb.data.toList ++ joinS (parents.take i) ∧ o.size ≤ 1200 + 1000 * i) (fun _ c8 => parents.length - (intOf c8).toNat)
  case atStart => exact ⟨0, sb, by omega, rfl, rfl, by simp [joinS], by omega⟩
  case round =>
    obtain ⟨i, o, hi, rfl, rfl, ho, hos⟩ := hrel
    have HO := Lib.hid ho
    clear ho
    by_cases hil : i < parents.length
    · obtain ⟨x, hx⟩ : ∃ x, parents[i]? = some x := ⟨_, List.getElem?_eq_getElem hil⟩
      obtain ⟨b, off, rfl, hbl, -, hcx⟩ := HAT.out.at_ i x hx
      have hxs : x.size ≤ 1000 := HNM.out x (List.mem_of_getElem? hx)
      have hcell : w6.cell? ⟨b, off + i * 1, none⟩ = some (.string x) := hcx 0 _ rfl
      rw [Nat.mul_one] at hcell
      have HTK : Hid (joinS (parents.take (i + 1)) = joinS (parents.take i) ++ x.data.toList) := Lib.hid (by rw [List.take_add_one, hx]; simp [joinS])
      have hos2 : o.size ≤ 1000000 := by omega
      clear hcx hx
      go_wp2
      go_round
      case rel => exact ⟨i + 1, o ++ x, by omega, by go_num, rfl, by rw [ba_append, HO.out, HTK.out, List.append_assoc], by rw [ByteArray.size_append]; omega⟩
      case measure => simp [intOf]; omega
    · have hin : i = parents.length := by omega
      subst hin
      have hos2 : o.size ≤ 1000000 := by omega
      go_wp2_with (go_at_call 152; refine (HC8.out _).mono ?_; rintro e w8 ⟨rfl, hb8⟩)
      go_ret
      have h1 : o ++ s8 = ⟨(rhdrB ⟨height, miner, ticket, wins, power, parents, salt⟩).toArray⟩ := ByteArray.ext (Array.toList_inj.1 (by rw [ba_append, HO.out, List.take_length, HSB.out, HB.out]))
      exact ⟨congrArg (fun o => Ending.returned (Value.string o)) h1, HS6.out.below.trans (hb8.mono HS6.out.below.size)⟩
end Go.Proofs.YthpcedficlhanaaGreatDoor
namespace Go.Proofs.YthpcedficlhanaaGreatDoor
open Go.RowKit

section
variable {P : Program} {ops : Array Oper} {Q : Exit → Act → World → Prop} {md : Region.Mode} {S : World → Prop} {ds : List Nat}
theorem forkD_ (i j : Nat) {fuel : Nat} {l : Array Bool} {a : Act} {w : World} (hc : decide (Region.ready md ops l = [i, j]) = true)
    (h1 : wpOp P ops Q i (fun a' w' => (i ∉ ds → S w') ∧ wpD P md ops Q S ds fuel (l.setIfInBounds i true) a' w') a w)
    (h2 : wpOp P ops Q j (fun a' w' => (j ∉ ds → S w') ∧ wpD P md ops Q S ds fuel (l.setIfInBounds j true) a' w') a w) : wpD P md ops Q S ds (fuel + 1) l a w := by
  have hc := of_decide_eq_true hc
  refine ⟨fun h0 => (by rw [hc] at h0; cases h0), fun k hk => ?_⟩
  rw [hc] at hk
  rcases List.mem_cons.1 hk with rfl | hk
  · exact h1
  · obtain rfl : k = j := by simpa using hk
    exact h2
theorem normD_ {fuel : Nat} {l l' : Array Bool} {a a' : Act} {w : World} (hl : l = l') (ha : a = a') (h : wpD P md ops Q S ds fuel l' a' w) : wpD P md ops Q S ds fuel l a w := by
  subst hl; subst ha; exact h
theorem fcallD_ (i : Nat) (N : Option Tmp) (l' : Array Bool) {o : Oper} {fuel : Nat} {l : Array Bool} {a : Act} {w : World} (ho : ops[i]? = some o) (hN : o.dst = N) (hl : l.setIfInBounds i true = l') (hw : Region.wanted o (yielded ops a.tmps) = true)
    (f : FuncId) (args : Array Value) (h : (execOp a.eval o).run P w = .ok (.enter f args) w) {R : Ending → World → Prop} (hc : Calls P f args w R)
    (hK : ∀ e w', R e w' → ∃ v, e = .returned v ∧ (i ∉ ds → S w') ∧ ∃ a', a.put N v = a' ∧ wpD P md ops Q S ds fuel l' a' w') :
    wpOp P ops Q i (fun a' w' => (i ∉ ds → S w') ∧ wpD P md ops Q S ds fuel (l.setIfInBounds i true) a' w') a w := by
  subst hN
  subst hl
  refine wpOp_call ho hw f args h hc fun e w' hr => ?_
  obtain ⟨v, he, hs, a', ha, hk⟩ := hK e w' hr
  exact ⟨v, he, hs, ha ▸ hk⟩
theorem fvalD_ (i : Nat) (N : Option Tmp) (l' : Array Bool) {o : Oper} {fuel : Nat} {l : Array Bool} {a : Act} {w : World} (ho : ops[i]? = some o) (hN : o.dst = N) (hl : l.setIfInBounds i true = l') (hw : Region.wanted o (yielded ops a.tmps) = true)
    (v : Value) (w1 : World) (h : (execOp a.eval o).run P w = .ok (.value v) w1) (hS : i ∉ ds → S w1) {a' : Act} (ha : a.put N v = a') (hk : wpD P md ops Q S ds fuel l' a' w1) :
    wpOp P ops Q i (fun a' w' => (i ∉ ds → S w') ∧ wpD P md ops Q S ds fuel (l.setIfInBounds i true) a' w') a w := by
  subst hN
  subst hl
  subst ha
  exact wpOp_value ho hw v w1 h ⟨hS, hk⟩
end
end Go.Proofs.YthpcedficlhanaaGreatDoor
namespace Go.Proofs.YthpcedficlhanaaGreatDoor
open Go.RowKit

section
variable {P : Program} {ops : Array Oper} {Q : Exit → Act → World → Prop} {md : Region.Mode} {S : World → Prop} {ds : List Nat}
theorem wpT_first {i : Nat} {oi : Oper} {v : Value} (hi : ops[i]? = some oi) (hsel : ∀ (j : Nat) (o : Oper) cs b, ops[j]? = some o → o.op ≠ .select cs b)
    (hQ : ∀ c a w, Q (.panic c) (a.put oi.dst v) w → Q (.panic c) a w) (C : List Nat) (hdC : ∀ d ∈ ds, d ∈ C)
    (hC : ∀ d ∈ C, d ≠ i ∧ ∀ od, ops[d]? = some od → ∃ e ∈ od.after, Region.binds md e = true ∧ (e.on = i ∨ e.on ∈ C)) :
    ∀ (n : Nat) (l : Array Bool) (a : Act) (w : World),
      (∀ j oj, ops[j]? = some oj → j ≠ i → l.getD j true = false → (∀ e ∈ oj.after, Region.binds md e = true → e.on ≠ i) → oi.apart ops oj = true) → (∀ d ∈ C, l.getD d false = false) →
      i ∈ Region.ready md ops l → YieldsIf P ops S oi v a → S w → wpD P md ops Q S ds n (l.setIfInBounds i true) (a.put oi.dst v) w → wpD P md ops Q S ds (n + 1) l a w := by
  intro n
  induction n with
  | zero =>
    intro l a w _ _ hr hy hS H
    refine ⟨fun h => (by rw [h] at hr; cases hr), fun j hj => ?_⟩
    rcases Nat.decEq j i with hji | hji
    · have := ready_mono hj hji
      rw [H.1] at this
      cases this
    · subst hji; exact hy.wpOp hi hS ⟨fun _ => hS, H⟩
  | succ n ih =>
    intro l a w hfree hl hr hy hS H
    refine ⟨fun h => (by rw [h] at hr; cases hr), fun j hj => ?_⟩
    rcases Nat.decEq j i with hji | hji
    · obtain ⟨hjun, oj, hoj, hall⟩ := mem_ready.1 hj
      have hjC : j ∉ C := fun hd => by
        obtain ⟨e, he, hb, hon | hon⟩ := (hC j hd).2 oj hoj
        · exact waits_not hr hall he hb hon
        · have h1 := hall e he hb
          rw [hl _ hon] at h1
          cases h1
      have hnd : j ∉ ds := fun hd => hjC (hdC j hd)
      have h2 := wpOp_putIf hoj (hfree j oj hoj hji hjun fun e he hb heq => waits_not hr hall he hb heq) (fun cs b => hsel i oi cs b hi) (fun cs b => hsel j oj cs b hoj) hQ hy (H.2 j (ready_mono hj hji))
      refine wpOp_mono (fun a' w' h3 => ⟨h3.2.1, ih _ a' w' (fun k ok hk hki hun hno => ?_) (fun d hd => ?_) (ready_mono hr (Ne.symm hji)) h3.1 (h3.2.1 hnd) ?_⟩) h2
      · refine hfree k ok hk hki ?_ hno
        rcases Nat.decEq j k with hjk | hjk
        · rw [getD_set_ne true hjk] at hun; exact hun
        · subst hjk; exact hjun
      · have hne : j ≠ d := fun e => hjC (by rw [e]; exact hd)
        rw [getD_set_ne false hne]
        exact hl d hd
      · rw [Array.setIfInBounds_comm _ _ hji]
        exact h3.2.2
    · subst hji; exact hy.wpOp hi hS ⟨fun _ => hS, H⟩
/-- Those that wait for an operation, through others too. -/
def afterC (md : Region.Mode) (ops : Array Oper) (i : Nat) : List Nat :=
  (List.range ops.size).foldl (fun C j => if decide (j ≠ i) && (match ops[j]? with | some o => o.after.any (fun e => Region.binds md e && (e.on == i || C.contains e.on)) | none => false) then j :: C else C) []
def endT (md : Region.Mode) (ops : Array Oper) (l : Array Bool) (ds : List Nat) (i : Nat) : Bool :=
  let C := afterC md ops i
  ds.all (fun d => C.contains d) && C.all fun d => decide (d ≠ i) && !(l.getD d false) && match ops[d]? with | some od => od.after.any (fun e => Region.binds md e && (e.on == i || C.contains e.on)) | none => true
theorem tkT_ (i : Nat) (N : Option Tmp) (l' : Array Bool) {oi : Oper} {v : Value} {fuel : Nat} {l : Array Bool} {a : Act} {w : World} (hi : ops[i]? = some oi) (hN : oi.dst = N) (hc : (tkB md ops l l' i && endT md ops l ds i) = true)
    (hQ : ∀ c a w, Q (.panic c) (a.put oi.dst v) w → Q (.panic c) a w) (hy : YieldsIf P ops S oi v a) (hS : S w) {a' : Act} (ha : a.put N v = a')
    (h : wpD P md ops Q S ds fuel l' a' w) : wpD P md ops Q S ds (fuel + 1) l a w := by
  subst ha
  subst hN
  simp only [tkB, endT, Bool.and_eq_true, beq_iff_eq] at hc
  obtain ⟨⟨⟨⟨h1, h2⟩, h3⟩, h4⟩, h5, h6⟩ := hc
  subst h4
  refine wpT_first hi (Region.noSelect_spec h1) hQ (afterC md ops i) (fun d hd => by simpa using List.all_eq_true.1 h5 d hd) (fun d hd => ?_) fuel l a w (Region.free_spec hi h2) (fun d hd => ?_) (by simpa using h3) hy hS h
  · have h7 := List.all_eq_true.1 h6 d hd
    simp only [Bool.and_eq_true, decide_eq_true_eq] at h7
    refine ⟨h7.1.1, fun od ho => ?_⟩
    have h8 := h7.2
    rw [ho] at h8
    obtain ⟨e, he, hx⟩ := Array.any_eq_true'.1 h8
    simp only [Bool.and_eq_true, Bool.or_eq_true, beq_iff_eq, List.contains_iff_mem] at hx
    exact ⟨e, he, hx.1, hx.2⟩
  · have h7 := List.all_eq_true.1 h6 d hd
    simp only [Bool.and_eq_true, decide_eq_true_eq, Bool.not_eq_true'] at h7
    exact h7.1.2
end
end Go.Proofs.YthpcedficlhanaaGreatDoor
namespace Go.Proofs.YthpcedficlhanaaGreatDoor
open Go.RowKit

section
variable {zs zs' : List LB}
theorem vals_get (h : vals zs = vals zs') (i : Nat) : (zs[i]?).map LB.val = (zs'[i]?).map LB.val := by
  have : (vals zs)[i]? = (vals zs')[i]? := by rw [h]
  simpa [vals] using this
theorem vals_length (h : vals zs = vals zs') : zs.length = zs'.length := by simpa [vals] using congrArg List.length h
theorem vals_ids (h : vals zs = vals zs') : zs.map LB.id = zs'.map LB.id := by
  have := congrArg (List.map Prod.fst) h
  simpa [vals, LB.val, Function.comp_def] using this
theorem minerC_of_vals (zs : List LB) (i : Nat) (m : Int) : minerC zs i m = (((vals zs).take i).filter fun v => decide (v.2.miner = m)).length := by
  unfold minerC vals
  rw [← List.map_take, List.filter_map, List.length_map]
  rfl
theorem fits_vals {a b a' b' : Option LB} (h : a.map LB.val = a'.map LB.val) (h' : b.map LB.val = b'.map LB.val) : fits? a b = fits? a' b' := by
  cases a <;> cases a' <;> cases b <;> cases b' <;> simp only [Option.map_some, Option.map_none, Option.some.injEq, LB.val, Prod.mk.injEq, reduceCtorEq, fits?] at h h' ⊢
  unfold fitsB
  rw [h.1, h.2, h'.1, h'.2]
theorem goodN_vals (h : vals zs = vals zs') : ∀ i, goodN zs i = goodN zs' i
  | 0 => by simp only [goodN, vals_length h]
  | i + 1 => by
    rw [goodN, goodN, goodN_vals h i, fits_vals (vals_get h (i - 1)) (vals_get h i)]
    congr 2
    have hi := vals_get h i
    cases hx : zs[i]? <;> cases hy : zs'[i]? <;> rw [hx, hy] at hi <;> simp only [Option.map_some, Option.map_none, Option.some.injEq, reduceCtorEq] at hi ⊢
    rw [minerC_of_vals, minerC_of_vals, h]
    have : _ = _ := congrArg Prod.snd hi
    simp only [LB.val] at this
    rw [this]
theorem goodB_vals (h : vals zs = vals zs') : goodB zs = goodB zs' := by unfold goodB; rw [vals_length h, goodN_vals h]
theorem goodN_adj : ∀ (n : Nat), goodN zs n = true → ∀ p x y, p + 1 < n → zs[p]? = some x → zs[p + 1]? = some y → x.id ≠ y.id
  | 0, _, p, _, _, hp, _, _ => by omega
  | n + 1, h, p, x, y, hp, hx, hy => by
    rw [goodN] at h
    simp only [Bool.and_eq_true] at h
    obtain ⟨⟨h1, -⟩, h3⟩ := h
    rcases Nat.lt_or_ge (p + 1) n with hl | hl
    · exact goodN_adj n h1 p x y hl hx hy
    · obtain rfl : n = p + 1 := by omega
      rw [show p + 1 - 1 = p by omega, hx, hy] at h3
      simp [fits?, fitsB] at h3
      exact h3.1
theorem good_nodup (hr : Risen cmpL zs) (hg : goodB zs = true) : (zs.map LB.id).Nodup := by
  unfold List.Nodup
  rw [List.pairwise_map, List.pairwise_iff_getElem]
  intro i j hi hj hij he
  have h1 : i + 1 < zs.length := by omega
  have ha := goodN_adj zs.length hg i _ _ h1 (List.getElem?_eq_getElem hi) (List.getElem?_eq_getElem h1)
  have hb := hr i (i + 1) _ _ (by omega) (List.getElem?_eq_getElem hi) (List.getElem?_eq_getElem h1)
  have hc : ¬ cmpL zs[i] zs[i + 1] < 0 := by
    rcases Nat.lt_or_ge (i + 1) j with hl | hl
    · have := hr (i + 1) j _ _ hl (List.getElem?_eq_getElem h1) (List.getElem?_eq_getElem hj)
      unfold cmpL at this ⊢
      rw [he]; exact this
    · obtain rfl : j = i + 1 := by omega
      exact absurd he ha
  unfold cmpL at hb hc
  have := cmpI_swap zs[i].id zs[i + 1].id
  exact ha (cmpI_zero _ _ (by omega))
end
/-- Pairs in the order of their names. -/
theorem pairs_eq {α β : Type} : ∀ {p q : List (α × β)}, p.Perm q → p.map Prod.fst = q.map Prod.fst → (p.map Prod.fst).Nodup → p = q
  | [], [], _, _, _ => rfl
  | [], _ :: _, h, _, _ => by have := h.length_eq; simp at this
  | _ :: _, [], h, _, _ => by have := h.length_eq; simp at this
  | (a, x) :: p, (b, y) :: q, h, he, hn => by
    simp only [List.map_cons, List.cons.injEq] at he
    obtain ⟨rfl, he⟩ := he
    simp only [List.map_cons, List.nodup_cons] at hn
    have hxy : x = y := by
      have : (a, x) ∈ (a, y) :: q := h.mem_iff.1 (List.mem_cons_self)
      rcases List.mem_cons.1 this with e | hm
      · exact congrArg Prod.snd e
      · exact absurd (by rw [he]; exact List.mem_map.2 ⟨_, hm, rfl⟩) hn.1
    subst hxy
    rw [pairs_eq (List.Perm.cons_inv h) he hn.2]
/-- What New answers. -/
def Newed (l : List LB) (ec : Int) (zs : List LB) : Prop :=
  (5 < l.length ∧ ec = 4 ∧ zs = []) ∨ (l.length ≤ 5 ∧ ∃ z, z.Perm l ∧ Risen cmpL z ∧ ((goodB z = true ∧ ec = 0 ∧ zs = z) ∨ (goodB z = false ∧ ec = 15 ∧ zs = [])))
theorem Newed.nodup {l zs : List LB} {ec : Int} (h : Newed l ec zs) : (zs.map LB.id).Nodup := by
  rcases h with ⟨-, -, rfl⟩ | ⟨-, z, -, hr, ⟨hg, -, rfl⟩ | ⟨-, -, rfl⟩⟩
  · simp
  · exact good_nodup hr hg
  · simp
theorem Newed.mem {l zs : List LB} {ec : Int} (h : Newed l ec zs) : ∀ x ∈ zs, x ∈ l := by
  rcases h with ⟨-, -, rfl⟩ | ⟨-, z, hp, hr, ⟨hg, -, rfl⟩ | ⟨-, -, rfl⟩⟩
  · simp
  · exact fun x hx => hp.mem_iff.1 hx
  · simp
theorem sorted_ids {l z : List LB} (hp : z.Perm l) (hr : Risen cmpL z) : z.map LB.id = sortI (l.map LB.id) :=
  sortI_risen (hp.map _) fun i j x y hij hx hy => by
    rw [List.getElem?_map] at hx hy
    obtain ⟨a, ha, rfl⟩ := Option.map_eq_some_iff.1 hx
    obtain ⟨b, hb, rfl⟩ := Option.map_eq_some_iff.1 hy
    exact hr i j a b hij ha hb
theorem good_perm {l l' z z' : List LB} (hv : (vals l).Perm (vals l')) (hp : z.Perm l) (hp' : z'.Perm l') (hr : Risen cmpL z) (hr' : Risen cmpL z') (hg : goodB z = true) : vals z = vals z' := by
  have hi : (vals z).map Prod.fst = z.map LB.id := by simp [vals, LB.val, Function.comp_def]
  have hi' : (vals z').map Prod.fst = z'.map LB.id := by simp [vals, LB.val, Function.comp_def]
  have hv1 : (l.map LB.id).Perm (l'.map LB.id) := by
    have := hv.map Prod.fst
    simpa [vals, LB.val, Function.comp_def] using this
  refine pairs_eq (((hp.map LB.val).trans hv).trans (hp'.map LB.val).symm) ?_ (by rw [hi]; exact good_nodup hr hg)
  rw [hi, hi', sorted_ids hp hr, sorted_ids hp' hr', sortI_of_perm hv1]
theorem Newed.same {l l' zs zs' : List LB} {ec ec' : Int} (h : Newed l ec zs) (h' : Newed l' ec' zs') (hv : (vals l).Perm (vals l')) : ec = ec' ∧ vals zs = vals zs' := by
  have hl : l.length = l'.length := by simpa [vals] using hv.length_eq
  rcases h with ⟨h5, rfl, rfl⟩ | ⟨h5, z, hp, hr, hz⟩ <;> rcases h' with ⟨h5', rfl, rfl⟩ | ⟨h5', z', hp', hr', hz'⟩
  · exact ⟨rfl, rfl⟩
  · omega
  · omega
  · rcases hz with ⟨hg, rfl, rfl⟩ | ⟨hg, rfl, rfl⟩ <;> rcases hz' with ⟨hg', rfl, rfl⟩ | ⟨hg', rfl, rfl⟩
    · exact ⟨rfl, good_perm hv hp hp' hr hr' hg⟩
    · have := good_perm hv hp hp' hr hr' hg
      rw [goodB_vals this, hg'] at hg; cases hg
    · have := good_perm hv.symm hp' hp hr' hr hg'
      rw [goodB_vals this, hg] at hg'; cases hg'
    · exact ⟨rfl, rfl⟩
theorem new_any (w : World) (v : Value) (l : List LB) (ok : Nat → Prop) (hl : Sl lbE ok w v l) (hok : Okay ok w l) :
    Calls Tryz.prog 21 #[v] w fun e w' => ∃ ec zs t, Newed l ec zs ∧ e = .returned (.tuple #[tipV t, .int .i64 ec]) ∧ TipAt (fun k => w.heap.size ≤ k) w' t zs ∧ Below w.heap.size w w' := by
  rcases Nat.lt_or_ge 5 l.length with h5 | h5
  · exact (new_big w v l ok hl h5).mono fun e w' ⟨he, hb⟩ => ⟨4, [], .slice none 0 0, .inl ⟨h5, rfl, rfl⟩, he, ⟨Sl.nil _ _ _, by simp⟩, hb⟩
  · refine (new_few w v l ok hl hok h5).mono fun e w' ⟨z, t, hp, hr, hb, hz⟩ => ?_
    rcases hz with ⟨hg, he, hs⟩ | ⟨hg, he⟩
    · exact ⟨0, z, t, .inr ⟨h5, z, hp, hr, .inl ⟨hg, rfl, rfl⟩⟩, he, ⟨hs, by have := hp.length_eq; omega⟩, hb⟩
    · exact ⟨15, [], .slice none 0 0, .inr ⟨h5, z, hp, hr, .inr ⟨hg, rfl, rfl⟩⟩, he, ⟨Sl.nil _ _ _, by simp⟩, hb⟩
section
variable {zs zs' : List LB}
theorem winsN_vals (h : vals zs = vals zs') : winsN zs zs.length = winsN zs' zs'.length := by
  have e (z : List LB) : winsN z z.length = ((vals z).map fun v => v.2.wins).sum := by unfold winsN vals; rw [List.take_length, List.map_map]; rfl
  rw [e, e, h]
theorem ticketN_vals (h : vals zs = vals zs') : ticketN zs zs.length = ticketN zs' zs'.length := by
  have e (z : List LB) (s : ByteArray) : z.foldl (fun s b => minT s b.x.h.ticket) s = (vals z).foldl (fun s v => minT s v.2.ticket) s := by unfold vals; rw [List.foldl_map]; rfl
  unfold ticketN
  rw [List.take_length, List.take_length, e, e, h]
  congr 1
  cases zs with
  | nil => cases zs' with | nil => rfl | cons b l => cases h
  | cons a l => cases zs' with
    | nil => cases h
    | cons b m =>
      have : a.val = b.val := by injection h
      show a.x.h.ticket = b.x.h.ticket
      exact congrArg (fun v => v.2.ticket) this
theorem keyB_vals (h : vals zs = vals zs') : keyB (zs.map LB.id) = keyB (zs'.map LB.id) := by rw [vals_ids h]
end
end Go.Proofs.YthpcedficlhanaaGreatDoor
