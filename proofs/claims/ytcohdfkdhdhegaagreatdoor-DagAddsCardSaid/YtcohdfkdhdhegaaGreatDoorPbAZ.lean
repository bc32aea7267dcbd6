/- coxswainref05.Family, coxswainref08.Check. -/
import Derived.Test.YtcohdfkdhdhegaaGreatDoorPbAX
namespace Go.Proofs.YtcohdfkdhdhegaaGreatDoor
open Go.RowKit

theorem joinS_length {l : List ByteArray} {m : Nat} (h : ∀ s ∈ l, s.size ≤ m) : (joinS l).length ≤ m * l.length := by
  induction l with
  | nil => exact Nat.le_refl _
  | cons s l ih =>
    have h1 := ih fun t ht => h t (List.mem_cons_of_mem _ ht)
    have h2 := h s (by simp)
    have h3 : s.data.toList.length = s.size := by simp
    unfold joinS at *
    rw [List.flatMap_cons, List.length_append, h3, List.length_cons, Nat.mul_succ]
    omega
set_option maxRecDepth 100000 in
set_option maxHeartbeats 2000000 in
theorem rfamily_any (w : World) (x : LRH) (ok : Nat → Prop) (hx : x.At ok w) (hok : TellH x.h) :
    Calls Tryz.prog 93 #[.agg x.cells.toArray] w fun e w' => e = .returned (.string ⟨(rfam x.h).toArray⟩) ∧ Below w.heap.size w w' := by
  obtain ⟨⟨height, miner, ticket, wins, power, parents, salt⟩, A, c⟩ := x
  have HS0 : Hid (BytS w (w.alloc (.cells (LRH.cells ⟨⟨height, miner, ticket, wins, power, parents, salt⟩, A, c⟩).toArray 29)) ⟨⟨height, miner, ticket, wins, power, parents, salt⟩, A, c⟩ ok) := Lib.hid ⟨heap_alloc_new w _, Sl.below hx ((Below.refl _ w).alloc (Nat.le_refl _) _), (Below.refl _ w).alloc (Nat.le_refl _) _⟩
  have hnames : ∀ s ∈ sortT parents, s.size ≤ 1000 := fun s hs => hok.names s (sortT_mem _ s hs)
  have hpl : (sortT parents).length ≤ 100 := Nat.le_trans (sortT_length _) hok.parents
  have hpl0 : parents.length ≤ 100 := hok.parents
  have hjl := joinS_length hnames
  obtain ⟨s1, h1⟩ : ∃ s : ByteArray, (⟨(numB height.toNat).toArray⟩ : ByteArray) = s := ⟨_, rfl⟩
  obtain ⟨s2, h2⟩ : ∃ s : ByteArray, (⟨(numB (IntKind.i64.wrap power).toNat).toArray⟩ : ByteArray) = s := ⟨_, rfl⟩
  obtain ⟨s3, h3⟩ : ∃ s : ByteArray, (⟨(joinS (sortT parents)).toArray⟩ : ByteArray) = s := ⟨_, rfl⟩
  obtain ⟨s4, h4⟩ : ∃ s : ByteArray, (⟨(textB s3).toArray⟩ : ByteArray) = s := ⟨_, rfl⟩
  have z1 : s1.size ≤ 9 := by rw [← h1]; exact numS_size _
  have z2 : s2.size ≤ 9 := by rw [← h2]; exact numS_size _
  have z3 : s3.size ≤ 100000 := by rw [← h3]; show (joinS (sortT parents)).toArray.size ≤ _; rw [List.size_toArray]; omega
  have z4 : s4.size ≤ 100009 := by
    rw [← h4]
    show (textB s3).toArray.size ≤ _
    have := numB_length s3.size
    have h0 : s3.data.toList.length = s3.size := by simp
    rw [List.size_toArray, textB, List.length_append, h0]
    omega
  have HC1 : Hid (∀ W, Calls Tryz.prog 145 #[.int .i64 height] W fun e w' => e = .returned (.string s1) ∧ Below W.heap.size W w') := Lib.hid fun W => by rw [← h1]; exact rnum_any W _ hok.height.1 hok.height.2
  have HC2 : Hid (∀ W, Calls Tryz.prog 145 #[.int .i64 (IntKind.i64.wrap power)] W fun e w' => e = .returned (.string s2) ∧ Below W.heap.size W w') := Lib.hid fun W => by rw [← h2]; exact rnum_any W _ (by simp [IntKind.wrap, IntKind.bits, IntKind.signed]; omega) (by simp [IntKind.wrap, IntKind.bits, IntKind.signed]; omega)
  have HC3 : Hid (∀ W, Sl strE ok W (.slice A parents.length c) parents → Calls Tryz.prog 24 #[.slice A parents.length c] W fun e w' => ∃ v, e = .returned v ∧ StrRow W.heap.size w' v (sortT parents) ∧ Below W.heap.size W w') := Lib.hid fun W h => sort_str W _ parents ok h (by omega)
  have HC4 : Hid (∀ W v B, StrRow B W v (sortT parents) → Calls Tryz.prog 26 #[v] W fun e w' => e = .returned (.string s3) ∧ W = w') := Lib.hid fun W v B h => by rw [← h3]; exact rjoin_any W v _ _ h.sl (by omega) (fun s hs => Nat.le_trans (hnames s hs) (by decide))
  have HC5 : Hid (∀ W, Calls Tryz.prog 146 #[.string s3] W fun e w' => e = .returned (.string s4) ∧ Below W.heap.size W w') := Lib.hid fun W => by rw [← h4]; exact rtext_any W _ (by omega)
  have HB : Hid ((⟨(rfam ⟨height, miner, ticket, wins, power, parents, salt⟩).toArray⟩ : ByteArray) = s1 ++ s2 ++ s4) := Lib.hid (by
    rw [← h1, ← h2, ← h4, ← h3, str_add, str_add]
    rfl)
  show Calls _ _ _ _ fun e w' => e = .returned (.string ⟨(rfam ⟨height, miner, ticket, wins, power, parents, salt⟩).toArray⟩) ∧ _
  rw [HB.out]
  clear h1 h2 h3 h4 hx hok hnames hpl hpl0 hjl HB
  go_enter Tryz.func93, Tryz.ntmps93
  go_upto_region 1 with fail
  change Code.wp _ _ _ _ (w.alloc (.cells (LRH.cells ⟨⟨height, miner, ticket, wins, power, parents, salt⟩, A, c⟩).toArray 29))
  generalize w.alloc (.cells (LRH.cells ⟨⟨height, miner, ticket, wins, power, parents, salt⟩, A, c⟩).toArray 29) = W0 at HS0 ⊢
  have HS1 := Lib.hid (HS0.out.next (Below.refl _ W0).drew)
  refine st_ (S := (fun W' => BytS w W' ⟨⟨height, miner, ticket, wins, power, parents, salt⟩, A, c⟩ ok)) 15 (bt 0 15) (by kernel_rfl) rfl (by rfl) HS1.out (fun hHeld => ?_)
  refine tk_ 0 (some 3) (bt 1 14) (v := ?_) (a' := ?_) rfl rfl (by kernel_rfl) (fun _ _ _ h => h) (yieldsIf_run rfl ?_) hHeld ?_ ?_
  rotate_left
  · intro w'
    go_simp
    with_reducible rfl
  rotate_left
  · simp only [Act.put, List.setIfInBounds_toArray, List.set_cons_zero, List.set_cons_succ]
    rfl
  refine tk_ 1 (some 4) (bt 2 13) rfl rfl (by kernel_rfl) (fun _ _ _ h => h) (yieldsIf_cell rfl 3 (.tmp 3) rfl ⟨w.heap.size, 0, none⟩ rfl (.int .i64 height) _ (fun W' h => cell_block h.box rfl) Tryz.underlying3 rfl) hHeld (a' := ?_) ?_ ?_
  rotate_left
  · simp only [Act.put, List.setIfInBounds_toArray, List.set_cons_zero, List.set_cons_succ]
    rfl
  refine tk_ 3 (some 6) #[true, true, false, true, false, false, false, false, false, false, false, false, false, false, false] (v := ?_) (a' := ?_) rfl rfl (by kernel_rfl) (fun _ _ _ h => h) (yieldsIf_run rfl ?_) hHeld ?_ ?_
  rotate_left
  · intro w'
    go_simp
    with_reducible rfl
  rotate_left
  · simp only [Act.put, List.setIfInBounds_toArray, List.set_cons_zero, List.set_cons_succ]
    rfl
  refine tk_ 4 (some 7) #[true, true, false, true, true, false, false, false, false, false, false, false, false, false, false] rfl rfl (by kernel_rfl) (fun _ _ _ h => h) (yieldsIf_cell rfl 26 (.tmp 6) rfl ⟨w.heap.size, 4, none⟩ rfl (.int .u64 power) _ (fun W' h => cell_block h.box rfl) Tryz.underlying26 rfl) hHeld (a' := ?_) ?_ ?_
  rotate_left
  · simp only [Act.put, List.setIfInBounds_toArray, List.set_cons_zero, List.set_cons_succ]
    rfl
  refine tk_ 5 (some 8) #[true, true, false, true, true, true, false, false, false, false, false, false, false, false, false] rfl rfl (by kernel_rfl) (fun _ _ _ h => h) (yieldsIf_of (v := .int .i64 (IntKind.i64.wrap power)) rfl fun W' _ => by kernel_rfl) hHeld (a' := ?_) ?_ ?_
  rotate_left
  · simp only [Act.put, List.setIfInBounds_toArray, List.set_cons_zero, List.set_cons_succ]
    rfl
  refine tk_ 8 (some 11) #[true, true, false, true, true, true, false, false, true, false, false, false, false, false, false] (v := ?_) (a' := ?_) rfl rfl (by kernel_rfl) (fun _ _ _ h => h) (yieldsIf_run rfl ?_) hHeld ?_ ?_
  rotate_left
  · intro w'
    go_simp
    with_reducible rfl
  rotate_left
  · simp only [Act.put, List.setIfInBounds_toArray, List.set_cons_zero, List.set_cons_succ]
    rfl
  refine tk_ 9 (some 12) #[true, true, false, true, true, true, false, false, true, true, false, false, false, false, false] rfl rfl (by kernel_rfl) (fun _ _ _ h => h) (yieldsIf_cell rfl 27 (.tmp 11) rfl ⟨w.heap.size, 5, none⟩ rfl (.slice A parents.length c) _ (fun W' h => cell_block h.box rfl) Tryz.underlying27 rfl) hHeld (a' := ?_) ?_ ?_
  rotate_left
  · simp only [Act.put, List.setIfInBounds_toArray, List.set_cons_zero, List.set_cons_succ]
    rfl
  refine call_ 2 (some 5) #[true, true, true, true, true, true, false, false, true, true, false, false, false, false, false] rfl rfl (by kernel_rfl) rfl 145 _ (by kernel_rfl) (HC1.out _) ?_
  rintro e w1 ⟨rfl, hb1⟩
  refine ⟨_, rfl, hHeld.next hb1, fun hHeld => ⟨?_, ?_, ?_⟩⟩
  rotate_left
  · simp only [Act.put, List.setIfInBounds_toArray, List.set_cons_zero, List.set_cons_succ]
    rfl
  refine call_ 6 (some 9) #[true, true, true, true, true, true, true, false, true, true, false, false, false, false, false] rfl rfl (by kernel_rfl) rfl 145 _ (by kernel_rfl) (HC2.out _) ?_
  rintro e w2 ⟨rfl, hb2⟩
  refine ⟨_, rfl, hHeld.next hb2, fun hHeld => ⟨?_, ?_, ?_⟩⟩
  rotate_left
  · simp only [Act.put, List.setIfInBounds_toArray, List.set_cons_zero, List.set_cons_succ]
    rfl
  refine tk_ 7 (some 10) (bt 10 5) rfl rfl (by kernel_rfl) (fun _ _ _ h => h) (yieldsIf_of (v := .string (s1 ++ s2)) rfl fun W' _ => exec_addS (.tmp 5) (.tmp 9) rfl rfl rfl (by omega)) hHeld (a' := ?_) ?_ ?_
  rotate_left
  · simp only [Act.put, List.setIfInBounds_toArray, List.set_cons_zero, List.set_cons_succ]
    rfl
  refine call_ 10 (some 13) (bt 11 4) rfl rfl (by kernel_rfl) rfl 24 _ (by kernel_rfl) (HC3.out _ hHeld.at_) ?_
  rintro e w3 ⟨v3, rfl, hr3, hb3⟩
  refine ⟨_, rfl, hHeld.next hb3, fun hHeld => ⟨?_, ?_, ?_⟩⟩
  rotate_left
  · simp only [Act.put, List.setIfInBounds_toArray, List.set_cons_zero, List.set_cons_succ]
    rfl
  refine call_ 11 (some 14) (bt 12 3) rfl rfl (by kernel_rfl) rfl 26 _ (by kernel_rfl) (HC4.out _ _ _ hr3) ?_
  rintro e w4 ⟨rfl, rfl⟩
  refine ⟨_, rfl, hHeld, fun hHeld => ⟨?_, ?_, ?_⟩⟩
  rotate_left
  · simp only [Act.put, List.setIfInBounds_toArray, List.set_cons_zero, List.set_cons_succ]
    rfl
  refine call_ 12 (some 15) (bt 13 2) rfl rfl (by kernel_rfl) rfl 146 _ (by kernel_rfl) (HC5.out _) ?_
  rintro e w5 ⟨rfl, hb5⟩
  refine ⟨_, rfl, hHeld.next hb5, fun hHeld => ⟨?_, ?_, ?_⟩⟩
  rotate_left
  · simp only [Act.put, List.setIfInBounds_toArray, List.set_cons_zero, List.set_cons_succ]
    rfl
  refine tk_ 13 (some 16) (bt 14 1) rfl rfl (by kernel_rfl) (fun _ _ _ h => h) (yieldsIf_of (v := .string (s1 ++ s2 ++ s4)) rfl fun W' _ => exec_addS (.tmp 10) (.tmp 15) rfl rfl rfl (by rw [ByteArray.size_append]; omega)) hHeld (a' := ?_) ?_ ?_
  rotate_left
  · simp only [Act.put, List.setIfInBounds_toArray, List.set_cons_zero, List.set_cons_succ]
    rfl
  refine tk_ 14 (some 2) (bt 15 0) (v := ?_) (a' := ?_) rfl rfl (by kernel_rfl) (fun _ _ _ h => h) (yieldsIf_run rfl ?_) hHeld ?_ ?_
  rotate_left
  · intro w'
    go_simp
    with_reducible rfl
  rotate_left
  · simp only [Act.put, List.setIfInBounds_toArray, List.set_cons_zero, List.set_cons_succ]
    rfl
  refine wpAnyH_done (by kernel_rfl) ?_ _
  change Exit.then _ _ _ _ _
  go_wp2
  go_ret
  exact ⟨rfl, hHeld.below⟩

/-- Do two headers stand beside one another? -/
def pairOk (a b : RH) (i k : Nat) : Prop := rfam a = rfam b ∧ (i ≠ k → a.miner ≠ b.miner)
structure PairS (W0 W : World) (ga gb : Nat) (a b : LRH) : Prop where
  ca : W.heap[ga]? = some (.cells a.cells.toArray 29 (0, 0))
  cb : W.heap[gb]? = some (.cells b.cells.toArray 29 (0, 0))
  aa : a.At (fun _ => True) W
  ab : b.At (fun _ => True) W
  below : Below W0.heap.size W0 W
theorem PairS.next {W0 W W' : World} {ga gb : Nat} {a b : LRH} (h : PairS W0 W ga gb a b) (hb : Below W.heap.size W W') : PairS W0 W' ga gb a b where
  ca := (hb.block _ (Array.getElem?_eq_some_iff.1 h.ca).1).trans h.ca
  cb := (hb.block _ (Array.getElem?_eq_some_iff.1 h.cb).1).trans h.cb
  aa := Sl.below h.aa hb
  ab := Sl.below h.ab hb
  below := h.below.trans (hb.mono h.below.size)
theorem PairS.la {W0 W : World} {ga gb : Nat} {a b : LRH} (h : PairS W0 W ga gb a b) : ∀ j u, a.cells[j]? = some u → W.cell? ⟨ga, 0 + j, none⟩ = some u := fun j u hu => by rw [Nat.zero_add]; exact cell_block h.ca (by simpa using hu)
theorem PairS.lb {W0 W : World} {ga gb : Nat} {a b : LRH} (h : PairS W0 W ga gb a b) : ∀ j u, b.cells[j]? = some u → W.cell? ⟨gb, 0 + j, none⟩ = some u := fun j u hu => by rw [Nat.zero_add]; exact cell_block h.cb (by simpa using hu)
theorem fam_arr {a b : RH} : ((⟨(rfam a).toArray⟩ : ByteArray) = ⟨(rfam b).toArray⟩) ↔ rfam a = rfam b :=
  ⟨fun h => by have := congrArg (fun s : ByteArray => s.data.toList) h; simpa using this, fun h => by rw [h]⟩

set_option maxRecDepth 100000 in
set_option maxHeartbeats 4000000 in
theorem rcheck8_any (w : World) (v : Value) (ys : List LRH) (ok ok' : Nat → Prop) (hl : Sl lrhE ok w v ys) (hat : ∀ y ∈ ys, y.At ok' w ∧ TellH y.h) (hlen : ys.length ≤ 1000) :
    Calls Tryz.prog 28 #[v] w fun e w' => e = .returned (.int .i64 (rcheck8 (rhs ys))) ∧ Below w.heap.size w w' := by
  obtain ⟨A, c, rfl, hc, hm⟩ := hl.form
  have hrl : (rhs ys).length = ys.length := by simp [rhs]
  by_cases h5 : ys.length > 5
  · have hv : rcheck8 (rhs ys) = 4 := by unfold rcheck8; rw [if_pos (by rw [hrl]; exact h5)]
    rw [hv]
    clear hl hat
    go_enter Tryz.func28, Tryz.ntmps28
    go_wp2
    go_ret
    exact ⟨rfl, Below.refl _ _⟩
  by_cases h0 : ys.length = 0
  · have hv : rcheck8 (rhs ys) = 15 := by unfold rcheck8; rw [if_neg (by rw [hrl]; exact h5), if_pos (by rw [hrl]; exact h0)]
    rw [hv]
    have hI : (ys.length : Int) = 0 := by omega
    clear hl hat
    go_enter Tryz.func28, Tryz.ntmps28
    go_wp2
    go_ret
    exact ⟨rfl, Below.refl _ _⟩
  have hI : ¬ (ys.length : Int) = 0 := by omega
  have hI2 : ¬ ys = [] := fun e => h0 (by rw [e]; rfl)
  have hq0 : ((ys.length : Int) == 0) = false := beq_eq_false_iff_ne.2 hI
  obtain ⟨V, hV⟩ : ∃ V, rcheck8 (rhs ys) = V := ⟨_, rfl⟩
  rw [hV]
  have HV15 : Hid (∀ i k (a b : LRH), ys[i]? = some a → ys[k]? = some b → ¬ pairOk a.h b.h i k → V = 15) := Lib.hid fun i k a b ha hb hn => by
    rw [← hV]
    unfold rcheck8
    rw [if_neg (by rw [hrl]; exact h5), if_neg (by rw [hrl]; exact h0)]
    cases hbad : rbad (rhs ys)
    · exact absurd ((rbad_iff _).1 hbad i k a.h b.h (by rw [rhs, List.getElem?_map, ha]; rfl) (by rw [rhs, List.getElem?_map, hb]; rfl)) hn
    · rfl
  have HV0 : Hid ((∀ i k (a b : LRH), ys[i]? = some a → ys[k]? = some b → pairOk a.h b.h i k) → V = 0) := Lib.hid fun h => by
    rw [← hV]
    unfold rcheck8
    rw [if_neg (by rw [hrl]; exact h5), if_neg (by rw [hrl]; exact h0)]
    have : rbad (rhs ys) = false := (rbad_iff _).2 fun i k a b ha hb => by
      rw [rhs, List.getElem?_map] at ha hb
      obtain ⟨a', ha', rfl⟩ := Option.map_eq_some_iff.1 ha
      obtain ⟨b', hb', rfl⟩ := Option.map_eq_some_iff.1 hb
      exact h i k a' b' ha' hb'
    rw [this]
    rfl
  have HL := Lib.hid hl
  have HAT := Lib.hid hat
  clear hl hat hV hrl
  go_enter Tryz.func28, Tryz.ntmps28
  go_wp2
  go_loopw [15] (fun c15 W => ∃ i : Nat, i ≤ ys.length ∧ c15 = .int .i64 (i : Int) ∧ (∀ i' k a b, i' < i → ys[i']? = some a → ys[k]? = some b → pairOk a.h b.h i' k) ∧ Below w.heap.size w W) (fun c15 _ => ys.length - (intOf c15).toNat)
  case atStart => exact ⟨0, by omega, rfl, fun i' k a b h => by omega, Below.refl _ _⟩
  case round =>
    obtain ⟨i, hi, rfl, hP, hB⟩ := hrel
    have HP := Lib.hid hP
    have HB := Lib.hid hB
    clear hP hB
    by_cases hil : i < ys.length
    · obtain ⟨a, ha⟩ : ∃ a, ys[i]? = some a := ⟨_, List.getElem?_eq_getElem hil⟩
      obtain ⟨bA, oA, rfl, -, -, hca⟩ := (HL.out.below HB.out).at_ i a ha
      have HCA := Lib.hid hca
      have HA := Lib.hid ha
      have HAA := Lib.hid (HAT.out a (List.mem_of_getElem? ha))
      clear hca ha
      have HGA : Hid ((wr.alloc (.cells a.cells.toArray 29)).heap[wr.heap.size]? = some (.cells a.cells.toArray 29 (0, 0))) := Lib.hid (heap_alloc_new wr _)
      have HBA : Hid (Below w.heap.size w (wr.alloc (.cells a.cells.toArray 29))) := Lib.hid (HB.out.alloc HB.out.size _)
      go_upto_region 8 with (first
        | (refine wpl_load rfl 29 (.tmp 18) rfl bA _ rfl a.cells _ HCA.out Tryz.underlying29 rfl rh_size ?_)
        | (refine wpl_store_new rfl 29 _ _ rfl rfl a.cells rfl _ _ rfl (lrhE.one a) rh_size ?_))
      generalize wr.alloc (.cells a.cells.toArray 29) = Wo at HGA HBA ⊢
      generalize wr.heap.size = ga at HGA ⊢
      go_wp2
      go_loopw [22] (fun c22 W => ∃ k : Nat, k ≤ ys.length ∧ c22 = .int .i64 (k : Int) ∧ (∀ k' b, k' < k → ys[k']? = some b → pairOk a.h b.h i k') ∧ Below Wo.heap.size Wo W) (fun c22 _ => ys.length - (intOf c22).toNat)
      case atStart => exact ⟨0, by omega, rfl, fun k' b h => by omega, Below.refl _ _⟩
      case round =>
        obtain ⟨k, hk, rfl, hQ, hB2⟩ := hrel
        rename World => Wk
        have HQ := Lib.hid hQ
        have HB2 := Lib.hid hB2
        clear hQ hB2
        by_cases hkl : k < ys.length
        · obtain ⟨b, hb⟩ : ∃ b, ys[k]? = some b := ⟨_, List.getElem?_eq_getElem hkl⟩
          have hslk := (HL.out.below HBA.out).below HB2.out
          obtain ⟨bB, oB, heB, -, -, hcb⟩ := hslk.at_ k b hb
          injection heB with heB
          injection heB with e1 e2
          subst e1
          subst e2
          have HCB := Lib.hid hcb
          have HBK := Lib.hid hb
          have HAB := Lib.hid (HAT.out b (List.mem_of_getElem? hb))
          clear hcb hb hslk
          have HPS : Hid (PairS Wo (Wk.alloc (.cells b.cells.toArray 29)).drew ga Wk.heap.size a b) := Lib.hid (by
            have hx : Below Wk.heap.size Wk (Wk.alloc (.cells b.cells.toArray 29)).drew := ((Below.refl _ _).alloc (Nat.le_refl _) _).drew
            have hy : Below Wo.heap.size Wo (Wk.alloc (.cells b.cells.toArray 29)).drew := HB2.out.trans (hx.mono HB2.out.size)
            have hz : Below w.heap.size w (Wk.alloc (.cells b.cells.toArray 29)).drew := HBA.out.trans (hy.mono HBA.out.size)
            exact ⟨(hy.block _ (Array.getElem?_eq_some_iff.1 HGA.out).1).trans HGA.out, heap_alloc_new Wk _, Sl.mono (Sl.below HAA.out.1 hz) fun _ _ => trivial, Sl.mono (Sl.below HAB.out.1 hz) fun _ _ => trivial, hy⟩)
          obtain ⟨fa, hfa⟩ : ∃ fa : ByteArray, (⟨(rfam a.h).toArray⟩ : ByteArray) = fa := ⟨_, rfl⟩
          obtain ⟨fb, hfb⟩ : ∃ fb : ByteArray, (⟨(rfam b.h).toArray⟩ : ByteArray) = fb := ⟨_, rfl⟩
          have HFA : Hid (∀ W, a.At (fun _ => True) W → Calls Tryz.prog 93 #[.agg a.cells.toArray] W fun e w' => e = .returned (.string fa) ∧ Below W.heap.size W w') := Lib.hid fun W h => by rw [← hfa]; exact rfamily_any W a _ h HAA.out.2
          have HFB : Hid (∀ W, b.At (fun _ => True) W → Calls Tryz.prog 93 #[.agg b.cells.toArray] W fun e w' => e = .returned (.string fb) ∧ Below W.heap.size W w') := Lib.hid fun W h => by rw [← hfb]; exact rfamily_any W b _ h HAB.out.2
          have HFF : Hid (fa = fb ↔ rfam a.h = rfam b.h) := Lib.hid (by rw [← hfa, ← hfb]; exact fam_arr)
          clear hfa hfb
          go_upto_region 11 with (first
            | (refine wpl_load rfl 29 (.tmp 25) rfl bA _ rfl b.cells _ HCB.out Tryz.underlying29 rfl rh_size ?_)
            | (refine wpl_store_new rfl 29 _ _ rfl rfl b.cells rfl _ _ rfl (lrhE.one b) rh_size ?_))
          generalize Wk.heap.size = gb at HPS ⊢
          by_cases hff : fa = fb
          · have hq : (!(fa.toList == fb.toList)) = false := by rw [hff]; simp
            by_cases hik : i = k
            · subst hik
              refine st_ (S := (fun W' => PairS Wo W' ga gb a b)) 17 (bt 0 17) (by kernel_rfl) rfl (by rfl) HPS.out (fun hHeld => ?_)
              refine tk_ 0 (some 27) (bt 1 16) rfl rfl (by kernel_rfl) (fun _ _ _ h => h) (yieldsIf_load rfl 29 (.tmp 4) rfl ga 0 rfl a.cells _ (fun W' h => h.la) Tryz.underlying29 rfl rh_size) hHeld (a' := ?_) ?_ ?_
              rotate_left
              · simp only [Act.put, List.setIfInBounds_toArray, List.set_cons_zero, List.set_cons_succ]
                rfl
              refine tk_ 2 (some 29) #[true, false, true, false, false, false, false, false, false, false, false, false, false, false, false, false, false] rfl rfl (by kernel_rfl) (fun _ _ _ h => h) (yieldsIf_load rfl 29 (.tmp 6) rfl gb 0 rfl b.cells _ (fun W' h => h.lb) Tryz.underlying29 rfl rh_size) hHeld (a' := ?_) ?_ ?_
              rotate_left
              · simp only [Act.put, List.setIfInBounds_toArray, List.set_cons_zero, List.set_cons_succ]
                rfl
              refine call_ 1 (some 28) (bt 3 14) rfl rfl (by kernel_rfl) rfl 93 _ (by kernel_rfl) (HFA.out _ hHeld.aa) ?_
              rintro e w1 ⟨rfl, hb1⟩
              refine ⟨_, rfl, hHeld.next hb1, fun hHeld => ⟨?_, ?_, ?_⟩⟩
              rotate_left
              · simp only [Act.put, List.setIfInBounds_toArray, List.set_cons_zero, List.set_cons_succ]
                rfl
              refine call_ 3 (some 30) (bt 4 13) rfl rfl (by kernel_rfl) rfl 93 _ (by kernel_rfl) (HFB.out _ hHeld.ab) ?_
              rintro e w2 ⟨rfl, hb2⟩
              refine ⟨_, rfl, hHeld.next hb2, fun hHeld => ⟨?_, ?_, ?_⟩⟩
              rotate_left
              · simp only [Act.put, List.setIfInBounds_toArray, List.set_cons_zero, List.set_cons_succ]
                rfl
              refine tk_ 4 (some 31) (bt 5 12) rfl rfl (by kernel_rfl) (fun _ _ _ h => h) (yieldsIf_run (v := .bool false) rfl fun W' => (show _ = Result.ok (Next.value (.bool (!(fa.toList == fb.toList)))) W' from rfl).trans (by rw [hq])) hHeld (a' := ?_) ?_ ?_
              rotate_left
              · simp only [Act.put, List.setIfInBounds_toArray, List.set_cons_zero, List.set_cons_succ]
                rfl
              refine tk_ 5 (some 32) (bt 6 11) (v := ?_) (a' := ?_) rfl rfl (by kernel_rfl) (fun _ _ _ h => h) (yieldsIf_run rfl ?_) hHeld ?_ ?_
              rotate_left
              · intro w'
                go_simp
                with_reducible rfl
              rotate_left
              · simp only [Act.put, List.setIfInBounds_toArray, List.set_cons_zero, List.set_cons_succ]
                rfl
              refine tk_ 6 (some 33) (bt 7 10) (v := ?_) (a' := ?_) rfl rfl (by kernel_rfl) (fun _ _ _ h => h) (yieldsIf_run rfl ?_) hHeld ?_ ?_
              rotate_left
              · intro w'
                go_simp
                with_reducible rfl
              rotate_left
              · simp only [Act.put, List.setIfInBounds_toArray, List.set_cons_zero, List.set_cons_succ]
                rfl
              refine tk_ 7 (some 34) (bt 8 9) (v := ?_) (a' := ?_) rfl rfl (by kernel_rfl) (fun _ _ _ h => h) (yieldsIf_run rfl ?_) hHeld ?_ ?_
              rotate_left
              · intro w'
                go_simp
                with_reducible rfl
              rotate_left
              · simp only [Act.put, List.setIfInBounds_toArray, List.set_cons_zero, List.set_cons_succ]
                rfl
              refine tk_ 8 (some 35) (bt 9 8) rfl rfl (by kernel_rfl) (fun _ _ _ h => h) (yieldsIf_run (v := .bool false) rfl fun W' => (show _ = Result.ok (Next.value (.bool ((i : Int) != (i : Int)))) W' from rfl).trans (by rw [bne_self_eq_false])) hHeld (a' := ?_) ?_ ?_
              rotate_left
              · simp only [Act.put, List.setIfInBounds_toArray, List.set_cons_zero, List.set_cons_succ]
                rfl
              refine tk_ 9 (some 36) (bt 10 7) (v := ?_) (a' := ?_) rfl rfl (by kernel_rfl) (fun _ _ _ h => h) (yieldsIf_run rfl ?_) hHeld ?_ ?_
              rotate_left
              · intro w'
                go_simp
                with_reducible rfl
              rotate_left
              · simp only [Act.put, List.setIfInBounds_toArray, List.set_cons_zero, List.set_cons_succ]
                rfl
              refine tk_ 10 (some 37) (bt 11 6) rfl rfl (by kernel_rfl) (fun _ _ _ h => h) (yieldsIf_off rfl) hHeld (a' := ?_) ?_ ?_
              rotate_left
              · simp only [Act.put, List.setIfInBounds_toArray, List.set_cons_zero, List.set_cons_succ]
                rfl
              refine tk_ 11 (some 38) (bt 12 5) rfl rfl (by kernel_rfl) (fun _ _ _ h => h) (yieldsIf_off rfl) hHeld (a' := ?_) ?_ ?_
              rotate_left
              · simp only [Act.put, List.setIfInBounds_toArray, List.set_cons_zero, List.set_cons_succ]
                rfl
              refine tk_ 12 (some 39) (bt 13 4) rfl rfl (by kernel_rfl) (fun _ _ _ h => h) (yieldsIf_off rfl) hHeld (a' := ?_) ?_ ?_
              rotate_left
              · simp only [Act.put, List.setIfInBounds_toArray, List.set_cons_zero, List.set_cons_succ]
                rfl
              refine tk_ 13 (some 40) (bt 14 3) rfl rfl (by kernel_rfl) (fun _ _ _ h => h) (yieldsIf_off rfl) hHeld (a' := ?_) ?_ ?_
              rotate_left
              · simp only [Act.put, List.setIfInBounds_toArray, List.set_cons_zero, List.set_cons_succ]
                rfl
              refine tk_ 14 (some 41) (bt 15 2) rfl rfl (by kernel_rfl) (fun _ _ _ h => h) (yieldsIf_off rfl) hHeld (a' := ?_) ?_ ?_
              rotate_left
              · simp only [Act.put, List.setIfInBounds_toArray, List.set_cons_zero, List.set_cons_succ]
                rfl
              refine tk_ 15 (some 42) (bt 16 1) (v := ?_) (a' := ?_) rfl rfl (by kernel_rfl) (fun _ _ _ h => h) (yieldsIf_run rfl ?_) hHeld ?_ ?_
              rotate_left
              · intro w'
                go_simp
                with_reducible rfl
              rotate_left
              · simp only [Act.put, List.setIfInBounds_toArray, List.set_cons_zero, List.set_cons_succ]
                rfl
              refine tk_ 16 (some 43) (bt 17 0) (v := ?_) (a' := ?_) rfl rfl (by kernel_rfl) (fun _ _ _ h => h) (yieldsIf_run rfl ?_) hHeld ?_ ?_
              rotate_left
              · intro w'
                go_simp
                with_reducible rfl
              rotate_left
              · simp only [Act.put, List.setIfInBounds_toArray, List.set_cons_zero, List.set_cons_succ]
                rfl
              refine wpAnyH_done (by kernel_rfl) ?_ _
              change Exit.then _ _ _ _ _
              go_wp2
              go_roundw
              case rel =>
                refine ⟨i + 1, by omega, by go_num, fun k' b' hk' hb' => ?_, hHeld.below⟩
                rcases Nat.lt_or_eq_of_le (Nat.le_of_lt_succ hk') with h | h
                · exact HQ.out k' b' h hb'
                · subst h
                  rw [HBK.out] at hb'
                  injection hb' with hb'
                  rw [← hb']
                  exact ⟨HFF.out.1 hff, fun h => absurd rfl h⟩
              case measure => simp [intOf]; omega
            · have hne : ((i : Int) != (k : Int)) = true := by rw [bne_iff_ne]; omega
              obtain ⟨am, ham⟩ : ∃ m, a.h.miner = m := ⟨_, rfl⟩
              obtain ⟨bm, hbm⟩ : ∃ m, b.h.miner = m := ⟨_, rfl⟩
              obtain ⟨g, hg⟩ : ∃ g, (am == bm) = g := ⟨_, rfl⟩
              have HAM := Lib.hid ham
              have HBM := Lib.hid hbm
              have HGG := Lib.hid hg
              clear ham hbm hg
              refine st_ (S := (fun W' => PairS Wo W' ga gb a b)) 17 (bt 0 17) (by kernel_rfl) rfl (by rfl) HPS.out (fun hHeld => ?_)
              refine tk_ 0 (some 27) (bt 1 16) rfl rfl (by kernel_rfl) (fun _ _ _ h => h) (yieldsIf_load rfl 29 (.tmp 4) rfl ga 0 rfl a.cells _ (fun W' h => h.la) Tryz.underlying29 rfl rh_size) hHeld (a' := ?_) ?_ ?_
              rotate_left
              · simp only [Act.put, List.setIfInBounds_toArray, List.set_cons_zero, List.set_cons_succ]
                rfl
              refine tk_ 2 (some 29) #[true, false, true, false, false, false, false, false, false, false, false, false, false, false, false, false, false] rfl rfl (by kernel_rfl) (fun _ _ _ h => h) (yieldsIf_load rfl 29 (.tmp 6) rfl gb 0 rfl b.cells _ (fun W' h => h.lb) Tryz.underlying29 rfl rh_size) hHeld (a' := ?_) ?_ ?_
              rotate_left
              · simp only [Act.put, List.setIfInBounds_toArray, List.set_cons_zero, List.set_cons_succ]
                rfl
              refine call_ 1 (some 28) (bt 3 14) rfl rfl (by kernel_rfl) rfl 93 _ (by kernel_rfl) (HFA.out _ hHeld.aa) ?_
              rintro e w1 ⟨rfl, hb1⟩
              refine ⟨_, rfl, hHeld.next hb1, fun hHeld => ⟨?_, ?_, ?_⟩⟩
              rotate_left
              · simp only [Act.put, List.setIfInBounds_toArray, List.set_cons_zero, List.set_cons_succ]
                rfl
              refine call_ 3 (some 30) (bt 4 13) rfl rfl (by kernel_rfl) rfl 93 _ (by kernel_rfl) (HFB.out _ hHeld.ab) ?_
              rintro e w2 ⟨rfl, hb2⟩
              refine ⟨_, rfl, hHeld.next hb2, fun hHeld => ⟨?_, ?_, ?_⟩⟩
              rotate_left
              · simp only [Act.put, List.setIfInBounds_toArray, List.set_cons_zero, List.set_cons_succ]
                rfl
              refine tk_ 4 (some 31) (bt 5 12) rfl rfl (by kernel_rfl) (fun _ _ _ h => h) (yieldsIf_run (v := .bool false) rfl fun W' => (show _ = Result.ok (Next.value (.bool (!(fa.toList == fb.toList)))) W' from rfl).trans (by rw [hq])) hHeld (a' := ?_) ?_ ?_
              rotate_left
              · simp only [Act.put, List.setIfInBounds_toArray, List.set_cons_zero, List.set_cons_succ]
                rfl
              refine tk_ 5 (some 32) (bt 6 11) (v := ?_) (a' := ?_) rfl rfl (by kernel_rfl) (fun _ _ _ h => h) (yieldsIf_run rfl ?_) hHeld ?_ ?_
              rotate_left
              · intro w'
                go_simp
                with_reducible rfl
              rotate_left
              · simp only [Act.put, List.setIfInBounds_toArray, List.set_cons_zero, List.set_cons_succ]
                rfl
              refine tk_ 6 (some 33) (bt 7 10) (v := ?_) (a' := ?_) rfl rfl (by kernel_rfl) (fun _ _ _ h => h) (yieldsIf_run rfl ?_) hHeld ?_ ?_
              rotate_left
              · intro w'
                go_simp
                with_reducible rfl
              rotate_left
              · simp only [Act.put, List.setIfInBounds_toArray, List.set_cons_zero, List.set_cons_succ]
                rfl
              refine tk_ 7 (some 34) (bt 8 9) (v := ?_) (a' := ?_) rfl rfl (by kernel_rfl) (fun _ _ _ h => h) (yieldsIf_run rfl ?_) hHeld ?_ ?_
              rotate_left
              · intro w'
                go_simp
                with_reducible rfl
              rotate_left
              · simp only [Act.put, List.setIfInBounds_toArray, List.set_cons_zero, List.set_cons_succ]
                rfl
              refine tk_ 8 (some 35) (bt 9 8) rfl rfl (by kernel_rfl) (fun _ _ _ h => h) (yieldsIf_run (v := .bool true) rfl fun W' => (show _ = Result.ok (Next.value (.bool ((i : Int) != (k : Int)))) W' from rfl).trans (by rw [hne])) hHeld (a' := ?_) ?_ ?_
              rotate_left
              · simp only [Act.put, List.setIfInBounds_toArray, List.set_cons_zero, List.set_cons_succ]
                rfl
              refine tk_ 9 (some 36) (bt 10 7) (v := ?_) (a' := ?_) rfl rfl (by kernel_rfl) (fun _ _ _ h => h) (yieldsIf_run rfl ?_) hHeld ?_ ?_
              rotate_left
              · intro w'
                go_simp
                with_reducible rfl
              rotate_left
              · simp only [Act.put, List.setIfInBounds_toArray, List.set_cons_zero, List.set_cons_succ]
                rfl
              refine tk_ 10 (some 37) (bt 11 6) (v := ?_) (a' := ?_) rfl rfl (by kernel_rfl) (fun _ _ _ h => h) (yieldsIf_run rfl ?_) hHeld ?_ ?_
              rotate_left
              · intro w'
                go_simp
                with_reducible rfl
              rotate_left
              · simp only [Act.put, List.setIfInBounds_toArray, List.set_cons_zero, List.set_cons_succ]
                rfl
              refine tk_ 11 (some 38) (bt 12 5) rfl rfl (by kernel_rfl) (fun _ _ _ h => h) (yieldsIf_cell rfl 3 (.tmp 37) rfl ⟨ga, 1, none⟩ rfl (.int .i64 am) _ (fun W' h => cell_block h.ca (by rw [← HAM.out]; rfl)) Tryz.underlying3 rfl) hHeld (a' := ?_) ?_ ?_
              rotate_left
              · simp only [Act.put, List.setIfInBounds_toArray, List.set_cons_zero, List.set_cons_succ]
                rfl
              refine tk_ 12 (some 39) (bt 13 4) (v := ?_) (a' := ?_) rfl rfl (by kernel_rfl) (fun _ _ _ h => h) (yieldsIf_run rfl ?_) hHeld ?_ ?_
              rotate_left
              · intro w'
                go_simp
                with_reducible rfl
              rotate_left
              · simp only [Act.put, List.setIfInBounds_toArray, List.set_cons_zero, List.set_cons_succ]
                rfl
              refine tk_ 13 (some 40) (bt 14 3) rfl rfl (by kernel_rfl) (fun _ _ _ h => h) (yieldsIf_cell rfl 3 (.tmp 39) rfl ⟨gb, 1, none⟩ rfl (.int .i64 bm) _ (fun W' h => cell_block h.cb (by rw [← HBM.out]; rfl)) Tryz.underlying3 rfl) hHeld (a' := ?_) ?_ ?_
              rotate_left
              · simp only [Act.put, List.setIfInBounds_toArray, List.set_cons_zero, List.set_cons_succ]
                rfl
              refine tk_ 14 (some 41) (bt 15 2) rfl rfl (by kernel_rfl) (fun _ _ _ h => h) (yieldsIf_run (v := .bool g) rfl fun W' => (show _ = Result.ok (Next.value (.bool (am == bm))) W' from rfl).trans (by rw [HGG.out])) hHeld (a' := ?_) ?_ ?_
              rotate_left
              · simp only [Act.put, List.setIfInBounds_toArray, List.set_cons_zero, List.set_cons_succ]
                rfl
              refine tk_ 15 (some 42) (bt 16 1) (v := ?_) (a' := ?_) rfl rfl (by kernel_rfl) (fun _ _ _ h => h) (yieldsIf_run rfl ?_) hHeld ?_ ?_
              rotate_left
              · intro w'
                go_simp
                with_reducible rfl
              rotate_left
              · simp only [Act.put, List.setIfInBounds_toArray, List.set_cons_zero, List.set_cons_succ]
                rfl
              refine tk_ 16 (some 43) (bt 17 0) (v := ?_) (a' := ?_) rfl rfl (by kernel_rfl) (fun _ _ _ h => h) (yieldsIf_run rfl ?_) hHeld ?_ ?_
              rotate_left
              · intro w'
                go_simp
                with_reducible rfl
              rotate_left
              · simp only [Act.put, List.setIfInBounds_toArray, List.set_cons_zero, List.set_cons_succ]
                rfl
              refine wpAnyH_done (by kernel_rfl) ?_ _
              change Exit.then _ _ _ _ _
              cases g
              · go_wp2
                go_roundw
                case rel =>
                  refine ⟨k + 1, by omega, by go_num, fun k' b' hk' hb' => ?_, hHeld.below⟩
                  rcases Nat.lt_or_eq_of_le (Nat.le_of_lt_succ hk') with h | h
                  · exact HQ.out k' b' h hb'
                  · subst h
                    rw [HBK.out] at hb'
                    injection hb' with hb'
                    rw [← hb']
                    refine ⟨HFF.out.1 hff, fun _ he => ?_⟩
                    rw [HAM.out, HBM.out] at he
                    have := HGG.out
                    rw [he, beq_self_eq_true] at this
                    cases this
                case measure => simp [intOf]; omega
              · have hv := HV15.out i k a b HA.out HBK.out fun h => h.2 hik (by rw [HAM.out, HBM.out]; exact beq_iff_eq.1 HGG.out)
                subst hv
                go_wp2
                go_ret
                exact ⟨rfl, HBA.out.trans (hHeld.below.mono HBA.out.size)⟩
          · have hq : (!(fa.toList == fb.toList)) = true := by rw [str_beq, decide_eq_false hff]; rfl
            have hv := HV15.out i k a b HA.out HBK.out fun h => hff (HFF.out.2 h.1)
            subst hv
            refine st_ (S := (fun W' => PairS Wo W' ga gb a b)) 17 (bt 0 17) (by kernel_rfl) rfl (by rfl) HPS.out (fun hHeld => ?_)
            refine tk_ 0 (some 27) (bt 1 16) rfl rfl (by kernel_rfl) (fun _ _ _ h => h) (yieldsIf_load rfl 29 (.tmp 4) rfl ga 0 rfl a.cells _ (fun W' h => h.la) Tryz.underlying29 rfl rh_size) hHeld (a' := ?_) ?_ ?_
            rotate_left
            · simp only [Act.put, List.setIfInBounds_toArray, List.set_cons_zero, List.set_cons_succ]
              rfl
            refine tk_ 2 (some 29) #[true, false, true, false, false, false, false, false, false, false, false, false, false, false, false, false, false] rfl rfl (by kernel_rfl) (fun _ _ _ h => h) (yieldsIf_load rfl 29 (.tmp 6) rfl gb 0 rfl b.cells _ (fun W' h => h.lb) Tryz.underlying29 rfl rh_size) hHeld (a' := ?_) ?_ ?_
            rotate_left
            · simp only [Act.put, List.setIfInBounds_toArray, List.set_cons_zero, List.set_cons_succ]
              rfl
            refine call_ 1 (some 28) (bt 3 14) rfl rfl (by kernel_rfl) rfl 93 _ (by kernel_rfl) (HFA.out _ hHeld.aa) ?_
            rintro e w1 ⟨rfl, hb1⟩
            refine ⟨_, rfl, hHeld.next hb1, fun hHeld => ⟨?_, ?_, ?_⟩⟩
            rotate_left
            · simp only [Act.put, List.setIfInBounds_toArray, List.set_cons_zero, List.set_cons_succ]
              rfl
            refine call_ 3 (some 30) (bt 4 13) rfl rfl (by kernel_rfl) rfl 93 _ (by kernel_rfl) (HFB.out _ hHeld.ab) ?_
            rintro e w2 ⟨rfl, hb2⟩
            refine ⟨_, rfl, hHeld.next hb2, fun hHeld => ⟨?_, ?_, ?_⟩⟩
            rotate_left
            · simp only [Act.put, List.setIfInBounds_toArray, List.set_cons_zero, List.set_cons_succ]
              rfl
            refine tk_ 4 (some 31) (bt 5 12) rfl rfl (by kernel_rfl) (fun _ _ _ h => h) (yieldsIf_run (v := .bool true) rfl fun W' => (show _ = Result.ok (Next.value (.bool (!(fa.toList == fb.toList)))) W' from rfl).trans (by rw [hq])) hHeld (a' := ?_) ?_ ?_
            rotate_left
            · simp only [Act.put, List.setIfInBounds_toArray, List.set_cons_zero, List.set_cons_succ]
              rfl
            refine tk_ 5 (some 32) (bt 6 11) (v := ?_) (a' := ?_) rfl rfl (by kernel_rfl) (fun _ _ _ h => h) (yieldsIf_run rfl ?_) hHeld ?_ ?_
            rotate_left
            · intro w'
              go_simp
              with_reducible rfl
            rotate_left
            · simp only [Act.put, List.setIfInBounds_toArray, List.set_cons_zero, List.set_cons_succ]
              rfl
            refine tk_ 6 (some 33) (bt 7 10) rfl rfl (by kernel_rfl) (fun _ _ _ h => h) (yieldsIf_off rfl) hHeld (a' := ?_) ?_ ?_
            rotate_left
            · simp only [Act.put, List.setIfInBounds_toArray, List.set_cons_zero, List.set_cons_succ]
              rfl
            refine tk_ 7 (some 34) (bt 8 9) rfl rfl (by kernel_rfl) (fun _ _ _ h => h) (yieldsIf_off rfl) hHeld (a' := ?_) ?_ ?_
            rotate_left
            · simp only [Act.put, List.setIfInBounds_toArray, List.set_cons_zero, List.set_cons_succ]
              rfl
            refine tk_ 8 (some 35) (bt 9 8) rfl rfl (by kernel_rfl) (fun _ _ _ h => h) (yieldsIf_off rfl) hHeld (a' := ?_) ?_ ?_
            rotate_left
            · simp only [Act.put, List.setIfInBounds_toArray, List.set_cons_zero, List.set_cons_succ]
              rfl
            refine tk_ 9 (some 36) (bt 10 7) rfl rfl (by kernel_rfl) (fun _ _ _ h => h) (yieldsIf_off rfl) hHeld (a' := ?_) ?_ ?_
            rotate_left
            · simp only [Act.put, List.setIfInBounds_toArray, List.set_cons_zero, List.set_cons_succ]
              rfl
            refine tk_ 10 (some 37) (bt 11 6) rfl rfl (by kernel_rfl) (fun _ _ _ h => h) (yieldsIf_off rfl) hHeld (a' := ?_) ?_ ?_
            rotate_left
            · simp only [Act.put, List.setIfInBounds_toArray, List.set_cons_zero, List.set_cons_succ]
              rfl
            refine tk_ 11 (some 38) (bt 12 5) rfl rfl (by kernel_rfl) (fun _ _ _ h => h) (yieldsIf_off rfl) hHeld (a' := ?_) ?_ ?_
            rotate_left
            · simp only [Act.put, List.setIfInBounds_toArray, List.set_cons_zero, List.set_cons_succ]
              rfl
            refine tk_ 12 (some 39) (bt 13 4) rfl rfl (by kernel_rfl) (fun _ _ _ h => h) (yieldsIf_off rfl) hHeld (a' := ?_) ?_ ?_
            rotate_left
            · simp only [Act.put, List.setIfInBounds_toArray, List.set_cons_zero, List.set_cons_succ]
              rfl
            refine tk_ 13 (some 40) (bt 14 3) rfl rfl (by kernel_rfl) (fun _ _ _ h => h) (yieldsIf_off rfl) hHeld (a' := ?_) ?_ ?_
            rotate_left
            · simp only [Act.put, List.setIfInBounds_toArray, List.set_cons_zero, List.set_cons_succ]
              rfl
            refine tk_ 14 (some 41) (bt 15 2) rfl rfl (by kernel_rfl) (fun _ _ _ h => h) (yieldsIf_off rfl) hHeld (a' := ?_) ?_ ?_
            rotate_left
            · simp only [Act.put, List.setIfInBounds_toArray, List.set_cons_zero, List.set_cons_succ]
              rfl
            refine tk_ 15 (some 42) (bt 16 1) rfl rfl (by kernel_rfl) (fun _ _ _ h => h) (yieldsIf_off rfl) hHeld (a' := ?_) ?_ ?_
            rotate_left
            · simp only [Act.put, List.setIfInBounds_toArray, List.set_cons_zero, List.set_cons_succ]
              rfl
            refine tk_ 16 (some 43) (bt 17 0) (v := ?_) (a' := ?_) rfl rfl (by kernel_rfl) (fun _ _ _ h => h) (yieldsIf_run rfl ?_) hHeld ?_ ?_
            rotate_left
            · intro w'
              go_simp
              with_reducible rfl
            rotate_left
            · simp only [Act.put, List.setIfInBounds_toArray, List.set_cons_zero, List.set_cons_succ]
              rfl
            refine wpAnyH_done (by kernel_rfl) ?_ _
            change Exit.then _ _ _ _ _
            go_wp2
            go_ret
            exact ⟨rfl, HBA.out.trans (hHeld.below.mono HBA.out.size)⟩
        · have hkk : k = ys.length := by omega
          subst hkk
          go_wp2
          go_roundw
          case rel =>
            refine ⟨i + 1, by omega, by go_num, fun i' k' a' b' hi' ha' hb' => ?_, HBA.out.trans (HB2.out.mono HBA.out.size)⟩
            rcases Nat.lt_or_eq_of_le (Nat.le_of_lt_succ hi') with h | h
            · exact HP.out i' k' a' b' h ha' hb'
            · subst h
              rw [HA.out] at ha'
              injection ha' with ha'
              rw [← ha']
              exact HQ.out k' b' (List.getElem?_eq_some_iff.1 hb').1 hb'
          case measure => simp [intOf]; omega
    · have hii : i = ys.length := by omega
      subst hii
      have hv := HV0.out fun i' k a b ha hb => HP.out i' k a b (List.getElem?_eq_some_iff.1 ha).1 ha hb
      subst hv
      go_wp2
      go_ret
      exact ⟨rfl, HB.out⟩
end Go.Proofs.YtcohdfkdhdhegaaGreatDoor
