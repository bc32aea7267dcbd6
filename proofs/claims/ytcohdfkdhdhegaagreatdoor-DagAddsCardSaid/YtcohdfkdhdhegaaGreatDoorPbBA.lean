/- coxswainref05.Rise, Check. Printed by mkcheck.py. -/
import Derived.Test.YtcohdfkdhdhegaaGreatDoorPbAS
namespace Go.Proofs.YtcohdfkdhdhegaaGreatDoor
open Go.RowKit

set_option maxRecDepth 100000 in
set_option maxHeartbeats 2000000 in
theorem rrise_any (w : World) (v : Value) (l : List ByteArray) (ok : Nat → Prop) (hl : Sl strE ok w v l) (hlen : l.length ≤ 1000) :
    Calls Tryz.prog 137 #[v] w fun e w' => e = .returned (.bool (riseS l)) ∧ Below w.heap.size w w' := by
  obtain ⟨A, c, rfl, hc, hm⟩ := hl.form
  have HL := Lib.hid hl
  clear hl
  go_enter Tryz.func137, Tryz.ntmps137
  go_wp2
  go_loopw [6] (fun c6 W => ∃ i : Nat, i ≤ l.length ∧ c6 = .int .i64 (i : Int) ∧ (∀ j x y, j + 1 < i → l[j]? = some x → l[j + 1]? = some y → ltS x y = true) ∧ Below w.heap.size w W) (fun c6 _ => l.length - (intOf c6).toNat)
  case atStart => exact ⟨0, by omega, rfl, fun j x y h => by omega, Below.refl _ _⟩
  case round =>
    obtain ⟨i, hi, rfl, hr, hB⟩ := hrel
    have HR := Lib.hid hr
    have HB := Lib.hid hB
    clear hr hB
    by_cases hil : i < l.length
    · rcases Nat.eq_zero_or_pos i with h0 | h0
      · subst h0
        go_upto_region 4 with fail
        refine st_ (S := (fun W' => W' = wr.drew)) 14 (bt 0 14) (by kernel_rfl) rfl (by rfl) rfl (fun hHeld => ?_)
        refine tk_ 0 (some 9) (bt 1 13) (v := ?_) (a' := ?_) rfl rfl (by kernel_rfl) (fun _ _ _ h => h) (yieldsIf_run rfl ?_) hHeld ?_ ?_
        rotate_left
        · intro w'
          go_simp
          with_reducible rfl
        rotate_left
        · simp only [Act.put, List.setIfInBounds_toArray, List.set_cons_zero, List.set_cons_succ]
          rfl
        refine tk_ 1 (some 10) (bt 2 12) (v := ?_) (a' := ?_) rfl rfl (by kernel_rfl) (fun _ _ _ h => h) (yieldsIf_run rfl ?_) hHeld ?_ ?_
        rotate_left
        · intro w'
          go_simp
          with_reducible rfl
        rotate_left
        · simp only [Act.put, List.setIfInBounds_toArray, List.set_cons_zero, List.set_cons_succ]
          rfl
        refine tk_ 2 (some 11) (bt 3 11) (v := ?_) (a' := ?_) rfl rfl (by kernel_rfl) (fun _ _ _ h => h) (yieldsIf_run rfl ?_) hHeld ?_ ?_
        rotate_left
        · intro w'
          go_simp
          with_reducible rfl
        rotate_left
        · simp only [Act.put, List.setIfInBounds_toArray, List.set_cons_zero, List.set_cons_succ]
          rfl
        refine tk_ 3 (some 12) (bt 4 10) rfl rfl (by kernel_rfl) (fun _ _ _ h => h) (yieldsIf_off rfl) hHeld (a' := ?_) ?_ ?_
        rotate_left
        · simp only [Act.put, List.setIfInBounds_toArray, List.set_cons_zero, List.set_cons_succ]
          rfl
        refine tk_ 4 (some 13) (bt 5 9) rfl rfl (by kernel_rfl) (fun _ _ _ h => h) (yieldsIf_off rfl) hHeld (a' := ?_) ?_ ?_
        rotate_left
        · simp only [Act.put, List.setIfInBounds_toArray, List.set_cons_zero, List.set_cons_succ]
          rfl
        refine tk_ 5 (some 14) (bt 6 8) rfl rfl (by kernel_rfl) (fun _ _ _ h => h) (yieldsIf_off rfl) hHeld (a' := ?_) ?_ ?_
        rotate_left
        · simp only [Act.put, List.setIfInBounds_toArray, List.set_cons_zero, List.set_cons_succ]
          rfl
        refine tk_ 6 (some 15) (bt 7 7) rfl rfl (by kernel_rfl) (fun _ _ _ h => h) (yieldsIf_off rfl) hHeld (a' := ?_) ?_ ?_
        rotate_left
        · simp only [Act.put, List.setIfInBounds_toArray, List.set_cons_zero, List.set_cons_succ]
          rfl
        refine tk_ 7 (some 16) (bt 8 6) rfl rfl (by kernel_rfl) (fun _ _ _ h => h) (yieldsIf_off rfl) hHeld (a' := ?_) ?_ ?_
        rotate_left
        · simp only [Act.put, List.setIfInBounds_toArray, List.set_cons_zero, List.set_cons_succ]
          rfl
        refine tk_ 8 (some 17) (bt 9 5) rfl rfl (by kernel_rfl) (fun _ _ _ h => h) (yieldsIf_off rfl) hHeld (a' := ?_) ?_ ?_
        rotate_left
        · simp only [Act.put, List.setIfInBounds_toArray, List.set_cons_zero, List.set_cons_succ]
          rfl
        refine tk_ 9 (some 18) (bt 10 4) rfl rfl (by kernel_rfl) (fun _ _ _ h => h) (yieldsIf_off rfl) hHeld (a' := ?_) ?_ ?_
        rotate_left
        · simp only [Act.put, List.setIfInBounds_toArray, List.set_cons_zero, List.set_cons_succ]
          rfl
        refine tk_ 10 (some 19) (bt 11 3) rfl rfl (by kernel_rfl) (fun _ _ _ h => h) (yieldsIf_off rfl) hHeld (a' := ?_) ?_ ?_
        rotate_left
        · simp only [Act.put, List.setIfInBounds_toArray, List.set_cons_zero, List.set_cons_succ]
          rfl
        refine tk_ 11 (some 20) (bt 12 2) rfl rfl (by kernel_rfl) (fun _ _ _ h => h) (yieldsIf_off rfl) hHeld (a' := ?_) ?_ ?_
        rotate_left
        · simp only [Act.put, List.setIfInBounds_toArray, List.set_cons_zero, List.set_cons_succ]
          rfl
        refine tk_ 12 (some 21) (bt 13 1) rfl rfl (by kernel_rfl) (fun _ _ _ h => h) (yieldsIf_off rfl) hHeld (a' := ?_) ?_ ?_
        rotate_left
        · simp only [Act.put, List.setIfInBounds_toArray, List.set_cons_zero, List.set_cons_succ]
          rfl
        refine tk_ 13 (some 22) (bt 14 0) (v := ?_) (a' := ?_) rfl rfl (by kernel_rfl) (fun _ _ _ h => h) (yieldsIf_run rfl ?_) hHeld ?_ ?_
        rotate_left
        · intro w'
          go_simp
          with_reducible rfl
        rotate_left
        · simp only [Act.put, List.setIfInBounds_toArray, List.set_cons_zero, List.set_cons_succ]
          rfl
        refine wpAnyH_done (by kernel_rfl) ?_ _
        change Exit.then _ _ _ _ _
        go_wp2
        go_roundw
        case rel => exact ⟨1, by omega, rfl, fun j x y h => by omega, HB.out.drew⟩
        case measure => simp [intOf]; omega
      · obtain ⟨p, rfl⟩ : ∃ p, i = p + 1 := ⟨i - 1, by omega⟩
        obtain ⟨x, hx⟩ : ∃ x, l[p]? = some x := ⟨_, List.getElem?_eq_getElem (by omega)⟩
        obtain ⟨y, hy⟩ : ∃ y, l[p + 1]? = some y := ⟨_, List.getElem?_eq_getElem (by omega)⟩
        have hsl := HL.out.below HB.out
        obtain ⟨b, off, rfl, -, -, hcx⟩ := hsl.at_ p x hx
        have hcp : wr.drew.cell? ⟨b, off + p, none⟩ = some (.string x) := by have := hcx 0 _ rfl; rwa [Nat.add_zero, show strE.k = 1 from rfl, Nat.mul_one] at this
        obtain ⟨b', off', he, -, -, hcy⟩ := hsl.at_ (p + 1) y hy
        have hcq : wr.drew.cell? ⟨b, off + (p + 1), none⟩ = some (.string y) := by
          injection he with he
          injection he with e1 e2
          subst e1
          subst e2
          have := hcy 0 _ rfl
          rwa [Nat.add_zero, show strE.k = 1 from rfl, Nat.mul_one] at this
        obtain ⟨g, hg⟩ : ∃ g, ltS x y = g := ⟨_, rfl⟩
        have HG := Lib.hid hg
        have HCC := Lib.hid (And.intro hcp hcq)
        have HXY := Lib.hid (And.intro hx hy)
        have hpl : p < l.length := by omega
        have hp0 : (0 : Int) ≤ (p : Int) + 1 := by omega
        clear hsl hcx hcy hcp hcq he hx hy hg
        go_upto_region 4 with fail
        refine st_ (S := (fun W' => W' = wr.drew)) 14 (bt 0 14) (by kernel_rfl) rfl (by rfl) rfl (fun hHeld => ?_)
        refine tk_ 0 (some 9) (bt 1 13) (v := ?_) (a' := ?_) rfl rfl (by kernel_rfl) (fun _ _ _ h => h) (yieldsIf_run rfl ?_) hHeld ?_ ?_
        rotate_left
        · intro w'
          go_simp
          with_reducible rfl
        rotate_left
        · simp only [Act.put, List.setIfInBounds_toArray, List.set_cons_zero, List.set_cons_succ]
          rfl
        refine tk_ 1 (some 10) (bt 2 12) (v := ?_) (a' := ?_) rfl rfl (by kernel_rfl) (fun _ _ _ h => h) (yieldsIf_run rfl ?_) hHeld ?_ ?_
        rotate_left
        · intro w'
          go_simp
          with_reducible rfl
        rotate_left
        · simp only [Act.put, List.setIfInBounds_toArray, List.set_cons_zero, List.set_cons_succ]
          rfl
        refine tk_ 2 (some 11) (bt 3 11) (v := ?_) (a' := ?_) rfl rfl (by kernel_rfl) (fun _ _ _ h => h) (yieldsIf_run rfl ?_) hHeld ?_ ?_
        rotate_left
        · intro w'
          go_simp
          with_reducible rfl
        rotate_left
        · simp only [Act.put, List.setIfInBounds_toArray, List.set_cons_zero, List.set_cons_succ]
          rfl
        refine tk_ 3 (some 12) (bt 4 10) (v := ?_) (a' := ?_) rfl rfl (by kernel_rfl) (fun _ _ _ h => h) (yieldsIf_run rfl ?_) hHeld ?_ ?_
        rotate_left
        · intro w'
          go_simp
          with_reducible rfl
        rotate_left
        · simp only [Act.put, List.setIfInBounds_toArray, List.set_cons_zero, List.set_cons_succ]
          rfl
        refine tk_ 4 (some 13) (bt 5 9) (v := ?_) (a' := ?_) rfl rfl (by kernel_rfl) (fun _ _ _ h => h) (yieldsIf_run rfl ?_) hHeld ?_ ?_
        rotate_left
        · intro w'
          go_simp
          with_reducible rfl
        rotate_left
        · simp only [Act.put, List.setIfInBounds_toArray, List.set_cons_zero, List.set_cons_succ]
          rfl
        refine tk_ 5 (some 14) (bt 6 8) rfl rfl (by kernel_rfl) (fun _ _ _ h => h) (yieldsIf_run (v := .int .i64 (p : Int)) rfl fun W' => (show _ = Result.ok (Next.value (.int .i64 (IntKind.i64.wrap (((p + 1 : Nat) : Int) - 1)))) W' from rfl).trans (by rw [IntWalk.i64_in _ (by omega)]; congr 3; omega)) hHeld (a' := ?_) ?_ ?_
        rotate_left
        · simp only [Act.put, List.setIfInBounds_toArray, List.set_cons_zero, List.set_cons_succ]
          rfl
        refine tk_ 6 (some 15) (bt 7 7) (v := ?_) (a' := ?_) rfl rfl (by kernel_rfl) (fun _ _ _ h => h) (yieldsIf_run rfl ?_) hHeld ?_ ?_
        rotate_left
        · intro w'
          go_simp
          with_reducible rfl
        rotate_left
        · simp only [Act.put, List.setIfInBounds_toArray, List.set_cons_zero, List.set_cons_succ]
          rfl
        refine tk_ 7 (some 16) (bt 8 6) rfl rfl (by kernel_rfl) (fun _ _ _ h => h) (yieldsIf_cell rfl 9 (.tmp 15) rfl ⟨b, off + p, none⟩ rfl (.string x) _ (fun W' h => by rw [h]; exact HCC.out.1) Tryz.underlying9 rfl) hHeld (a' := ?_) ?_ ?_
        rotate_left
        · simp only [Act.put, List.setIfInBounds_toArray, List.set_cons_zero, List.set_cons_succ]
          rfl
        refine tk_ 8 (some 17) (bt 9 5) (v := ?_) (a' := ?_) rfl rfl (by kernel_rfl) (fun _ _ _ h => h) (yieldsIf_run rfl ?_) hHeld ?_ ?_
        rotate_left
        · intro w'
          go_simp
          with_reducible rfl
        rotate_left
        · simp only [Act.put, List.setIfInBounds_toArray, List.set_cons_zero, List.set_cons_succ]
          rfl
        refine tk_ 9 (some 18) (bt 10 4) (v := ?_) (a' := ?_) rfl rfl (by kernel_rfl) (fun _ _ _ h => h) (yieldsIf_run rfl ?_) hHeld ?_ ?_
        rotate_left
        · intro w'
          go_simp
          with_reducible rfl
        rotate_left
        · simp only [Act.put, List.setIfInBounds_toArray, List.set_cons_zero, List.set_cons_succ]
          rfl
        refine tk_ 10 (some 19) (bt 11 3) (v := ?_) (a' := ?_) rfl rfl (by kernel_rfl) (fun _ _ _ h => h) (yieldsIf_run rfl ?_) hHeld ?_ ?_
        rotate_left
        · intro w'
          go_simp
          with_reducible rfl
        rotate_left
        · simp only [Act.put, List.setIfInBounds_toArray, List.set_cons_zero, List.set_cons_succ]
          rfl
        refine tk_ 11 (some 20) (bt 12 2) rfl rfl (by kernel_rfl) (fun _ _ _ h => h) (yieldsIf_cell rfl 9 (.tmp 19) rfl ⟨b, off + (p + 1), none⟩ rfl (.string y) _ (fun W' h => by rw [h]; exact HCC.out.2) Tryz.underlying9 rfl) hHeld (a' := ?_) ?_ ?_
        rotate_left
        · simp only [Act.put, List.setIfInBounds_toArray, List.set_cons_zero, List.set_cons_succ]
          rfl
        refine tk_ 12 (some 21) (bt 13 1) rfl rfl (by kernel_rfl) (fun _ _ _ h => h) (yieldsIf_run (v := .bool (!g)) rfl fun W' => (show _ = Result.ok (Next.value (.bool (!(ltS x y)))) W' from rfl).trans (by rw [HG.out])) hHeld (a' := ?_) ?_ ?_
        rotate_left
        · simp only [Act.put, List.setIfInBounds_toArray, List.set_cons_zero, List.set_cons_succ]
          rfl
        refine tk_ 13 (some 22) (bt 14 0) (v := ?_) (a' := ?_) rfl rfl (by kernel_rfl) (fun _ _ _ h => h) (yieldsIf_run rfl ?_) hHeld ?_ ?_
        rotate_left
        · intro w'
          go_simp
          with_reducible rfl
        rotate_left
        · simp only [Act.put, List.setIfInBounds_toArray, List.set_cons_zero, List.set_cons_succ]
          rfl
        refine wpAnyH_done (by kernel_rfl) ?_ _
        change Exit.then _ _ _ _ _
        cases g
        · go_wp2
          go_ret
          refine ⟨?_, HB.out.drew⟩
          have : riseS l = false := by
            rcases e : riseS l with _ | _
            · rfl
            · have := (riseS_iff l).1 e p x y HXY.out.1 HXY.out.2
              rw [HG.out] at this
              cases this
          rw [this]
          rfl
        · go_wp2
          go_roundw
          case rel =>
            refine ⟨p + 1 + 1, by omega, by go_num, fun j x' y' hj hx' hy' => ?_, HB.out.drew⟩
            rcases Nat.lt_or_eq_of_le (Nat.le_of_lt_succ hj) with h | h
            · exact HR.out j x' y' h hx' hy'
            · obtain rfl : j = p := by omega
              rw [HXY.out.1] at hx'
              rw [HXY.out.2] at hy'
              injection hx' with e1
              injection hy' with e2
              rw [← e1, ← e2, HG.out]
          case measure => simp [intOf]; omega
    · have hii : i = l.length := by omega
      subst hii
      go_wp2
      go_ret
      refine ⟨?_, HB.out⟩
      have : riseS l = true := (riseS_iff l).2 fun j x y hx hy => HR.out j x y (List.getElem?_eq_some_iff.1 hy).1 hx hy
      rw [this]
      rfl

theorem rcheck5_one {h : RH} (h5 : ¬ h.parents.length > 5) (hn : ¬ ((1 ≤ h.height ∧ h.height ≤ 1073741824) ∧ (0 ≤ h.miner ∧ h.miner ≤ 63) ∧ (1 ≤ h.ticket.size ∧ h.ticket.size ≤ 8) ∧ (1 ≤ h.wins ∧ h.wins ≤ 15) ∧ (0 ≤ h.salt ∧ h.salt ≤ 1073741824) ∧ (2 ≤ h.power ∧ h.power ≤ 4611686018427387904) ∧ h.parents.length ≠ 0 ∧ riseS h.parents = true)) : rcheck5 h = 1 := by
  unfold rcheck5
  rw [if_neg h5, if_neg hn]
set_option maxRecDepth 100000 in
set_option maxHeartbeats 4000000 in
theorem rcheck5_any (w : World) (x : LRH) (ok : Nat → Prop) (hx : x.At ok w) (hlen : x.h.parents.length ≤ 1000) (htk : x.h.ticket.size ≤ 1000000) (hp0 : 0 ≤ x.h.power) :
    Calls Tryz.prog 87 #[.agg x.cells.toArray] w fun e w' => e = .returned (.int .i64 (rcheck5 x.h)) ∧ Below w.heap.size w w' := by
  obtain ⟨⟨height, miner, ticket, wins, power, parents, salt⟩, A, c⟩ := x
  have hb0 : Below w.heap.size w (w.alloc (.cells (LRH.cells ⟨⟨height, miner, ticket, wins, power, parents, salt⟩, A, c⟩).toArray 29)) := (Below.refl _ w).alloc (Nat.le_refl _) _
  have hg0 := heap_alloc_new w (.cells (LRH.cells ⟨⟨height, miner, ticket, wins, power, parents, salt⟩, A, c⟩).toArray 29)
  have HX : Hid (Sl strE ok (w.alloc (.cells (LRH.cells ⟨⟨height, miner, ticket, wins, power, parents, salt⟩, A, c⟩).toArray 29)) (.slice A parents.length c) parents) := Lib.hid (Sl.below hx hb0)
  have HB0 := Lib.hid hb0
  have hc0 : (w.alloc (.cells (LRH.cells ⟨⟨height, miner, ticket, wins, power, parents, salt⟩, A, c⟩).toArray 29)).cell? ⟨w.heap.size, 0, none⟩ = some (.int .i64 height) := cell_block hg0 rfl
  have hc1 : (w.alloc (.cells (LRH.cells ⟨⟨height, miner, ticket, wins, power, parents, salt⟩, A, c⟩).toArray 29)).cell? ⟨w.heap.size, 1, none⟩ = some (.int .i64 miner) := cell_block hg0 rfl
  have hc2 : (w.alloc (.cells (LRH.cells ⟨⟨height, miner, ticket, wins, power, parents, salt⟩, A, c⟩).toArray 29)).cell? ⟨w.heap.size, 2, none⟩ = some (.string ticket) := cell_block hg0 rfl
  have hc3 : (w.alloc (.cells (LRH.cells ⟨⟨height, miner, ticket, wins, power, parents, salt⟩, A, c⟩).toArray 29)).cell? ⟨w.heap.size, 3, none⟩ = some (.int .i64 wins) := cell_block hg0 rfl
  have hc4 : (w.alloc (.cells (LRH.cells ⟨⟨height, miner, ticket, wins, power, parents, salt⟩, A, c⟩).toArray 29)).cell? ⟨w.heap.size, 4, none⟩ = some (.int .u64 power) := cell_block hg0 rfl
  have hc5 : (w.alloc (.cells (LRH.cells ⟨⟨height, miner, ticket, wins, power, parents, salt⟩, A, c⟩).toArray 29)).cell? ⟨w.heap.size, 5, none⟩ = some (.slice A parents.length c) := cell_block hg0 rfl
  have hc6 : (w.alloc (.cells (LRH.cells ⟨⟨height, miner, ticket, wins, power, parents, salt⟩, A, c⟩).toArray 29)).cell? ⟨w.heap.size, 6, none⟩ = some (.int .i64 salt) := cell_block hg0 rfl
  simp only at hlen htk hp0
  obtain ⟨tz, htz⟩ : ∃ tz, ticket.size = tz := ⟨_, rfl⟩
  have hpl0 : (0 : Int) ≤ parents.length := by omega
  obtain ⟨rr, hrr⟩ : ∃ rr, riseS parents = rr := ⟨_, rfl⟩
  have HRS : Hid (∀ W, Sl strE ok W (.slice A parents.length c) parents → Calls Tryz.prog 137 #[.slice A parents.length c] W fun e w' => e = .returned (.bool rr) ∧ Below W.heap.size W w') := Lib.hid fun W h => by rw [← hrr]; exact rrise_any W _ parents ok h hlen
  obtain ⟨V, hV⟩ : ∃ V, rcheck5 ⟨height, miner, ticket, wins, power, parents, salt⟩ = V := ⟨_, rfl⟩
  show Calls _ _ _ _ fun e w' => e = .returned (.int .i64 (rcheck5 ⟨height, miner, ticket, wins, power, parents, salt⟩)) ∧ _
  rw [hV]
  have hV1 : ¬ parents.length > 5 → ¬ ((1 ≤ height ∧ height ≤ 1073741824) ∧ (0 ≤ miner ∧ miner ≤ 63) ∧ (1 ≤ tz ∧ tz ≤ 8) ∧ (1 ≤ wins ∧ wins ≤ 15) ∧ (0 ≤ salt ∧ salt ≤ 1073741824) ∧ (2 ≤ power ∧ power ≤ 4611686018427387904) ∧ parents.length ≠ 0 ∧ rr = true) → V = 1 := fun h5 hn => by
    rw [← hV]
    refine rcheck5_one h5 fun hh => hn ?_
    rw [← htz, ← hrr]
    exact hh
  have hV0 : ¬ parents.length > 5 → ((1 ≤ height ∧ height ≤ 1073741824) ∧ (0 ≤ miner ∧ miner ≤ 63) ∧ (1 ≤ tz ∧ tz ≤ 8) ∧ (1 ≤ wins ∧ wins ≤ 15) ∧ (0 ≤ salt ∧ salt ≤ 1073741824) ∧ (2 ≤ power ∧ power ≤ 4611686018427387904) ∧ parents.length ≠ 0 ∧ rr = true) → V = 0 := fun h5 hy => by
    rw [← hV]
    unfold rcheck5
    rw [if_neg h5, if_pos (by rw [← htz, ← hrr] at hy; exact hy)]
  have hV4 : parents.length > 5 → V = 4 := fun h5 => by rw [← hV]; unfold rcheck5; rw [if_pos h5]
  have HV1 := Lib.hid hV1
  have HV0 := Lib.hid hV0
  have HV4 := Lib.hid hV4
  clear hx hb0 hg0 hV hV1 hV0 hV4 hrr
  go_enter Tryz.func87, Tryz.ntmps87
  go_upto_region 1 with fail
  change Code.wp _ _ _ _ (w.alloc (.cells (LRH.cells ⟨⟨height, miner, ticket, wins, power, parents, salt⟩, A, c⟩).toArray 29))
  generalize w.alloc (.cells (LRH.cells ⟨⟨height, miner, ticket, wins, power, parents, salt⟩, A, c⟩).toArray 29) = W0 at HX HB0 hc0 hc1 hc2 hc3 hc4 hc5 hc6 ⊢
  by_cases h5 : parents.length > 5
  · go_wp2
    go_ret
    exact ⟨by rw [HV4.out h5]; rfl, HB0.out⟩
  by_cases q0 : height < 1
  · have hV := HV1.out h5 (by omega)
    subst hV
    go_wp2
    go_ret
    exact ⟨rfl, HB0.out⟩
  by_cases q1 : 1073741824 < height
  · have hV := HV1.out h5 (by omega)
    subst hV
    go_wp2
    go_ret
    exact ⟨rfl, HB0.out⟩
  by_cases q2 : miner < 0
  · have hV := HV1.out h5 (by omega)
    subst hV
    go_wp2
    go_ret
    exact ⟨rfl, HB0.out⟩
  by_cases q3 : 63 < miner
  · have hV := HV1.out h5 (by omega)
    subst hV
    go_wp2
    go_ret
    exact ⟨rfl, HB0.out⟩
  by_cases q4 : tz < 1
  · have hV := HV1.out h5 (by omega)
    subst hV
    go_wp2
    go_ret
    exact ⟨rfl, HB0.out⟩
  by_cases q5 : 8 < tz
  · have hV := HV1.out h5 (by omega)
    subst hV
    go_wp2
    go_ret
    exact ⟨rfl, HB0.out⟩
  by_cases q6 : wins < 1
  · have hV := HV1.out h5 (by omega)
    subst hV
    go_wp2
    go_ret
    exact ⟨rfl, HB0.out⟩
  by_cases q7 : 15 < wins
  · have hV := HV1.out h5 (by omega)
    subst hV
    go_wp2
    go_ret
    exact ⟨rfl, HB0.out⟩
  by_cases q8 : salt < 0
  · have hV := HV1.out h5 (by omega)
    subst hV
    go_wp2
    go_ret
    exact ⟨rfl, HB0.out⟩
  by_cases q9 : 1073741824 < salt
  · have hV := HV1.out h5 (by omega)
    subst hV
    go_wp2
    go_ret
    exact ⟨rfl, HB0.out⟩
  by_cases q10 : power < 2
  · have hV := HV1.out h5 (by omega)
    subst hV
    go_wp2
    go_ret
    exact ⟨rfl, HB0.out⟩
  by_cases q11 : 4611686018427387904 < power
  · have hV := HV1.out h5 (by omega)
    subst hV
    go_wp2
    go_ret
    exact ⟨rfl, HB0.out⟩
  by_cases q12 : parents.length = 0
  · have hV := HV1.out h5 (by omega)
    have hI : (parents.length : Int) = 0 := by omega
    subst hV
    go_wp2
    go_ret
    exact ⟨rfl, HB0.out⟩
  have hI : ¬ (parents.length : Int) = 0 := by omega
  have hI2 : ¬ parents = [] := fun e => q12 (by rw [e]; rfl)
  cases rr
  · have hV := HV1.out h5 (by rintro ⟨-, -, -, -, -, -, -, h⟩; cases h)
    subst hV
    go_wp2_with (go_at_call 137; refine (HRS.out _ HX.out).mono ?_; rintro e w1 ⟨rfl, hb1⟩)
    go_ret
    exact ⟨rfl, HB0.out.trans (hb1.mono HB0.out.size)⟩
  · have hV := HV0.out h5 ⟨⟨by omega, by omega⟩, ⟨by omega, by omega⟩, ⟨by omega, by omega⟩, ⟨by omega, by omega⟩, ⟨by omega, by omega⟩, ⟨by omega, by omega⟩, by omega, rfl⟩
    subst hV
    go_wp2_with (go_at_call 137; refine (HRS.out _ HX.out).mono ?_; rintro e w1 ⟨rfl, hb1⟩)
    go_ret
    exact ⟨rfl, HB0.out.trans (hb1.mono HB0.out.size)⟩
end Go.Proofs.YtcohdfkdhdhegaaGreatDoor
