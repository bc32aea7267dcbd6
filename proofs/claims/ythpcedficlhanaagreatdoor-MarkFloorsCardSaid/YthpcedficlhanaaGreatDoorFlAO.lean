/- coxswainlaw05.Few, Name. Regions in their order, by hand. -/
import Derived.Test.YthpcedficlhanaaGreatDoorFlAN
import Derived.Laws.BitsLemmas
import Derived.Lib.MinMax
namespace Go.Proofs.YthpcedficlhanaaGreatDoor
open Go.RowKit

theorem and_low (n : Int) (k : Nat) (m : Int) (hk : k ≤ 62) (hm : (BitVec.ofInt 64 m).toNat = 2 ^ k - 1) : bits .and .i64 n m = n % 2 ^ k := by
  have key : (BitVec.ofInt 64 n &&& BitVec.ofInt 64 m).toNat = (n % ((2 ^ 64 : Nat) : Int)).toNat % 2 ^ k := by
    rw [BitVec.toNat_and, BitVec.toNat_ofInt, hm, Nat.and_two_pow_sub_one_eq_mod]
  show IntKind.i64.wrap ((BitVec.ofInt 64 n &&& BitVec.ofInt 64 m).toNat : Nat) = n % 2 ^ k
  have hp : (2 : Nat) ^ k ∣ 2 ^ 64 := Nat.pow_dvd_pow 2 (by omega)
  have hlt : (n % ((2 ^ 64 : Nat) : Int)).toNat % 2 ^ k < 2 ^ k := Nat.mod_lt _ (Nat.two_pow_pos k)
  have hle : (2 : Nat) ^ k ≤ 2 ^ 62 := Nat.pow_le_pow_right (by decide) hk
  rw [key, IntKind.wrap_i64]
  have h0 : 0 ≤ n % ((2 ^ 64 : Nat) : Int) := Int.emod_nonneg _ (by decide)
  have h1 : (((n % ((2 ^ 64 : Nat) : Int)).toNat % 2 ^ k : Nat) : Int) = n % 2 ^ k := by
    rw [Int.natCast_emod, Int.toNat_of_nonneg h0]
    have : ((2 ^ k : Nat) : Int) = (2 : Int) ^ k := by simp
    rw [this]
    exact Int.emod_emod_of_dvd n (by rw [← this]; exact Int.natCast_dvd_natCast.2 hp)
  rw [h1]
  have h2 : 0 ≤ n % (2 : Int) ^ k := by rw [← h1]; omega
  have h3 : n % (2 : Int) ^ k < 4611686018427387904 := by
    rw [← h1]
    have : (2 : Nat) ^ 62 = 4611686018427387904 := by decide
    omega
  omega

def fewH (h : RH) : RH := { h with ticket := cutS h.ticket 10, parents := (h.parents.take 7).map fun s => (idOf s).1 }
def LRH.arr (h : RH) (v : Value) : Array Value := #[.int .i64 h.height, .int .i64 h.miner, .string h.ticket, .int .i64 h.wins, .int .u64 h.power, v, .int .i64 h.salt]
def zRH : Array Value := #[.int .i64 0, .int .i64 0, .string ⟨#[]⟩, .int .i64 0, .int .u64 0, .slice none 0 0, .int .i64 0]
/-- What holds at the loop's head. -/
structure FewR (w wr : World) (h : RH) (vp : Value) (i : Nat) (v : Value) : Prop where
  row : StrRow w.heap.size wr v ((h.parents.take i).map fun s => (idOf s).1)
  cell : wr.heap[w.heap.size]? = some (.cells (LRH.arr { h with ticket := cutS h.ticket 10 } vp) 53 (0, 0))
  res : wr.heap[w.heap.size + 1]? = some (.cells zRH 53 (0, 0))
  far : ∀ k, v.ownBlock = some k → w.heap.size + 2 ≤ k
  below : Below w.heap.size w wr

theorem FewR.size {w wr : World} {h : RH} {vp v : Value} {i : Nat} (H : FewR w wr h vp i v) : w.heap.size + 1 < wr.heap.size := (Array.getElem?_eq_some_iff.1 H.res).1
theorem FewR.under {w wr w' : World} {h : RH} {vp v : Value} {i : Nat} (H : FewR w wr h vp i v) (hb : Below wr.heap.size wr w') : FewR w w' h vp i v :=
  ⟨H.row.below hb, (hb.block _ (Nat.lt_of_succ_lt H.size)).trans H.cell, (hb.block _ H.size).trans H.res, H.far, H.below.trans (hb.mono H.below.size)⟩
theorem FewR.next {w W w1 : World} {h : RH} {vp v v1 : Value} {i : Nat} (H : FewR w W h vp i v) (s : ByteArray) (hs : h.parents[i]? = some s) (h1 : StrRow w.heap.size w1 v1 (((h.parents.take i).map fun s => (idOf s).1) ++ [(idOf s).1])) (hb : Below w.heap.size w w1) (hg : W.grownBy w1 v.ownBlock) (hat : v1.ownBlock = v.ownBlock ∨ ∃ b, v1.ownBlock = some b ∧ W.heap.size ≤ b) : FewR w w1 h vp (i + 1) v1 where
  row := by rw [List.take_add_one, hs, List.map_append]; exact h1
  cell := (hg.block _ (Nat.lt_of_succ_lt H.size) (fun e => by have := H.far _ e.symm; omega)).trans H.cell
  res := (hg.block _ H.size (fun e => by have := H.far _ e.symm; omega)).trans H.res
  far := fun k hk => by
    rcases hat with he | ⟨b, he, hle⟩
    · exact H.far k (by rw [← he]; exact hk)
    · rw [he] at hk; injection hk with hk; have := H.size; omega
  below := hb

set_option maxRecDepth 100000 in
set_option maxHeartbeats 1000000 in
theorem few_any (w : World) (x : LRH) (ok : Nat → Prop) (hx : SlW strE ok w x.v x.h.parents) (ht : x.h.ticket.size ≤ 140737488351232) :
    Calls Tryz.prog 146 #[.agg x.cells.toArray] w fun e w' => ∃ y : LRH, y.h = fewH x.h ∧ e = .returned (.agg y.cells.toArray) ∧ y.At (fun k => w.heap.size ≤ k) w' ∧ Below w.heap.size w w' := by
  obtain ⟨⟨height, miner, ticket, wins, power, parents, salt⟩, A, c⟩ := x
  have HX : Hid (SlW strE ok w (.slice A parents.length c) parents) := Lib.hid hx
  obtain ⟨-, hc, hm⟩ := HX.out.len
  have ht' : ticket.size ≤ 140737488351232 := ht
  clear hx ht
  change Calls _ _ #[.agg #[.int .i64 height, .int .i64 miner, .string ticket, .int .i64 wins, .int .u64 power, .slice A parents.length c, .int .i64 salt]] w _
  go_enter Tryz.func146, Tryz.ntmps146
  go_wp2_with (go_at_call 56; refine (cut_any _ ticket 10 (by decide) ht').mono ?_; rintro e w1 ⟨rfl, rfl⟩)
  have hR0 : FewR w ((w.alloc (.cells (LRH.arr ⟨height, miner, cutS ticket 10, wins, power, parents, salt⟩ (.slice A parents.length c)) 53)).alloc (.cells zRH 53)) ⟨height, miner, ticket, wins, power, parents, salt⟩ (.slice A parents.length c) 0 (.slice none 0 0) :=
    ⟨World.ownsRow_nil _ _ _ _, by rw [heap_alloc_if, if_neg (by simp), heap_alloc_if, if_pos rfl], by rw [heap_alloc_if, if_pos (by simp)], fun k hk => by simp [Value.ownBlock] at hk, ((Below.refl _ w).alloc (Nat.le_refl _) _).alloc (by simp) _⟩
  have HR0 := Lib.hid hR0
  clear hR0
  go_loopw [3, 4] (fun v ci wr => ∃ i : Nat, i ≤ parents.length ∧ i ≤ 7 ∧ ci = .int .i64 i ∧ FewR w wr ⟨height, miner, ticket, wins, power, parents, salt⟩ (.slice A parents.length c) i v) (fun _ ci _ => parents.length - (intOf ci).toNat)
  case atStart => exact ⟨0, Nat.zero_le _, by omega, rfl, HR0.out⟩
  case round =>
    obtain ⟨i, hi, hi7, rfl, hR⟩ := hrel
    have HR := Lib.hid hR
    have hc5 : wr.cell? ⟨w.heap.size, 5, none⟩ = some (.slice A parents.length c) := cell_block hR.cell rfl
    clear hR
    by_cases hlt : i < parents.length ∧ i < 7
    · obtain ⟨hlt, hl7⟩ := hlt
      obtain ⟨s, hs⟩ : ∃ s, parents[i]? = some s := ⟨_, List.getElem?_eq_getElem hlt⟩
      obtain ⟨b, off, rfl, hbl, -, hcx⟩ := (HX.out.below HR.out.below).at_ i s hs
      have hcs : wr.cell? ⟨b, off + i, none⟩ = some (.string s) := by have := hcx 0 _ rfl; simpa [strE] using this
      have HS := Lib.hid hs
      have hg7 : decide ((i : Int) < 7) = true := by simp; omega
      have hll : ((parents.take i).map fun s => (idOf s).1).length ≤ 1000000 := by rw [List.length_map, List.length_take]; omega
      clear hcx hs
      go_wp2_with (first
        | (go_at_call 109; refine (idOf_any _ s).mono ?_; rintro e w4 ⟨rfl, hb4⟩; have HB4 := Lib.hid hb4; have hcv := conv_id (w4.alloc (.cells (idc (idOf s)).toArray 34)) w4.heap.size 0 (idOf s) (bytesAt_new w4 _ _); have HB5 : Hid (Below wr.heap.size wr (w4.alloc (.cells (idc (idOf s)).toArray 34))) := Lib.hid (hb4.alloc hb4.size _); clear hb4)
        | (refine wpl_store_new rfl 34 _ _ rfl rfl (idc (idOf s)) rfl _ _ (by rw [idc_length]; rfl) (idE.one (idOf s)) (by rw [idc_length]; exact id_size) ?_)
        | (at_builtin; refine wpl_app_str (HR.out.under HB5.out).row (idOf s).1 (HR.out.under HB5.out).below (HR.out.under HB5.out).below.size hll rfl (.tmp 27) (.tmp 30) rfl rfl (congrArg (fun k => Value.slice (some ⟨k, 0, none⟩) 1 1) (World.size_alloc w4 _).symm) ?_; intro v1 w6 h1 hb1 hg1 hat1; have HR6 := Lib.hid ((HR.out.under HB5.out).next s HS.out h1 hb1 hg1 hat1); clear h1 hb1 hg1 hat1))
      go_roundw
      case rel => exact ⟨i + 1, by omega, by omega, by go_num, HR6.out⟩
      case measure => simp [intOf]; omega
    · have hpt : parents.take i = parents.take 7 := by
        by_cases h7 : i = 7
        · rw [h7]
        · rw [List.take_of_length_le (by omega), List.take_of_length_le (by omega)]
      obtain ⟨P7, hP7⟩ : ∃ P7, P7 = (parents.take 7).map fun s => (idOf s).1 := ⟨_, rfl⟩
      have HP7 := Lib.hid hP7
      have hrow : StrRow w.heap.size wr u3 P7 := by rw [hP7, ← hpt]; exact HR.out.row
      obtain ⟨A3, c3, hv3, -⟩ := own_slice hrow
      subst hv3
      have hf5 : wr.frozen? ⟨w.heap.size, 5, none⟩ = false := Lib.frozen_of_heap HR.out.cell 5
      have hgs : (wr.setCell ⟨w.heap.size, 5, none⟩ (.slice A3 P7.length c3)).heap[w.heap.size]? = some (.cells (LRH.arr ⟨height, miner, cutS ticket 10, wins, power, parents, salt⟩ (.slice A3 P7.length c3)) 53 (0, 0)) := heap_setCell_at wr w.heap.size 5 _ _ _ _ HR.out.cell
      have HY : Hid (∀ j u, (LRH.cells ⟨⟨height, miner, cutS ticket 10, wins, power, P7, salt⟩, A3, c3⟩)[j]? = some u → (wr.setCell ⟨w.heap.size, 5, none⟩ (.slice A3 P7.length c3)).cell? ⟨w.heap.size, 0 + j, none⟩ = some u) := Lib.hid fun j u hu => by
        rw [Nat.zero_add]
        exact cell_block hgs (by simpa [LRH.arr, LRH.cells, LRH.v] using hu)
      have HRS : Hid ((wr.setCell ⟨w.heap.size, 5, none⟩ (.slice A3 P7.length c3)).heap[w.heap.size + 1]? = some (.cells zRH 53 (0, 0))) := Lib.hid ((Below.heap_setCell _ _ _ _ (by simp)).trans HR.out.res)
      have HBS : Hid (Below w.heap.size w (wr.setCell ⟨w.heap.size, 5, none⟩ (.slice A3 P7.length c3))) := Lib.hid (HR.out.below.setCell (p := ⟨w.heap.size, 5, none⟩) (Nat.le_refl _) _)
      have HSL : Hid (Sl strE (fun k => w.heap.size + 2 ≤ k) (wr.setCell ⟨w.heap.size, 5, none⟩ (.slice A3 P7.length c3)) (.slice A3 P7.length c3) P7) := Lib.hid ((hrow.sl.mono fun k hk => HR.out.far k hk.2.symm).fr ((Fr.refl _ wr).setCell (p := ⟨w.heap.size, 5, none⟩) (fun h => by have h : w.heap.size + 2 ≤ w.heap.size := h; omega) _))
      clear hgs hrow hpt hP7
      have harms : i < parents.length → ¬ i < 7 := fun h h' => hlt ⟨h, h'⟩
      have HAR := Lib.hid harms
      clear hlt harms
      by_cases hl2 : i < parents.length
      · have h7 : decide ((i : Int) < 7) = false := by have := HAR.out hl2; simp; omega
        go_wp2_with (first
          | (refine wpl_load rfl 53 (.tmp 1) rfl w.heap.size 0 rfl (LRH.cells ⟨⟨height, miner, cutS ticket 10, wins, power, P7, salt⟩, A3, c3⟩) _ HY.out Tryz.underlying53 rfl rh_size ?_)
          | (refine wpl_store_row rfl 53 (.tmp 2) (.tmp 34) rfl (w.heap.size + 1) rfl (LRH.cells ⟨⟨height, miner, cutS ticket 10, wins, power, P7, salt⟩, A3, c3⟩) rfl _ 53 HRS.out rfl (lrhE.one _) rh_size ?_))
        (try simp only [Exit.inBlock, Exit.then])
        refine bodyPost_ret (results_cell_row rfl _ _ (w.heap.size + 1) 53 (LRH.cells ⟨⟨height, miner, cutS ticket 10, wins, power, P7, salt⟩, A3, c3⟩).toArray (0, 0) _ rfl (setRow_heap _ (w.heap.size + 1) _ _ _ _ HRS.out) Tryz.underlying53 rfl rh_size) rfl ?_
        refine ⟨⟨⟨height, miner, cutS ticket 10, wins, power, P7, salt⟩, A3, c3⟩, by rw [HP7.out]; rfl, rfl, ?_, below_setRow HBS.out (Nat.le_succ _) _⟩
        exact (HSL.out.fr (ok := fun k => w.heap.size + 2 ≤ k) ⟨by simp, fun k hk _ => heap_setRow_ne _ _ _ _ (by omega)⟩).mono fun k hk => by omega
      · have h7 : True := trivial
        go_wp2_with (first
          | (refine wpl_load rfl 53 (.tmp 1) rfl w.heap.size 0 rfl (LRH.cells ⟨⟨height, miner, cutS ticket 10, wins, power, P7, salt⟩, A3, c3⟩) _ HY.out Tryz.underlying53 rfl rh_size ?_)
          | (refine wpl_store_row rfl 53 (.tmp 2) (.tmp 34) rfl (w.heap.size + 1) rfl (LRH.cells ⟨⟨height, miner, cutS ticket 10, wins, power, P7, salt⟩, A3, c3⟩) rfl _ 53 HRS.out rfl (lrhE.one _) rh_size ?_))
        (try simp only [Exit.inBlock, Exit.then])
        refine bodyPost_ret (results_cell_row rfl _ _ (w.heap.size + 1) 53 (LRH.cells ⟨⟨height, miner, cutS ticket 10, wins, power, P7, salt⟩, A3, c3⟩).toArray (0, 0) _ rfl (setRow_heap _ (w.heap.size + 1) _ _ _ _ HRS.out) Tryz.underlying53 rfl rh_size) rfl ?_
        refine ⟨⟨⟨height, miner, cutS ticket 10, wins, power, P7, salt⟩, A3, c3⟩, by rw [HP7.out]; rfl, rfl, ?_, below_setRow HBS.out (Nat.le_succ _) _⟩
        exact (HSL.out.fr (ok := fun k => w.heap.size + 2 ≤ k) ⟨by simp, fun k hk _ => heap_setRow_ne _ _ _ _ (by omega)⟩).mono fun k hk => by omega
end Go.Proofs.YthpcedficlhanaaGreatDoor
namespace Go.Proofs.YthpcedficlhanaaGreatDoor
open Go.RowKit
section
variable {P : Program} {ops : Array Oper} {rest : List Oper} {o : Oper} {a : Act} {w : World} {Q : Exit → Act → World → Prop}
theorem lin_ (N : Option Tmp) (hgd : o.guard = none) (hN : o.dst = N) {v : Value} (hx : (execOp a.eval o).run P w = .ok (.value v) w) {a' : Act} (ha : a.put N v = a')
    (hK : wpList P ops Q rest a' w) : wpList P ops Q (o :: rest) a w := by
  subst ha
  subst hN
  exact wpList_plain hgd fun K hK' => by
    unfold Oper.wp
    rw [hx]
    exact hK' _ _ hK
theorem linS_ (hgd : o.guard = none) (hN : o.dst = none) {w' : World} (hx : (execOp a.eval o).run P w = .ok .skip w')
    (hK : wpList P ops Q rest a w') : wpList P ops Q (o :: rest) a w :=
  wpList_plain hgd fun K hK' => by
    unfold Oper.wp
    rw [hx]
    exact hK' _ _ (by rw [hN]; exact hK)
end
end Go.Proofs.YthpcedficlhanaaGreatDoor
