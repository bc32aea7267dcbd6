/- coxswainlaw05.Own. -/
import Derived.Test.YthpcedficlhanaaGreatDoorRef
import Derived.Test.YthpcedficlhanaaGreatDoorRegD
import Derived.Lib.BufferWrite
namespace Go.Proofs.YthpcedficlhanaaGreatDoor
open Go.RowKit

/-- The program's header of the document's. -/
def hdrOf (h : RH) : Hdr := ⟨h.height, h.miner, h.ticket, h.wins, h.power, h.parents.map idOf, h.salt⟩
theorem sl36 : Tryz.prog.underlying 36 = some (.slice 34) := Tryz.underlying36
theorem ids_size : (Tryz.prog.info? 36).map (·.size) = some 1 := by kernel_rfl
def zHdr : Array Value := #[.int .i64 0, .int .i64 0, .string ⟨#[]⟩, .int .i64 0, .int .u64 0, .slice none 0 0, .int .i64 0]
def oHdr (h : RH) (v : Value) : Array Value := #[.int .i64 h.height, .int .i64 h.miner, .string h.ticket, .int .i64 h.wins, .int .u64 h.power, v, .int .i64 h.salt]
/-- What holds at the loop's head. -/
structure OwnR (w wr : World) (x : LRH) (i : Nat) (A : Option Addr) (c : Nat) : Prop where
  own : wr.ownsRow (w.heap.size + 3) 34 32 (.slice A i c) i (idE.flat ((x.h.parents.map idOf).take i))
  cell : wr.heap[w.heap.size + 2]? = some (.cells (oHdr x.h (.slice A i c)) 38 (0, 0))
  res : wr.heap[w.heap.size + 1]? = some (.cells zHdr 38 (0, 0))
  below : Below w.heap.size w wr
theorem OwnR.size {w wr : World} {x : LRH} {i : Nat} {A : Option Addr} {c : Nat} (h : OwnR w wr x i A c) : w.heap.size + 2 < wr.heap.size := (Array.getElem?_eq_some_iff.1 h.cell).1
theorem OwnR.under {w wr w' : World} {x : LRH} {i : Nat} {A : Option Addr} {c : Nat} (h : OwnR w wr x i A c) (hb : Below wr.heap.size wr w') : OwnR w w' x i A c :=
  ⟨own_below h.own hb, (hb.block _ h.size).trans h.cell, (hb.block _ (Nat.lt_of_succ_lt h.size)).trans h.res, h.below.trans (hb.mono h.below.size)⟩
theorem OwnR.next {w wr W w6 : World} {x : LRH} {i : Nat} {A A6 : Option Addr} {c c6 : Nat} (h : OwnR w wr x i A c) (hb : Below wr.heap.size wr W) (s : ByteArray) (hs : x.h.parents[i]? = some s)
    (ho : w6.ownsRow (w.heap.size + 3) 34 32 (.slice A6 (i + 1) c6) (i + 1) (idE.flat ((x.h.parents.map idOf).take i) ++ (idc (idOf s)).toArray.toList)) (hg : W.grownBy w6 (Value.slice A i c).ownBlock) : OwnR w (w6.setCell ⟨w.heap.size + 2, 5, none⟩ (.slice A6 (i + 1) c6)) x (i + 1) A6 c6 := by
  have h1 := h.under hb
  have hne : ∀ k, k < w.heap.size + 3 → some k ≠ (Value.slice A i c).ownBlock := fun k hk e => by have := (own_lt h1.own k e.symm).1; omega
  have hc6 : w6.heap[w.heap.size + 2]? = some (.cells (oHdr x.h (.slice A i c)) 38 (0, 0)) := (hg.block _ h1.size (hne _ (by omega))).trans h1.cell
  refine ⟨?_, heap_setCell_at w6 _ 5 _ _ _ _ hc6, (Below.heap_setCell _ _ _ _ (by simp)).trans ((hg.block _ (Nat.lt_of_succ_lt h1.size) (hne _ (by omega))).trans h1.res), ?_⟩
  · have ho' : w6.ownsRow (w.heap.size + 3) 34 32 (.slice A6 (i + 1) c6) (i + 1) (idE.flat ((x.h.parents.map idOf).take (i + 1))) := by
      rw [List.take_add_one, List.getElem?_map, hs, idE.flat_append]
      simp only [Option.map_some, Option.toList_some, idE.flat_one]
      exact ho
    refine ho'.kept (Lib.grownBy_setCell w6 (w.heap.size + 2) 5 _) ?_
    rcases hb : (Value.slice A6 (i + 1) c6).ownBlock with _ | k
    · exact .inl rfl
    · exact .inr fun e => by injection e with e; have := (own_lt ho k hb).1; omega
  · exact (h1.below.grown hg h1.below.size fun k hk => by have := (own_lt h1.own k hk).1; omega).setCell (p := ⟨w.heap.size + 2, 5, none⟩) (Nat.le_add_right _ 2) _

set_option maxRecDepth 100000 in
set_option maxHeartbeats 4000000 in
theorem own_any (w : World) (x : LRH) (ok : Nat → Prop) (hx : x.At ok w) (hlen : x.h.parents.length ≤ 1000) :
    Calls Tryz.prog 38 #[.agg x.cells.toArray] w fun e w' => ∃ y : LH, y.h = hdrOf x.h ∧ e = .returned (.agg y.cells.toArray) ∧ y.At (fun k => w.heap.size ≤ k) w' ∧ Below w.heap.size w w' := by
  obtain ⟨⟨height, miner, ticket, wins, power, parents, salt⟩, A, c⟩ := x
  have hlen' : parents.length ≤ 1000 := hlen
  have HX : Hid (Sl strE ok w (.slice A parents.length c) parents) := Lib.hid hx
  obtain ⟨-, hc, hm⟩ := HX.out.len
  obtain ⟨X, hX⟩ : ∃ X : LRH, X = ⟨⟨height, miner, ticket, wins, power, parents, salt⟩, A, c⟩ := ⟨_, rfl⟩
  have HDX := Lib.hid hX
  clear hx hlen
  change Calls _ _ #[.agg #[.int .i64 height, .int .i64 miner, .string ticket, .int .i64 wins, .int .u64 power, .slice A parents.length c, .int .i64 salt]] w _
  go_enter Tryz.func38, Tryz.ntmps38
  go_wp2
  have hR0 : OwnR w (((w.alloc (.cells #[.int .i64 height, .int .i64 miner, .string ticket, .int .i64 wins, .int .u64 power, .slice A parents.length c, .int .i64 salt] 53)).alloc (.cells zHdr 38)).alloc (.cells #[.int .i64 height, .int .i64 miner, .string ticket, .int .i64 wins, .int .u64 power, .slice none 0 0, .int .i64 salt] 38)) ⟨⟨height, miner, ticket, wins, power, parents, salt⟩, A, c⟩ 0 none 0 :=
    ⟨World.ownsRow_nil _ _ _ _, by rw [heap_alloc_if, if_pos (by simp)]; rfl, by rw [heap_alloc_if, if_neg (by simp), heap_alloc_if, if_pos (by simp)], (((Below.refl _ w).alloc (Nat.le_refl _) _).alloc (by simp) _).alloc (by simp only [World.size_alloc]; omega) _⟩
  have HR0 := Lib.hid hR0
  clear hR0
  go_loopw [22] (fun ci wr => ∃ (i : Nat) (A2 : Option Addr) (c2 : Nat), i ≤ parents.length ∧ ci = .int .i64 i ∧ OwnR w wr ⟨⟨height, miner, ticket, wins, power, parents, salt⟩, A, c⟩ i A2 c2) (fun ci _ => parents.length - (intOf ci).toNat)
  case atStart => exact ⟨0, none, 0, Nat.zero_le _, rfl, HR0.out⟩
  case round =>
    obtain ⟨i, A2, c2, hi, rfl, hR⟩ := hrel
    have HR := Lib.hid hR
    clear hR
    by_cases hlt : i < parents.length
    · obtain ⟨s, hs⟩ : ∃ s, parents[i]? = some s := ⟨_, List.getElem?_eq_getElem hlt⟩
      obtain ⟨b, off, rfl, hbl, -, hcx⟩ := (HX.out.below HR.out.below).at_ i s hs
      have hcs : wr.cell? ⟨b, off + i, none⟩ = some (.string s) := by have := hcx 0 _ rfl; simpa [strE] using this
      have HS := Lib.hid hs
      clear hcx hs
      go_wp2
      have hB0 : Below wr.heap.size wr wr.drew := (Below.refl _ wr).drew
      have hS0 : wr.drew.cell? ⟨w.heap.size + 2, 5, none⟩ = some (.slice A2 i c2) := cell_block HR.out.cell rfl
      refine stD_ (S := (fun w' => w'.cell? ⟨w.heap.size + 2, 5, none⟩ = some (.slice A2 i c2))) [7] 8 #[false, false, false, false, false, false, false, false] (by kernel_rfl) rfl (by rfl) hS0 (fun hHeld => ?_)
      refine tkD_ 0 (some 26) #[true, false, false, false, false, false, false, false] (v := ?_) (a' := ?_) rfl rfl (by kernel_rfl) (fun _ _ _ h => h) (yieldsIf_run rfl ?_) hHeld ?_ ?_
      rotate_left
      · intro w'
        go_simp
        with_reducible rfl
      rotate_left
      · simp only [Act.put, List.setIfInBounds_toArray, List.set_cons_zero, List.set_cons_succ]
        rfl
      refine tkD_ 1 (some 27) #[true, true, false, false, false, false, false, false] rfl rfl (by kernel_rfl) (fun _ _ _ h => h) (yieldsIf_cell rfl 36 (.tmp 26) rfl ⟨w.heap.size + 2, 5, none⟩ rfl (.slice A2 i c2) _ (fun w' h => h) Tryz.underlying36 rfl) hHeld (a' := ?_) ?_ ?_
      rotate_left
      · simp only [Act.put, List.setIfInBounds_toArray, List.set_cons_zero, List.set_cons_succ]
        rfl
      refine tkD_ 2 (some 28) #[true, true, true, false, false, false, false, false] (v := ?_) (a' := ?_) rfl rfl (by kernel_rfl) (fun _ _ _ h => h) (yieldsIf_run rfl ?_) hHeld ?_ ?_
      rotate_left
      · intro w'
        go_simp
        with_reducible rfl
      rotate_left
      · simp only [Act.put, List.setIfInBounds_toArray, List.set_cons_zero, List.set_cons_succ]
        rfl
      refine callD_ 3 (some 29) #[true, true, true, true, false, false, false, false] rfl rfl (by kernel_rfl) rfl 109 _ (by kernel_rfl) (idOf_any _ s) ?_
      rintro e w4 ⟨rfl, hb4⟩
      have HB4 : Hid (Below wr.heap.size wr w4) := Lib.hid (hB0.trans hb4)
      refine ⟨_, rfl, (cell_block (HR.out.under HB4.out).cell rfl), fun hHeld => ⟨?_, ?_, ?_⟩⟩
      rotate_left
      · simp only [Act.put, List.setIfInBounds_toArray, List.set_cons_zero, List.set_cons_succ]
        rfl
      have hHeld : (w4.alloc (.cells (idc (idOf s)).toArray 34)).cell? ⟨w.heap.size + 2, 5, none⟩ = some (.slice A2 i c2) := cell_block ((heap_alloc_old w4 _ (HR.out.under HB4.out).size).trans (HR.out.under HB4.out).cell) rfl
      refine valD_ 4 (some 30) #[true, true, true, true, true, false, false, false] rfl rfl (by kernel_rfl) rfl (.slice (some ⟨w4.heap.size, 0, none⟩) 1 1) (w4.alloc (.cells (idc (idOf s)).toArray 34)) (exec_slice1 36 34 (.tmp 29) rfl (idc (idOf s)).toArray rfl _ 32 32 Tryz.underlying36 id_info idZ_cells (by rw [List.size_toArray, idc_length]) (by decide) (by decide)) (fun _ => hHeld) (a' := ?_) ?_ ?_
      rotate_left
      · simp only [Act.put, List.setIfInBounds_toArray, List.set_cons_zero, List.set_cons_succ]
        rfl
      refine stepD_ 5 (some 31) #[true, true, true, true, true, true, false, false] rfl rfl (by kernel_rfl) rfl (exec_app1 (idc (idOf s)).toArray (w.heap.size + 3) (.tmp 27) (.tmp 30) 36 34 _ 32 32 rfl Tryz.underlying36 id_info idZ_cells (by decide) (by decide) (.slice A2 i c2) i _ rfl rfl (by rw [List.size_toArray, idc_length]) (fun u hu => idE.one (idOf s) u hu) (HR.out.under HB4.out).own (by have := HR.out.size; have := HB4.out.size; omega) (by omega)) ?_
      rintro v6 w6 ⟨ho6, hg6, -⟩
      obtain ⟨A6, c6, rfl, -⟩ := own_slice ho6
      have HR7 := Lib.hid (HR.out.next HB4.out s HS.out ho6 hg6)
      have hne6 : ∀ k, k < wr.heap.size → k < w.heap.size + 3 → some k ≠ (Value.slice A2 i c2).ownBlock := fun k _ hk e => by have := (own_lt HR.out.own k e.symm).1; omega
      have hc6 : w6.heap[w.heap.size + 2]? = some (.cells (oHdr ⟨height, miner, ticket, wins, power, parents, salt⟩ (.slice A2 i c2)) 38 (0, 0)) := (hg6.block _ (HR.out.under HB4.out).size (hne6 _ HR.out.size (by omega))).trans (HR.out.under HB4.out).cell
      have hHeld : w6.cell? ⟨w.heap.size + 2, 5, none⟩ = some (.slice A2 i c2) := cell_block hc6 rfl
      refine ⟨(fun _ => hHeld), ?_, ?_, ?_⟩
      rotate_left
      · simp only [Act.put, List.setIfInBounds_toArray, List.set_cons_zero, List.set_cons_succ]
        rfl
      refine tkD_ 6 (some 32) #[true, true, true, true, true, true, true, false] (v := ?_) (a' := ?_) rfl rfl (by kernel_rfl) (fun _ _ _ h => h) (yieldsIf_run rfl ?_) hHeld ?_ ?_
      rotate_left
      · intro w'
        go_simp
        with_reducible rfl
      rotate_left
      · simp only [Act.put, List.setIfInBounds_toArray, List.set_cons_zero, List.set_cons_succ]
        rfl
      refine skD_ 7 #[true, true, true, true, true, true, true, true] rfl rfl (by kernel_rfl) rfl (w6.setCell ⟨w.heap.size + 2, 5, none⟩ (.slice A6 (i + 1) c6)) (exec_store 36 (.tmp 32) (.tmp 31) rfl (w.heap.size + 2) 5 rfl _ rfl (run_storeVar_cell w6 36 (w.heap.size + 2) 5 _ _ rfl ids_size (cell_block hc6 rfl) (Lib.frozen_of_heap hc6 5))) (fun h => absurd (by decide) h) ?_
      refine doneD_ (by kernel_rfl) ?_ _
      change Exit.inBlock _ _ _ _ _
      generalize w6.setCell ⟨w.heap.size + 2, 5, none⟩ (.slice A6 (i + 1) c6) = w7 at HR7 ⊢
      go_wp2
      go_roundw
      case rel => exact ⟨i + 1, A6, c6, by omega, by go_num, HR7.out⟩
      case measure => simp [intOf]; omega
    · have hin : i = parents.length := by omega
      subst hin
      have HKC : Hid (∀ j u, (LH.cells ⟨hdrOf ⟨height, miner, ticket, wins, power, parents, salt⟩, A2, c2⟩)[j]? = some u → wr.cell? ⟨w.heap.size + 2, 0 + j, none⟩ = some u) := Lib.hid fun j u hu => by
        rw [Nat.zero_add]
        refine cell_block HR.out.cell ?_
        have he : (LH.cells ⟨hdrOf ⟨height, miner, ticket, wins, power, parents, salt⟩, A2, c2⟩).toArray = oHdr ⟨height, miner, ticket, wins, power, parents, salt⟩ (.slice A2 parents.length c2) := by
          simp [LH.cells, LH.v, hdrOf, oHdr]
        rw [← he]
        simpa using hu
      go_wp2_with (first
        | (refine wpl_load rfl 38 (.tmp 3) rfl (w.heap.size + 2) 0 rfl (LH.cells ⟨hdrOf ⟨height, miner, ticket, wins, power, parents, salt⟩, A2, c2⟩) _ HKC.out Tryz.underlying38 rfl hdr_size ?_)
        | (refine wpl_store_row rfl 38 (.tmp 2) (.tmp 34) rfl (w.heap.size + 1) rfl (LH.cells ⟨hdrOf ⟨height, miner, ticket, wins, power, parents, salt⟩, A2, c2⟩) rfl _ 38 HR.out.res rfl (LH.cells_one _) hdr_size ?_))
      (try simp only [Exit.inBlock, Exit.then])
      refine bodyPost_ret (results_cell_row rfl _ _ (w.heap.size + 1) 38 (LH.cells ⟨hdrOf ⟨height, miner, ticket, wins, power, parents, salt⟩, A2, c2⟩).toArray (0, 0) _ rfl (setRow_heap wr (w.heap.size + 1) _ _ _ _ HR.out.res) Tryz.underlying38 rfl hdr_size) rfl ?_
      refine ⟨⟨hdrOf ⟨height, miner, ticket, wins, power, parents, salt⟩, A2, c2⟩, rfl, rfl, ?_, below_setRow HR.out.below (Nat.le_succ _) _⟩
      have ho := HR.out.own
      have hpl : (parents.map idOf).length = parents.length := by simp
      have h1 : Sl idE (fun k => w.heap.size + 3 ≤ k) wr (.slice A2 parents.length c2) (parents.map idOf) := by
        have h2 : wr.ownsRow (w.heap.size + 3) 34 32 (.slice A2 parents.length c2) (parents.map idOf).length (idE.flat (parents.map idOf)) := by
          rw [hpl]
          have h3 : (parents.map idOf).take parents.length = parents.map idOf := by rw [← hpl]; exact List.take_length
          have h4 : wr.ownsRow (w.heap.size + 3) 34 32 (.slice A2 parents.length c2) parents.length (idE.flat ((parents.map idOf).take parents.length)) := ho
          rw [h3] at h4
          exact h4
        exact (Sl.of_own (E := idE) h2).mono fun k hk => (own_lt h2 k hk).1
      have h5 : Sl idE (fun k => w.heap.size ≤ k) (wr.setRow (w.heap.size + 1) (LH.cells ⟨hdrOf ⟨height, miner, ticket, wins, power, parents, salt⟩, A2, c2⟩).toArray) (.slice A2 parents.length c2) (parents.map idOf) :=
        (h1.fr (ok := fun k => w.heap.size + 3 ≤ k) ⟨by simp, fun k hk _ => heap_setRow_ne _ _ _ _ (by omega)⟩).mono fun k hk => by omega
      show Sl idE _ _ (.slice A2 (parents.map idOf).length c2) _
      rw [hpl]
      exact h5
end Go.Proofs.YthpcedficlhanaaGreatDoor
