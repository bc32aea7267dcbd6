/- header.Key. -/
import Derived.Test.YthpcedficlhanaaGreatDoorEq
namespace Go.Proofs.YthpcedficlhanaaGreatDoor
open Go.RowKit

set_option maxRecDepth 100000 in
set_option maxHeartbeats 1000000 in
theorem builderString_nil (b : Nat) (p : Value) (w : World) (T : TypeId) (h : w.heap[b]? = some (.cells #[p, .slice none 0 0] T (0, 0))) :
    Calls Tryz.prog 117 #[.pointer (some ⟨b, 0, none⟩)] w fun e w' => e = .returned (.string ⟨#[]⟩) ∧ Below w.heap.size w w' := by
  have hUS : (Builtin.unsafeString_ #[222, 3] 9 #[.pointer none, .int .i64 0]).run Tryz.prog w.drew = .ok (.string .empty) w.drew := Lib.run_unsafeString_none _ _ _ _ none
  have c1 : w.drew.cell? ⟨b, 1, none⟩ = some (.slice none 0 0) := by
    have : w.drew.heap[b]? = some (.cells #[p, .slice none 0 0] T (0, 0)) := h
    rw [Lib.cell_of_heap this]; rfl
  have hSD : (Builtin.unsafeSliceData_ #[133] 222 #[.slice none 0 0]).run Tryz.prog w.drew = .ok (.pointer none) w.drew := rfl
  go_enter Tryz.func117, Tryz.ntmps117
  go_wp2
  go_region
  all_goals (go_wp2; go_ret; exact ⟨rfl, Below.drew (Below.refl _ w)⟩)

/-- Names, one behind the other. -/
def joinI (l : List ID) : List UInt8 := l.flatMap fun x => x.1.data.toList
theorem joinI_snoc (l : List ID) (x : ID) : joinI (l ++ [x]) = joinI l ++ x.1.data.toList := by simp [joinI]
theorem joinI_length (l : List ID) : (joinI l).length = l.length * 32 := by
  induction l with
  | nil => rfl
  | cons x l ih => have := x.2; simp only [joinI, List.flatMap_cons, List.length_append, List.length_cons] at *; rw [ih]; simp [this]; omega
/-- A key. -/
def keyB (l : List ID) : ByteArray := ⟨(joinI (sortI l)).toArray⟩

theorem unlike_sorted {l : List ID} (h : l.Nodup) : Unlike (sortI l) := by
  have hn : (sortI l).Nodup := (sortI_perm l).nodup_iff.2 h
  intro i x y hx hy he
  obtain ⟨h1, e1⟩ := List.getElem?_eq_some_iff.1 hx
  obtain ⟨h2, e2⟩ := List.getElem?_eq_some_iff.1 hy
  have := (List.pairwise_iff_getElem.1 hn) i (i + 1) h1 h2 (by omega)
  exact this (by rw [e1, e2, he])

set_option maxRecDepth 100000 in
set_option maxHeartbeats 1000000 in
theorem key_any (w : World) (v : Value) (l : List ID) (ok : Nat → Prop) (hl : Sl idE ok w v l) (hlen : l.length ≤ 4294967296) (hd : l.Nodup) :
    Calls Tryz.prog 44 #[v] w fun e w' => e = .returned (.string (keyB l)) ∧ Below w.heap.size w w' := by
  have HC := Lib.hid (clone_id w v l ok hl hlen)
  have HLEN := Lib.hid hlen
  have HD := Lib.hid hd
  clear hl hlen hd
  go_enter Tryz.func44, Tryz.ntmps44
  go_wp2_with (first
    | (go_at_call 98; refine HC.out.mono ?_; rintro e w1 ⟨v1, rfl, ho1, hb1⟩; obtain ⟨A1, c1, rfl, hc1⟩ := own_slice ho1; have HO1 := Lib.hid ho1; have HB1 := Lib.hid hb1; clear ho1 hb1)
    | (go_at_call 113; refine (sort_id w1 _ l _ _ HO1.out HLEN.out).mono ?_; rintro e w2 ⟨rfl, ho2, hg2⟩; have HO2 := Lib.hid ho2; have HB2 := Lib.hid (below_grown_own HB1.out HO1.out (Nat.le_refl _) HB1.out.size hg2); clear ho2 hg2)
    | (go_at_call 115; refine (compact_any _ _ (sortI l) _ (Sl.of_own (E := idE) (by rw [(sortI_perm l).length_eq]; exact HO2.out.alloc _)) (unlike_sorted HD.out)).mono ?_; rintro e w3 ⟨rfl, hb3⟩))
  have hsz1 : w2.heap.size ≤ w3.heap.size := by have := hb3.size; simp at this; omega
  have hS3 : Sl idE (fun k => k < w2.heap.size) w3 (.slice A1 l.length c1) (sortI l) := by
    have h2 : w2.ownsRow w.heap.size 34 32 (.slice A1 l.length c1) (sortI l).length (idE.flat (sortI l)) := by rw [(sortI_perm l).length_eq]; exact HO2.out
    have h3 := (Sl.of_own (E := idE) (h2.alloc (.cells #[.pointer none, .slice none 0 0] 166))).below hb3
    exact h3.mono fun k hk => (own_lt h2 k hk).2
  have hbk3 : w3.heap[w2.heap.size]? = some (.cells #[.pointer none, .slice none 0 0] 166 (0, 0)) := (hb3.block _ (by simp)).trans (heap_alloc_new w2 _)
  have hbuf3 : BufAt 166 w2.heap.size w2.heap.size [] w3 := (buf_new 166 w2 w2.heap.size (Nat.le_refl _)).below hb3
  have hB3 : Below w.heap.size w w3 := (HB2.out.alloc HB2.out.size _).trans (hb3.mono (by have := HB2.out.size; simp; omega))
  have hml : (sortI l).length = l.length := (sortI_perm l).length_eq
  have HML := Lib.hid hml
  have hs2 := HB2.out.size
  generalize w2.heap.size = b at hsz1 hS3 hbk3 hbuf3 hs2
  have HS3 := Lib.hid hS3
  clear hS3 hb3 hml
  go_wp2
  go_loopw [13] (fun ci wr => ∃ i : Nat, i ≤ l.length ∧ ci = .int .i64 i ∧ BufAt 166 b b (joinI ((sortI l).take i)) wr ∧ Below b w3 wr ∧ (i = 0 → wr.heap[b]? = some (.cells #[.pointer none, .slice none 0 0] 166 (0, 0)))) (fun ci _ => l.length - (intOf ci).toNat)
  case atStart => exact ⟨0, by omega, rfl, hbuf3, Below.refl _ _, fun _ => hbk3⟩
  case round =>
    obtain ⟨i, hi, rfl, hbuf, hbel, h00⟩ := hrel
    have hsr := hbel.size
    have hlen := HLEN.out
    by_cases hlt : i < l.length
    · obtain ⟨x, hx⟩ : ∃ x, (sortI l)[i]? = some x := ⟨_, List.getElem?_eq_getElem (by rw [HML.out]; exact hlt)⟩
      have hSr : Sl idE (fun k => k < b) wr (.slice A1 l.length c1) (sortI l) := HS3.out.fr (Fr.below hbel fun k hk _ => hk)
      obtain ⟨bk, off, rfl, hbkl, -, hcx⟩ := hSr.at_ i x hx
      have HX := Lib.hid hcx
      have HBUF := Lib.hid hbuf
      have HBEL := Lib.hid hbel
      clear hcx hbuf hbel h00 hSr
      go_wp2_with (first
        | (refine wpl_load rfl 34 (.tmp 15) rfl bk _ rfl (idc x) _ HX.out Tryz.underlying34 rfl (by rw [idc_length]; exact id_size) ?_)
        | (refine wpl_store_new rfl 34 _ _ rfl rfl (idc x) rfl _ _ (by rw [idc_length]; simp) (idE.one x) (by rw [idc_length]; exact id_size) ?_)
        | (go_at_call 116; refine (write_any 166 bt_builder b b _ x.1 wr.heap.size 0 32 32 _ x.2 (bytesAt_new wr x.1 _) (by have := HBUF.out.lt; omega) (HBUF.out.below ((Below.refl _ wr).alloc (Nat.le_refl _) _)) (by rw [joinI_length]; have := List.length_take_le i (sortI l); have := HML.out; have := HLEN.out; omega) (by simp; omega)).mono ?_; rintro e w4 ⟨rfl, hu4, hb4⟩))
      go_roundw
      case rel =>
        refine ⟨i + 1, by omega, by go_num, ?_, ?_, fun h => by omega⟩
        · rw [List.take_add_one, hx]
          exact (joinI_snoc _ x) ▸ hu4.buf
        · exact (HBEL.out.alloc (by omega) _).trans hb4
      case measure => simp [intOf]; omega
    · have hil : i = l.length := by omega
      subst hil
      have htk : (sortI l).take l.length = sortI l := List.take_of_length_le (by rw [HML.out]; exact Nat.le_refl _)
      rw [htk] at hbuf
      have hfin : Calls Tryz.prog 117 #[.pointer (some ⟨b, 0, none⟩)] wr fun e w' => e = .returned (.string (keyB l)) ∧ Below b wr w' := by
        by_cases h0 : l.length = 0
        · refine (builderString_nil b _ wr _ (h00 h0)).mono ?_
          rintro e w' ⟨rfl, hb⟩
          have : l = [] := List.eq_nil_of_length_eq_zero h0
          subst this
          exact ⟨rfl, hb.mono (by omega)⟩
        · refine (builderString_any 166 b b _ wr hbuf (fun h => ?_)).mono ?_
          · have := congrArg List.length h
            rw [joinI_length, HML.out] at this
            simp at this
            omega
          · rintro e w' ⟨rfl, hb⟩
            exact ⟨rfl, hb⟩
      have HF := Lib.hid hfin
      clear hfin hbuf h00
      go_wp2_with (go_at_call 117; refine HF.out.mono ?_; rintro e w4 ⟨rfl, hb4⟩)
      go_ret
      exact ⟨rfl, hB3.trans ((hbel.trans hb4).mono hs2)⟩
end Go.Proofs.YthpcedficlhanaaGreatDoor
