/- coxswainref13.Find, Headers. path.Paths.Descends, OneChain. mark.Above, Floor, May, Fits; path.New. cache.New (of weights), path.New. -/
import Derived.Test.YthpcedficlhanaaGreatDoorOvAW
namespace Go.Proofs.YthpcedficlhanaaGreatDoor
open Go.RowKit

def rhs (L : List LRH) : List RH := L.map LRH.h
theorem rget_at {n : ByteArray} : ∀ {L : List RH} {i : Nat} {x : RH}, L[i]? = some x → (rid x).1 = n → (∀ (j : Nat) (y : RH), j < i → L[j]? = some y → (rid y).1 ≠ n) → rget L n = some x
  | [], _, _, hx, _, _ => by simp at hx
  | z :: L, 0, x, hx, hn, _ => by
    obtain rfl : z = x := by simpa using hx
    unfold rget
    rw [List.find?_cons, decide_eq_true hn]
  | z :: L, i + 1, x, hx, hn, hall => by
    have h0 : (rid z).1 ≠ n := hall 0 z (by omega) rfl
    have h1 := rget_at (L := L) (i := i) (by simpa using hx) hn fun j y hj hy => hall (j + 1) y (by omega) (by simpa using hy)
    unfold rget at *
    rw [List.find?_cons, decide_eq_false h0]
    exact h1
theorem rhas_none {n : ByteArray} {L : List RH} (hall : ∀ (j : Nat) (y : RH), L[j]? = some y → (rid y).1 ≠ n) : rhas L n = false := by
  unfold rhas
  rw [List.any_eq_false]
  intro x hx
  obtain ⟨j, hj⟩ := List.getElem?_of_mem hx
  simpa using hall j x hj
theorem str_beq (s t : ByteArray) : (s.toList == t.toList) = decide (s = t) := by
  rw [ByteArray.toList_eq, ByteArray.toList_eq]
  rw [Bool.eq_iff_iff, beq_iff_eq, decide_eq_true_eq]
  exact ⟨fun h => ByteArray.ext (Array.toList_inj.1 h), fun h => by rw [h]⟩
/-- Where a name is. -/
def FoundAt (L : List LRH) (n : ByteArray) (k : Int) : Prop :=
  (k = -1 ∧ rhas (rhs L) n = false) ∨ ∃ (i : Nat) (x : LRH), k = (i : Int) ∧ L[i]? = some x ∧ rget (rhs L) n = some x.h ∧ rhas (rhs L) n = true

set_option maxRecDepth 100000 in
set_option maxHeartbeats 2000000 in
theorem rfind_any (w : World) (v : Value) (L : List LRH) (ok : Nat → Prop) (hl : Sl rbE ok w v L) (n : ByteArray) :
    Calls Tryz.prog 123 #[v, .string n] w fun e w' => ∃ k, e = .returned (.int .i64 k) ∧ FoundAt L n k ∧ Below w.heap.size w w' := by
  obtain ⟨A, c, rfl, hc, hm⟩ := hl.form
  have HL := Lib.hid hl
  clear hl
  go_enter Tryz.func123, Tryz.ntmps123
  go_wp2
  go_loopw [9] (fun c9 W => ∃ i : Nat, i ≤ L.length ∧ c9 = .int .i64 (i : Int) ∧ (∀ j y, j < i → L[j]? = some y → (rid y.h).1 ≠ n) ∧ Below w.heap.size w W) (fun c9 _ => L.length - (intOf c9).toNat)
  case atStart => exact ⟨0, by omega, rfl, fun j y h => by omega, Below.refl _ _⟩
  case round =>
    obtain ⟨i, hi, rfl, hr, hB⟩ := hrel
    have HR := Lib.hid hr
    have HB := Lib.hid hB
    clear hr hB
    by_cases hil : i < L.length
    · obtain ⟨x, hx⟩ : ∃ x, L[i]? = some x := ⟨_, List.getElem?_eq_getElem hil⟩
      obtain ⟨b, off, rfl, -, -, hcx⟩ := (HL.out.below HB.out).at_ i x hx
      obtain ⟨s, hs⟩ : ∃ s, rid x.h = s := ⟨_, rfl⟩
      have hcx2 : ∀ j u, (rbc s x)[j]? = some u → wr.cell? ⟨b, off + i * 8 + j, none⟩ = some u := fun j u hu => hcx j u (by rw [← hs] at hu; exact hu)
      have HCX := Lib.hid hcx2
      have HX := Lib.hid hx
      have HS := Lib.hid hs
      have hg := heap_alloc_new wr (.cells (rbc s x).toArray 71)
      have hc0 : (wr.alloc (.cells (rbc s x).toArray 71)).cell? ⟨wr.heap.size, 0, none⟩ = some (.string s.1) := cell_block hg rfl
      clear hcx hcx2 hx hs hg
      go_upto_region 4 with (first
        | (refine wpl_load rfl 71 (.tmp 12) rfl b _ rfl (rbc s x) _ HCX.out Tryz.underlying71 rfl rb_size ?_)
        | (refine wpl_store_new rfl 71 _ _ rfl rfl (rbc s x) rfl _ _ rfl (rbc_one s x) rb_size ?_))
      have HBx : Hid (Below w.heap.size w (wr.alloc (.cells (rbc s x).toArray 71))) := Lib.hid (HB.out.alloc HB.out.size _)
      by_cases hsn : s.1 = n
      · have heq : (s.1.toList == n.toList) = true := by rw [str_beq]; exact decide_eq_true hsn
        go_wp2
        go_ret
        refine ⟨i, rfl, .inr ⟨i, x, rfl, HX.out, ?_, ?_⟩, HBx.out⟩
        · refine rget_at (i := i) (by rw [rhs, List.getElem?_map, HX.out]; rfl) (by rw [HS.out, hsn]) fun j y hj hy => ?_
          rw [rhs, List.getElem?_map] at hy
          obtain ⟨z, hz, rfl⟩ := Option.map_eq_some_iff.1 hy
          exact HR.out j z hj hz
        · unfold rhas
          exact List.any_eq_true.2 ⟨x.h, List.mem_map.2 ⟨x, List.mem_of_getElem? HX.out, rfl⟩, by rw [HS.out]; simpa using hsn⟩
      · have heq : (s.1.toList == n.toList) = false := by rw [str_beq]; exact decide_eq_false hsn
        go_wp2
        go_roundw
        case rel =>
          refine ⟨i + 1, by omega, by go_num, fun j y hj hy => ?_, HBx.out⟩
          rcases Nat.lt_or_eq_of_le (Nat.le_of_lt_succ hj) with h | h
          · exact HR.out j y h hy
          · subst h
            rw [HX.out] at hy
            injection hy with hy
            rw [← hy, HS.out]
            exact hsn
        case measure => simp [intOf]; omega
    · have hii : i = L.length := by omega
      subst hii
      go_wp2
      go_ret
      refine ⟨-1, rfl, .inl ⟨rfl, rhas_none fun j y hy => ?_⟩, HB.out⟩
      rw [rhs, List.getElem?_map] at hy
      obtain ⟨z, hz, rfl⟩ := Option.map_eq_some_iff.1 hy
      exact HR.out j z (List.getElem?_eq_some_iff.1 hz).1 hz

/-- What Headers has so far. -/
structure HeadsR (w wr : World) (L : List LRH) (ns : List ByteArray) (i : Nat) (v : Value) (ys : List LRH) : Prop where
  own : wr.ownsRow w.heap.size 53 7 v ys.length (lrhE.flat ys)
  vals : ys.map LRH.h = (ns.take i).filterMap (rget (rhs L))
  mem : ∀ y ∈ ys, y ∈ L
  all : ∀ n ∈ ns.take i, rhas (rhs L) n = true
  below : Below w.heap.size w wr
set_option maxRecDepth 100000 in
set_option maxHeartbeats 2000000 in
theorem rheads_any (w : World) (v : Value) (L : List LRH) (ok : Nat → Prop) (hl : Sl rbE ok w v L) (v2 : Value) (ns : List ByteArray) (ok2 : Nat → Prop) (hn : Sl strE ok2 w v2 ns) (hlen : ns.length ≤ 1000) :
    Calls Tryz.prog 54 #[v, v2] w fun e w' => Below w.heap.size w w' ∧
      ((rheads (rhs L) ns = none ∧ e = .returned (.tuple #[.slice none 0 0, .bool false])) ∨
       ∃ u ys, rheads (rhs L) ns = some (rhs ys) ∧ (∀ y ∈ ys, y ∈ L) ∧ ys.length = ns.length ∧ e = .returned (.tuple #[u, .bool true]) ∧ w'.ownsRow w.heap.size 53 7 u ys.length (lrhE.flat ys)) := by
  obtain ⟨A2, c2, rfl, hc2, hm2⟩ := hn.form
  obtain ⟨A, c, rfl, hc, hm⟩ := hl.form
  have HL := Lib.hid hl
  have HN := Lib.hid hn
  clear hl hn
  have hB0 : Below w.heap.size w (w.alloc (.cells #[] 53)) := (Below.refl _ w).alloc (Nat.le_refl _) _
  have HR0 : Hid (HeadsR w (w.alloc (.cells #[] 53)) L ns 0 (.slice (some ⟨w.heap.size, 0, none⟩) 0 0) []) := Lib.hid ⟨own_empty w w.heap.size _ 7 (Nat.le_refl _), rfl, by simp, by simp, hB0⟩
  clear hB0
  go_enter Tryz.func54, Tryz.ntmps54
  go_wp2
  go_loopw [6, 13] (fun c6 c13 W => ∃ (i : Nat) (ys : List LRH), i ≤ ns.length ∧ c13 = .int .i64 (i : Int) ∧ ys.length = i ∧ HeadsR w W L ns i c6 ys) (fun _ c13 _ => ns.length - (intOf c13).toNat)
  case atStart => exact ⟨0, [], by omega, rfl, rfl, HR0.out⟩
  case round =>
    obtain ⟨i, ys, hi, rfl, hyl, hR⟩ := hrel
    have HR := Lib.hid hR
    have HYL := Lib.hid hyl
    clear hR hyl
    by_cases hil : i < ns.length
    · obtain ⟨n, hnn⟩ : ∃ n, ns[i]? = some n := ⟨_, List.getElem?_eq_getElem hil⟩
      obtain ⟨bn, on, rfl, -, -, hcn⟩ := (HN.out.below HR.out.below).at_ i n hnn
      have hcell : wr.cell? ⟨bn, on + i, none⟩ = some (.string n) := by have := hcn 0 _ rfl; rwa [Nat.add_zero, show strE.k = 1 from rfl, Nat.mul_one] at this
      have HNN := Lib.hid hnn
      have HFI : Hid (Calls Tryz.prog 123 #[.slice A L.length c, .string n] wr fun e w' => ∃ k, e = .returned (.int .i64 k) ∧ FoundAt L n k ∧ Below wr.heap.size wr w') := Lib.hid (rfind_any wr _ L ok (HL.out.below HR.out.below) n)
      clear hcn hnn
      go_upto_region 6 with (go_at_call 123; refine HFI.out.mono ?_; rintro e w1 ⟨k, rfl, hk, hb1⟩; have HK := Lib.hid hk; have HB1 := Lib.hid hb1; clear hk hb1)
      rcases HK.out with ⟨rfl, hno⟩ | ⟨p, x, rfl, hx, hg, hh⟩
      · go_wp2
        (try simp only [Exit.inBlock, Exit.then])
        refine ⟨rfl, .tuple #[.slice none 0 0, .bool false], by kernel_rfl, HR.out.below.trans (HB1.out.mono HR.out.below.size), .inl ⟨?_, rfl⟩⟩
        unfold rheads
        rw [if_neg]
        intro ha
        have := List.all_eq_true.1 ha n (List.mem_of_getElem? HNN.out)
        rw [hno] at this
        cases this
      · have hpl : p < L.length := (List.getElem?_eq_some_iff.1 hx).1
        obtain ⟨b, off, rfl, -, -, hcx⟩ := ((HL.out.below HR.out.below).below HB1.out).at_ p x hx
        have hcx2 : ∀ j u, x.cells[j]? = some u → w1.cell? ⟨b, off + p * 8 + 1 + j, none⟩ = some u := fun j u hu => by
          have := hcx (1 + j) u (by show (rbc (rid x.h) x)[1 + j]? = some u; rw [Nat.add_comm]; exact hu)
          rw [show off + p * rbE.k + (1 + j) = off + p * 8 + 1 + j by show off + p * 8 + (1 + j) = _; omega] at this
          exact this
        have HCX := Lib.hid hcx2
        have HXX := Lib.hid (And.intro hx (And.intro hg hh))
        have HO1 := Lib.hid (own_below HR.out.own HB1.out)
        have HBB := Lib.hid (HR.out.below.trans (HB1.out.mono HR.out.below.size))
        clear hcx hcx2 hx hg hh
        go_wp2_with (first
          | (refine wpl_load rfl 53 (.tmp 26) rfl b _ rfl x.cells _ HCX.out Tryz.underlying53 rfl rh_size ?_)
          | (refine wpl_slice1 rfl 22 53 (.tmp 27) rfl x.cells.toArray rfl _ 7 80 Tryz.underlying22 rh_info rhZ_cells rfl (by decide) (by decide) ?_)
          | (at_builtin; refine wpl_app1 x.cells.toArray w.heap.size rfl (.tmp 22) (.tmp 28) 22 53 _ 7 80 rfl Tryz.underlying22 rh_info rhZ_cells (by decide) (by decide) u6 ys.length _ rfl rfl rfl (lrhE.one x) HO1.out HBB.out.size (by have := HYL.out; omega) ?_; intro v3 w3 ho3 hg3 hat3))
        go_roundw
        case rel =>
          have hx := HXX.out.1
          refine ⟨i + 1, ys ++ [x], by omega, by go_num, by rw [List.length_append, HYL.out]; rfl, ?_⟩
          refine ⟨by rw [lrhE.flat_append, lrhE.flat_one, List.length_append]; exact ho3, ?_, fun y hy => ?_, fun m hm => ?_, below_grown_own HBB.out HO1.out (Nat.le_refl _) HBB.out.size hg3⟩
          · rw [List.take_add_one, HNN.out, List.map_append, HR.out.vals, List.filterMap_append]
            simp [HXX.out.2.1]
          · rcases List.mem_append.1 hy with hy | hy
            · exact HR.out.mem y hy
            · rw [List.mem_singleton.1 hy]; exact List.mem_of_getElem? hx
          · rw [List.take_add_one, HNN.out] at hm
            rcases List.mem_append.1 hm with hm | hm
            · exact HR.out.all m hm
            · rw [show m = n by simpa using hm]; exact HXX.out.2.2
        case measure => simp [intOf]; omega
    · have hii : i = ns.length := by omega
      subst hii
      go_wp2
      (try simp only [Exit.inBlock, Exit.then])
      refine ⟨rfl, .tuple #[u6, .bool true], by kernel_rfl, HR.out.below, .inr ⟨u6, ys, ?_, HR.out.mem, HYL.out, rfl, HR.out.own⟩⟩
      have ha := HR.out.all
      have hv := HR.out.vals
      rw [List.take_length] at ha hv
      unfold rheads
      rw [if_pos (List.all_eq_true.2 ha), ← hv]
      rfl
end Go.Proofs.YthpcedficlhanaaGreatDoor
namespace Go.Proofs.YthpcedficlhanaaGreatDoor
open Go.RowKit Go.Maps

/-- The ways through a dag, as they lie. -/
structure PathAt (okx : Nat → Prop) (w : World) (pp p b1 b2 : Nat) (D : List LB) : Prop where
  toD : w.cell? ⟨pp, 0, none⟩ = some (.pointer (some ⟨p, 0, none⟩))
  dag : DagAt okx w p b1 b2 D
  fine : FineD D
  good : GoodG (hdrs D)
theorem PathAt.below {okx : Nat → Prop} {w w' : World} {pp p b1 b2 : Nat} {D : List LB} (h : PathAt okx w pp p b1 b2 D) (hb : Below w.heap.size w w') : PathAt okx w' pp p b1 b2 D :=
  ⟨(hb.cell (cell_lt h.toD)).trans h.toD, h.dag.below hb, h.fine, h.good⟩
theorem key_inj {G : List Hdr} {A B : List ID} (hA : A = [] ∨ TipOf G A) (hB : B = [] ∨ TipOf G B) (h : keyB A = keyB B) : A = B := by
  have hz := congrArg ByteArray.size h
  rw [keyB_size, keyB_size] at hz
  rcases hA with rfl | hA
  · simp only [List.length_nil, Nat.zero_mul] at hz
    exact (List.length_eq_zero_iff.1 (by omega)).symm
  · rcases hB with rfl | hB
    · simp only [List.length_nil, Nat.zero_mul] at hz
      exact List.length_eq_zero_iff.1 (by omega)
    · have h1 := namesF_key hA.rise hA.one hA.five
      have h2 := namesF_key hB.rise hB.one hB.five
      rw [h, h2] at h1
      exact (Option.some.inj h1).symm
theorem key_beq {G : List Hdr} {A B : List ID} (hA : A = [] ∨ TipOf G A) (hB : B = [] ∨ TipOf G B) : ((keyB A).toList == (keyB B).toList) = true ↔ A = B := by
  rw [str_beq, decide_eq_true_eq]
  exact ⟨key_inj hA hB, fun h => by rw [h]⟩

end Go.Proofs.YthpcedficlhanaaGreatDoor
namespace Go.Proofs.YthpcedficlhanaaGreatDoor
open Go.RowKit Go.Maps

end Go.Proofs.YthpcedficlhanaaGreatDoor
namespace Go.Proofs.YthpcedficlhanaaGreatDoor
open Go.RowKit Go.Maps

set_option maxRecDepth 100000 in
set_option maxHeartbeats 2000000 in
theorem cnew_any (w : World) (n : Int) :
    Calls Tryz.prog 132 #[.int .i64 n] w fun e w' => ∃ pc, e = .returned (.pointer (some ⟨pc, 0, none⟩)) ∧ Below w.heap.size w w' := by
  have hmm := @run_makeMap Tryz.prog
  go_enter Tryz.func132, Tryz.ntmps132
  go_wp2
  go_ret
  exact ⟨_, rfl, (((Below.refl _ w).alloc (Nat.le_refl _) _).alloc (by simp) _).alloc (by simp; omega) _⟩

set_option maxRecDepth 100000 in
set_option maxHeartbeats 2000000 in
theorem pnew_any (w : World) (p b1 b2 : Nat) (D : List LB) (okx : Nat → Prop) (h : DagAt okx w p b1 b2 D) (hf : FineD D) (g : GoodG (hdrs D)) (n : Int) :
    Calls Tryz.prog 63 #[.pointer (some ⟨p, 0, none⟩), .int .i64 n] w fun e w' => ∃ pp, e = .returned (.pointer (some ⟨pp, 0, none⟩)) ∧ w.heap.size ≤ pp ∧ PathAt okx w' pp p b1 b2 D ∧ Below w.heap.size w w' := by
  have HD := Lib.hid h
  clear h
  go_enter Tryz.func63, Tryz.ntmps63
  go_wp2_with (go_at_call 132; refine (cnew_any w n).mono ?_; rintro e w1 ⟨pc, rfl, hb1⟩; have HB1 := Lib.hid hb1; clear hb1)
  go_ret
  have hb2 : Below w.heap.size w (w1.alloc (.cells #[.pointer (some ⟨p, 0, none⟩), .pointer (some ⟨pc, 0, none⟩)] 191)) := HB1.out.alloc HB1.out.size _
  exact ⟨_, rfl, HB1.out.size, ⟨cell_block (heap_alloc_new w1 _) rfl, HD.out.below hb2, hf, g⟩, hb2⟩
end Go.Proofs.YthpcedficlhanaaGreatDoor
