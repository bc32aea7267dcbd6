/- coxswainlaw08.Blocks. -/
import Derived.Test.YthpcedficlhanaaGreatDoorOwn
namespace Go.Proofs.YthpcedficlhanaaGreatDoor
open Go.RowKit

/-- A header's block, as values. -/
def blkV (h : Hdr) : ID × Hdr := (hdrID h, h)
/-- Blocks that were made, so far. -/
structure MadeB (w wr : World) (v : Value) (hs : List Hdr) (ys : List LB) : Prop where
  vals : vals ys = hs.map blkV
  own : wr.ownsRow w.heap.size 40 39 v hs.length (lbE.flat ys)
  at_ : ∀ y ∈ ys, y.x.At (fun k => w.heap.size ≤ k ∧ some k ≠ v.ownBlock) wr
  below : Below w.heap.size w wr
theorem MadeB.under {w wr w' : World} {v : Value} {hs : List Hdr} {ys : List LB} (h : MadeB w wr v hs ys) (hb : Below wr.heap.size wr w') : MadeB w w' v hs ys :=
  ⟨h.vals, own_below h.own hb, fun y hy => Sl.below (h.at_ y hy) hb, h.below.trans (hb.mono h.below.size)⟩
theorem MadeB.more {w W w1 : World} {v v1 : Value} {hs : List Hdr} {ys : List LB} (h : MadeB w W v hs ys) (g : Hdr) (y : LH) (hy : y.h = g) (hat : y.At (fun k => w.heap.size ≤ k ∧ some k ≠ v.ownBlock) W)
    (ho : w1.ownsRow w.heap.size 40 39 v1 (hs.length + 1) (lbE.flat ys ++ (LB.cells ⟨hdrID g, y⟩).toArray.toList)) (hg : W.grownBy w1 v.ownBlock) (hat1 : v1.ownBlock = v.ownBlock ∨ ∃ b, v1.ownBlock = some b ∧ W.heap.size ≤ b) : MadeB w w1 v1 (hs ++ [g]) (ys ++ [⟨hdrID g, y⟩]) where
  vals := by
    have := h.vals
    simp only [Go.Proofs.YthpcedficlhanaaGreatDoor.vals, List.map_append] at this ⊢
    rw [this]
    simp [LB.val, blkV, hy]
  own := by rw [lbE.flat_append, lbE.flat_one, List.length_append]; exact ho
  at_ := by
    intro z hz
    have h1 : z.x.At (fun k => w.heap.size ≤ k ∧ some k ≠ v.ownBlock) W := by
      rcases List.mem_append.1 hz with hz | hz
      · exact h.at_ z hz
      · rw [List.mem_singleton] at hz; subst hz; exact hat
    refine Sl.mono (Sl.fr (Sl.old h1) (Fr.grown hg fun k hk => hk.1.2)) fun k hk => ⟨hk.1.1, ?_⟩
    rcases hat1 with he | ⟨b, he, hb⟩
    · rw [he]; exact hk.1.2
    · rw [he]; intro e; injection e with e; omega
  below := below_grown_own h.below h.own (Nat.le_refl _) h.below.size hg
/-- Headers of the document's that lie somewhere and may be made into blocks. -/
def Fine (ok : Nat → Prop) (w : World) (l : List LRH) : Prop := ∀ x ∈ l, x.At ok w ∧ (hdrOf x.h).Ok ∧ x.h.parents.length ≤ 1000
theorem Fine.below {ok : Nat → Prop} {w w' : World} {l : List LRH} (h : Fine ok w l) (hb : Below w.heap.size w w') : Fine ok w' l := fun x hx => ⟨Sl.below (h x hx).1 hb, (h x hx).2⟩

theorem make_some (w : World) (x : LH) (ok : Nat → Prop) (hx : x.At ok w) (hok : x.h.Ok) (ht : Tab w) :
    Calls Tryz.prog 91 #[.agg x.cells.toArray] w fun e w' => ∃ (i : ID) (y : LH), i = hdrID x.h ∧ y.h = x.h ∧ e = .returned (.agg (LB.cells ⟨i, y⟩).toArray) ∧ y.At (fun k => w.heap.size ≤ k) w' ∧ Below w.heap.size w w' :=
  (make_any w x ok hx hok ht).mono fun _ _ ⟨y, h1, h2, h3, h4⟩ => ⟨_, y, rfl, h1, h2, h3, h4⟩
section
variable {ops : Array Oper} {rest : List Oper} {o : Oper} {a : Act} {Q : Exit → Act → World → Prop}
/-- One block more is appended. -/
theorem wpl_app_made {w W : World} {u : Value} {hs : List Hdr} {ys : List LB} (h : MadeB w W u hs ys) (g : Hdr) (iD : ID) (z : LH) (hi : iD = hdrID g) (hz : z.h = g) (hat : z.At (fun k => w.heap.size ≤ k ∧ some k ≠ u.ownBlock) W) (hlen : hs.length ≤ 1000)
    (hgd : o.guard = none) (s x : Operand) (ho : o.op = .call { callee := .builtin .append, args := #[s, x], argTypes := #[25, 25] }) (hs' : a.eval s = u) (hx : a.eval x = .slice (some ⟨W.heap.size, 0, none⟩) 1 1)
    (hK : ∀ v1 w1, MadeB w w1 v1 (hs ++ [g]) (ys ++ [⟨hdrID g, z⟩]) → wpList Tryz.prog ops Q rest (a.put o.dst v1) w1) : wpList Tryz.prog ops Q (o :: rest) a (W.alloc (.cells (LB.cells ⟨iD, z⟩).toArray 40)) := by
  subst hi
  refine wpl_app1 (LB.cells ⟨hdrID g, z⟩).toArray w.heap.size hgd s x 25 40 _ 39 112 ho Tryz.underlying25 blk_info lbZ_cells (by decide) (by decide) u hs.length _ hs' hx (by rw [List.size_toArray, LB.cells_length]) (LB.cells_one _) h.own h.below.size (by omega) ?_
  intro v1 w1 ho1 hg1 hat1
  exact hK v1 w1 (h.more g z hz hat ho1 hg1 hat1)
end
theorem at_new {w wr w3 : World} {u : Value} {hs : List Hdr} {ys : List LB} {z : LH} (hC : MadeB w wr u hs ys) (hz : z.At (fun k => wr.heap.size ≤ k) w3) : z.At (fun k => w.heap.size ≤ k ∧ some k ≠ u.ownBlock) w3 :=
  Sl.mono hz fun k hk => ⟨Nat.le_trans hC.below.size hk, fun e => by have := (own_lt hC.own k e.symm).2; omega⟩

set_option maxRecDepth 100000 in
set_option maxHeartbeats 1000000 in
theorem blocks_any (w : World) (t : Value) (l : List LRH) (ok ok' : Nat → Prop) (hl : Sl lrhE ok w t l) (hf : Fine ok' w l) (hlen : l.length ≤ 1000) (ht : Tab w) :
    Calls Tryz.prog 20 #[t] w fun e w' => ∃ v ys, e = .returned v ∧ MadeB w w' v (l.map fun x => hdrOf x.h) ys := by
  obtain ⟨A, c, rfl, hc, hm⟩ := hl.form
  have HL := Lib.hid hl
  have HF := Lib.hid hf
  have HT := Lib.hid ht
  clear hl hf ht
  go_enter Tryz.func20, Tryz.ntmps20
  go_wp2
  go_loopw [3, 8] (fun v ci wr => ∃ (i : Nat) (ys : List LB), i ≤ l.length ∧ ci = .int .i64 i ∧ MadeB w wr v ((l.take i).map fun x => hdrOf x.h) ys) (fun _ ci _ => l.length - (intOf ci).toNat)
  case atStart => exact ⟨0, [], Nat.zero_le _, rfl, rfl, World.ownsRow_nil _ _ _ _, by simp, Below.refl _ _⟩
  case round =>
    obtain ⟨i, ys, hi, rfl, hC⟩ := hrel
    have hsz := hC.below.size
    have HC := Lib.hid hC
    clear hC
    by_cases hlt : i < l.length
    · obtain ⟨x, hx⟩ : ∃ x, l[i]? = some x := ⟨_, List.getElem?_eq_getElem hlt⟩
      obtain ⟨b, off, rfl, hbl, -, hcx⟩ := (HL.out.below HC.out.below).at_ i x hx
      obtain ⟨hax, hox, hpl⟩ := (HF.out.below HC.out.below) x (List.mem_of_getElem? hx)
      have hil : ((l.take i).map fun x => hdrOf x.h).length = i := by rw [List.length_map, List.length_take]; omega
      have HIL := Lib.hid hil
      have HAX := Lib.hid hax
      have HOX := Lib.hid hox
      have HX := Lib.hid hcx
      have HXI := Lib.hid hx
      have HW1 : Hid (∃ W1, W1 = wr.alloc (.cells x.cells.toArray 53)) := Lib.hid ⟨_, rfl⟩
      have HB1 : Hid (Below wr.heap.size wr (wr.alloc (.cells x.cells.toArray 53))) := Lib.hid ((Below.refl _ wr).alloc (Nat.le_refl _) _)
      have HH1 : Hid (∀ j u, x.cells[j]? = some u → (wr.alloc (.cells x.cells.toArray 53)).cell? ⟨wr.heap.size, 0 + j, none⟩ = some u) := Lib.hid fun j u hu => by rw [Nat.zero_add]; exact cell_block (heap_alloc_new wr _) (by simpa using hu)
      have hs1 : wr.heap.size ≤ (wr.alloc (.cells x.cells.toArray 53)).heap.size := by simp
      clear hcx hx hax hox hil
      go_wp2_with (first
        | (refine wpl_load rfl 53 (.tmp 10) rfl b _ rfl x.cells _ HX.out Tryz.underlying53 rfl rh_size ?_)
        | (refine wpl_store_new rfl 53 _ _ rfl rfl x.cells rfl _ _ rfl (lrhE.one x) rh_size ?_; generalize (wr.alloc (.cells x.cells.toArray 53)) = W1 at HB1 HH1 hs1 ⊢)
        | (refine wpl_load rfl 53 (.tmp 5) rfl wr.heap.size 0 rfl x.cells _ HH1.out Tryz.underlying53 rfl rh_size ?_)
        | (go_at_call 38; refine (own_any _ x ok' (Sl.below (w := wr) HAX.out HB1.out) hpl).mono ?_; rintro e w2 ⟨y, hyh, rfl, hy, hb2⟩; have HYH := Lib.hid hyh; have HY := Lib.hid hy; have HB2 : Hid (Below wr.heap.size wr w2) := Lib.hid (HB1.out.trans (hb2.mono hs1)); clear hyh hy hb2)
        | (go_at_call 91; refine (make_some _ y _ HY.out (by rw [HYH.out]; exact HOX.out) (HT.out.below (HC.out.under HB2.out).below)).mono ?_; rintro e w3 ⟨iD, z, hiD, hzh, rfl, hz, hb3⟩; have HID : Hid (iD = hdrID (hdrOf x.h)) := Lib.hid (by rw [hiD, HYH.out]); clear hiD; have HZH : Hid (z.h = hdrOf x.h) := Lib.hid (hzh.trans HYH.out); have HZ : Hid (z.At (fun k => wr.heap.size ≤ k) w3) := Lib.hid (Sl.mono hz fun k hk => Nat.le_trans HB2.out.size hk); have HB3 : Hid (Below wr.heap.size wr w3) := Lib.hid (HB2.out.trans (hb3.mono HB2.out.size)); clear hzh hz hb3)
        | (refine wpl_slice1 rfl 25 40 (.tmp 15) rfl (LB.cells ⟨iD, z⟩).toArray rfl _ 39 112 Tryz.underlying25 blk_info lbZ_cells (by rw [List.size_toArray, LB.cells_length]) (by decide) (by decide) ?_)
        | (at_builtin; refine wpl_app_made (HC.out.under HB3.out) (hdrOf x.h) iD z HID.out HZH.out (at_new HC.out HZ.out) (by have := HIL.out; omega) rfl (.tmp 12) (.tmp 16) rfl rfl rfl ?_; intro v' w4 hC4; have HC4 := Lib.hid hC4; clear hC4))
      go_roundw
      case rel =>
        refine ⟨i + 1, ys ++ [⟨hdrID (hdrOf x.h), z⟩], by omega, by go_num, ?_⟩
        rw [List.take_add_one, HXI.out, List.map_append]
        exact HC4.out
      case measure => simp [intOf]; omega
    · have hin : i = l.length := by omega
      subst hin
      go_wp2
      go_ret
      exact ⟨_, ys, rfl, by have := HC.out; rwa [List.take_length] at this⟩
end Go.Proofs.YthpcedficlhanaaGreatDoor
