/- coxswainlaw08.Beside. A row of one's own: several elements appended, one element set. A row and the same row in another order. -/
import Derived.Test.YthpcedficlhanaaGreatDoorFlAP
import Derived.Deep.CutRange
namespace Go.Proofs.YthpcedficlhanaaGreatDoor
open Go.RowKit

/-- Headers of the document's that a test made, in a row of its own. -/
structure Besides (w wr : World) (v : Value) (ys : List LRH) : Prop where
  right : ∀ y ∈ ys, RightH y.h
  own : wr.ownsRow w.heap.size 53 7 v ys.length (lrhE.flat ys)
  at_ : ∀ y ∈ ys, y.At (fun k => w.heap.size ≤ k ∧ some k ≠ v.ownBlock) wr
  below : Below w.heap.size w wr
theorem rh_info : (Tryz.prog.info? 53).map (fun i => (i.zero, i.size, i.bytes)) = some (some (.agg zRH), 7, 80) := by kernel_rfl
theorem rhZ_cells : (Value.agg zRH).cells.size = 7 := rfl
theorem grown_setCell (W : World) (b j : Nat) (u : Value) : W.grownBy (W.setCell ⟨b, j, none⟩ u) (some b) := ⟨rfl, rfl, rfl, by simp [World.setCell], fun k _ hne => Below.heap_setCell _ _ _ _ (fun e => hne (congrArg some e))⟩
theorem grown_of_below {W W' : World} (h : Below W.heap.size W W') (row : Option Nat) : W.grownBy W' row := ⟨h.os, h.tape, h.output, h.size, fun k hk _ => h.block k hk⟩
section
variable {w wr W W' : World} {v : Value} {ys : List LRH} {b : Nat}
theorem Besides.beyond (h : Besides w wr v ys) (hg : wr.grownBy W (some b)) (hb : wr.heap.size ≤ b) : Besides w W v ys where
  right := h.right
  own := h.own.kept hg (by
    cases hv : v.ownBlock with
    | none => exact .inl rfl
    | some k => exact .inr fun e => by injection e with e; have := (own_lt h.own k hv).2; omega)
  at_ := fun y hy => (Sl.fr (Sl.old (h.at_ y hy)) (Fr.grown hg fun k hk e => by injection e with e; have := hk.2; omega)).mono fun k hk => hk.1
  below := h.below.grown hg h.below.size fun k hk => by injection hk with hk; have := h.below.size; omega
theorem Besides.under (h : Besides w wr v ys) (hb : Below wr.heap.size wr W) : Besides w W v ys :=
  ⟨h.right, own_below h.own hb, fun y hy => Sl.below (h.at_ y hy) hb, h.below.trans (hb.mono h.below.size)⟩
/-- A round's header, in a variable of its own. -/
structure Beside1 (w wr W : World) (b : Nat) (y : LRH) (v : Value) (ys : List LRH) : Prop where
  new : wr.heap.size ≤ b
  row : Besides w wr v ys
  cell : W.heap[b]? = some (.cells y.cells.toArray 53 (0, 0))
  right : RightH y.h
  at_ : y.At (fun k => w.heap.size ≤ k ∧ some k ≠ v.ownBlock ∧ k ≠ b) W
  grown : wr.grownBy W (some b)
theorem Beside1.drew {y : LRH} (H : Beside1 w wr W b y v ys) : Beside1 w wr W.drew b y v ys :=
  ⟨H.new, H.row, H.cell, H.right, Sl.fr H.at_ (Fr.refl _ W).drew, ⟨H.grown.os, H.grown.tape, H.grown.output, H.grown.size, H.grown.block⟩⟩
theorem Beside1.set {y : LRH} (H : Beside1 w wr W b y v ys) (j : Nat) (u : Value) (y' : LRH) (hc : y.cells.toArray.setIfInBounds j u = y'.cells.toArray) (hr : RightH y'.h) (hat : y'.At (fun k => w.heap.size ≤ k ∧ some k ≠ v.ownBlock ∧ k ≠ b) W) : Beside1 w wr (W.setCell ⟨b, j, none⟩ u) b y' v ys :=
  ⟨H.new, H.row, by rw [← hc]; exact heap_setCell_at W b j _ _ _ u H.cell, hr, Sl.fr hat ((Fr.refl _ W).setCell (p := ⟨b, j, none⟩) (fun h => h.2.2 rfl) u), World.grownBy.trans H.grown (grown_setCell W b j u)⟩
/-- The first header, as it lies in the row. -/
theorem Beside1.first {y o : LRH} (H : Beside1 w wr W b y v ys) (ho : ys[0]? = some o) : ∃ g cap, v = .slice (some ⟨g, 0, none⟩) ys.length cap ∧ ys.length ≤ cap ∧ cap ≤ maxLen ∧ ∀ W', wr.grownBy W' (some b) → ∀ j u, o.cells[j]? = some u → W'.cell? ⟨g, j, none⟩ = some u := by
  have hn : 0 < ys.length := by rcases Nat.lt_or_ge 0 ys.length with h | h; exact h; rw [List.getElem?_eq_none h] at ho; cases ho
  have hB := fun W' (hg : wr.grownBy W' (some b)) => (H.row.beyond hg H.new).own
  obtain ⟨hl, ⟨rfl, h0⟩ | ⟨g, cap, cur, rfl, -, -, hcap, hm, -, -⟩⟩ := H.row.own
  · omega
  refine ⟨g, cap, rfl, hcap, hm, fun W' hg j u hu => ?_⟩
  have h7 : o.cells.length = 7 := rfl
  have hj : j < 7 := by rw [← h7]; exact (List.getElem?_eq_some_iff.1 hu).1
  have hf : (lrhE.flat ys)[j]? = some u := by
    obtain ⟨o', ys', rfl⟩ : ∃ o' ys', ys = o' :: ys' := by cases ys with | nil => cases ho | cons a l => exact ⟨a, l, rfl⟩
    injection ho with ho
    subst ho
    show (List.flatMap LRH.cells (o' :: ys'))[j]? = _
    rw [List.flatMap_cons, List.getElem?_append_left (by rw [h7]; exact hj)]
    exact hu
  rw [(hB W' hg).cellAt j (by omega), hf]
theorem Besides.more {v1 : Value} {w1 : World} (h : Besides w W v ys) (z : LRH) (hr : RightH z.h) (hat : z.At (fun k => w.heap.size ≤ k ∧ some k ≠ v.ownBlock) W)
    (ho : w1.ownsRow w.heap.size 53 7 v1 (ys.length + 1) (lrhE.flat ys ++ z.cells.toArray.toList)) (hg : W.grownBy w1 v.ownBlock) (hat1 : v1.ownBlock = v.ownBlock ∨ ∃ b, v1.ownBlock = some b ∧ W.heap.size ≤ b) : Besides w w1 v1 (ys ++ [z]) where
  right := fun y hy => by
    rcases List.mem_append.1 hy with hy | hy
    · exact h.right y hy
    · rw [List.mem_singleton.1 hy]; exact hr
  own := by rw [lrhE.flat_append, lrhE.flat_one, List.length_append]; exact ho
  at_ := by
    intro y hy
    have h1 : y.At (fun k => w.heap.size ≤ k ∧ some k ≠ v.ownBlock) W := by
      rcases List.mem_append.1 hy with hy | hy
      · exact h.at_ y hy
      · rw [List.mem_singleton] at hy; subst hy; exact hat
    refine Sl.mono (Sl.fr (Sl.old h1) (Fr.grown hg fun k hk => hk.1.2)) fun k hk => ⟨hk.1.1, ?_⟩
    rcases hat1 with he | ⟨b, he, hb⟩
    · rw [he]; exact hk.1.2
    · rw [he]; intro e; injection e with e; omega
  below := below_grown_own h.below h.own (Nat.le_refl _) h.below.size hg
end
section
variable {ops : Array Oper} {rest : List Oper} {o : Oper} {a : Act} {Q : Exit → Act → World → Prop}
/-- One header more is appended. -/
theorem wpl_app_rh {w W : World} {v : Value} {ys : List LRH} (h : Besides w W v ys) (z : LRH) (hr : RightH z.h) (hat : z.At (fun k => w.heap.size ≤ k ∧ some k ≠ v.ownBlock) W) (hlen : ys.length ≤ 1000)
    (hgd : o.guard = none) (s x : Operand) (ho : o.op = .call { callee := .builtin .append, args := #[s, x], argTypes := #[22, 22] }) (hs' : a.eval s = v) (hx : a.eval x = .slice (some ⟨W.heap.size, 0, none⟩) 1 1)
    (hK : ∀ v1 w1, Besides w w1 v1 (ys ++ [z]) → wpList Tryz.prog ops Q rest (a.put o.dst v1) w1) : wpList Tryz.prog ops Q (o :: rest) a (W.alloc (.cells z.cells.toArray 53)) := by
  refine wpl_app1 z.cells.toArray w.heap.size hgd s x 22 53 _ 7 80 ho Tryz.underlying22 rh_info rhZ_cells (by decide) (by decide) v ys.length _ hs' hx rfl (lrhE.one z) h.own h.below.size (by omega) ?_
  intro v1 w1 ho1 hg1 hat1
  exact hK v1 w1 (h.more z hr hat ho1 hg1 hat1)
end
theorem exec_stc {P : Program} {o : Oper} {a : Act} {w : World} (ty : TypeId) (x y : Operand) (ho : o.op = .store ty x y) (b off : Nat) (hx : a.eval x = .pointer (some ⟨b, off, none⟩)) (u : Value) (hy : a.eval y = u) (h1 : u.oneCell' = true) (hi : (P.info? ty).map (·.size) = some 1)
    (old : Value) (hc : w.cell? ⟨b, off, none⟩ = some old) (hf : w.frozen? ⟨b, off, none⟩ = false) : (execOp a.eval o).run P w = .ok .skip (w.setCell ⟨b, off, none⟩ u) := by
  unfold execOp
  simp only [ho, hx, hy, Instr.storeAt, Instr.sureAddr, Sem.run_bind, Sem.run_pure, Result.andThen_ok, run_storeVar_cell w ty b off u old h1 hi hc hf]
/-- What a header that is put in may be. -/
def Raw (ok : Nat → Prop) (w : World) (l : List LRH) : Prop := ∀ x ∈ l, SlW strE ok w x.v x.h.parents ∧ x.h.ticket.size ≤ 140737488351232 ∧ 0 ≤ x.h.power ∧ x.h.power ≤ 18446744073709551615

set_option maxRecDepth 100000 in
set_option maxHeartbeats 1000000 in
theorem beside_any (w : World) (t : Value) (l : List LRH) (ok ok' : Nat → Prop) (hl : Sl lrhE ok w t l) (hf : Raw ok' w l) :
    Calls Tryz.prog 19 #[t] w fun e w' => ∃ v ys, e = .returned v ∧ ys.length ≤ 7 ∧ Besides w w' v ys := by
  obtain ⟨A, c, rfl, hc, hm⟩ := hl.form
  have HL := Lib.hid hl
  have HF := Lib.hid hf
  clear hl hf
  go_enter Tryz.func19, Tryz.ntmps19
  go_wp2
  go_loopw [3, 4] (fun v ci wr => ∃ (i : Nat) (ys : List LRH), i ≤ l.length ∧ i ≤ 7 ∧ ys.length = i ∧ ci = .int .i64 i ∧ Besides w wr v ys) (fun _ ci _ => l.length - (intOf ci).toNat)
  case atStart => exact ⟨0, [], Nat.zero_le _, by omega, rfl, rfl, by simp, World.ownsRow_nil _ _ _ _, by simp, Below.refl _ _⟩
  case round =>
    obtain ⟨i, ys, hi, hi7, hys, rfl, hC⟩ := hrel
    have HC := Lib.hid hC
    have HYS := Lib.hid hys
    clear hC hys
    by_cases hlt : i < l.length ∧ i < 7
    · obtain ⟨hlt, hl7⟩ := hlt
      obtain ⟨x, hx⟩ : ∃ x, l[i]? = some x := ⟨_, List.getElem?_eq_getElem hlt⟩
      obtain ⟨bI, off, rfl, hbl, -, hcx⟩ := (HL.out.below HC.out.below).at_ i x hx
      obtain ⟨hax, htx, hp0, hp1⟩ := HF.out x (List.mem_of_getElem? hx)
      have HAX : Hid (SlW strE ok' wr x.v x.h.parents) := Lib.hid (hax.below HC.out.below)
      have HTX := Lib.hid (And.intro htx (And.intro hp0 hp1))
      have HX := Lib.hid hcx
      have HXI := Lib.hid hx
      have hg7 : decide ((i : Int) < 7) = true := by simp; omega
      clear hcx hx hax htx hp0 hp1
      go_upto_region 5 with fail
      go_cut [5] from 6 to 50 (fun hp W => ∃ b y, hp = .pointer (some ⟨b, 0, none⟩) ∧ Beside1 w wr W b y u3 ys)
      case first =>
        go_wp2_with (first
          | (refine wpl_load rfl 53 (.tmp 18) rfl bI _ rfl x.cells _ HX.out Tryz.underlying53 rfl rh_size ?_)
          | (go_at_call 90; refine (right_any _ x ok' HAX.out HTX.out.1 HTX.out.2.1 HTX.out.2.2).mono ?_; rintro e w1 ⟨y, hy, rfl, hya, hb1⟩; have H1 : Hid (Beside1 w wr (w1.alloc (.cells y.cells.toArray 53)) w1.heap.size y u3 ys) := Lib.hid ⟨hb1.size, HC.out, heap_alloc_new w1 _, hy, (Sl.fr (Sl.old hya) ((Fr.refl _ w1).alloc _)).mono fun k hk => ⟨Nat.le_trans HC.out.below.size hk.1, fun e => (by have := (own_lt HC.out.own k e.symm).2; have := hk.1; omega), Nat.ne_of_lt hk.2⟩, grown_of_below (hb1.alloc hb1.size _) _⟩; clear hy hya hb1)
          | (refine wpl_store_new rfl 53 _ _ rfl rfl y.cells rfl _ _ rfl (lrhE.one y) rh_size ?_))
        go_meet
        case rel => exact ⟨_, y, rfl, H1.out⟩
      case rest =>
      obtain ⟨b, y, rfl, h1⟩ := hcut
      have H1 := Lib.hid h1
      clear h1
      go_step
      go_step
      go_cut [] from 6 to 50 (fun W => ∃ y, Beside1 w wr W b y u3 ys)
      case first =>
        have HBW : Hid (Below w.heap.size w wc) := Lib.hid (H1.out.row.beyond H1.out.grown H1.out.new).below
        by_cases hi0 : 0 < i
        · have hgi : decide (0 < (i : Int)) = true := by simp; omega
          obtain ⟨o, ho⟩ : ∃ o, ys[0]? = some o := ⟨_, List.getElem?_eq_getElem (by have := HYS.out; omega)⟩
          obtain ⟨g, cap, rfl, hcap, hmx, hO⟩ := H1.out.first ho
          have HO := Lib.hid hO
          have hRo : RightH o.h := H1.out.row.right o (List.mem_of_getElem? ho)
          have HAo : Hid (o.At (fun k => w.heap.size ≤ k ∧ some k ≠ (Value.slice (some ⟨g, 0, none⟩) ys.length cap).ownBlock ∧ k ≠ b) wc) := Lib.hid ((Sl.fr (Sl.old (H1.out.row.at_ o (List.mem_of_getElem? ho))) (Fr.grown H1.out.grown fun k hk e => by injection e with e; have := H1.out.new; have := hk.2; omega)).mono fun k hk => ⟨hk.1.1, hk.1.2, by have := H1.out.new; have := hk.2; omega⟩)
          have hcs : wc.cell? ⟨bI, off + i * 7 + 6, none⟩ = some (.int .i64 x.h.salt) := by
            obtain ⟨b2, o2, hb2, -, -, hc2⟩ := (HL.out.below HBW.out).at_ i x HXI.out
            injection hb2 with hb2
            injection hb2 with e1 e2
            subst e1 e2
            exact hc2 6 _ rfl
          clear hO ho
          by_cases hs7 : bits .and .i64 x.h.salt 7 = 7
          · have hd7 : decide (bits .and .i64 x.h.salt 7 = 7) = true := by simp [hs7]
            go_wp2
            go_meet
            case rel => exact ⟨y, H1.out⟩
          · have D1 := Lib.hid H1.out.drew
            have D2 := Lib.hid (D1.out.set 0 (.int .i64 o.h.height) ⟨{ y.h with height := o.h.height }, y.A, y.c⟩ rfl { D1.out.right with h0 := hRo.h0, h1 := hRo.h1 } D1.out.at_)
            have D3 := Lib.hid (D2.out.set 4 (.int .u64 o.h.power) ⟨{ y.h with height := o.h.height, power := o.h.power }, y.A, y.c⟩ rfl { D2.out.right with p0 := hRo.p0, p1 := hRo.p1 } D2.out.at_)
            have D4 := Lib.hid (D3.out.set 5 o.v ⟨{ y.h with height := o.h.height, power := o.h.power, parents := o.h.parents }, o.A, o.c⟩ rfl { D3.out.right with pl := hRo.pl, pz := hRo.pz, pn := hRo.pn } (Sl.fr (ok := fun k => w.heap.size ≤ k ∧ some k ≠ (Value.slice (some ⟨g, 0, none⟩) ys.length cap).ownBlock ∧ k ≠ b) HAo.out (((Fr.refl _ wc).drew.setCell (p := ⟨b, 0, none⟩) (fun h => h.2.2 rfl) _).setCell (p := ⟨b, 4, none⟩) (fun h => h.2.2 rfl) _)))
            have hy0 : 0 < ys.length := by have := HYS.out; omega
            go_upto_region 7 with fail
            refine st_ (S := (fun W' => wr.grownBy W' (some b))) 18 #[false, false, false, false, false, false, false, false, false, false, false, false, false, false, false, false, false, false] (by kernel_rfl) rfl (by rfl) D1.out.grown (fun hHeld => ?_)
            refine tk_ 0 (some 32) #[true, false, false, false, false, false, false, false, false, false, false, false, false, false, false, false, false, false] (v := ?_) (a' := ?_) rfl rfl (by kernel_rfl) (fun _ _ _ h => h) (yieldsIf_run rfl ?_) hHeld ?_ ?_
            rotate_left
            · intro w'
              go_simp
              with_reducible rfl
            rotate_left
            · simp only [Act.put, List.setIfInBounds_toArray, List.set_cons_zero, List.set_cons_succ]
              rfl
            refine tk_ 1 (some 33) #[true, true, false, false, false, false, false, false, false, false, false, false, false, false, false, false, false, false] (v := ?_) (a' := ?_) rfl rfl (by kernel_rfl) (fun _ _ _ h => h) (yieldsIf_run rfl ?_) hHeld ?_ ?_
            rotate_left
            · intro w'
              go_simp
              with_reducible rfl
            rotate_left
            · simp only [Act.put, List.setIfInBounds_toArray, List.set_cons_zero, List.set_cons_succ]
              rfl
            refine tk_ 2 (some 34) #[true, true, true, false, false, false, false, false, false, false, false, false, false, false, false, false, false, false] (v := ?_) (a' := ?_) rfl rfl (by kernel_rfl) (fun _ _ _ h => h) (yieldsIf_run rfl ?_) hHeld ?_ ?_
            rotate_left
            · intro w'
              go_simp
              with_reducible rfl
            rotate_left
            · simp only [Act.put, List.setIfInBounds_toArray, List.set_cons_zero, List.set_cons_succ]
              rfl
            refine tk_ 3 (some 35) #[true, true, true, true, false, false, false, false, false, false, false, false, false, false, false, false, false, false] rfl rfl (by kernel_rfl) (fun _ _ _ h => h) (yieldsIf_cell rfl 3 (.tmp 34) rfl ⟨g, 0, none⟩ rfl (.int .i64 o.h.height) _ (fun W' h => HO.out W' h 0 _ rfl) Tryz.underlying3 rfl) hHeld (a' := ?_) ?_ ?_
            rotate_left
            · simp only [Act.put, List.setIfInBounds_toArray, List.set_cons_zero, List.set_cons_succ]
              rfl
            refine tk_ 4 (some 36) #[true, true, true, true, true, false, false, false, false, false, false, false, false, false, false, false, false, false] (v := ?_) (a' := ?_) rfl rfl (by kernel_rfl) (fun _ _ _ h => h) (yieldsIf_run rfl ?_) hHeld ?_ ?_
            rotate_left
            · intro w'
              go_simp
              with_reducible rfl
            rotate_left
            · simp only [Act.put, List.setIfInBounds_toArray, List.set_cons_zero, List.set_cons_succ]
              rfl
            refine tk_ 5 (some 37) #[true, true, true, true, true, true, false, false, false, false, false, false, false, false, false, false, false, false] (v := ?_) (a' := ?_) rfl rfl (by kernel_rfl) (fun _ _ _ h => h) (yieldsIf_run rfl ?_) hHeld ?_ ?_
            rotate_left
            · intro w'
              go_simp
              with_reducible rfl
            rotate_left
            · simp only [Act.put, List.setIfInBounds_toArray, List.set_cons_zero, List.set_cons_succ]
              rfl
            refine tk_ 6 (some 38) #[true, true, true, true, true, true, true, false, false, false, false, false, false, false, false, false, false, false] (v := ?_) (a' := ?_) rfl rfl (by kernel_rfl) (fun _ _ _ h => h) (yieldsIf_run rfl ?_) hHeld ?_ ?_
            rotate_left
            · intro w'
              go_simp
              with_reducible rfl
            rotate_left
            · simp only [Act.put, List.setIfInBounds_toArray, List.set_cons_zero, List.set_cons_succ]
              rfl
            refine tk_ 7 (some 39) #[true, true, true, true, true, true, true, true, false, false, false, false, false, false, false, false, false, false] rfl rfl (by kernel_rfl) (fun _ _ _ h => h) (yieldsIf_cell rfl 35 (.tmp 38) rfl ⟨g, 4, none⟩ rfl (.int .u64 o.h.power) _ (fun W' h => HO.out W' h 4 _ rfl) Tryz.underlying35 rfl) hHeld (a' := ?_) ?_ ?_
            rotate_left
            · simp only [Act.put, List.setIfInBounds_toArray, List.set_cons_zero, List.set_cons_succ]
              rfl
            refine tk_ 8 (some 40) #[true, true, true, true, true, true, true, true, true, false, false, false, false, false, false, false, false, false] (v := ?_) (a' := ?_) rfl rfl (by kernel_rfl) (fun _ _ _ h => h) (yieldsIf_run rfl ?_) hHeld ?_ ?_
            rotate_left
            · intro w'
              go_simp
              with_reducible rfl
            rotate_left
            · simp only [Act.put, List.setIfInBounds_toArray, List.set_cons_zero, List.set_cons_succ]
              rfl
            refine tk_ 9 (some 41) #[true, true, true, true, true, true, true, true, true, true, false, false, false, false, false, false, false, false] (v := ?_) (a' := ?_) rfl rfl (by kernel_rfl) (fun _ _ _ h => h) (yieldsIf_run rfl ?_) hHeld ?_ ?_
            rotate_left
            · intro w'
              go_simp
              with_reducible rfl
            rotate_left
            · simp only [Act.put, List.setIfInBounds_toArray, List.set_cons_zero, List.set_cons_succ]
              rfl
            refine tk_ 10 (some 42) #[true, true, true, true, true, true, true, true, true, true, true, false, false, false, false, false, false, false] (v := ?_) (a' := ?_) rfl rfl (by kernel_rfl) (fun _ _ _ h => h) (yieldsIf_run rfl ?_) hHeld ?_ ?_
            rotate_left
            · intro w'
              go_simp
              with_reducible rfl
            rotate_left
            · simp only [Act.put, List.setIfInBounds_toArray, List.set_cons_zero, List.set_cons_succ]
              rfl
            refine tk_ 11 (some 43) #[true, true, true, true, true, true, true, true, true, true, true, true, false, false, false, false, false, false] rfl rfl (by kernel_rfl) (fun _ _ _ h => h) (yieldsIf_cell rfl 51 (.tmp 42) rfl ⟨g, 5, none⟩ rfl o.v _ (fun W' h => HO.out W' h 5 _ rfl) Tryz.underlying51 rfl) hHeld (a' := ?_) ?_ ?_
            rotate_left
            · simp only [Act.put, List.setIfInBounds_toArray, List.set_cons_zero, List.set_cons_succ]
              rfl
            refine tk_ 12 (some 44) #[true, true, true, true, true, true, true, true, true, true, true, true, true, false, false, false, false, false] (v := ?_) (a' := ?_) rfl rfl (by kernel_rfl) (fun _ _ _ h => h) (yieldsIf_run rfl ?_) hHeld ?_ ?_
            rotate_left
            · intro w'
              go_simp
              with_reducible rfl
            rotate_left
            · simp only [Act.put, List.setIfInBounds_toArray, List.set_cons_zero, List.set_cons_succ]
              rfl
            have hHeld := D2.out.grown
            refine sk_ 13 #[true, true, true, true, true, true, true, true, true, true, true, true, true, true, false, false, false, false] rfl rfl (by kernel_rfl) rfl ((wc.drew.setCell ⟨b, 0, none⟩ (.int .i64 o.h.height))) (exec_stc 3 (.tmp 44) (.tmp 35) rfl b 0 rfl _ rfl rfl i_size _ (cell_block D1.out.cell rfl) (Lib.frozen_of_heap D1.out.cell 0)) hHeld ?_
            refine tk_ 14 (some 45) #[true, true, true, true, true, true, true, true, true, true, true, true, true, true, true, false, false, false] (v := ?_) (a' := ?_) rfl rfl (by kernel_rfl) (fun _ _ _ h => h) (yieldsIf_run rfl ?_) hHeld ?_ ?_
            rotate_left
            · intro w'
              go_simp
              with_reducible rfl
            rotate_left
            · simp only [Act.put, List.setIfInBounds_toArray, List.set_cons_zero, List.set_cons_succ]
              rfl
            have hHeld := D3.out.grown
            refine sk_ 15 #[true, true, true, true, true, true, true, true, true, true, true, true, true, true, true, true, false, false] rfl rfl (by kernel_rfl) rfl (((wc.drew.setCell ⟨b, 0, none⟩ (.int .i64 o.h.height)).setCell ⟨b, 4, none⟩ (.int .u64 o.h.power))) (exec_stc 35 (.tmp 45) (.tmp 39) rfl b 4 rfl _ rfl rfl u_size _ (cell_block D2.out.cell rfl) (Lib.frozen_of_heap D2.out.cell 4)) hHeld ?_
            refine tk_ 16 (some 46) #[true, true, true, true, true, true, true, true, true, true, true, true, true, true, true, true, true, false] (v := ?_) (a' := ?_) rfl rfl (by kernel_rfl) (fun _ _ _ h => h) (yieldsIf_run rfl ?_) hHeld ?_ ?_
            rotate_left
            · intro w'
              go_simp
              with_reducible rfl
            rotate_left
            · simp only [Act.put, List.setIfInBounds_toArray, List.set_cons_zero, List.set_cons_succ]
              rfl
            have hHeld := D4.out.grown
            refine sk_ 17 #[true, true, true, true, true, true, true, true, true, true, true, true, true, true, true, true, true, true] rfl rfl (by kernel_rfl) rfl ((((wc.drew.setCell ⟨b, 0, none⟩ (.int .i64 o.h.height)).setCell ⟨b, 4, none⟩ (.int .u64 o.h.power)).setCell ⟨b, 5, none⟩ o.v)) (exec_stc 51 (.tmp 46) (.tmp 43) rfl b 5 rfl _ rfl rfl sl_size _ (cell_block D3.out.cell rfl) (Lib.frozen_of_heap D3.out.cell 5)) hHeld ?_
            refine wpAnyH_done (by kernel_rfl) ?_ _
            change Exit.then _ _ _ _ _
            go_wp2
            go_meet
            case rel => exact ⟨_, D4.out⟩
        · have hgi : decide (0 < (i : Int)) = false := by simp; omega
          go_wp2
          go_meet
          case rel => exact ⟨y, H1.out⟩
      case rest =>
      obtain ⟨z, h1⟩ := hcut
      clear H1
      have H1 := Lib.hid h1
      clear h1
      have HZ : Hid (∀ j u, z.cells[j]? = some u → wc.cell? ⟨b, 0 + j, none⟩ = some u) := Lib.hid fun j u hu => by
        rw [Nat.zero_add]
        exact cell_block H1.out.cell (by simpa using hu)
      go_wp2_with (first
        | (refine wpl_load rfl 53 (.tmp 5) rfl b 0 rfl z.cells _ HZ.out Tryz.underlying53 rfl rh_size ?_)
        | (refine wpl_slice1 rfl 22 53 (.tmp 48) rfl z.cells.toArray rfl _ 7 80 Tryz.underlying22 rh_info rhZ_cells rfl (by decide) (by decide) ?_)
        | (at_builtin; refine wpl_app_rh (H1.out.row.beyond H1.out.grown H1.out.new) z H1.out.right (Sl.mono H1.out.at_ fun k hk => ⟨hk.1, hk.2.1⟩) (by have := HYS.out; omega) rfl (.tmp 47) (.tmp 49) rfl rfl rfl ?_; intro v1 w4 hC4; have HC4 := Lib.hid hC4; clear hC4))
      go_roundw
      case rel => exact ⟨i + 1, ys ++ [z], by omega, by omega, by rw [List.length_append, HYS.out]; rfl, by go_num, HC4.out⟩
      case measure => simp [intOf]; omega
    · have harms : i < l.length → ¬ i < 7 := fun h h' => hlt ⟨h, h'⟩
      have HAR := Lib.hid harms
      clear hlt harms
      by_cases hl2 : i < l.length
      · have h7 : decide ((i : Int) < 7) = false := by have := HAR.out hl2; simp; omega
        go_wp2
        go_ret
        exact ⟨_, ys, rfl, by have := HYS.out; omega, HC.out⟩
      · go_wp2
        go_ret
        exact ⟨_, ys, rfl, by have := HYS.out; omega, HC.out⟩
end Go.Proofs.YthpcedficlhanaaGreatDoor
namespace Go.Proofs.YthpcedficlhanaaGreatDoor
open Go.RowKit

section
variable {P : Program} {ops : Array Oper} {Q : Exit → Act → World → Prop} {md : Region.Mode} {S : World → Prop} {ds : List Nat}
/-- An operation that leaves a world that is told by what it is good for (a store of a struct into a row). -/
theorem sstepD_ (i : Nat) (l' : Array Bool) {oi : Oper} {fuel : Nat} {l : Array Bool} {a : Act} {w : World} (hi : ops[i]? = some oi) (hN : oi.dst = none) (hc : oneB md ops l l' i = true)
    (hw : Region.wanted oi (yielded ops a.tmps) = true) {R : World → Prop} (hx : ∃ w1, (execOp a.eval oi).run P w = .ok .skip w1 ∧ R w1)
    (h : ∀ w1, R w1 → (i ∉ ds → S w1) ∧ wpD P md ops Q S ds fuel l' a w1) : wpD P md ops Q S ds (fuel + 1) l a w := by
  obtain ⟨w1, hx, hR⟩ := hx
  obtain ⟨hS, hk⟩ := h w1 hR
  exact skD_ i l' hi hN hc hw w1 hx hS hk
end
section
variable {P : Program} {ops : Array Oper} {Q : Exit → Act → World → Prop} {md : Region.Mode} {S : World → Prop} {ds : List Nat}
/-- As wpD_first; of ds those alone count that haven't come up. -/
theorem wpD_first2 {i : Nat} {oi : Oper} {v : Value} (hi : ops[i]? = some oi) (hsel : ∀ (j : Nat) (o : Oper) cs b, ops[j]? = some o → o.op ≠ .select cs b)
    (hQ : ∀ c a w, Q (.panic c) (a.put oi.dst v) w → Q (.panic c) a w) :
    ∀ (n : Nat) (l : Array Bool) (a : Act) (w : World), (∀ d ∈ ds, l.getD d true = true ∨ (d ≠ i ∧ ∀ od, ops[d]? = some od → ∃ e ∈ od.after, Region.binds md e = true ∧ e.on = i)) →
      (∀ j oj, ops[j]? = some oj → j ≠ i → l.getD j true = false → (∀ e ∈ oj.after, Region.binds md e = true → e.on ≠ i) → oi.apart ops oj = true) →
      i ∈ Region.ready md ops l → YieldsIf P ops S oi v a → S w → wpD P md ops Q S ds n (l.setIfInBounds i true) (a.put oi.dst v) w → wpD P md ops Q S ds (n + 1) l a w := by
  intro n
  induction n with
  | zero =>
    intro l a w _ _ hr hy hS H
    refine ⟨fun h => (by rw [h] at hr; cases hr), fun j hj => ?_⟩
    rcases Nat.decEq j i with hji | hji
    · have := ready_mono hj hji
      rw [H.1] at this
      cases this
    · subst hji; exact hy.wpOp hi hS ⟨fun _ => hS, H⟩
  | succ n ih =>
    intro l a w hds hfree hr hy hS H
    refine ⟨fun h => (by rw [h] at hr; cases hr), fun j hj => ?_⟩
    rcases Nat.decEq j i with hji | hji
    · obtain ⟨hjun, oj, hoj, hall⟩ := mem_ready.1 hj
      have hnd : j ∉ ds := fun hd => by
        rcases hds j hd with h0 | h0
        · rw [hjun] at h0; cases h0
        · obtain ⟨e, he, hb, hon⟩ := h0.2 oj hoj
          exact waits_not hr hall he hb hon
      have h2 := wpOp_putIf hoj (hfree j oj hoj hji hjun fun e he hb heq => waits_not hr hall he hb heq) (fun cs b => hsel i oi cs b hi) (fun cs b => hsel j oj cs b hoj) hQ hy (H.2 j (ready_mono hj hji))
      refine wpOp_mono (fun a' w' h3 => ⟨h3.2.1, ih _ a' w' (fun d hd => ?_) (fun k ok hk hki hun hno => ?_) (ready_mono hr (Ne.symm hji)) h3.1 (h3.2.1 hnd) ?_⟩) h2
      · rcases hds d hd with h0 | h0
        · refine .inl ?_
          rcases Nat.decEq j d with hjk | hjk
          · rw [getD_set_ne true hjk]; exact h0
          · subst hjk; rw [hjun] at h0; cases h0
        · exact .inr h0
      · refine hfree k ok hk hki ?_ hno
        rcases Nat.decEq j k with hjk | hjk
        · rw [getD_set_ne true hjk] at hun; exact hun
        · subst hjk; exact hjun
      · rw [Array.setIfInBounds_comm _ _ hji]
        exact h3.2.2
    · subst hji; exact hy.wpOp hi hS ⟨fun _ => hS, H⟩
/-- What yields in whatever world, and behind which nothing need hold. -/
theorem wpD_pure {i : Nat} {oi : Oper} {v : Value} (hi : ops[i]? = some oi) (hsel : ∀ (j : Nat) (o : Oper) cs b, ops[j]? = some o → o.op ≠ .select cs b)
    (hQ : ∀ c a w, Q (.panic c) (a.put oi.dst v) w → Q (.panic c) a w) (hid : i ∈ ds) :
    ∀ (n : Nat) (l : Array Bool) (a : Act) (w : World),
      (∀ j oj, ops[j]? = some oj → j ≠ i → l.getD j true = false → (∀ e ∈ oj.after, Region.binds md e = true → e.on ≠ i) → oi.apart ops oj = true) →
      i ∈ Region.ready md ops l → YieldsIf P ops (fun _ => True) oi v a → wpD P md ops Q S ds n (l.setIfInBounds i true) (a.put oi.dst v) w → wpD P md ops Q S ds (n + 1) l a w := by
  intro n
  induction n with
  | zero =>
    intro l a w _ hr hy H
    refine ⟨fun h => (by rw [h] at hr; cases hr), fun j hj => ?_⟩
    rcases Nat.decEq j i with hji | hji
    · have := ready_mono hj hji
      rw [H.1] at this
      cases this
    · subst hji; exact hy.wpOp hi trivial ⟨fun h => absurd hid h, H⟩
  | succ n ih =>
    intro l a w hfree hr hy H
    refine ⟨fun h => (by rw [h] at hr; cases hr), fun j hj => ?_⟩
    rcases Nat.decEq j i with hji | hji
    · obtain ⟨hjun, oj, hoj, hall⟩ := mem_ready.1 hj
      have h2 := wpOp_putIf hoj (hfree j oj hoj hji hjun fun e he hb heq => waits_not hr hall he hb heq) (fun cs b => hsel i oi cs b hi) (fun cs b => hsel j oj cs b hoj) hQ hy (H.2 j (ready_mono hj hji))
      refine wpOp_mono (fun a' w' h3 => ⟨h3.2.1, ih _ a' w' (fun k ok hk hki hun hno => ?_) (ready_mono hr (Ne.symm hji)) h3.1 ?_⟩) h2
      · refine hfree k ok hk hki ?_ hno
        rcases Nat.decEq j k with hjk | hjk
        · rw [getD_set_ne true hjk] at hun; exact hun
        · subst hjk; exact hjun
      · rw [Array.setIfInBounds_comm _ _ hji]
        exact h3.2.2
    · subst hji; exact hy.wpOp hi trivial ⟨fun h => absurd hid h, H⟩
def lastL (md : Region.Mode) (ops : Array Oper) (l : Array Bool) (ds : List Nat) (i : Nat) : Bool := ds.all fun d => l.getD d true || (decide (d ≠ i) && match ops[d]? with | some od => od.after.any (fun e => Region.binds md e && e.on == i) | none => true)
theorem tk2_ (i : Nat) (N : Option Tmp) (l' : Array Bool) {oi : Oper} {v : Value} {fuel : Nat} {l : Array Bool} {a : Act} {w : World} (hi : ops[i]? = some oi) (hN : oi.dst = N) (hc : (tkB md ops l l' i && lastL md ops l ds i) = true)
    (hQ : ∀ c a w, Q (.panic c) (a.put oi.dst v) w → Q (.panic c) a w) (hy : YieldsIf P ops S oi v a) (hS : S w) {a' : Act} (ha : a.put N v = a')
    (h : wpD P md ops Q S ds fuel l' a' w) : wpD P md ops Q S ds (fuel + 1) l a w := by
  subst ha
  subst hN
  simp only [tkB, Bool.and_eq_true, beq_iff_eq] at hc
  obtain ⟨⟨⟨⟨h1, h2⟩, h3⟩, h4⟩, h5⟩ := hc
  subst h4
  refine wpD_first2 hi (Region.noSelect_spec h1) hQ fuel l a w (fun d hd => ?_) (Region.free_spec hi h2) (by simpa using h3) hy hS h
  have h6 := List.all_eq_true.1 h5 d hd
  rw [Bool.or_eq_true] at h6
  rcases h6 with h6 | h6
  · exact .inl h6
  rw [Bool.and_eq_true, decide_eq_true_eq] at h6
  refine .inr ⟨h6.1, fun od ho => ?_⟩
  have h7 := h6.2
  rw [ho] at h7
  obtain ⟨e, he, hx⟩ := Array.any_eq_true'.1 h7
  rw [Bool.and_eq_true, beq_iff_eq] at hx
  exact ⟨e, he, hx.1, hx.2⟩
theorem pu2_ (i : Nat) (N : Option Tmp) (l' : Array Bool) {oi : Oper} {v : Value} {fuel : Nat} {l : Array Bool} {a : Act} {w : World} (hi : ops[i]? = some oi) (hN : oi.dst = N) (hc : (tkB md ops l l' i && ds.contains i) = true)
    (hQ : ∀ c a w, Q (.panic c) (a.put oi.dst v) w → Q (.panic c) a w) (hy : YieldsIf P ops (fun _ => True) oi v a) {a' : Act} (ha : a.put N v = a')
    (h : wpD P md ops Q S ds fuel l' a' w) : wpD P md ops Q S ds (fuel + 1) l a w := by
  subst ha
  subst hN
  simp only [tkB, Bool.and_eq_true, beq_iff_eq] at hc
  obtain ⟨⟨⟨⟨h1, h2⟩, h3⟩, h4⟩, h5⟩ := hc
  subst h4
  exact wpD_pure hi (Region.noSelect_spec h1) hQ (by simpa using h5) fuel l a w (Region.free_spec hi h2) (by simpa using h3) hy h
end
section
variable {P : Program} {β : Type} {E : Enc β}
/-- 'append(v, xs...)' onto a row of the call's own, xs being cells that are read. -/
theorem exec_appS {o : Oper} {a : Act} {W : World} (base : Nat) (s x : Operand) (t e : TypeId) (z : Value) (size bytes : Nat)
    (ho : o.op = .call { callee := .builtin .append, args := #[s, x], argTypes := #[t, t] })
    (ht : P.underlying t = some (.slice e)) (hinfo : (P.info? e).map (fun i => (i.zero, i.size, i.bytes)) = some (some z, size, bytes)) (hz : z.cells.size = size) (hs0 : 0 < size) (hb0 : 0 < bytes)
    (v : Value) (n : Nat) (xs : List Value) (hs : a.eval s = v) (b off m c : Nat) (hx : a.eval x = .slice (some ⟨b, off, none⟩) m c) (news : List Value) (hlen : news.length = m * size) (hcell : ∀ j u, news[j]? = some u → W.cell? ⟨b, off + j, none⟩ = some u) (h1 : ∀ u ∈ news, u.oneCell' = true)
    (HO : W.ownsRow base e size v n xs) (hbase : base ≤ W.heap.size) (hl : (n + m) * bytes ≤ 140737488355328) :
    ∃ v1 w1, (execOp a.eval o).run P W = .ok (.value v1) w1 ∧ w1.ownsRow base e size v1 (n + m) (xs ++ news) ∧ W.grownBy w1 v.ownBlock ∧ (v1.ownBlock = v.ownBlock ∨ ∃ b, v1.ownBlock = some b ∧ W.heap.size ≤ b) := by
  obtain ⟨i0, hi, hzz⟩ := Option.map_eq_some_iff.1 hinfo
  simp only [Prod.mk.injEq] at hzz
  obtain ⟨hz0, hz1, hz2⟩ := hzz
  have hlen' : n + m ≤ 140737488355328 := Nat.le_trans (Nat.le_mul_of_pos_right _ hb0) hl
  obtain ⟨v1, w1, hr, hown, hg, -, hat⟩ := run_append_own_at (P := P) W base t o.type e i0 z size bytes ht hi hz0 hz1 hz2 hz hs0 v n xs HO ⟨b, off, none⟩ m c news hlen
    (fun j u hu => by rw [add_off]; exact hcell j u hu) h1 (by simp only [maxLen]; omega) hl hbase
  refine ⟨v1, w1, ?_, hown, hg, ?_⟩
  · unfold execOp
    simp only [ho, resolve, invoke, builtin, Sem.run_bind, Sem.run_pure, Result.andThen_ok, List.map_toArray, List.map_cons, List.map_nil, hs, hx, hr]
  · rcases hat with hat | hat
    · exact .inl hat
    · exact .inr ⟨_, hat, Nat.le_refl _⟩
/-- One element of a row of the call's own is set. -/
theorem run_setE (W : World) (base : Nat) (ty T : TypeId) (g n cap m : Nat) (ys : List β) (y : β) (h : W.ownsRow base T E.k (.slice (some ⟨g, 0, none⟩) n cap) n (E.flat ys)) (hm : m < ys.length) (hi : (P.info? ty).map (·.size) = some E.k) :
    ∃ w1, (storeVar ty ⟨g, m * E.k, none⟩ (.agg (E.enc y).toArray)).run P W = .ok () w1 ∧ w1.ownsRow base T E.k (.slice (some ⟨g, 0, none⟩) n cap) n (E.flat (ys.set m y)) ∧ W.grownBy w1 (some g) := by
  have hn : ys.length = n := by
    have h1 := h.1
    rw [E.flat_length] at h1
    exact Nat.eq_of_mul_eq_mul_right E.k0 h1
  obtain ⟨hl, ⟨h0, -⟩ | ⟨g', cap', cur, he, hb, hg, hcap, hmx, hcs, htk⟩⟩ := h
  · cases h0
  injection he with e1 e2 e3
  injection e1 with e1
  injection e1 with e1 _
  subst e1; subst e3
  have hle : m * E.k + E.k ≤ n * E.k := by
    have := Nat.mul_le_mul_right E.k (show m + 1 ≤ n by omega)
    rwa [Nat.add_mul, Nat.one_mul] at this
  have hnc : n * E.k ≤ cap * E.k := Nat.mul_le_mul_right _ hcap
  have hfit : m * E.k + 0 + (E.enc y).length ≤ cur.size := by rw [E.hk, hcs]; omega
  have hr := run_storeCells_at (P := P) g (m * E.k) T (E.enc y) 0 cur W hg hfit (E.one y)
  refine ⟨W.setRow g (cur.toList.take (m * E.k + 0) ++ E.enc y ++ cur.toList.drop (m * E.k + 0 + (E.enc y).length)).toArray, ?_, ⟨by rw [E.flat_length, List.length_set, hn], .inr ⟨g, cap, _, rfl, hb, setRow_heap W g cur _ T _ hg, hcap, hmx, ?_, ?_⟩⟩, ⟨rfl, rfl, rfl, by simp, fun k _ hk => setRow_other W g k _ (fun e => hk (by rw [e]))⟩⟩
  · cases hq : P.info? ty with
    | none => simp [hq] at hi
    | some i =>
      have hs : i.size = E.k := by simpa [hq] using hi
      simpa [storeVar, sizeOf, typeInfo, hq, hs, Value.cells, E.hk] using hr
  · simp only [List.size_toArray, List.length_append, List.length_take, List.length_drop, Array.length_toList, E.hk, Nat.add_zero]
    rw [hcs]
    omega
  · rw [E.flat_set ys m y hm, ← htk]
    simp only [Nat.add_zero, E.hk]
    have hlt : cur.toList.length = cap * E.k := by rw [Array.length_toList, hcs]
    rw [List.take_append, List.take_append, List.take_take, List.take_take, List.drop_take]
    simp only [List.length_append, List.length_take, E.hk, hlt]
    rw [Nat.min_eq_left (show m * E.k ≤ cap * E.k by omega), Nat.min_eq_right (show m * E.k ≤ n * E.k by omega), Nat.min_eq_left (show m * E.k ≤ n * E.k by omega), List.take_of_length_le (show (E.enc y).length ≤ n * E.k - m * E.k by rw [E.hk]; omega), Nat.add_mul, Nat.one_mul]
theorem exec_setE {o : Oper} {a : Act} (W : World) (base : Nat) (ty T : TypeId) (x z : Operand) (ho : o.op = .store ty x z) (g off n cap m : Nat) (hx : a.eval x = .pointer (some ⟨g, off, none⟩)) (hoff : off = m * E.k) (ys : List β) (y : β) (hz : a.eval z = .agg (E.enc y).toArray) (h : W.ownsRow base T E.k (.slice (some ⟨g, 0, none⟩) n cap) n (E.flat ys)) (hm : m < ys.length) (hi : (P.info? ty).map (·.size) = some E.k) :
    ∃ w1, (execOp a.eval o).run P W = .ok .skip w1 ∧ (w1.ownsRow base T E.k (.slice (some ⟨g, 0, none⟩) n cap) n (E.flat (ys.set m y)) ∧ W.grownBy w1 (some g)) := by
  obtain ⟨w1, h1, h2⟩ := run_setE W base ty T g n cap m ys y h hm hi
  subst hoff
  refine ⟨w1, ?_, h2⟩
  unfold execOp
  simp only [ho, hx, hz, Instr.storeAt, Instr.sureAddr, Sem.run_bind, Sem.run_pure, Result.andThen_ok, h1]
end
/-- Two elements trade places. -/
theorem swap_perm {β : Type} (l : List β) (i j : Nat) (x y : β) (hx : l[i]? = some x) (hy : l[j]? = some y) : ((l.set i y).set j x).Perm l := by
  obtain ⟨hi, rfl⟩ := List.getElem?_eq_some_iff.1 hx
  obtain ⟨hj, rfl⟩ := List.getElem?_eq_some_iff.1 hy
  exact List.set_set_perm hi hj
end Go.Proofs.YthpcedficlhanaaGreatDoor
