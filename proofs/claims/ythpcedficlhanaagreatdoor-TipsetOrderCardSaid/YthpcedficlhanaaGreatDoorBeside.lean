/- coxswainlaw08.Beside. -/
import Derived.Test.YthpcedficlhanaaGreatDoorRight
import Derived.Deep.CutRange
namespace Go.Proofs.YthpcedficlhanaaGreatDoor
open Go.RowKit

/-- Headers of the document's that a test made, in a row of its own. -/
structure Besides (w wr : World) (v : Value) (ys : List LRH) : Prop where
  right : ∀ y ∈ ys, RightH y.h
  own : wr.ownsRow w.heap.size 53 7 v ys.length (lrhE.flat ys)
  at_ : ∀ y ∈ ys, y.At (fun k => w.heap.size ≤ k ∧ some k ≠ v.ownBlock) wr
  below : Below w.heap.size w wr
theorem rh_info : (Tryz.prog.info? 53).map (fun i => (i.zero, i.size, i.bytes)) = some (some (.agg zRH), 7, 80) := by kernel_rfl
theorem rhZ_cells : (Value.agg zRH).cells.size = 7 := rfl
theorem grown_setCell (W : World) (b j : Nat) (u : Value) : W.grownBy (W.setCell ⟨b, j, none⟩ u) (some b) := ⟨rfl, rfl, rfl, by simp [World.setCell], fun k _ hne => Below.heap_setCell _ _ _ _ (fun e => hne (congrArg some e))⟩
theorem grown_of_below {W W' : World} (h : Below W.heap.size W W') (row : Option Nat) : W.grownBy W' row := ⟨h.os, h.tape, h.output, h.size, fun k hk _ => h.block k hk⟩
section
variable {w wr W W' : World} {v : Value} {ys : List LRH} {b : Nat}
theorem Besides.beyond (h : Besides w wr v ys) (hg : wr.grownBy W (some b)) (hb : wr.heap.size ≤ b) : Besides w W v ys where
  right := h.right
  own := h.own.kept hg (by
    cases hv : v.ownBlock with
    | none => exact .inl rfl
    | some k => exact .inr fun e => by injection e with e; have := (own_lt h.own k hv).2; omega)
  at_ := fun y hy => (Sl.fr (Sl.old (h.at_ y hy)) (Fr.grown hg fun k hk e => by injection e with e; have := hk.2; omega)).mono fun k hk => hk.1
  below := h.below.grown hg h.below.size fun k hk => by injection hk with hk; have := h.below.size; omega
theorem Besides.under (h : Besides w wr v ys) (hb : Below wr.heap.size wr W) : Besides w W v ys :=
  ⟨h.right, own_below h.own hb, fun y hy => Sl.below (h.at_ y hy) hb, h.below.trans (hb.mono h.below.size)⟩
/-- A round's header, in a variable of its own. -/
structure Beside1 (w wr W : World) (b : Nat) (y : LRH) (v : Value) (ys : List LRH) : Prop where
  new : wr.heap.size ≤ b
  row : Besides w wr v ys
  cell : W.heap[b]? = some (.cells y.cells.toArray 53 (0, 0))
  right : RightH y.h
  at_ : y.At (fun k => w.heap.size ≤ k ∧ some k ≠ v.ownBlock ∧ k ≠ b) W
  grown : wr.grownBy W (some b)
theorem Beside1.drew {y : LRH} (H : Beside1 w wr W b y v ys) : Beside1 w wr W.drew b y v ys :=
  ⟨H.new, H.row, H.cell, H.right, Sl.fr H.at_ (Fr.refl _ W).drew, ⟨H.grown.os, H.grown.tape, H.grown.output, H.grown.size, H.grown.block⟩⟩
theorem Beside1.set {y : LRH} (H : Beside1 w wr W b y v ys) (j : Nat) (u : Value) (y' : LRH) (hc : y.cells.toArray.setIfInBounds j u = y'.cells.toArray) (hr : RightH y'.h) (hat : y'.At (fun k => w.heap.size ≤ k ∧ some k ≠ v.ownBlock ∧ k ≠ b) W) : Beside1 w wr (W.setCell ⟨b, j, none⟩ u) b y' v ys :=
  ⟨H.new, H.row, by rw [← hc]; exact heap_setCell_at W b j _ _ _ u H.cell, hr, Sl.fr hat ((Fr.refl _ W).setCell (p := ⟨b, j, none⟩) (fun h => h.2.2 rfl) u), World.grownBy.trans H.grown (grown_setCell W b j u)⟩
/-- The first header, as it lies in the row. -/
theorem Beside1.first {y o : LRH} (H : Beside1 w wr W b y v ys) (ho : ys[0]? = some o) : ∃ g cap, v = .slice (some ⟨g, 0, none⟩) ys.length cap ∧ ys.length ≤ cap ∧ cap ≤ maxLen ∧ ∀ W', wr.grownBy W' (some b) → ∀ j u, o.cells[j]? = some u → W'.cell? ⟨g, j, none⟩ = some u := by
  have hn : 0 < ys.length := by rcases Nat.lt_or_ge 0 ys.length with h | h; exact h; rw [List.getElem?_eq_none h] at ho; cases ho
  have hB := fun W' (hg : wr.grownBy W' (some b)) => (H.row.beyond hg H.new).own
  obtain ⟨hl, ⟨rfl, h0⟩ | ⟨g, cap, cur, rfl, -, -, hcap, hm, -, -⟩⟩ := H.row.own
  · omega
  refine ⟨g, cap, rfl, hcap, hm, fun W' hg j u hu => ?_⟩
  have h7 : o.cells.length = 7 := rfl
  have hj : j < 7 := by rw [← h7]; exact (List.getElem?_eq_some_iff.1 hu).1
  have hf : (lrhE.flat ys)[j]? = some u := by
    obtain ⟨o', ys', rfl⟩ : ∃ o' ys', ys = o' :: ys' := by cases ys with | nil => cases ho | cons a l => exact ⟨a, l, rfl⟩
    injection ho with ho
    subst ho
    show (List.flatMap LRH.cells (o' :: ys'))[j]? = _
    rw [List.flatMap_cons, List.getElem?_append_left (by rw [h7]; exact hj)]
    exact hu
  rw [(hB W' hg).cellAt j (by omega), hf]
theorem Besides.more {v1 : Value} {w1 : World} (h : Besides w W v ys) (z : LRH) (hr : RightH z.h) (hat : z.At (fun k => w.heap.size ≤ k ∧ some k ≠ v.ownBlock) W)
    (ho : w1.ownsRow w.heap.size 53 7 v1 (ys.length + 1) (lrhE.flat ys ++ z.cells.toArray.toList)) (hg : W.grownBy w1 v.ownBlock) (hat1 : v1.ownBlock = v.ownBlock ∨ ∃ b, v1.ownBlock = some b ∧ W.heap.size ≤ b) : Besides w w1 v1 (ys ++ [z]) where
  right := fun y hy => by
    rcases List.mem_append.1 hy with hy | hy
    · exact h.right y hy
    · rw [List.mem_singleton.1 hy]; exact hr
  own := by rw [lrhE.flat_append, lrhE.flat_one, List.length_append]; exact ho
  at_ := by
    intro y hy
    have h1 : y.At (fun k => w.heap.size ≤ k ∧ some k ≠ v.ownBlock) W := by
      rcases List.mem_append.1 hy with hy | hy
      · exact h.at_ y hy
      · rw [List.mem_singleton] at hy; subst hy; exact hat
    refine Sl.mono (Sl.fr (Sl.old h1) (Fr.grown hg fun k hk => hk.1.2)) fun k hk => ⟨hk.1.1, ?_⟩
    rcases hat1 with he | ⟨b, he, hb⟩
    · rw [he]; exact hk.1.2
    · rw [he]; intro e; injection e with e; omega
  below := below_grown_own h.below h.own (Nat.le_refl _) h.below.size hg
end
section
variable {ops : Array Oper} {rest : List Oper} {o : Oper} {a : Act} {Q : Exit → Act → World → Prop}
/-- One header more is appended. -/
theorem wpl_app_rh {w W : World} {v : Value} {ys : List LRH} (h : Besides w W v ys) (z : LRH) (hr : RightH z.h) (hat : z.At (fun k => w.heap.size ≤ k ∧ some k ≠ v.ownBlock) W) (hlen : ys.length ≤ 1000)
    (hgd : o.guard = none) (s x : Operand) (ho : o.op = .call { callee := .builtin .append, args := #[s, x], argTypes := #[22, 22] }) (hs' : a.eval s = v) (hx : a.eval x = .slice (some ⟨W.heap.size, 0, none⟩) 1 1)
    (hK : ∀ v1 w1, Besides w w1 v1 (ys ++ [z]) → wpList Tryz.prog ops Q rest (a.put o.dst v1) w1) : wpList Tryz.prog ops Q (o :: rest) a (W.alloc (.cells z.cells.toArray 53)) := by
  refine wpl_app1 z.cells.toArray w.heap.size hgd s x 22 53 _ 7 80 ho Tryz.underlying22 rh_info rhZ_cells (by decide) (by decide) v ys.length _ hs' hx rfl (lrhE.one z) h.own h.below.size (by omega) ?_
  intro v1 w1 ho1 hg1 hat1
  exact hK v1 w1 (h.more z hr hat ho1 hg1 hat1)
end
theorem exec_stc {P : Program} {o : Oper} {a : Act} {w : World} (ty : TypeId) (x y : Operand) (ho : o.op = .store ty x y) (b off : Nat) (hx : a.eval x = .pointer (some ⟨b, off, none⟩)) (u : Value) (hy : a.eval y = u) (h1 : u.oneCell' = true) (hi : (P.info? ty).map (·.size) = some 1)
    (old : Value) (hc : w.cell? ⟨b, off, none⟩ = some old) (hf : w.frozen? ⟨b, off, none⟩ = false) : (execOp a.eval o).run P w = .ok .skip (w.setCell ⟨b, off, none⟩ u) := by
  unfold execOp
  simp only [ho, hx, hy, Instr.storeAt, Instr.sureAddr, Sem.run_bind, Sem.run_pure, Result.andThen_ok, run_storeVar_cell w ty b off u old h1 hi hc hf]
/-- What a header that is put in may be. -/
def Raw (ok : Nat → Prop) (w : World) (l : List LRH) : Prop := ∀ x ∈ l, SlW strE ok w x.v x.h.parents ∧ x.h.ticket.size ≤ 140737488351232 ∧ 0 ≤ x.h.power ∧ x.h.power ≤ 18446744073709551615

set_option maxRecDepth 100000 in
set_option maxHeartbeats 1000000 in
theorem beside_any (w : World) (t : Value) (l : List LRH) (ok ok' : Nat → Prop) (hl : Sl lrhE ok w t l) (hf : Raw ok' w l) :
    Calls Tryz.prog 19 #[t] w fun e w' => ∃ v ys, e = .returned v ∧ ys.length ≤ 7 ∧ Besides w w' v ys := by
  obtain ⟨A, c, rfl, hc, hm⟩ := hl.form
  have HL := Lib.hid hl
  have HF := Lib.hid hf
  clear hl hf
  go_enter Tryz.func19, Tryz.ntmps19
  go_wp2
  go_loopw [3, 4] (fun v ci wr => ∃ (i : Nat) (ys : List LRH), i ≤ l.length ∧ i ≤ 7 ∧ ys.length = i ∧ ci = .int .i64 i ∧ Besides w wr v ys) (fun _ ci _ => l.length - (intOf ci).toNat)
  case atStart => exact ⟨0, [], Nat.zero_le _, by omega, rfl, rfl, by simp, World.ownsRow_nil _ _ _ _, by simp, Below.refl _ _⟩
  case round =>
    obtain ⟨i, ys, hi, hi7, hys, rfl, hC⟩ := hrel
    have HC := Lib.hid hC
    have HYS := Lib.hid hys
    clear hC hys
    by_cases hlt : i < l.length ∧ i < 7
    · obtain ⟨hlt, hl7⟩ := hlt
      obtain ⟨x, hx⟩ : ∃ x, l[i]? = some x := ⟨_, List.getElem?_eq_getElem hlt⟩
      obtain ⟨bI, off, rfl, hbl, -, hcx⟩ := (HL.out.below HC.out.below).at_ i x hx
      obtain ⟨hax, htx, hp0, hp1⟩ := HF.out x (List.mem_of_getElem? hx)
      have HAX : Hid (SlW strE ok' wr x.v x.h.parents) := Lib.hid (hax.below HC.out.below)
      have HTX := Lib.hid (And.intro htx (And.intro hp0 hp1))
      have HX := Lib.hid hcx
      have HXI := Lib.hid hx
      have hg7 : decide ((i : Int) < 7) = true := by simp; omega
      clear hcx hx hax htx hp0 hp1
      go_upto_region 5 with fail
      go_cut [5] from 6 to 50 (fun hp W => ∃ b y, hp = .pointer (some ⟨b, 0, none⟩) ∧ Beside1 w wr W b y u3 ys)
      case first =>
        go_wp2_with (first
          | (refine wpl_load rfl 53 (.tmp 18) rfl bI _ rfl x.cells _ HX.out Tryz.underlying53 rfl rh_size ?_)
          | (go_at_call 90; refine (right_any _ x ok' HAX.out HTX.out.1 HTX.out.2.1 HTX.out.2.2).mono ?_; rintro e w1 ⟨y, hy, rfl, hya, hb1⟩; have H1 : Hid (Beside1 w wr (w1.alloc (.cells y.cells.toArray 53)) w1.heap.size y u3 ys) := Lib.hid ⟨hb1.size, HC.out, heap_alloc_new w1 _, hy, (Sl.fr (Sl.old hya) ((Fr.refl _ w1).alloc _)).mono fun k hk => ⟨Nat.le_trans HC.out.below.size hk.1, fun e => (by have := (own_lt HC.out.own k e.symm).2; have := hk.1; omega), Nat.ne_of_lt hk.2⟩, grown_of_below (hb1.alloc hb1.size _) _⟩; clear hy hya hb1)
          | (refine wpl_store_new rfl 53 _ _ rfl rfl y.cells rfl _ _ rfl (lrhE.one y) rh_size ?_))
        go_meet
        case rel => exact ⟨_, y, rfl, H1.out⟩
      case rest =>
      obtain ⟨b, y, rfl, h1⟩ := hcut
      have H1 := Lib.hid h1
      clear h1
      go_step
      go_step
      go_cut [] from 6 to 50 (fun W => ∃ y, Beside1 w wr W b y u3 ys)
      case first =>
        have HBW : Hid (Below w.heap.size w wc) := Lib.hid (H1.out.row.beyond H1.out.grown H1.out.new).below
        by_cases hi0 : 0 < i
        · have hgi : decide (0 < (i : Int)) = true := by simp; omega
          obtain ⟨o, ho⟩ : ∃ o, ys[0]? = some o := ⟨_, List.getElem?_eq_getElem (by have := HYS.out; omega)⟩
          obtain ⟨g, cap, rfl, hcap, hmx, hO⟩ := H1.out.first ho
          have HO := Lib.hid hO
          have hRo : RightH o.h := H1.out.row.right o (List.mem_of_getElem? ho)
          have HAo : Hid (o.At (fun k => w.heap.size ≤ k ∧ some k ≠ (Value.slice (some ⟨g, 0, none⟩) ys.length cap).ownBlock ∧ k ≠ b) wc) := Lib.hid ((Sl.fr (Sl.old (H1.out.row.at_ o (List.mem_of_getElem? ho))) (Fr.grown H1.out.grown fun k hk e => by injection e with e; have := H1.out.new; have := hk.2; omega)).mono fun k hk => ⟨hk.1.1, hk.1.2, by have := H1.out.new; have := hk.2; omega⟩)
          have hcs : wc.cell? ⟨bI, off + i * 7 + 6, none⟩ = some (.int .i64 x.h.salt) := by
            obtain ⟨b2, o2, hb2, -, -, hc2⟩ := (HL.out.below HBW.out).at_ i x HXI.out
            injection hb2 with hb2
            injection hb2 with e1 e2
            subst e1 e2
            exact hc2 6 _ rfl
          clear hO ho
          by_cases hs7 : bits .and .i64 x.h.salt 7 = 7
          · have hd7 : decide (bits .and .i64 x.h.salt 7 = 7) = true := by simp [hs7]
            go_wp2
            go_meet
            case rel => exact ⟨y, H1.out⟩
          · have D1 := Lib.hid H1.out.drew
            have D2 := Lib.hid (D1.out.set 0 (.int .i64 o.h.height) ⟨{ y.h with height := o.h.height }, y.A, y.c⟩ rfl { D1.out.right with h0 := hRo.h0, h1 := hRo.h1 } D1.out.at_)
            have D3 := Lib.hid (D2.out.set 4 (.int .u64 o.h.power) ⟨{ y.h with height := o.h.height, power := o.h.power }, y.A, y.c⟩ rfl { D2.out.right with p0 := hRo.p0, p1 := hRo.p1 } D2.out.at_)
            have D4 := Lib.hid (D3.out.set 5 o.v ⟨{ y.h with height := o.h.height, power := o.h.power, parents := o.h.parents }, o.A, o.c⟩ rfl { D3.out.right with pl := hRo.pl, pz := hRo.pz, pn := hRo.pn } (Sl.fr (ok := fun k => w.heap.size ≤ k ∧ some k ≠ (Value.slice (some ⟨g, 0, none⟩) ys.length cap).ownBlock ∧ k ≠ b) HAo.out (((Fr.refl _ wc).drew.setCell (p := ⟨b, 0, none⟩) (fun h => h.2.2 rfl) _).setCell (p := ⟨b, 4, none⟩) (fun h => h.2.2 rfl) _)))
            have hy0 : 0 < ys.length := by have := HYS.out; omega
            go_upto_region 7 with fail
            refine st_ (S := (fun W' => wr.grownBy W' (some b))) 18 #[false, false, false, false, false, false, false, false, false, false, false, false, false, false, false, false, false, false] (by kernel_rfl) rfl (by rfl) D1.out.grown (fun hHeld => ?_)
            refine tk_ 0 (some 32) #[true, false, false, false, false, false, false, false, false, false, false, false, false, false, false, false, false, false] (v := ?_) (a' := ?_) rfl rfl (by kernel_rfl) (fun _ _ _ h => h) (yieldsIf_run rfl ?_) hHeld ?_ ?_
            rotate_left
            · intro w'
              go_simp
              with_reducible rfl
            rotate_left
            · simp only [Act.put, List.setIfInBounds_toArray, List.set_cons_zero, List.set_cons_succ]
              rfl
            refine tk_ 1 (some 33) #[true, true, false, false, false, false, false, false, false, false, false, false, false, false, false, false, false, false] (v := ?_) (a' := ?_) rfl rfl (by kernel_rfl) (fun _ _ _ h => h) (yieldsIf_run rfl ?_) hHeld ?_ ?_
            rotate_left
            · intro w'
              go_simp
              with_reducible rfl
            rotate_left
            · simp only [Act.put, List.setIfInBounds_toArray, List.set_cons_zero, List.set_cons_succ]
              rfl
            refine tk_ 2 (some 34) #[true, true, true, false, false, false, false, false, false, false, false, false, false, false, false, false, false, false] (v := ?_) (a' := ?_) rfl rfl (by kernel_rfl) (fun _ _ _ h => h) (yieldsIf_run rfl ?_) hHeld ?_ ?_
            rotate_left
            · intro w'
              go_simp
              with_reducible rfl
            rotate_left
            · simp only [Act.put, List.setIfInBounds_toArray, List.set_cons_zero, List.set_cons_succ]
              rfl
            refine tk_ 3 (some 35) #[true, true, true, true, false, false, false, false, false, false, false, false, false, false, false, false, false, false] rfl rfl (by kernel_rfl) (fun _ _ _ h => h) (yieldsIf_cell rfl 3 (.tmp 34) rfl ⟨g, 0, none⟩ rfl (.int .i64 o.h.height) _ (fun W' h => HO.out W' h 0 _ rfl) Tryz.underlying3 rfl) hHeld (a' := ?_) ?_ ?_
            rotate_left
            · simp only [Act.put, List.setIfInBounds_toArray, List.set_cons_zero, List.set_cons_succ]
              rfl
            refine tk_ 4 (some 36) #[true, true, true, true, true, false, false, false, false, false, false, false, false, false, false, false, false, false] (v := ?_) (a' := ?_) rfl rfl (by kernel_rfl) (fun _ _ _ h => h) (yieldsIf_run rfl ?_) hHeld ?_ ?_
            rotate_left
            · intro w'
              go_simp
              with_reducible rfl
            rotate_left
            · simp only [Act.put, List.setIfInBounds_toArray, List.set_cons_zero, List.set_cons_succ]
              rfl
            refine tk_ 5 (some 37) #[true, true, true, true, true, true, false, false, false, false, false, false, false, false, false, false, false, false] (v := ?_) (a' := ?_) rfl rfl (by kernel_rfl) (fun _ _ _ h => h) (yieldsIf_run rfl ?_) hHeld ?_ ?_
            rotate_left
            · intro w'
              go_simp
              with_reducible rfl
            rotate_left
            · simp only [Act.put, List.setIfInBounds_toArray, List.set_cons_zero, List.set_cons_succ]
              rfl
            refine tk_ 6 (some 38) #[true, true, true, true, true, true, true, false, false, false, false, false, false, false, false, false, false, false] (v := ?_) (a' := ?_) rfl rfl (by kernel_rfl) (fun _ _ _ h => h) (yieldsIf_run rfl ?_) hHeld ?_ ?_
            rotate_left
            · intro w'
              go_simp
              with_reducible rfl
            rotate_left
            · simp only [Act.put, List.setIfInBounds_toArray, List.set_cons_zero, List.set_cons_succ]
              rfl
            refine tk_ 7 (some 39) #[true, true, true, true, true, true, true, true, false, false, false, false, false, false, false, false, false, false] rfl rfl (by kernel_rfl) (fun _ _ _ h => h) (yieldsIf_cell rfl 35 (.tmp 38) rfl ⟨g, 4, none⟩ rfl (.int .u64 o.h.power) _ (fun W' h => HO.out W' h 4 _ rfl) Tryz.underlying35 rfl) hHeld (a' := ?_) ?_ ?_
            rotate_left
            · simp only [Act.put, List.setIfInBounds_toArray, List.set_cons_zero, List.set_cons_succ]
              rfl
            refine tk_ 8 (some 40) #[true, true, true, true, true, true, true, true, true, false, false, false, false, false, false, false, false, false] (v := ?_) (a' := ?_) rfl rfl (by kernel_rfl) (fun _ _ _ h => h) (yieldsIf_run rfl ?_) hHeld ?_ ?_
            rotate_left
            · intro w'
              go_simp
              with_reducible rfl
            rotate_left
            · simp only [Act.put, List.setIfInBounds_toArray, List.set_cons_zero, List.set_cons_succ]
              rfl
            refine tk_ 9 (some 41) #[true, true, true, true, true, true, true, true, true, true, false, false, false, false, false, false, false, false] (v := ?_) (a' := ?_) rfl rfl (by kernel_rfl) (fun _ _ _ h => h) (yieldsIf_run rfl ?_) hHeld ?_ ?_
            rotate_left
            · intro w'
              go_simp
              with_reducible rfl
            rotate_left
            · simp only [Act.put, List.setIfInBounds_toArray, List.set_cons_zero, List.set_cons_succ]
              rfl
            refine tk_ 10 (some 42) #[true, true, true, true, true, true, true, true, true, true, true, false, false, false, false, false, false, false] (v := ?_) (a' := ?_) rfl rfl (by kernel_rfl) (fun _ _ _ h => h) (yieldsIf_run rfl ?_) hHeld ?_ ?_
            rotate_left
            · intro w'
              go_simp
              with_reducible rfl
            rotate_left
            · simp only [Act.put, List.setIfInBounds_toArray, List.set_cons_zero, List.set_cons_succ]
              rfl
            refine tk_ 11 (some 43) #[true, true, true, true, true, true, true, true, true, true, true, true, false, false, false, false, false, false] rfl rfl (by kernel_rfl) (fun _ _ _ h => h) (yieldsIf_cell rfl 51 (.tmp 42) rfl ⟨g, 5, none⟩ rfl o.v _ (fun W' h => HO.out W' h 5 _ rfl) Tryz.underlying51 rfl) hHeld (a' := ?_) ?_ ?_
            rotate_left
            · simp only [Act.put, List.setIfInBounds_toArray, List.set_cons_zero, List.set_cons_succ]
              rfl
            refine tk_ 12 (some 44) #[true, true, true, true, true, true, true, true, true, true, true, true, true, false, false, false, false, false] (v := ?_) (a' := ?_) rfl rfl (by kernel_rfl) (fun _ _ _ h => h) (yieldsIf_run rfl ?_) hHeld ?_ ?_
            rotate_left
            · intro w'
              go_simp
              with_reducible rfl
            rotate_left
            · simp only [Act.put, List.setIfInBounds_toArray, List.set_cons_zero, List.set_cons_succ]
              rfl
            have hHeld := D2.out.grown
            refine sk_ 13 #[true, true, true, true, true, true, true, true, true, true, true, true, true, true, false, false, false, false] rfl rfl (by kernel_rfl) rfl ((wc.drew.setCell ⟨b, 0, none⟩ (.int .i64 o.h.height))) (exec_stc 3 (.tmp 44) (.tmp 35) rfl b 0 rfl _ rfl rfl i_size _ (cell_block D1.out.cell rfl) (Lib.frozen_of_heap D1.out.cell 0)) hHeld ?_
            refine tk_ 14 (some 45) #[true, true, true, true, true, true, true, true, true, true, true, true, true, true, true, false, false, false] (v := ?_) (a' := ?_) rfl rfl (by kernel_rfl) (fun _ _ _ h => h) (yieldsIf_run rfl ?_) hHeld ?_ ?_
            rotate_left
            · intro w'
              go_simp
              with_reducible rfl
            rotate_left
            · simp only [Act.put, List.setIfInBounds_toArray, List.set_cons_zero, List.set_cons_succ]
              rfl
            have hHeld := D3.out.grown
            refine sk_ 15 #[true, true, true, true, true, true, true, true, true, true, true, true, true, true, true, true, false, false] rfl rfl (by kernel_rfl) rfl (((wc.drew.setCell ⟨b, 0, none⟩ (.int .i64 o.h.height)).setCell ⟨b, 4, none⟩ (.int .u64 o.h.power))) (exec_stc 35 (.tmp 45) (.tmp 39) rfl b 4 rfl _ rfl rfl u_size _ (cell_block D2.out.cell rfl) (Lib.frozen_of_heap D2.out.cell 4)) hHeld ?_
            refine tk_ 16 (some 46) #[true, true, true, true, true, true, true, true, true, true, true, true, true, true, true, true, true, false] (v := ?_) (a' := ?_) rfl rfl (by kernel_rfl) (fun _ _ _ h => h) (yieldsIf_run rfl ?_) hHeld ?_ ?_
            rotate_left
            · intro w'
              go_simp
              with_reducible rfl
            rotate_left
            · simp only [Act.put, List.setIfInBounds_toArray, List.set_cons_zero, List.set_cons_succ]
              rfl
            have hHeld := D4.out.grown
            refine sk_ 17 #[true, true, true, true, true, true, true, true, true, true, true, true, true, true, true, true, true, true] rfl rfl (by kernel_rfl) rfl ((((wc.drew.setCell ⟨b, 0, none⟩ (.int .i64 o.h.height)).setCell ⟨b, 4, none⟩ (.int .u64 o.h.power)).setCell ⟨b, 5, none⟩ o.v)) (exec_stc 51 (.tmp 46) (.tmp 43) rfl b 5 rfl _ rfl rfl sl_size _ (cell_block D3.out.cell rfl) (Lib.frozen_of_heap D3.out.cell 5)) hHeld ?_
            refine wpAnyH_done (by kernel_rfl) ?_ _
            change Exit.then _ _ _ _ _
            go_wp2
            go_meet
            case rel => exact ⟨_, D4.out⟩
        · have hgi : decide (0 < (i : Int)) = false := by simp; omega
          go_wp2
          go_meet
          case rel => exact ⟨y, H1.out⟩
      case rest =>
      obtain ⟨z, h1⟩ := hcut
      clear H1
      have H1 := Lib.hid h1
      clear h1
      have HZ : Hid (∀ j u, z.cells[j]? = some u → wc.cell? ⟨b, 0 + j, none⟩ = some u) := Lib.hid fun j u hu => by
        rw [Nat.zero_add]
        exact cell_block H1.out.cell (by simpa using hu)
      go_wp2_with (first
        | (refine wpl_load rfl 53 (.tmp 5) rfl b 0 rfl z.cells _ HZ.out Tryz.underlying53 rfl rh_size ?_)
        | (refine wpl_slice1 rfl 22 53 (.tmp 48) rfl z.cells.toArray rfl _ 7 80 Tryz.underlying22 rh_info rhZ_cells rfl (by decide) (by decide) ?_)
        | (at_builtin; refine wpl_app_rh (H1.out.row.beyond H1.out.grown H1.out.new) z H1.out.right (Sl.mono H1.out.at_ fun k hk => ⟨hk.1, hk.2.1⟩) (by have := HYS.out; omega) rfl (.tmp 47) (.tmp 49) rfl rfl rfl ?_; intro v1 w4 hC4; have HC4 := Lib.hid hC4; clear hC4))
      go_roundw
      case rel => exact ⟨i + 1, ys ++ [z], by omega, by omega, by rw [List.length_append, HYS.out]; rfl, by go_num, HC4.out⟩
      case measure => simp [intOf]; omega
    · have harms : i < l.length → ¬ i < 7 := fun h h' => hlt ⟨h, h'⟩
      have HAR := Lib.hid harms
      clear hlt harms
      by_cases hl2 : i < l.length
      · have h7 : decide ((i : Int) < 7) = false := by have := HAR.out hl2; simp; omega
        go_wp2
        go_ret
        exact ⟨_, ys, rfl, by have := HYS.out; omega, HC.out⟩
      · go_wp2
        go_ret
        exact ⟨_, ys, rfl, by have := HYS.out; omega, HC.out⟩
end Go.Proofs.YthpcedficlhanaaGreatDoor
