/- A map from int to int of the call's own, told by what it answers; two results, the first in a cell. -/
import Derived.Test.YtpehmlfghddnaaaGreatDoorPuAG
import Derived.Maps.OwnOps
import Derived.Maps.Views
namespace Go.Proofs.YtpehmlfghddnaaaGreatDoor
open Go.RowKit Go.Maps

theorem lawInt : Keyed Tryz.prog 3 := int_keyed Tryz.underlying3
theorem zeroInt (w : World) : (zeroValue 3).run Tryz.prog w = .ok (.int .i64 0) w := by kernel_rfl
theorem i64_wf {x : Int} (h0 : -9223372036854775808 ≤ x) (h1 : x ≤ 9223372036854775807) : (Lit.int .i64 x).wf = true := WalkArith.wf_i64 ⟨h0, h1⟩

/-- A map that answers f. -/
def MapI (w : World) (b n : Nat) (f : Int → Int) : Prop :=
  ∃ D : DataW Unit, w.ownsMap Tryz.prog 3 (plainElem Tryz.prog 3) b n D ∧ ∀ x, D.atKey (.int .i64 x) (.lit (.int .i64 0)) = .lit (.int .i64 (f x))
section
variable {w w' : World} {b n : Nat} {f : Int → Int}
theorem MapI.made (w : World) : MapI (w.alloc (.map #[] 0)) w.heap.size 0 fun _ => 0 := ⟨.map [], World.ownsMap_made _ _ _ _, fun _ => rfl⟩
theorem MapI.lt (h : MapI w b n f) : b < w.heap.size := h.elim fun _ h => h.1.lt
theorem MapI.kept {row : Option Nat} (h : MapI w b n f) (hg : w.grownBy w' row) (hne : some b ≠ row) : MapI w' b n f := h.elim fun D h => ⟨D, h.1.kept hg hne, h.2⟩
theorem MapI.below (h : MapI w b n f) (hb : Below w.heap.size w w') : MapI w' b n f := h.kept (row := none) ⟨hb.os, hb.tape, hb.output, hb.size, fun i hi _ => hb.block i hi⟩ (by simp)
theorem MapI.alloc (h : MapI w b n f) (o : Obj) : MapI (w.alloc o) b n f := h.elim fun D h => ⟨D, h.1.alloc o, h.2⟩
theorem MapI.drew (h : MapI w b n f) : MapI w.drew b n f := h
theorem MapI.lookup (h : MapI w b n f) (x : Int) (h0 : -9223372036854775808 ≤ x) (h1 : x ≤ 9223372036854775807) : (Instr.lookup 174 (.map (some b)) (.int .i64 x) false).run Tryz.prog w = .ok (.int .i64 (f x)) w := by
  obtain ⟨D, hD, hf⟩ := h
  obtain ⟨c, hr, hc, -⟩ := hD.lookup_int lawInt Tryz.underlying174 Tryz.underlying3 (zeroInt w) (keyOf_int_mk Tryz.underlying3 (i64_wf h0 h1))
  have he := (hf x).symm.trans hc
  have hc : c = f x := by
    have h2 := DataW.lit.inj he
    exact (Lit.int.inj h2).2.symm
  rw [hc] at hr
  exact hr
theorem MapI.update (h : MapI w b n f) (x v : Int) (h0 : -9223372036854775808 ≤ x) (h1 : x ≤ 9223372036854775807) (hv0 : -9223372036854775808 ≤ v) (hv1 : v ≤ 9223372036854775807) (hn : n < 1099511627776) :
    ∃ w', (Instr.mapUpdate 174 (.map (some b)) (.int .i64 x) (.int .i64 v)).run Tryz.prog w = .ok () w' ∧ MapI w' b (n + 1) (fun y => if y = x then v else f y) ∧ w.grownBy w' (some b) := by
  obtain ⟨D, hD, hf⟩ := h
  obtain ⟨w', hr, ho, hg⟩ := hD.update lawInt Tryz.underlying174 (by unfold maxLen; omega) (keyOf_int_mk Tryz.underlying3 (i64_wf h0 h1)) (plainElem_int Tryz.underlying3 (i64_wf hv0 hv1))
  have hM : IsMap D := by obtain ⟨es, clock, _, _, _, rfl⟩ := hD; exact ⟨_, rfl⟩
  refine ⟨w', hr, ⟨_, ho, fun y => ?_⟩, hg⟩
  show _ = DataW.lit (.int .i64 (if y = x then v else f y))
  by_cases e : y = x
  · subst e
    rw [if_pos rfl, atKey_put_same hM (by trivial)]
  · rw [if_neg e, atKey_put_other (by intro h; injection h with _ h; exact e h)]
    exact hf y
variable {ops : Array Oper} {rest : List Oper} {o : Oper} {a : Act} {Q : Exit → Act → World → Prop}
theorem wpl_lookupI (h : MapI w b n f) (hg : o.guard = none) (m x : Operand) (ho : o.op = .lookup 174 m x false) (hm : a.eval m = .map (some b)) (k : Int) (hx : a.eval x = .int .i64 k) (h0 : -9223372036854775808 ≤ k) (h1 : k ≤ 9223372036854775807)
    (hK : wpList Tryz.prog ops Q rest (a.put o.dst (.int .i64 (f k))) w) : wpList Tryz.prog ops Q (o :: rest) a w :=
  wpList_plain hg fun K' hK' => by
    unfold Oper.wp execOp
    simp only [ho, hm, hx, Sem.run_bind, h.lookup k h0 h1, Result.andThen_ok, Sem.run_pure]
    exact hK' _ _ hK
theorem wpl_updateI (h : MapI w b n f) (hg : o.guard = none) (m x v : Operand) (ho : o.op = .mapUpdate 174 m x v) (hm : a.eval m = .map (some b)) (k c : Int) (hx : a.eval x = .int .i64 k) (hv : a.eval v = .int .i64 c) (h0 : -9223372036854775808 ≤ k) (h1 : k ≤ 9223372036854775807) (hv0 : -9223372036854775808 ≤ c) (hv1 : c ≤ 9223372036854775807) (hn : n < 1099511627776)
    (hK : ∀ w', MapI w' b (n + 1) (fun y => if y = k then c else f y) → w.grownBy w' (some b) → wpList Tryz.prog ops Q rest (a.put o.dst undef) w') : wpList Tryz.prog ops Q (o :: rest) a w :=
  wpList_plain hg fun K' hK' => by
    obtain ⟨w', hr, r1, r2⟩ := h.update k c h0 h1 hv0 hv1 hn
    unfold Oper.wp execOp
    simp only [ho, hm, hx, hv, Sem.run_bind, hr, Result.andThen_ok, Sem.run_pure]
    exact hK' _ _ (hK w' r1 r2)
/-- The same where orders are drawn. -/
theorem exec_lookupI (h : MapI w b n f) (m x : Operand) (ho : o.op = .lookup 174 m x false) (hm : a.eval m = .map (some b)) (k : Int) (hx : a.eval x = .int .i64 k) (h0 : -9223372036854775808 ≤ k) (h1 : k ≤ 9223372036854775807) :
    (execOp a.eval o).run Tryz.prog w = .ok (.value (.int .i64 (f k))) w := by
  unfold execOp
  simp only [ho, hm, hx, Sem.run_bind, h.lookup k h0 h1, Result.andThen_ok, Sem.run_pure]
end

section
variable {P : Program}
theorem results_row_tmp {fn : Func} {p u : Tmp} {ty : TypeId} (h : fn.results = #[.cell p ty, .tmp u]) (tmps : Array Value) (w : World) (g : Nat) (t : TypeId) (cs : Array Value) (fr : Nat × Nat) (d : TypeDesc)
    (hp : tmps.getD p undef = .pointer (some ⟨g, 0, none⟩)) (hg : w.heap[g]? = some (.cells cs t fr))
    (hu : P.underlying ty = some d) (hd : (match d with | .struct _ | .array _ _ => true | _ => false) = true) (hi : (P.info? ty).map (·.size) = some cs.size) (v : Value) (hv : tmps.getD u undef = v) :
    (results fn tmps).run P w = .ok (.tuple #[.agg cs, v]) w := by
  have hp' : tmps[p]?.getD undef = .pointer (some ⟨g, 0, none⟩) := by simpa using hp
  have hv' : tmps[u]?.getD undef = v := by simpa using hv
  simp [results, h, hp', hv', asAddr, run_loadVar_row w g t ty cs fr d hg hu hd hi]
end
end Go.Proofs.YtpehmlfghddnaaaGreatDoor
