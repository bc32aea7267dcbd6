/- Regions that draw their order, by hand: more laws. -/
import Derived.Test.YthpcedficlhanaaGreatDoorHeld
import Derived.Test.YthpcedficlhanaaGreatDoorEq
namespace Go.Proofs.YthpcedficlhanaaGreatDoor
open Go.RowKit

section
variable {P : Program} {ops : Array Oper} {Q : Exit → Act → World → Prop} {md : Region.Mode} {S : World → Prop}
/-- An operation that yields in whatever world. -/
theorem yieldsIf_run {o : Oper} {a : Act} {v : Value} (hw : Region.wanted o (yielded ops a.tmps) = true) (h : ∀ w, (execOp a.eval o).run P w = .ok (.value v) w) : YieldsIf P ops S o v a := .inl ⟨hw, fun w _ => h w⟩
theorem run_loadVar_cell (w : World) (ty : TypeId) (ad : Addr) (v : Value) (d : TypeDesc) (hc : w.cell? ad = some v) (hu : P.underlying ty = some d) (hd : (match d with | .struct _ | .array _ _ => true | _ => false) = false) : (loadVar ty ad).run P w = .ok v w := by
  have hagg : (isAgg ty).run P w = .ok false w := by
    unfold isAgg
    rw [Sem.run_bind, run_underlying hu w]
    cases d <;> simp_all
  simp [loadVar, Sem.run_bind, hagg, hc]
/-- A load of one protected cell. -/
theorem yieldsIf_cell {o : Oper} {a : Act} (hw : Region.wanted o (yielded ops a.tmps) = true) (ty : TypeId) (x : Operand) (ho : o.op = .load ty x) (ad : Addr) (hx : a.eval x = .pointer (some ad)) (v : Value) (d : TypeDesc)
    (hc : ∀ w, S w → w.cell? ad = some v) (hu : P.underlying ty = some d) (hd : (match d with | .struct _ | .array _ _ => true | _ => false) = false) : YieldsIf P ops S o v a :=
  .inl ⟨hw, fun w hS => by
    unfold execOp
    simp only [ho, hx, Instr.loadAt, Instr.sureAddr, Sem.run_bind, Sem.run_pure, Result.andThen_ok, run_loadVar_cell w ty ad v d (hc w hS) hu hd]⟩
theorem yieldsIf_of {o : Oper} {a : Act} {v : Value} (hw : Region.wanted o (yielded ops a.tmps) = true) (h : ∀ w, S w → (execOp a.eval o).run P w = .ok (.value v) w) : YieldsIf P ops S o v a := .inl ⟨hw, h⟩
theorem yieldsIf_off {o : Oper} {a : Act} (hw : Region.wanted o (yielded ops a.tmps) = false) : YieldsIf P ops S o undef a := .inr ⟨hw, rfl⟩
/-- The beginning: how many operations, which have come up. -/
theorem st_ (n : Nat) (l : Array Bool) {id : Nat} {a : Act} {w : World} (hm : P.follows .mixedOrders = true) (hn : ops.size = n) (hl : Array.replicate n false = l) (hS : S w.drew)
    (h : S w.drew → wpAnyH P .any ops Q S n l a w.drew) : (Code.region id ops true).wp P Q a w := by
  subst hn
  subst hl
  exact wp_region_held_drew hm hS h
def tkB (md : Region.Mode) (ops : Array Oper) (l l' : Array Bool) (i : Nat) : Bool := Region.noSelect ops && Region.free md ops l i && (Region.ready md ops l).contains i && (l.setIfInBounds i true == l')
/-- An operation is taken first. -/
theorem tk_ (i : Nat) (N : Option Tmp) (l' : Array Bool) {oi : Oper} {v : Value} {fuel : Nat} {l : Array Bool} {a : Act} {w : World} (hi : ops[i]? = some oi) (hN : oi.dst = N) (hc : tkB md ops l l' i = true)
    (hQ : ∀ c a w, Q (.panic c) (a.put oi.dst v) w → Q (.panic c) a w) (hy : YieldsIf P ops S oi v a) (hS : S w) {a' : Act} (ha : a.put N v = a')
    (h : wpAnyH P md ops Q S fuel l' a' w) : wpAnyH P md ops Q S (fuel + 1) l a w := by
  subst ha
  subst hN
  simp only [tkB, Bool.and_eq_true, beq_iff_eq] at hc
  obtain ⟨⟨⟨h1, h2⟩, h3⟩, h4⟩ := hc
  subst h4
  exact wpAnyH_take hi h1 h2 h3 hQ hy hS h
def oneB (md : Region.Mode) (ops : Array Oper) (l l' : Array Bool) (i : Nat) : Bool := decide (Region.ready md ops l = [i]) && (l.setIfInBounds i true == l')
/-- One alone may come up: a call. -/
theorem call_ (i : Nat) (N : Option Tmp) (l' : Array Bool) {oi : Oper} {fuel : Nat} {l : Array Bool} {a : Act} {w : World} (hi : ops[i]? = some oi) (hN : oi.dst = N) (hc : oneB md ops l l' i = true)
    (hw : Region.wanted oi (yielded ops a.tmps) = true) (f : FuncId) (args : Array Value) (hx : (execOp a.eval oi).run P w = .ok (.enter f args) w) {R : Ending → World → Prop} (hcall : Calls P f args w R)
    (hK : ∀ e w', R e w' → ∃ v, e = .returned v ∧ S w' ∧ (S w' → ∃ a', a.put N v = a' ∧ wpAnyH P md ops Q S fuel l' a' w')) : wpAnyH P md ops Q S (fuel + 1) l a w := by
  subst hN
  simp only [oneB, Bool.and_eq_true, beq_iff_eq, decide_eq_true_eq] at hc
  obtain ⟨h1, h2⟩ := hc
  subst h2
  refine wpAnyH_all h1 (by simp) fun j hj => ?_
  have : j = i := by simpa using hj
  subst this
  refine wpOp_call hi hw f args hx hcall fun e w' hr => ?_
  obtain ⟨v, he, hS, hk⟩ := hK e w' hr
  obtain ⟨a', ha, hk⟩ := hk hS
  subst ha
  exact ⟨v, he, hS, hk⟩
/-- .. one that yields a value and turns the world. -/
theorem val_ (i : Nat) (N : Option Tmp) (l' : Array Bool) {oi : Oper} {fuel : Nat} {l : Array Bool} {a : Act} {w : World} (hi : ops[i]? = some oi) (hN : oi.dst = N) (hc : oneB md ops l l' i = true)
    (hw : Region.wanted oi (yielded ops a.tmps) = true) (v : Value) (w1 : World) (hx : (execOp a.eval oi).run P w = .ok (.value v) w1) (hS : S w1) {a' : Act} (ha : a.put N v = a')
    (h : wpAnyH P md ops Q S fuel l' a' w1) : wpAnyH P md ops Q S (fuel + 1) l a w := by
  subst hN
  subst ha
  simp only [oneB, Bool.and_eq_true, beq_iff_eq, decide_eq_true_eq] at hc
  obtain ⟨h1, h2⟩ := hc
  subst h2
  refine wpAnyH_all h1 (by simp) fun j hj => ?_
  have : j = i := by simpa using hj
  subst this
  exact wpOp_value hi hw v w1 hx ⟨hS, h⟩
/-- .. a store. -/
theorem sk_ (i : Nat) (l' : Array Bool) {oi : Oper} {fuel : Nat} {l : Array Bool} {a : Act} {w : World} (hi : ops[i]? = some oi) (hN : oi.dst = none) (hc : oneB md ops l l' i = true)
    (hw : Region.wanted oi (yielded ops a.tmps) = true) (w1 : World) (hx : (execOp a.eval oi).run P w = .ok .skip w1) (hS : S w1)
    (h : wpAnyH P md ops Q S fuel l' a w1) : wpAnyH P md ops Q S (fuel + 1) l a w := by
  simp only [oneB, Bool.and_eq_true, beq_iff_eq, decide_eq_true_eq] at hc
  obtain ⟨h1, h2⟩ := hc
  subst h2
  refine wpAnyH_all h1 (by simp) fun j hj => ?_
  have : j = i := by simpa using hj
  subst this
  exact wpOp_skip hi hw w1 hx (by rw [hN]; exact ⟨hS, h⟩)
end
theorem exec_neq_id {o : Oper} {a : Act} {w : World} (_hgd : o.op = o.op) (x y : Operand) (T : TypeId) (ho : o.op = .binOp .neq 34 x y T) (i j : ID) (hx : a.eval x = .agg (idc i).toArray) (hy : a.eval y = .agg (idc j).toArray) :
    (execOp a.eval o).run Tryz.prog w = .ok (.value (.bool (!decide (i = j)))) w := by
  unfold execOp
  simp only [ho, hx, hy, Sem.run_bind, run_eqGuard_agg w .neq _ _ _ _ _ guard_id, run_neq_id, Result.andThen_ok, Sem.run_pure]
theorem exec_eql_id {o : Oper} {a : Act} {w : World} (_hgd : o.op = o.op) (x y : Operand) (T : TypeId) (ho : o.op = .binOp .eql 34 x y T) (i j : ID) (hx : a.eval x = .agg (idc i).toArray) (hy : a.eval y = .agg (idc j).toArray) :
    (execOp a.eval o).run Tryz.prog w = .ok (.value (.bool (decide (i = j)))) w := by
  unfold execOp
  simp only [ho, hx, hy, Sem.run_bind, run_eqGuard_agg w .eql _ _ _ _ _ guard_id, run_eql_id, Result.andThen_ok, Sem.run_pure]

end Go.Proofs.YthpcedficlhanaaGreatDoor
