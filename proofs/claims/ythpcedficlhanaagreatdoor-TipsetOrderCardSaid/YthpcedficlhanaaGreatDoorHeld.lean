/- A region that draws its order, by hand: the loads of protected cells first, then what is forced. No program in sight. -/
import Derived.Test.YthpcedficlhanaaGreatDoorRep
import Derived.Deep.RegionHeld3
namespace Go.Proofs.YthpcedficlhanaaGreatDoor
open Go.RowKit

section
variable {P : Program} {ops : Array Oper} {Q : Exit → Act → World → Prop} {md : Region.Mode} {S : World → Prop}
/-- The operations js come up one behind the other, no other way. -/
def seqI (md : Region.Mode) (ops : Array Oper) : List Nat → Array Bool → Bool
  | [], listed => (Region.ready md ops listed).isEmpty
  | j :: js, listed => decide (Region.ready md ops listed = [j]) && seqI md ops js (listed.setIfInBounds j true)
/-- .. behind each S is shown. -/
def wpLS (P : Program) (ops : Array Oper) (Q : Exit → Act → World → Prop) (S : World → Prop) : List Nat → Act → World → Prop
  | [], a, w => Q .normal a w
  | j :: js, a, w => wpOp P ops Q j (fun a' w' => S w' ∧ wpLS P ops Q S js a' w') a w
theorem wpAnyH_seqI : ∀ (js : List Nat) (listed : Array Bool) (a : Act) (w : World), seqI md ops js listed = true → wpLS P ops Q S js a w → wpAnyH P md ops Q S js.length listed a w
  | [], listed, a, w, hs, h => ⟨by simpa [seqI] using hs, h⟩
  | j :: js, listed, a, w, hs, h => by
    simp only [seqI, Bool.and_eq_true, decide_eq_true_eq] at hs
    refine ⟨fun h0 => (by rw [hs.1] at h0; cases h0), fun i hi => ?_⟩
    rw [hs.1] at hi
    have : i = j := by simpa using hi
    subst this
    exact wpOp_mono (fun a' w' h' => ⟨h'.1, wpAnyH_seqI js _ a' w' hs.2 h'.2⟩) h

theorem wpOp_value {i : Nat} {o : Oper} {K : Act → World → Prop} {a : Act} {w : World} (ho : ops[i]? = some o) (hw : Region.wanted o (yielded ops a.tmps) = true) (v : Value) (w1 : World) (h : (execOp a.eval o).run P w = .ok (.value v) w1) (hK : K (a.put o.dst v) w1) : wpOp P ops Q i K a w :=
  wpOp_step ho fun K' hK' => by
    rw [if_pos hw]
    unfold Oper.wp
    rw [h]
    exact hK' _ _ hK
theorem wpOp_skip {i : Nat} {o : Oper} {K : Act → World → Prop} {a : Act} {w : World} (ho : ops[i]? = some o) (hw : Region.wanted o (yielded ops a.tmps) = true) (w1 : World) (h : (execOp a.eval o).run P w = .ok .skip w1) (hK : K (a.put o.dst undef) w1) : wpOp P ops Q i K a w :=
  wpOp_step ho fun K' hK' => by
    rw [if_pos hw]
    unfold Oper.wp
    rw [h]
    exact hK' _ _ hK
theorem wpOp_call {i : Nat} {o : Oper} {K : Act → World → Prop} {a : Act} {w : World} (ho : ops[i]? = some o) (hw : Region.wanted o (yielded ops a.tmps) = true) (f : FuncId) (args : Array Value) (h : (execOp a.eval o).run P w = .ok (.enter f args) w) {R : Ending → World → Prop} (hc : Calls P f args w R)
    (hK : ∀ e w', R e w' → ∃ v, e = .returned v ∧ K (a.put o.dst v) w') : wpOp P ops Q i K a w :=
  wpOp_step ho fun K' hK' => by
    rw [if_pos hw]
    unfold Oper.wp
    rw [h]
    refine hc.mono fun e w' hr => ?_
    obtain ⟨v, rfl, hv⟩ := hK e w' hr
    exact hK' _ _ hv
theorem still_skip {rest : List Oper} {o : Oper} {a : Act} {w : World} {R : Act → Prop} (hw : Region.wanted o (yielded ops a.tmps) = false) (h : wpStill P ops w R rest (a.put o.dst undef)) : wpStill P ops w R (o :: rest) a :=
  wpStill_step fun K hK => by
    rw [if_neg (by rw [hw]; decide)]
    exact hK _ h
theorem still_value {rest : List Oper} {o : Oper} {a : Act} {w : World} {R : Act → Prop} (hw : Region.wanted o (yielded ops a.tmps) = true) (v : Value) (hv : (execOp a.eval o).run P w = .ok (.value v) w) (h : wpStill P ops w R rest (a.put o.dst v)) : wpStill P ops w R (o :: rest) a :=
  wpStill_step fun K hK => by
    rw [if_pos hw]
    unfold Oper.still
    rw [hv]
    exact ⟨rfl, hK _ h⟩
/-- A goal that nothing looks into ('whnf' would evaluate the guards of what is to come). -/
structure Seal (p : Prop) : Prop where
  out : p
theorem seal_skip {rest : List Oper} {o : Oper} {a : Act} {w : World} {R : Act → Prop} (hw : Region.wanted o (yielded ops a.tmps) = false) (h : Seal (wpStill P ops w R rest (a.put o.dst undef))) : Seal (wpStill P ops w R (o :: rest) a) := ⟨still_skip hw h.out⟩
theorem seal_value {rest : List Oper} {o : Oper} {a : Act} {w : World} {R : Act → Prop} (hw : Region.wanted o (yielded ops a.tmps) = true) (v : Value) (hv : (execOp a.eval o).run P w = .ok (.value v) w) (h : Seal (wpStill P ops w R rest (a.put o.dst v))) : Seal (wpStill P ops w R (o :: rest) a) := ⟨still_value hw v hv h.out⟩
theorem seal_nil {a : Act} {w : World} {R : Act → Prop} (h : R a) : Seal (wpStill P ops w R [] a) := ⟨wpStill_nil h⟩
theorem exec_build {o : Oper} {a : Act} {w : World} (t : TypeId) (l : List (Nat × Operand)) (ho : o.op = .build t l.toArray) (vs : List (Nat × Value)) (hv : l.map (fun p => (p.1, a.eval p.2)) = vs) (r : Value) (h : (Instr.build t vs.toArray).run P w = .ok r w) : (execOp a.eval o).run P w = .ok (.value r) w := by
  subst hv
  unfold execOp
  simp only [ho, List.map_toArray, Sem.run_bind]
  rw [h]
  rfl
theorem exec_store {o : Oper} {a : Act} {w w1 : World} (t : TypeId) (x y : Operand) (ho : o.op = .store t x y) (b off : Nat) (hx : a.eval x = .pointer (some ⟨b, off, none⟩)) (v : Value) (hy : a.eval y = v) (h : (storeVar t ⟨b, off, none⟩ v).run P w = .ok () w1) : (execOp a.eval o).run P w = .ok .skip w1 := by
  unfold execOp
  simp only [ho, hx, hy, Instr.storeAt, Instr.sureAddr, Sem.run_bind, Sem.run_pure, Result.andThen_ok, h]
/-- A whole load of a protected variable. -/
theorem yieldsIf_load {o : Oper} {a : Act} (hw : Region.wanted o (yielded ops a.tmps) = true) (ty : TypeId) (x : Operand) (ho : o.op = .load ty x) (b off : Nat) (hx : a.eval x = .pointer (some ⟨b, off, none⟩)) (cs : List Value) (d : TypeDesc)
    (hc : ∀ w, S w → ∀ j u, cs[j]? = some u → w.cell? ⟨b, off + j, none⟩ = some u) (hu : P.underlying ty = some d) (hd : (match d with | .struct _ | .array _ _ => true | _ => false) = true) (hi : (P.info? ty).map (·.size) = some cs.length) : YieldsIf P ops S o (.agg cs.toArray) a :=
  .inl ⟨hw, fun w hS => by
    unfold execOp
    simp only [ho, hx, Instr.loadAt, Instr.sureAddr, Sem.run_bind, Sem.run_pure, Result.andThen_ok, run_loadVar_at w b off ty cs d (hc w hS) hu hd hi]⟩
end
end Go.Proofs.YthpcedficlhanaaGreatDoor
