/- Names compared with == and !=; slices.Clone, SortFunc, Compact of names; header.Key. -/
import Derived.Test.YthpcedficlhanaaGreatDoorRise
import Derived.Test.YthpcedficlhanaaGreatDoorNames
import Derived.Test.YthpcedficlhanaaGreatDoorLayI
import Derived.Test.YthpcedficlhanaaGreatDoorOut
import Derived.Stop.BytesEq
import Derived.StillTactics
namespace Go.Proofs.YthpcedficlhanaaGreatDoor
open Go.RowKit

theorem byte_size (w : World) : (sizeOf 5).run Tryz.prog w = .ok 1 w := Tryz.sizeOf5 w
theorem run_equalIn_id (w : World) (x y : ID) : (Op.equalIn 10000 34 (.agg (idc x).toArray) (.agg (idc y).toArray)).run Tryz.prog w = .ok (decide (x = y)) w := by
  have h := run_equalIn_bytes (P := Tryz.prog) w 9998 34 5 32 Tryz.underlying34 Tryz.underlying5 byte_size x.1.data.toList y.1.data.toList (by simpa using x.2) (by simpa using y.2)
  have hxy : (x.1.data.toList == y.1.data.toList) = decide (x = y) := by
    rw [Bool.eq_iff_iff]
    simp only [beq_iff_eq, decide_eq_true_eq]
    constructor
    · intro h
      have h2 : x.1.data = y.1.data := Array.toList_inj.1 h
      exact Subtype.ext (by cases hx : x.1; cases hy : y.1; simp_all)
    · rintro rfl; rfl
  rw [hxy] at h
  exact h
theorem run_eql_id (w : World) (x y : ID) : (binOp .eql 34 (.agg (idc x).toArray) (.agg (idc y).toArray)).run Tryz.prog w = .ok (.bool (decide (x = y))) w := by
  rw [run_eql_struct, run_equalIn_id]; rfl
theorem run_neq_id (w : World) (x y : ID) : (binOp .neq 34 (.agg (idc x).toArray) (.agg (idc y).toArray)).run Tryz.prog w = .ok (.bool (!decide (x = y))) w := by
  rw [run_neq_struct, run_equalIn_id]; rfl
theorem guard_id : Tryz.prog.eqGuardType Tryz.prog.depth 34 = false := by kernel_rfl

section
variable {ops : Array Oper} {rest : List Oper} {o : Oper} {a : Act} {w : World}
theorem still_eql (hgd : o.guard = none) (x y : Operand) (T : TypeId) (ho : o.op = .binOp .eql 34 x y T) (i j : ID) (hx : a.eval x = .agg (idc i).toArray) (hy : a.eval y = .agg (idc j).toArray) {Q : Act → Prop}
    (h : wpStill Tryz.prog ops w Q rest (a.put o.dst (.bool (decide (i = j))))) : wpStill Tryz.prog ops w Q (o :: rest) a :=
  wpStill_step fun K hK => by
    have hw : Region.wanted o (yielded ops a.tmps) = true := by simp [Region.wanted, hgd]
    rw [if_pos hw]
    unfold Oper.still execOp
    simp only [ho, hx, hy, Sem.run_bind, run_eqGuard_agg w .eql _ _ _ _ _ guard_id, run_eql_id, Result.andThen_ok, Sem.run_pure]
    exact ⟨rfl, hK _ h⟩
theorem still_neq (hgd : o.guard = none) (x y : Operand) (T : TypeId) (ho : o.op = .binOp .neq 34 x y T) (i j : ID) (hx : a.eval x = .agg (idc i).toArray) (hy : a.eval y = .agg (idc j).toArray) {Q : Act → Prop}
    (h : wpStill Tryz.prog ops w Q rest (a.put o.dst (.bool (!decide (i = j))))) : wpStill Tryz.prog ops w Q (o :: rest) a :=
  wpStill_step fun K hK => by
    have hw : Region.wanted o (yielded ops a.tmps) = true := by simp [Region.wanted, hgd]
    rw [if_pos hw]
    unfold Oper.still execOp
    simp only [ho, hx, hy, Sem.run_bind, run_eqGuard_agg w .neq _ _ _ _ _ guard_id, run_neq_id, Result.andThen_ok, Sem.run_pure]
    exact ⟨rfl, hK _ h⟩
theorem wpl_eql (hgd : o.guard = none) (x y : Operand) (T : TypeId) (ho : o.op = .binOp .eql 34 x y T) (i j : ID) (hx : a.eval x = .agg (idc i).toArray) (hy : a.eval y = .agg (idc j).toArray) {Q : Exit → Act → World → Prop}
    (h : wpList Tryz.prog ops Q rest (a.put o.dst (.bool (decide (i = j)))) w) : wpList Tryz.prog ops Q (o :: rest) a w :=
  wpList_plain hgd fun K hK => by
    unfold Oper.wp execOp
    simp only [ho, hx, hy, Sem.run_bind, run_eqGuard_agg w .eql _ _ _ _ _ guard_id, run_eql_id, Result.andThen_ok, Sem.run_pure]
    exact hK _ _ h
theorem wpl_neq (hgd : o.guard = none) (x y : Operand) (T : TypeId) (ho : o.op = .binOp .neq 34 x y T) (i j : ID) (hx : a.eval x = .agg (idc i).toArray) (hy : a.eval y = .agg (idc j).toArray) {Q : Exit → Act → World → Prop}
    (h : wpList Tryz.prog ops Q rest (a.put o.dst (.bool (!decide (i = j)))) w) : wpList Tryz.prog ops Q (o :: rest) a w :=
  wpList_plain hgd fun K hK => by
    unfold Oper.wp execOp
    simp only [ho, hx, hy, Sem.run_bind, run_eqGuard_agg w .neq _ _ _ _ _ guard_id, run_neq_id, Result.andThen_ok, Sem.run_pure]
    exact hK _ _ h
end

/-- No name is the one ahead of it. -/
def Unlike (l : List ID) : Prop := ∀ i x y, l[i]? = some x → l[i + 1]? = some y → x ≠ y

set_option maxRecDepth 100000 in
set_option maxHeartbeats 1000000 in
theorem compact_any (w : World) (v : Value) (l : List ID) (ok : Nat → Prop) (hl : Sl idE ok w v l) (hu : Unlike l) :
    Calls Tryz.prog 115 #[v] w fun e w' => e = .returned v ∧ Below w.heap.size w w' := by
  have HL := Lib.hid hl
  have HU := Lib.hid hu
  obtain ⟨A, c, rfl, hc, hm⟩ := hl.form
  clear hl hu
  go_enter Tryz.func115, Tryz.ntmps115
  by_cases h2 : l.length < 2
  · go_wp2
    go_ret
    exact ⟨rfl, Below.refl _ _⟩
  · go_wp2
    go_loopw [3] (fun ci wr => ∃ i : Nat, 1 ≤ i ∧ i ≤ l.length ∧ ci = .int .i64 i ∧ Below w.heap.size w wr) (fun ci _ => l.length - (intOf ci).toNat)
    case atStart => exact ⟨1, by omega, by omega, rfl, Below.refl _ _⟩
    case round =>
      obtain ⟨i, h1, hi, rfl, hB⟩ := hrel
      by_cases hlt : i < l.length
      · obtain ⟨x, hx⟩ : ∃ x, l[i - 1]? = some x := ⟨_, List.getElem?_eq_getElem (by omega)⟩
        obtain ⟨y, hy⟩ : ∃ y, l[i]? = some y := ⟨_, List.getElem?_eq_getElem hlt⟩
        have hS := HL.out.below hB
        obtain ⟨b, off, rfl, hb, -, hcx⟩ := hS.at_ (i - 1) x hx
        obtain ⟨b', off', he, -, -, hcy⟩ := hS.at_ i y hy
        injection he with he
        injection he with e1 e2
        subst e1; subst e2
        obtain ⟨p, ep⟩ : ∃ p, i - 1 = p := ⟨_, rfl⟩
        rw [ep] at hcx
        have hne : ¬ y = x := fun e => HU.out (i - 1) x y hx (by rw [show i - 1 + 1 = i by omega]; exact hy) e.symm
        have hw : IntKind.i64.wrap ((i : Int) - 1) = (p : Int) := by rw [IntWalk.i64_in _ (by omega)]; omega
        have hpl : p < l.length := by omega
        clear hS
        have HEP := Lib.hid ep; clear ep
        have HX := Lib.hid hcx; clear hcx
        have HY := Lib.hid hcy; clear hcy
        have HNE := Lib.hid hne; clear hne
        go_wp2
        refine wp_region_still_lit (by kernel_rfl) (by kernel_rfl) ?_
        repeat (first
          | (refine still_load rfl 34 (.tmp 18) rfl b _ rfl (idc y) _ HY.out Tryz.underlying34 rfl (by rw [idc_length]; exact id_size) ?_)
          | (refine still_load rfl 34 (.tmp 23) rfl b _ rfl (idc x) _ HX.out Tryz.underlying34 rfl (by rw [idc_length]; exact id_size) ?_)
          | (refine still_eql rfl (.tmp 19) (.tmp 24) _ rfl y x rfl rfl ?_; rw [decide_eq_false HNE.out])
          | still_step)
        refine wpStill_nil ?_
        change Exit.then _ _ _ _ wr.drew
        have hBd : Below w.heap.size w wr.drew := hB.drew
        generalize wr.drew = wd at hBd
        go_wp2
        go_roundw
        case rel => exact ⟨i + 1, by omega, by omega, by go_num, hBd⟩
        case measure => simp [intOf]; omega
      · go_wp2
        go_ret
        exact ⟨rfl, hB⟩

theorem id_info : (Tryz.prog.info? 34).map (fun i => (i.zero, i.size, i.bytes)) = some (some (.agg (Array.replicate 32 (.int .u8 0))), idE.k, 32) := by kernel_rfl
theorem clone_id (w : World) (v : Value) (l : List ID) (ok : Nat → Prop) (hl : Sl idE ok w v l) (hlen : l.length ≤ 4294967296) :
    Calls Tryz.prog 98 #[v] w fun e w' => ∃ v', e = .returned v' ∧ w'.ownsRow w.heap.size 34 32 v' l.length (idE.flat l) ∧ Below w.heap.size w w' :=
  clone_gen lcI _ 32 id_info (by simp [Value.cells]; rfl) Tryz.sizeOf34 hl (by omega) (by omega)
theorem more_compare (W : World) (x y : ID) : Calls Tryz.prog 114 (#[.agg (idE.enc x).toArray, .agg (idE.enc y).toArray] ++ #[]) W fun e w' => e = .returned (.int .i64 (cmpI x y)) ∧ More W w' :=
  headerCompare_any W x y
theorem sort_id (w : World) (v : Value) (l : List ID) (base : Nat) (T : TypeId) (h : w.ownsRow base T 32 v l.length (idE.flat l)) (hlen : l.length ≤ 4294967296) :
    Calls Tryz.prog 113 #[v, .func (.func 114) #[] #[]] w fun e w' => e = .returned (.tuple #[]) ∧ w'.ownsRow base T 32 v l.length (idE.flat (sortI l)) ∧ w.grownBy w' v.ownBlock :=
  (sort_gen (E := idE) lsI Tryz.isAgg34 Tryz.sizeOf34 cmpI swo_cmpI 114 #[] (enters_of Tryz.func114 (by kernel_rfl) rfl) more_compare h (by omega)).mono fun e w' ⟨he, zs, hp, hr, ho, hg⟩ => by
    rw [sortI_risen hp hr] at ho
    exact ⟨he, ho, hg⟩
end Go.Proofs.YthpcedficlhanaaGreatDoor
