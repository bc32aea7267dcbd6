/- slices.Clone, SortFunc, ContainsFunc of blocks, laid at this translation's own numbers. Blocks compared, cloned, sorted; tipset.fits. Regions that draw their order, by hand: more laws. tipset.fits. Which blocks are a tipset, in plain words. No program in sight. A map from int to int of the call's own, told by what it answers; two results, the first in a cell. -/
import Derived.Test.YtcohdfkdhdhegaaGreatDoorPbAC
import Derived.Test.YtcohdfkdhdhegaaGreatDoorPbAF
import Derived.Test.YtcohdfkdhdhegaaGreatDoorProg
import Derived.Shelf.SlicesE.Clone
import Derived.Shelf.SlSortCmp.NoneTotal
import Derived.Shelf.SlicesQ.IndexFunc
import Derived.Maps.OwnOps
import Derived.Maps.Views
namespace Go.Proofs.YtcohdfkdhdhegaaGreatDoor
open Go.Shelf
def lcB_ren : Go.Shelf.Ren := ⟨fun | 41 => 140 | n => n, fun | 22 => 50 | 23 => 71 | 4 => 4 | n => n, fun | n => n⟩
theorem lcB : Go.Proofs.SlLaysE0.n41 Tryz.prog lcB_ren := {
  mixed := by kernel_rfl
  f41 := ⟨Tryz.f140.name, by decide, Tryz.func140.trans (congrArg some (by kernel_rfl))⟩
  t4 := Tryz.underlying4
  a4 := Tryz.isAgg4
  z4 := Tryz.sizeOf4
  v4 := Tryz.zeroValue4
  t22 := Tryz.underlying50
  a22 := Tryz.isAgg50
  z22 := Tryz.sizeOf50
  v22 := Tryz.zeroValue50 }
def lsB_ren : Go.Shelf.Ren := ⟨fun | 6 => 141 | 15 => 151 | 14 => 175 | 28 => 186 | 29 => 187 | 20 => 208 | 21 => 209 | 22 => 210 | 23 => 211 | 24 => 212 | 25 => 213 | 26 => 214 | 27 => 215 | 46 => 237 | 47 => 217 | 48 => 218 | 49 => 238 | 50 => 239 | 57 => 249 | n => n, fun | 22 => 50 | 24 => 71 | 25 => 204 | 3 => 3 | 39 => 115 | 0 => 0 | 53 => 214 | 55 => 26 | 4 => 4 | 46 => 249 | 45 => 248 | 50 => 253 | 5 => 5 | 9 => 9 | 66 => 283 | 70 => 286 | 76 => 299 | 77 => 300 | n => n, fun | n => n⟩
theorem lsB : Go.Proofs.SlLaysF0.n6 Tryz.prog lsB_ren := {
  mixed := by kernel_rfl
  f6 := ⟨Tryz.f141.name, by decide, Tryz.func141.trans (congrArg some (by kernel_rfl))⟩
  f14 := ⟨Tryz.f175.name, by decide, Tryz.func175.trans (congrArg some (by kernel_rfl))⟩
  f15 := Tryz.func151.trans (congrArg some (by kernel_rfl))
  f20 := ⟨Tryz.f208.name, by decide, Tryz.func208.trans (congrArg some (by kernel_rfl))⟩
  f21 := ⟨Tryz.f209.name, by decide, Tryz.func209.trans (congrArg some (by kernel_rfl))⟩
  f22 := ⟨Tryz.f210.name, by decide, Tryz.func210.trans (congrArg some (by kernel_rfl))⟩
  f23 := ⟨Tryz.f211.name, by decide, Tryz.func211.trans (congrArg some (by kernel_rfl))⟩
  f24 := ⟨Tryz.f212.name, by decide, Tryz.func212.trans (congrArg some (by kernel_rfl))⟩
  f25 := ⟨Tryz.f213.name, by decide, Tryz.func213.trans (congrArg some (by kernel_rfl))⟩
  f26 := ⟨Tryz.f214.name, by decide, Tryz.func214.trans (congrArg some (by kernel_rfl))⟩
  f27 := ⟨Tryz.f215.name, by decide, Tryz.func215.trans (congrArg some (by kernel_rfl))⟩
  f28 := Tryz.func186.trans (congrArg some (by kernel_rfl))
  f29 := Tryz.func187.trans (congrArg some (by kernel_rfl))
  f46 := ⟨Tryz.f237.name, by decide, Tryz.func237.trans (congrArg some (by kernel_rfl))⟩
  f47 := Tryz.func217.trans (congrArg some (by kernel_rfl))
  f48 := Tryz.func218.trans (congrArg some (by kernel_rfl))
  f49 := ⟨Tryz.f238.name, by decide, Tryz.func238.trans (congrArg some (by kernel_rfl))⟩
  f50 := ⟨Tryz.f239.name, by decide, Tryz.func239.trans (congrArg some (by kernel_rfl))⟩
  f57 := ⟨Tryz.f249.name, by decide, Tryz.func249.trans (congrArg some (by kernel_rfl))⟩
  t0 := Tryz.underlying0
  a0 := Tryz.isAgg0
  z0 := Tryz.sizeOf0
  v0 := Tryz.zeroValue0
  t3 := Tryz.underlying3
  a3 := Tryz.isAgg3
  z3 := Tryz.sizeOf3
  v3 := Tryz.zeroValue3
  t4 := Tryz.underlying4
  a4 := Tryz.isAgg4
  z4 := Tryz.sizeOf4
  v4 := Tryz.zeroValue4
  t5 := Tryz.underlying5
  a5 := Tryz.isAgg5
  z5 := Tryz.sizeOf5
  v5 := Tryz.zeroValue5
  t9 := Tryz.underlying9
  a9 := Tryz.isAgg9
  z9 := Tryz.sizeOf9
  v9 := Tryz.zeroValue9
  t22 := Tryz.underlying50
  a22 := Tryz.isAgg50
  z22 := Tryz.sizeOf50
  v22 := Tryz.zeroValue50
  t25 := Tryz.underlying204
  a25 := Tryz.isAgg204
  z25 := Tryz.sizeOf204
  v25 := Tryz.zeroValue204
  t39 := Tryz.underlying115
  a39 := Tryz.isAgg115
  z39 := Tryz.sizeOf115
  v39 := Tryz.zeroValue115
  t45 := Tryz.underlying248
  a45 := Tryz.isAgg248
  z45 := Tryz.sizeOf248
  v45 := Tryz.zeroValue248
  t46 := Tryz.underlying249
  a46 := Tryz.isAgg249
  z46 := Tryz.sizeOf249
  v46 := Tryz.zeroValue249
  t50 := Tryz.underlying253
  a50 := Tryz.isAgg253
  z50 := Tryz.sizeOf253
  v50 := Tryz.zeroValue253
  t53 := Tryz.underlying214
  a53 := Tryz.isAgg214
  z53 := Tryz.sizeOf214
  v53 := Tryz.zeroValue214
  t55 := Tryz.underlying26
  a55 := Tryz.isAgg26
  z55 := Tryz.sizeOf26
  v55 := Tryz.zeroValue26
  t66 := Tryz.underlying283
  a66 := Tryz.isAgg283
  z66 := Tryz.sizeOf283
  v66 := Tryz.zeroValue283
  t70 := Tryz.underlying286
  a70 := Tryz.isAgg286
  z70 := Tryz.sizeOf286
  v70 := Tryz.zeroValue286
  t76 := Tryz.underlying299
  a76 := Tryz.isAgg299
  z76 := Tryz.sizeOf299
  v76 := Tryz.zeroValue299
  t77 := Tryz.underlying300
  a77 := Tryz.isAgg300
  z77 := Tryz.sizeOf300
  v77 := Tryz.zeroValue300 }
end Go.Proofs.YtcohdfkdhdhegaaGreatDoor
namespace Go.Proofs.YtcohdfkdhdhegaaGreatDoor
open Go.RowKit

theorem LB.cells_id (b : LB) (j : Nat) (u : Value) (h : (bytesC b.id.1)[j]? = some u) : b.cells[j]? = some u := by
  rw [LB.cells, idc, List.getElem?_append_left (List.getElem?_eq_some_iff.1 h).1]
  exact h
theorem compare_blocks (w : World) (x y : LB) (n : Nat) : Calls Tryz.prog 143 #[.slice (some ⟨w.heap.size, 0, none⟩) 32 32, .slice (some ⟨w.heap.size + 1, 0, none⟩) 32 32] (((w.alloc (.cells x.cells.toArray 71)).alloc (.cells y.cells.toArray 71)).drewN n) fun e w' => e = .returned (.int .i64 (cmpI x.id y.id)) ∧ ((w.alloc (.cells x.cells.toArray 71)).alloc (.cells y.cells.toArray 71)).drewN n = w' := by
  have hx : BytesAt (((w.alloc (.cells x.cells.toArray 71)).alloc (.cells y.cells.toArray 71)).drewN n) w.heap.size 0 x.id.1 := fun j u hu => by
    rw [Nat.zero_add]
    exact cell_block (fr := (0, 0)) (T := 71) (by show ((w.alloc _).alloc _).heap[w.heap.size]? = _; rw [heap_alloc_if, if_neg (by simp), heap_alloc_if, if_pos rfl]) (by simpa using x.cells_id j u hu)
  have hy : BytesAt (((w.alloc (.cells x.cells.toArray 71)).alloc (.cells y.cells.toArray 71)).drewN n) (w.heap.size + 1) 0 y.id.1 := fun j u hu => by
    rw [Nat.zero_add]
    exact cell_block (fr := (0, 0)) (T := 71) (by show ((w.alloc _).alloc _).heap[w.heap.size + 1]? = _; rw [heap_alloc_if, if_pos (by simp)]) (by simpa using y.cells_id j u hu)
  have hc := bytesCompare_any _ w.heap.size 0 32 (w.heap.size + 1) 0 32 x.id.1 y.id.1 hx hy
  rw [x.id.2, y.id.2] at hc
  exact hc

def cmpL (x y : LB) : Int := cmpI x.id y.id
theorem swo_cmpL : Sort.SWO (ltOf cmpL) := ⟨fun x => swo_cmpI.irrefl x.id, fun x y z => swo_cmpI.trans x.id y.id z.id, fun x y z => swo_cmpI.ntrans x.id y.id z.id⟩

set_option maxRecDepth 100000 in
set_option maxHeartbeats 1000000 in
theorem blockCompare_any (w : World) (x y : LB) :
    Calls Tryz.prog 142 #[.agg x.cells.toArray, .agg y.cells.toArray] w fun e w' => e = .returned (.int .i64 (cmpL x y)) ∧ More w w' := by
  go_enter Tryz.func142, Tryz.ntmps142
  go_wp2
  have HC := Lib.hid (fun n => compare_blocks w x y n)
  go_quiet ((go_at_call 143; exact quiet_left (HC.out _)))
  go_wp2
  go_ret
  exact ⟨rfl, More.two _ _ _ _⟩

theorem block_info : (Tryz.prog.info? 71).map (fun i => (i.zero, i.size, i.bytes)) = some (some (.agg (LB.cells ⟨⟨⟨(List.replicate 32 0).toArray⟩, by rfl⟩, ⟨⟨0, 0, ⟨#[]⟩, 0, 0, [], 0⟩, none, 0⟩⟩).toArray), lbE.k, 112) := by kernel_rfl
theorem clone_blocks (w : World) (v : Value) (l : List LB) (ok : Nat → Prop) (hl : Sl lbE ok w v l) (hlen : l.length ≤ 4294967296) :
    Calls Tryz.prog 140 #[v] w fun e w' => ∃ v', e = .returned v' ∧ w'.ownsRow w.heap.size 71 39 v' l.length (lbE.flat l) ∧ Below w.heap.size w w' :=
  clone_gen lcB _ 112 block_info (by simp only [Value.cells, List.size_toArray, LB.cells_length]; rfl) Tryz.sizeOf71 hl (by omega) (by omega)
theorem sort_blocks (w : World) (v : Value) (l : List LB) (base : Nat) (T : TypeId) (h : w.ownsRow base T 39 v l.length (lbE.flat l)) (hlen : l.length ≤ 4294967296) :
    Calls Tryz.prog 141 #[v, .func (.func 142) #[] #[]] w fun e w' => e = .returned (.tuple #[]) ∧ ∃ zs, zs.Perm l ∧ Risen cmpL zs ∧ w'.ownsRow base T 39 v l.length (lbE.flat zs) ∧ w.grownBy w' v.ownBlock :=
  sort_gen (E := lbE) lsB Tryz.isAgg71 Tryz.sizeOf71 cmpL swo_cmpL 142 #[] (enters_of Tryz.func142 (by kernel_rfl) rfl) blockCompare_any h (by omega)
end Go.Proofs.YtcohdfkdhdhegaaGreatDoor
namespace Go.Proofs.YtcohdfkdhdhegaaGreatDoor
open Go.RowKit
/-- So many have come up, so many not. -/
abbrev bt (a b : Nat) : Array Bool := (List.replicate a true ++ List.replicate b false).toArray

section
variable {P : Program} {ops : Array Oper} {Q : Exit → Act → World → Prop} {md : Region.Mode} {S : World → Prop}
/-- An operation that yields in whatever world. -/
theorem yieldsIf_run {o : Oper} {a : Act} {v : Value} (hw : Region.wanted o (yielded ops a.tmps) = true) (h : ∀ w, (execOp a.eval o).run P w = .ok (.value v) w) : YieldsIf P ops S o v a := .inl ⟨hw, fun w _ => h w⟩
theorem run_loadVar_cell (w : World) (ty : TypeId) (ad : Addr) (v : Value) (d : TypeDesc) (hc : w.cell? ad = some v) (hu : P.underlying ty = some d) (hd : (match d with | .struct _ | .array _ _ => true | _ => false) = false) : (loadVar ty ad).run P w = .ok v w := by
  have hagg : (isAgg ty).run P w = .ok false w := by
    unfold isAgg
    rw [Sem.run_bind, run_underlying hu w]
    cases d <;> simp_all
  simp [loadVar, Sem.run_bind, hagg, hc]
/-- A load of one protected cell. -/
theorem yieldsIf_cell {o : Oper} {a : Act} (hw : Region.wanted o (yielded ops a.tmps) = true) (ty : TypeId) (x : Operand) (ho : o.op = .load ty x) (ad : Addr) (hx : a.eval x = .pointer (some ad)) (v : Value) (d : TypeDesc)
    (hc : ∀ w, S w → w.cell? ad = some v) (hu : P.underlying ty = some d) (hd : (match d with | .struct _ | .array _ _ => true | _ => false) = false) : YieldsIf P ops S o v a :=
  .inl ⟨hw, fun w hS => by
    unfold execOp
    simp only [ho, hx, Instr.loadAt, Instr.sureAddr, Sem.run_bind, Sem.run_pure, Result.andThen_ok, run_loadVar_cell w ty ad v d (hc w hS) hu hd]⟩
theorem yieldsIf_of {o : Oper} {a : Act} {v : Value} (hw : Region.wanted o (yielded ops a.tmps) = true) (h : ∀ w, S w → (execOp a.eval o).run P w = .ok (.value v) w) : YieldsIf P ops S o v a := .inl ⟨hw, h⟩
theorem yieldsIf_off {o : Oper} {a : Act} (hw : Region.wanted o (yielded ops a.tmps) = false) : YieldsIf P ops S o undef a := .inr ⟨hw, rfl⟩
/-- The beginning: how many operations, which have come up. -/
theorem st_ (n : Nat) (l : Array Bool) {id : Nat} {a : Act} {w : World} (hm : P.follows .mixedOrders = true) (hn : ops.size = n) (hl : Array.replicate n false = l) (hS : S w.drew)
    (h : S w.drew → wpAnyH P .any ops Q S n l a w.drew) : (Code.region id ops true).wp P Q a w := by
  subst hn
  subst hl
  exact wp_region_held_drew hm hS h
def tkB (md : Region.Mode) (ops : Array Oper) (l l' : Array Bool) (i : Nat) : Bool := Region.noSelect ops && Region.free md ops l i && (Region.ready md ops l).contains i && (l.setIfInBounds i true == l')
/-- An operation is taken first. -/
theorem tk_ (i : Nat) (N : Option Tmp) (l' : Array Bool) {oi : Oper} {v : Value} {fuel : Nat} {l : Array Bool} {a : Act} {w : World} (hi : ops[i]? = some oi) (hN : oi.dst = N) (hc : tkB md ops l l' i = true)
    (hQ : ∀ c a w, Q (.panic c) (a.put oi.dst v) w → Q (.panic c) a w) (hy : YieldsIf P ops S oi v a) (hS : S w) {a' : Act} (ha : a.put N v = a')
    (h : wpAnyH P md ops Q S fuel l' a' w) : wpAnyH P md ops Q S (fuel + 1) l a w := by
  subst ha
  subst hN
  simp only [tkB, Bool.and_eq_true, beq_iff_eq] at hc
  obtain ⟨⟨⟨h1, h2⟩, h3⟩, h4⟩ := hc
  subst h4
  exact wpAnyH_take hi h1 h2 h3 hQ hy hS h
def oneB (md : Region.Mode) (ops : Array Oper) (l l' : Array Bool) (i : Nat) : Bool := decide (Region.ready md ops l = [i]) && (l.setIfInBounds i true == l')
/-- One alone may come up: a call. -/
theorem call_ (i : Nat) (N : Option Tmp) (l' : Array Bool) {oi : Oper} {fuel : Nat} {l : Array Bool} {a : Act} {w : World} (hi : ops[i]? = some oi) (hN : oi.dst = N) (hc : oneB md ops l l' i = true)
    (hw : Region.wanted oi (yielded ops a.tmps) = true) (f : FuncId) (args : Array Value) (hx : (execOp a.eval oi).run P w = .ok (.enter f args) w) {R : Ending → World → Prop} (hcall : Calls P f args w R)
    (hK : ∀ e w', R e w' → ∃ v, e = .returned v ∧ S w' ∧ (S w' → ∃ a', a.put N v = a' ∧ wpAnyH P md ops Q S fuel l' a' w')) : wpAnyH P md ops Q S (fuel + 1) l a w := by
  subst hN
  simp only [oneB, Bool.and_eq_true, beq_iff_eq, decide_eq_true_eq] at hc
  obtain ⟨h1, h2⟩ := hc
  subst h2
  refine wpAnyH_all h1 (by simp) fun j hj => ?_
  have : j = i := by simpa using hj
  subst this
  refine wpOp_call hi hw f args hx hcall fun e w' hr => ?_
  obtain ⟨v, he, hS, hk⟩ := hK e w' hr
  obtain ⟨a', ha, hk⟩ := hk hS
  subst ha
  exact ⟨v, he, hS, hk⟩
/-- .. one that yields a value and turns the world. -/
theorem val_ (i : Nat) (N : Option Tmp) (l' : Array Bool) {oi : Oper} {fuel : Nat} {l : Array Bool} {a : Act} {w : World} (hi : ops[i]? = some oi) (hN : oi.dst = N) (hc : oneB md ops l l' i = true)
    (hw : Region.wanted oi (yielded ops a.tmps) = true) (v : Value) (w1 : World) (hx : (execOp a.eval oi).run P w = .ok (.value v) w1) (hS : S w1) {a' : Act} (ha : a.put N v = a')
    (h : wpAnyH P md ops Q S fuel l' a' w1) : wpAnyH P md ops Q S (fuel + 1) l a w := by
  subst hN
  subst ha
  simp only [oneB, Bool.and_eq_true, beq_iff_eq, decide_eq_true_eq] at hc
  obtain ⟨h1, h2⟩ := hc
  subst h2
  refine wpAnyH_all h1 (by simp) fun j hj => ?_
  have : j = i := by simpa using hj
  subst this
  exact wpOp_value hi hw v w1 hx ⟨hS, h⟩
/-- .. a store. -/
theorem sk_ (i : Nat) (l' : Array Bool) {oi : Oper} {fuel : Nat} {l : Array Bool} {a : Act} {w : World} (hi : ops[i]? = some oi) (hN : oi.dst = none) (hc : oneB md ops l l' i = true)
    (hw : Region.wanted oi (yielded ops a.tmps) = true) (w1 : World) (hx : (execOp a.eval oi).run P w = .ok .skip w1) (hS : S w1)
    (h : wpAnyH P md ops Q S fuel l' a w1) : wpAnyH P md ops Q S (fuel + 1) l a w := by
  simp only [oneB, Bool.and_eq_true, beq_iff_eq, decide_eq_true_eq] at hc
  obtain ⟨h1, h2⟩ := hc
  subst h2
  refine wpAnyH_all h1 (by simp) fun j hj => ?_
  have : j = i := by simpa using hj
  subst this
  exact wpOp_skip hi hw w1 hx (by rw [hN]; exact ⟨hS, h⟩)
end
theorem exec_neq_id {o : Oper} {a : Act} {w : World} (_hgd : o.op = o.op) (x y : Operand) (T : TypeId) (ho : o.op = .binOp .neq 66 x y T) (i j : ID) (hx : a.eval x = .agg (idc i).toArray) (hy : a.eval y = .agg (idc j).toArray) :
    (execOp a.eval o).run Tryz.prog w = .ok (.value (.bool (!decide (i = j)))) w := by
  unfold execOp
  simp only [ho, hx, hy, Sem.run_bind, run_eqGuard_agg w .neq _ _ _ _ _ guard_id, run_neq_id, Result.andThen_ok, Sem.run_pure]
end Go.Proofs.YtcohdfkdhdhegaaGreatDoor
namespace Go.Proofs.YtcohdfkdhdhegaaGreatDoor
open Go.RowKit

/-- A family, as a text. -/
def famS (h : Hdr) : ByteArray := ⟨(famB h).toArray⟩
def fitsB (x y : LB) : Bool := !decide (x.id = y.id) && decide (famS x.x.h = famS y.x.h)

theorem LB.cells_hdr (b : LB) (j : Nat) (u : Value) (h : b.x.cells[j]? = some u) : b.cells[32 + j]? = some u := by
  rw [LB.cells, List.getElem?_append_right (by rw [idc_length]; omega), idc_length, show 32 + j - 32 = j by omega]
  exact h

/-- A block lies whole at the head of memory block b. -/
def HoldB (w : World) (b : Nat) (x : LB) : Prop := ∀ j u, x.cells[j]? = some u → w.cell? ⟨b, j, none⟩ = some u
theorem HoldB.id {w : World} {b : Nat} {x : LB} (h : HoldB w b x) : ∀ j u, (idc x.id)[j]? = some u → w.cell? ⟨b, 0 + j, none⟩ = some u := fun j u hu => by rw [Nat.zero_add]; exact h j u (x.cells_id j u hu)
theorem HoldB.hdr {w : World} {b : Nat} {x : LB} (h : HoldB w b x) : ∀ j u, x.x.cells[j]? = some u → w.cell? ⟨b, 32 + j, none⟩ = some u := fun j u hu => h _ u (x.cells_hdr j u hu)
theorem HoldB.below {w w' : World} {b B : Nat} {x : LB} (h : HoldB w b x) (hb : Below B w w') (hlt : b < B) : HoldB w' b x := fun j u hu => (hb.cell (p := ⟨b, j, none⟩) hlt).trans (h j u hu)

set_option maxRecDepth 100000 in
set_option maxHeartbeats 1000000 in
theorem fits_any (w : World) (x y : LB) (ok : Nat → Prop) (hx : x.x.At ok w) (hy : y.x.At ok w) (okx : x.x.h.Ok) (oky : y.x.h.Ok) (ndx : x.x.h.parents.Nodup) (ndy : y.x.h.parents.Nodup) :
    Calls Tryz.prog 144 #[.agg x.cells.toArray, .agg y.cells.toArray] w fun e w' => e = .returned (.bool (fitsB x y)) ∧ Below w.heap.size w w' := by
  have hB0 : Below w.heap.size w ((w.alloc (.cells x.cells.toArray 71)).alloc (.cells y.cells.toArray 71)) := ((Below.refl _ w).alloc (Nat.le_refl _) _).alloc (by simp) _
  have hcx : HoldB ((w.alloc (.cells x.cells.toArray 71)).alloc (.cells y.cells.toArray 71)) w.heap.size x := fun j u hu => cell_block (fr := (0, 0)) (T := 71) (by rw [heap_alloc_if, if_neg (by simp), heap_alloc_if, if_pos rfl]) (by simpa using hu)
  have hcy : HoldB ((w.alloc (.cells x.cells.toArray 71)).alloc (.cells y.cells.toArray 71)) (w.heap.size + 1) y := fun j u hu => cell_block (fr := (0, 0)) (T := 71) (by rw [heap_alloc_if, if_pos (by simp)]) (by simpa using hu)
  have HB0 := Lib.hid hB0
  have HX := Lib.hid hx
  have HY := Lib.hid hy
  have HCX := Lib.hid hcx
  have HCY := Lib.hid hcy
  clear hB0 hx hy hcx hcy
  go_enter Tryz.func144, Tryz.ntmps144
  go_wp2
  generalize (w.alloc (.cells x.cells.toArray 71)).alloc (.cells y.cells.toArray 71) = W at HB0 HCX HCY
  by_cases hne : x.id = y.id
  · have hf : fitsB x y = false := by simp [fitsB, hne]
    have HF := Lib.hid hf
    have HNE := Lib.hid hne
    clear hf hne
    have hSX : HoldB W.drew w.heap.size x ∧ HoldB W.drew (w.heap.size + 1) y := ⟨HCX.out, HCY.out⟩
    have HSX := Lib.hid hSX
    clear hSX
    refine st_ (S := (fun w' => HoldB w' w.heap.size x ∧ HoldB w' (w.heap.size + 1) y)) 15 (bt 0 15) (by kernel_rfl) rfl (by rfl) HSX.out (fun hHeld => ?_)
    refine tk_ 0 (some 5) (bt 1 14) (v := ?_) (a' := ?_) rfl rfl (by kernel_rfl) (fun _ _ _ h => h) (yieldsIf_run rfl ?_) hHeld ?_ ?_
    rotate_left
    · intro w'
      go_simp
      with_reducible rfl
    rotate_left
    · simp only [Act.put, List.setIfInBounds_toArray, List.set_cons_zero, List.set_cons_succ]
      rfl
    refine tk_ 1 (some 6) (bt 2 13) rfl rfl (by kernel_rfl) (fun _ _ _ h => h) (yieldsIf_load rfl 66 (.tmp 5) rfl w.heap.size 0 rfl (idc x.id) _ (fun w' h => h.1.id) Tryz.underlying66 rfl (by rw [idc_length]; exact id_size)) hHeld (a' := ?_) ?_ ?_
    rotate_left
    · simp only [Act.put, List.setIfInBounds_toArray, List.set_cons_zero, List.set_cons_succ]
      rfl
    refine tk_ 2 (some 7) (bt 3 12) (v := ?_) (a' := ?_) rfl rfl (by kernel_rfl) (fun _ _ _ h => h) (yieldsIf_run rfl ?_) hHeld ?_ ?_
    rotate_left
    · intro w'
      go_simp
      with_reducible rfl
    rotate_left
    · simp only [Act.put, List.setIfInBounds_toArray, List.set_cons_zero, List.set_cons_succ]
      rfl
    refine tk_ 3 (some 8) (bt 4 11) rfl rfl (by kernel_rfl) (fun _ _ _ h => h) (yieldsIf_load rfl 66 (.tmp 7) rfl (w.heap.size + 1) 0 rfl (idc y.id) _ (fun w' h => h.2.id) Tryz.underlying66 rfl (by rw [idc_length]; exact id_size)) hHeld (a' := ?_) ?_ ?_
    rotate_left
    · simp only [Act.put, List.setIfInBounds_toArray, List.set_cons_zero, List.set_cons_succ]
      rfl
    refine tk_ 4 (some 9) (bt 5 10) rfl rfl (by kernel_rfl) (fun _ _ _ h => h) (yieldsIf_run (v := .bool false) rfl fun _ => (exec_neq_id rfl (.tmp 6) (.tmp 8) _ rfl x.id y.id rfl rfl).trans (by rw [decide_eq_true HNE.out]; rfl)) hHeld (a' := ?_) ?_ ?_
    rotate_left
    · simp only [Act.put, List.setIfInBounds_toArray, List.set_cons_zero, List.set_cons_succ]
      rfl
    refine tk_ 5 (some 10) (bt 6 9) (v := ?_) (a' := ?_) rfl rfl (by kernel_rfl) (fun _ _ _ h => h) (yieldsIf_run rfl ?_) hHeld ?_ ?_
    rotate_left
    · intro w'
      go_simp
      with_reducible rfl
    rotate_left
    · simp only [Act.put, List.setIfInBounds_toArray, List.set_cons_zero, List.set_cons_succ]
      rfl
    refine tk_ 6 (some 11) (bt 7 8) rfl rfl (by kernel_rfl) (fun _ _ _ h => h) (yieldsIf_off rfl) hHeld (a' := ?_) ?_ ?_
    rotate_left
    · simp only [Act.put, List.setIfInBounds_toArray, List.set_cons_zero, List.set_cons_succ]
      rfl
    refine tk_ 7 (some 12) (bt 8 7) rfl rfl (by kernel_rfl) (fun _ _ _ h => h) (yieldsIf_off rfl) hHeld (a' := ?_) ?_ ?_
    rotate_left
    · simp only [Act.put, List.setIfInBounds_toArray, List.set_cons_zero, List.set_cons_succ]
      rfl
    refine tk_ 8 (some 13) (bt 9 6) rfl rfl (by kernel_rfl) (fun _ _ _ h => h) (yieldsIf_off rfl) hHeld (a' := ?_) ?_ ?_
    rotate_left
    · simp only [Act.put, List.setIfInBounds_toArray, List.set_cons_zero, List.set_cons_succ]
      rfl
    refine tk_ 9 (some 14) (bt 10 5) rfl rfl (by kernel_rfl) (fun _ _ _ h => h) (yieldsIf_off rfl) hHeld (a' := ?_) ?_ ?_
    rotate_left
    · simp only [Act.put, List.setIfInBounds_toArray, List.set_cons_zero, List.set_cons_succ]
      rfl
    refine tk_ 10 (some 15) (bt 11 4) rfl rfl (by kernel_rfl) (fun _ _ _ h => h) (yieldsIf_off rfl) hHeld (a' := ?_) ?_ ?_
    rotate_left
    · simp only [Act.put, List.setIfInBounds_toArray, List.set_cons_zero, List.set_cons_succ]
      rfl
    refine tk_ 11 (some 16) (bt 12 3) rfl rfl (by kernel_rfl) (fun _ _ _ h => h) (yieldsIf_off rfl) hHeld (a' := ?_) ?_ ?_
    rotate_left
    · simp only [Act.put, List.setIfInBounds_toArray, List.set_cons_zero, List.set_cons_succ]
      rfl
    refine tk_ 12 (some 17) (bt 13 2) rfl rfl (by kernel_rfl) (fun _ _ _ h => h) (yieldsIf_off rfl) hHeld (a' := ?_) ?_ ?_
    rotate_left
    · simp only [Act.put, List.setIfInBounds_toArray, List.set_cons_zero, List.set_cons_succ]
      rfl
    refine tk_ 13 (some 18) (bt 14 1) (v := ?_) (a' := ?_) rfl rfl (by kernel_rfl) (fun _ _ _ h => h) (yieldsIf_run rfl ?_) hHeld ?_ ?_
    rotate_left
    · intro w'
      go_simp
      with_reducible rfl
    rotate_left
    · simp only [Act.put, List.setIfInBounds_toArray, List.set_cons_zero, List.set_cons_succ]
      rfl
    refine tk_ 14 (some 4) (bt 15 0) (v := ?_) (a' := ?_) rfl rfl (by kernel_rfl) (fun _ _ _ h => h) (yieldsIf_run rfl ?_) hHeld ?_ ?_
    rotate_left
    · intro w'
      go_simp
      with_reducible rfl
    rotate_left
    · simp only [Act.put, List.setIfInBounds_toArray, List.set_cons_zero, List.set_cons_succ]
      rfl
    refine wpAnyH_done (by kernel_rfl) ?_ _
    change Exit.then _ _ _ _ W.drew
    have HBd : Hid (Below w.heap.size w W.drew) := HB0.out.drew
    generalize W.drew = wd at HBd
    go_wp2
    go_ret
    exact ⟨by rw [HF.out]; rfl, HBd.out⟩
  · have hf : decide (x.id = y.id) = false := decide_eq_false hne
    have hff : fitsB x y = ((famS x.x.h).toList == (famS y.x.h).toList) := by
      rw [fitsB, hf]
      show decide (famS x.x.h = famS y.x.h) = _
      rw [Bool.eq_iff_iff]
      simp only [decide_eq_true_eq, beq_iff_eq]
      exact ⟨fun h => by rw [h], fun h => by
        have h2 : (famS x.x.h).data = (famS y.x.h).data := Array.toList_inj.1 (by simpa [ByteArray.toList_eq] using h)
        exact congrArg ByteArray.mk h2⟩
    have HF := Lib.hid hff
    have HNE := Lib.hid hf
    clear hff hf hne
    have hSX : HoldB W.drew w.heap.size x ∧ HoldB W.drew (w.heap.size + 1) y := ⟨HCX.out, HCY.out⟩
    have HXd : Hid (x.x.At ok W.drew) := Lib.hid (HX.out.below HB0.out.drew)
    have HYd : Hid (y.x.At ok W.drew) := Lib.hid (HY.out.below HB0.out.drew)
    have hz : w.heap.size + 1 < W.drew.heap.size := (World.block_lt_of_cell? W _ (HCY.out 0 _ (List.getElem?_eq_getElem (by rw [LB.cells_length]; decide))))
    have HSX := Lib.hid hSX
    clear hSX
    refine st_ (S := (fun w' => HoldB w' w.heap.size x ∧ HoldB w' (w.heap.size + 1) y)) 15 (bt 0 15) (by kernel_rfl) rfl (by rfl) HSX.out (fun hHeld => ?_)
    refine tk_ 0 (some 5) (bt 1 14) (v := ?_) (a' := ?_) rfl rfl (by kernel_rfl) (fun _ _ _ h => h) (yieldsIf_run rfl ?_) hHeld ?_ ?_
    rotate_left
    · intro w'
      go_simp
      with_reducible rfl
    rotate_left
    · simp only [Act.put, List.setIfInBounds_toArray, List.set_cons_zero, List.set_cons_succ]
      rfl
    refine tk_ 1 (some 6) (bt 2 13) rfl rfl (by kernel_rfl) (fun _ _ _ h => h) (yieldsIf_load rfl 66 (.tmp 5) rfl w.heap.size 0 rfl (idc x.id) _ (fun w' h => h.1.id) Tryz.underlying66 rfl (by rw [idc_length]; exact id_size)) hHeld (a' := ?_) ?_ ?_
    rotate_left
    · simp only [Act.put, List.setIfInBounds_toArray, List.set_cons_zero, List.set_cons_succ]
      rfl
    refine tk_ 2 (some 7) (bt 3 12) (v := ?_) (a' := ?_) rfl rfl (by kernel_rfl) (fun _ _ _ h => h) (yieldsIf_run rfl ?_) hHeld ?_ ?_
    rotate_left
    · intro w'
      go_simp
      with_reducible rfl
    rotate_left
    · simp only [Act.put, List.setIfInBounds_toArray, List.set_cons_zero, List.set_cons_succ]
      rfl
    refine tk_ 3 (some 8) (bt 4 11) rfl rfl (by kernel_rfl) (fun _ _ _ h => h) (yieldsIf_load rfl 66 (.tmp 7) rfl (w.heap.size + 1) 0 rfl (idc y.id) _ (fun w' h => h.2.id) Tryz.underlying66 rfl (by rw [idc_length]; exact id_size)) hHeld (a' := ?_) ?_ ?_
    rotate_left
    · simp only [Act.put, List.setIfInBounds_toArray, List.set_cons_zero, List.set_cons_succ]
      rfl
    refine tk_ 4 (some 9) (bt 5 10) rfl rfl (by kernel_rfl) (fun _ _ _ h => h) (yieldsIf_run (v := .bool true) rfl fun _ => (exec_neq_id rfl (.tmp 6) (.tmp 8) _ rfl x.id y.id rfl rfl).trans (by rw [HNE.out]; rfl)) hHeld (a' := ?_) ?_ ?_
    rotate_left
    · simp only [Act.put, List.setIfInBounds_toArray, List.set_cons_zero, List.set_cons_succ]
      rfl
    refine tk_ 5 (some 10) (bt 6 9) (v := ?_) (a' := ?_) rfl rfl (by kernel_rfl) (fun _ _ _ h => h) (yieldsIf_run rfl ?_) hHeld ?_ ?_
    rotate_left
    · intro w'
      go_simp
      with_reducible rfl
    rotate_left
    · simp only [Act.put, List.setIfInBounds_toArray, List.set_cons_zero, List.set_cons_succ]
      rfl
    refine tk_ 6 (some 11) (bt 7 8) (v := ?_) (a' := ?_) rfl rfl (by kernel_rfl) (fun _ _ _ h => h) (yieldsIf_run rfl ?_) hHeld ?_ ?_
    rotate_left
    · intro w'
      go_simp
      with_reducible rfl
    rotate_left
    · simp only [Act.put, List.setIfInBounds_toArray, List.set_cons_zero, List.set_cons_succ]
      rfl
    refine tk_ 7 (some 12) (bt 8 7) rfl rfl (by kernel_rfl) (fun _ _ _ h => h) (yieldsIf_load rfl 41 (.tmp 11) rfl w.heap.size 32 rfl x.x.cells _ (fun w' h => h.1.hdr) Tryz.underlying41 rfl hdr_size) hHeld (a' := ?_) ?_ ?_
    rotate_left
    · simp only [Act.put, List.setIfInBounds_toArray, List.set_cons_zero, List.set_cons_succ]
      rfl
    refine tk_ 9 (some 14) #[true, true, true, true, true, true, true, true, false, true, false, false, false, false, false] (v := ?_) (a' := ?_) rfl rfl (by kernel_rfl) (fun _ _ _ h => h) (yieldsIf_run rfl ?_) hHeld ?_ ?_
    rotate_left
    · intro w'
      go_simp
      with_reducible rfl
    rotate_left
    · simp only [Act.put, List.setIfInBounds_toArray, List.set_cons_zero, List.set_cons_succ]
      rfl
    refine tk_ 10 (some 15) #[true, true, true, true, true, true, true, true, false, true, true, false, false, false, false] rfl rfl (by kernel_rfl) (fun _ _ _ h => h) (yieldsIf_load rfl 41 (.tmp 14) rfl (w.heap.size + 1) 32 rfl y.x.cells _ (fun w' h => h.2.hdr) Tryz.underlying41 rfl hdr_size) hHeld (a' := ?_) ?_ ?_
    rotate_left
    · simp only [Act.put, List.setIfInBounds_toArray, List.set_cons_zero, List.set_cons_succ]
      rfl
    refine call_ 8 (some 13) (bt 11 4) rfl rfl (by kernel_rfl) rfl 135 _ (by kernel_rfl) (family_any _ x.x ok HXd.out okx ndx) ?_
    rintro e w1 ⟨rfl, hb1⟩
    have hB1 : Below w.heap.size w w1 := HB0.out.drew.trans (hb1.mono HB0.out.size)
    have hz1 : w.heap.size + 1 < w1.heap.size := Nat.lt_of_lt_of_le hz hb1.size
    refine ⟨_, rfl, ⟨hHeld.1.below hb1 (Nat.lt_of_succ_lt hz), hHeld.2.below hb1 hz⟩, fun hHeld => ⟨?_, ?_, ?_⟩⟩
    rotate_left
    · simp only [Act.put, List.setIfInBounds_toArray, List.set_cons_zero, List.set_cons_succ]
      rfl
    refine call_ 11 (some 16) (bt 12 3) rfl rfl (by kernel_rfl) rfl 135 _ (by kernel_rfl) (family_any _ y.x ok (HY.out.below hB1) oky ndy) ?_
    rintro e w2 ⟨rfl, hb2⟩
    have hB2 : Below w.heap.size w w2 := hB1.trans (hb2.mono hB1.size)
    refine ⟨_, rfl, ⟨hHeld.1.below hb2 (Nat.lt_of_succ_lt hz1), hHeld.2.below hb2 hz1⟩, fun hHeld => ⟨?_, ?_, ?_⟩⟩
    rotate_left
    · simp only [Act.put, List.setIfInBounds_toArray, List.set_cons_zero, List.set_cons_succ]
      rfl
    refine tk_ 12 (some 17) (bt 13 2) rfl rfl (by kernel_rfl) (fun _ _ _ h => h) (yieldsIf_run (v := .bool ((famS x.x.h).toList == (famS y.x.h).toList)) rfl fun _ => rfl) hHeld (a' := ?_) ?_ ?_
    rotate_left
    · simp only [Act.put, List.setIfInBounds_toArray, List.set_cons_zero, List.set_cons_succ]
      rfl
    refine tk_ 13 (some 18) (bt 14 1) (v := ?_) (a' := ?_) rfl rfl (by kernel_rfl) (fun _ _ _ h => h) (yieldsIf_run rfl ?_) hHeld ?_ ?_
    rotate_left
    · intro w'
      go_simp
      with_reducible rfl
    rotate_left
    · simp only [Act.put, List.setIfInBounds_toArray, List.set_cons_zero, List.set_cons_succ]
      rfl
    refine tk_ 14 (some 4) (bt 15 0) (v := ?_) (a' := ?_) rfl rfl (by kernel_rfl) (fun _ _ _ h => h) (yieldsIf_run rfl ?_) hHeld ?_ ?_
    rotate_left
    · intro w'
      go_simp
      with_reducible rfl
    rotate_left
    · simp only [Act.put, List.setIfInBounds_toArray, List.set_cons_zero, List.set_cons_succ]
      rfl
    refine wpAnyH_done (by kernel_rfl) ?_ _
    change Exit.then _ _ _ _ _
    go_wp2
    go_ret
    exact ⟨by rw [HF.out]; rfl, hB2⟩
end Go.Proofs.YtcohdfkdhdhegaaGreatDoor
namespace Go.Proofs.YtcohdfkdhdhegaaGreatDoor

/-- How many of the first i have a miner. -/
def minerC (zs : List LB) (i : Nat) (m : Int) : Nat := ((zs.take i).filter fun b => decide (b.x.h.miner = m)).length
theorem minerC_le (zs : List LB) (i : Nat) (m : Int) : minerC zs i m ≤ i := by
  unfold minerC
  exact Nat.le_trans (List.length_filter_le _ _) (List.length_take_le _ _)
theorem minerC_succ (zs : List LB) (i : Nat) (x : LB) (hx : zs[i]? = some x) (m : Int) : minerC zs (i + 1) m = if m = x.x.h.miner then minerC zs i m + 1 else minerC zs i m := by
  unfold minerC
  rw [List.take_add_one, hx, List.filter_append]
  by_cases h : m = x.x.h.miner
  · subst h; simp
  · rw [if_neg h]; simp; exact fun e => h (Eq.symm e)
def fits? (a b : Option LB) : Bool := match a, b with | some a, some b => fitsB a b | _, _ => false
/-- The first i are good. -/
def goodN (zs : List LB) : Nat → Bool
  | 0 => decide (0 < zs.length)
  | i + 1 => goodN zs i && (match zs[i]? with | some x => decide (minerC zs (i + 1) x.x.h.miner = 1) | none => false) && (decide (i = 0) || fits? zs[i - 1]? zs[i]?)
theorem goodN_off {zs : List LB} {i : Nat} (h : goodN zs i = false) : goodN zs (i + 1) = false := by simp [goodN, h]
theorem goodN_twice {zs : List LB} {i : Nat} {x : LB} (hx : zs[i]? = some x) (h : minerC zs (i + 1) x.x.h.miner ≠ 1) : goodN zs (i + 1) = false := by simp [goodN, hx, h]
theorem goodN_first {zs : List LB} {x : LB} (hg : goodN zs 0 = true) (hx : zs[0]? = some x) (h : minerC zs (0 + 1) x.x.h.miner = 1) : goodN zs (0 + 1) = true := by
  rw [goodN, hg, hx]
  simp only [Bool.true_and, decide_true, Bool.true_or, Bool.and_true, decide_eq_true_eq]
  exact h
theorem goodN_next {zs : List LB} {p : Nat} {x y : LB} (hg : goodN zs (p + 1) = true) (hx : zs[p + 1]? = some x) (hy : zs[p]? = some y) (h : minerC zs (p + 1 + 1) x.x.h.miner = 1) : goodN zs (p + 1 + 1) = fitsB y x := by
  rw [goodN, hg, hx]
  simp [h, hy, fits?]
def goodB (zs : List LB) : Bool := goodN zs zs.length
end Go.Proofs.YtcohdfkdhdhegaaGreatDoor
namespace Go.Proofs.YtcohdfkdhdhegaaGreatDoor
open Go.RowKit Go.Maps

theorem lawInt : Keyed Tryz.prog 3 := int_keyed Tryz.underlying3
theorem zeroInt (w : World) : (zeroValue 3).run Tryz.prog w = .ok (.int .i64 0) w := by kernel_rfl
theorem i64_wf {x : Int} (h0 : -9223372036854775808 ≤ x) (h1 : x ≤ 9223372036854775807) : (Lit.int .i64 x).wf = true := WalkArith.wf_i64 ⟨h0, h1⟩

/-- A map that answers f. -/
def MapI (w : World) (b n : Nat) (f : Int → Int) : Prop :=
  ∃ D : DataW Unit, w.ownsMap Tryz.prog 3 (plainElem Tryz.prog 3) b n D ∧ ∀ x, D.atKey (.int .i64 x) (.lit (.int .i64 0)) = .lit (.int .i64 (f x))
section
variable {w w' : World} {b n : Nat} {f : Int → Int}
theorem MapI.made (w : World) : MapI (w.alloc (.map #[] 0)) w.heap.size 0 fun _ => 0 := ⟨.map [], World.ownsMap_made _ _ _ _, fun _ => rfl⟩
theorem MapI.lt (h : MapI w b n f) : b < w.heap.size := h.elim fun _ h => h.1.lt
theorem MapI.kept {row : Option Nat} (h : MapI w b n f) (hg : w.grownBy w' row) (hne : some b ≠ row) : MapI w' b n f := h.elim fun D h => ⟨D, h.1.kept hg hne, h.2⟩
theorem MapI.below (h : MapI w b n f) (hb : Below w.heap.size w w') : MapI w' b n f := h.kept (row := none) ⟨hb.os, hb.tape, hb.output, hb.size, fun i hi _ => hb.block i hi⟩ (by simp)
theorem MapI.alloc (h : MapI w b n f) (o : Obj) : MapI (w.alloc o) b n f := h.elim fun D h => ⟨D, h.1.alloc o, h.2⟩
theorem MapI.drew (h : MapI w b n f) : MapI w.drew b n f := h
theorem MapI.lookup (h : MapI w b n f) (x : Int) (h0 : -9223372036854775808 ≤ x) (h1 : x ≤ 9223372036854775807) : (Instr.lookup 205 (.map (some b)) (.int .i64 x) false).run Tryz.prog w = .ok (.int .i64 (f x)) w := by
  obtain ⟨D, hD, hf⟩ := h
  obtain ⟨c, hr, hc, -⟩ := hD.lookup_int lawInt Tryz.underlying205 Tryz.underlying3 (zeroInt w) (keyOf_int_mk Tryz.underlying3 (i64_wf h0 h1))
  have he := (hf x).symm.trans hc
  have hc : c = f x := by
    have h2 := DataW.lit.inj he
    exact (Lit.int.inj h2).2.symm
  rw [hc] at hr
  exact hr
theorem MapI.update (h : MapI w b n f) (x v : Int) (h0 : -9223372036854775808 ≤ x) (h1 : x ≤ 9223372036854775807) (hv0 : -9223372036854775808 ≤ v) (hv1 : v ≤ 9223372036854775807) (hn : n < 1099511627776) :
    ∃ w', (Instr.mapUpdate 205 (.map (some b)) (.int .i64 x) (.int .i64 v)).run Tryz.prog w = .ok () w' ∧ MapI w' b (n + 1) (fun y => if y = x then v else f y) ∧ w.grownBy w' (some b) := by
  obtain ⟨D, hD, hf⟩ := h
  obtain ⟨w', hr, ho, hg⟩ := hD.update lawInt Tryz.underlying205 (by unfold maxLen; omega) (keyOf_int_mk Tryz.underlying3 (i64_wf h0 h1)) (plainElem_int Tryz.underlying3 (i64_wf hv0 hv1))
  have hM : IsMap D := by obtain ⟨es, clock, _, _, _, rfl⟩ := hD; exact ⟨_, rfl⟩
  refine ⟨w', hr, ⟨_, ho, fun y => ?_⟩, hg⟩
  show _ = DataW.lit (.int .i64 (if y = x then v else f y))
  by_cases e : y = x
  · subst e
    rw [if_pos rfl, atKey_put_same hM (by trivial)]
  · rw [if_neg e, atKey_put_other (by intro h; injection h with _ h; exact e h)]
    exact hf y
variable {ops : Array Oper} {rest : List Oper} {o : Oper} {a : Act} {Q : Exit → Act → World → Prop}
theorem wpl_lookupI (h : MapI w b n f) (hg : o.guard = none) (m x : Operand) (ho : o.op = .lookup 205 m x false) (hm : a.eval m = .map (some b)) (k : Int) (hx : a.eval x = .int .i64 k) (h0 : -9223372036854775808 ≤ k) (h1 : k ≤ 9223372036854775807)
    (hK : wpList Tryz.prog ops Q rest (a.put o.dst (.int .i64 (f k))) w) : wpList Tryz.prog ops Q (o :: rest) a w :=
  wpList_plain hg fun K' hK' => by
    unfold Oper.wp execOp
    simp only [ho, hm, hx, Sem.run_bind, h.lookup k h0 h1, Result.andThen_ok, Sem.run_pure]
    exact hK' _ _ hK
theorem wpl_updateI (h : MapI w b n f) (hg : o.guard = none) (m x v : Operand) (ho : o.op = .mapUpdate 205 m x v) (hm : a.eval m = .map (some b)) (k c : Int) (hx : a.eval x = .int .i64 k) (hv : a.eval v = .int .i64 c) (h0 : -9223372036854775808 ≤ k) (h1 : k ≤ 9223372036854775807) (hv0 : -9223372036854775808 ≤ c) (hv1 : c ≤ 9223372036854775807) (hn : n < 1099511627776)
    (hK : ∀ w', MapI w' b (n + 1) (fun y => if y = k then c else f y) → w.grownBy w' (some b) → wpList Tryz.prog ops Q rest (a.put o.dst undef) w') : wpList Tryz.prog ops Q (o :: rest) a w :=
  wpList_plain hg fun K' hK' => by
    obtain ⟨w', hr, r1, r2⟩ := h.update k c h0 h1 hv0 hv1 hn
    unfold Oper.wp execOp
    simp only [ho, hm, hx, hv, Sem.run_bind, hr, Result.andThen_ok, Sem.run_pure]
    exact hK' _ _ (hK w' r1 r2)
/-- The same where orders are drawn. -/
theorem exec_lookupI (h : MapI w b n f) (m x : Operand) (ho : o.op = .lookup 205 m x false) (hm : a.eval m = .map (some b)) (k : Int) (hx : a.eval x = .int .i64 k) (h0 : -9223372036854775808 ≤ k) (h1 : k ≤ 9223372036854775807) :
    (execOp a.eval o).run Tryz.prog w = .ok (.value (.int .i64 (f k))) w := by
  unfold execOp
  simp only [ho, hm, hx, Sem.run_bind, h.lookup k h0 h1, Result.andThen_ok, Sem.run_pure]
end

section
variable {P : Program}
theorem results_row_tmp {fn : Func} {p u : Tmp} {ty : TypeId} (h : fn.results = #[.cell p ty, .tmp u]) (tmps : Array Value) (w : World) (g : Nat) (t : TypeId) (cs : Array Value) (fr : Nat × Nat) (d : TypeDesc)
    (hp : tmps.getD p undef = .pointer (some ⟨g, 0, none⟩)) (hg : w.heap[g]? = some (.cells cs t fr))
    (hu : P.underlying ty = some d) (hd : (match d with | .struct _ | .array _ _ => true | _ => false) = true) (hi : (P.info? ty).map (·.size) = some cs.size) (v : Value) (hv : tmps.getD u undef = v) :
    (results fn tmps).run P w = .ok (.tuple #[.agg cs, v]) w := by
  have hp' : tmps[p]?.getD undef = .pointer (some ⟨g, 0, none⟩) := by simpa using hp
  have hv' : tmps[u]?.getD undef = v := by simpa using hv
  simp [results, h, hp', hv', asAddr, run_loadVar_row w g t ty cs fr d hg hu hd hi]
end
end Go.Proofs.YtcohdfkdhdhegaaGreatDoor
