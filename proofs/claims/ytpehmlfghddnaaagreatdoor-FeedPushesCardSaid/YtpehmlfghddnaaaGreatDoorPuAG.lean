/- slices.Clone, SortFunc, ContainsFunc of blocks, laid at this translation's own numbers. Blocks compared, cloned, sorted; tipset.fits. Regions that draw their order, by hand: more laws. tipset.fits. Which blocks are a tipset, in plain words. No program in sight. -/
import Derived.Test.YtpehmlfghddnaaaGreatDoorPuAC
import Derived.Test.YtpehmlfghddnaaaGreatDoorPuAF
import Derived.Test.YtpehmlfghddnaaaGreatDoorProg
import Derived.Shelf.SlicesE.Clone
import Derived.Shelf.SlSortCmp.NoneTotal
import Derived.Shelf.SlicesQ.IndexFunc
namespace Go.Proofs.YtpehmlfghddnaaaGreatDoor
open Go.Shelf
def lcB_ren : Go.Shelf.Ren := ⟨fun | 41 => 123 | n => n, fun | 22 => 25 | 23 => 53 | 4 => 4 | n => n, fun | n => n⟩
theorem lcB : Go.Proofs.SlLaysE0.n41 Tryz.prog lcB_ren := {
  mixed := by kernel_rfl
  f41 := ⟨Tryz.f123.name, by decide, Tryz.func123.trans (congrArg some (by kernel_rfl))⟩
  t4 := Tryz.underlying4
  a4 := Tryz.isAgg4
  z4 := Tryz.sizeOf4
  v4 := Tryz.zeroValue4
  t22 := Tryz.underlying25
  a22 := Tryz.isAgg25
  z22 := Tryz.sizeOf25
  v22 := Tryz.zeroValue25 }
def lsB_ren : Go.Shelf.Ren := ⟨fun | 6 => 124 | 15 => 195 | 14 => 194 | 28 => 246 | 29 => 247 | 20 => 238 | 21 => 239 | 22 => 240 | 23 => 241 | 24 => 242 | 25 => 243 | 26 => 244 | 27 => 245 | 46 => 281 | 47 => 282 | 48 => 283 | 49 => 284 | 50 => 285 | 57 => 306 | n => n, fun | 22 => 25 | 24 => 53 | 25 => 173 | 3 => 3 | 39 => 110 | 0 => 0 | 53 => 241 | 55 => 31 | 4 => 4 | 46 => 302 | 45 => 301 | 50 => 306 | 5 => 5 | 9 => 9 | 66 => 334 | 70 => 337 | 76 => 352 | 77 => 353 | n => n, fun | n => n⟩
theorem lsB : Go.Proofs.SlLaysF0.n6 Tryz.prog lsB_ren := {
  mixed := by kernel_rfl
  f6 := ⟨Tryz.f124.name, by decide, Tryz.func124.trans (congrArg some (by kernel_rfl))⟩
  f14 := ⟨Tryz.f194.name, by decide, Tryz.func194.trans (congrArg some (by kernel_rfl))⟩
  f15 := Tryz.func195.trans (congrArg some (by kernel_rfl))
  f20 := ⟨Tryz.f238.name, by decide, Tryz.func238.trans (congrArg some (by kernel_rfl))⟩
  f21 := ⟨Tryz.f239.name, by decide, Tryz.func239.trans (congrArg some (by kernel_rfl))⟩
  f22 := ⟨Tryz.f240.name, by decide, Tryz.func240.trans (congrArg some (by kernel_rfl))⟩
  f23 := ⟨Tryz.f241.name, by decide, Tryz.func241.trans (congrArg some (by kernel_rfl))⟩
  f24 := ⟨Tryz.f242.name, by decide, Tryz.func242.trans (congrArg some (by kernel_rfl))⟩
  f25 := ⟨Tryz.f243.name, by decide, Tryz.func243.trans (congrArg some (by kernel_rfl))⟩
  f26 := ⟨Tryz.f244.name, by decide, Tryz.func244.trans (congrArg some (by kernel_rfl))⟩
  f27 := ⟨Tryz.f245.name, by decide, Tryz.func245.trans (congrArg some (by kernel_rfl))⟩
  f28 := Tryz.func246.trans (congrArg some (by kernel_rfl))
  f29 := Tryz.func247.trans (congrArg some (by kernel_rfl))
  f46 := ⟨Tryz.f281.name, by decide, Tryz.func281.trans (congrArg some (by kernel_rfl))⟩
  f47 := Tryz.func282.trans (congrArg some (by kernel_rfl))
  f48 := Tryz.func283.trans (congrArg some (by kernel_rfl))
  f49 := ⟨Tryz.f284.name, by decide, Tryz.func284.trans (congrArg some (by kernel_rfl))⟩
  f50 := ⟨Tryz.f285.name, by decide, Tryz.func285.trans (congrArg some (by kernel_rfl))⟩
  f57 := ⟨Tryz.f306.name, by decide, Tryz.func306.trans (congrArg some (by kernel_rfl))⟩
  t0 := Tryz.underlying0
  a0 := Tryz.isAgg0
  z0 := Tryz.sizeOf0
  v0 := Tryz.zeroValue0
  t3 := Tryz.underlying3
  a3 := Tryz.isAgg3
  z3 := Tryz.sizeOf3
  v3 := Tryz.zeroValue3
  t4 := Tryz.underlying4
  a4 := Tryz.isAgg4
  z4 := Tryz.sizeOf4
  v4 := Tryz.zeroValue4
  t5 := Tryz.underlying5
  a5 := Tryz.isAgg5
  z5 := Tryz.sizeOf5
  v5 := Tryz.zeroValue5
  t9 := Tryz.underlying9
  a9 := Tryz.isAgg9
  z9 := Tryz.sizeOf9
  v9 := Tryz.zeroValue9
  t22 := Tryz.underlying25
  a22 := Tryz.isAgg25
  z22 := Tryz.sizeOf25
  v22 := Tryz.zeroValue25
  t25 := Tryz.underlying173
  a25 := Tryz.isAgg173
  z25 := Tryz.sizeOf173
  v25 := Tryz.zeroValue173
  t39 := Tryz.underlying110
  a39 := Tryz.isAgg110
  z39 := Tryz.sizeOf110
  v39 := Tryz.zeroValue110
  t45 := Tryz.underlying301
  a45 := Tryz.isAgg301
  z45 := Tryz.sizeOf301
  v45 := Tryz.zeroValue301
  t46 := Tryz.underlying302
  a46 := Tryz.isAgg302
  z46 := Tryz.sizeOf302
  v46 := Tryz.zeroValue302
  t50 := Tryz.underlying306
  a50 := Tryz.isAgg306
  z50 := Tryz.sizeOf306
  v50 := Tryz.zeroValue306
  t53 := Tryz.underlying241
  a53 := Tryz.isAgg241
  z53 := Tryz.sizeOf241
  v53 := Tryz.zeroValue241
  t55 := Tryz.underlying31
  a55 := Tryz.isAgg31
  z55 := Tryz.sizeOf31
  v55 := Tryz.zeroValue31
  t66 := Tryz.underlying334
  a66 := Tryz.isAgg334
  z66 := Tryz.sizeOf334
  v66 := Tryz.zeroValue334
  t70 := Tryz.underlying337
  a70 := Tryz.isAgg337
  z70 := Tryz.sizeOf337
  v70 := Tryz.zeroValue337
  t76 := Tryz.underlying352
  a76 := Tryz.isAgg352
  z76 := Tryz.sizeOf352
  v76 := Tryz.zeroValue352
  t77 := Tryz.underlying353
  a77 := Tryz.isAgg353
  z77 := Tryz.sizeOf353
  v77 := Tryz.zeroValue353 }
end Go.Proofs.YtpehmlfghddnaaaGreatDoor
namespace Go.Proofs.YtpehmlfghddnaaaGreatDoor
open Go.RowKit

theorem LB.cells_id (b : LB) (j : Nat) (u : Value) (h : (bytesC b.id.1)[j]? = some u) : b.cells[j]? = some u := by
  rw [LB.cells, idc, List.getElem?_append_left (List.getElem?_eq_some_iff.1 h).1]
  exact h
theorem compare_blocks (w : World) (x y : LB) (n : Nat) : Calls Tryz.prog 126 #[.slice (some ⟨w.heap.size, 0, none⟩) 32 32, .slice (some ⟨w.heap.size + 1, 0, none⟩) 32 32] (((w.alloc (.cells x.cells.toArray 53)).alloc (.cells y.cells.toArray 53)).drewN n) fun e w' => e = .returned (.int .i64 (cmpI x.id y.id)) ∧ ((w.alloc (.cells x.cells.toArray 53)).alloc (.cells y.cells.toArray 53)).drewN n = w' := by
  have hx : BytesAt (((w.alloc (.cells x.cells.toArray 53)).alloc (.cells y.cells.toArray 53)).drewN n) w.heap.size 0 x.id.1 := fun j u hu => by
    rw [Nat.zero_add]
    exact cell_block (fr := (0, 0)) (T := 53) (by show ((w.alloc _).alloc _).heap[w.heap.size]? = _; rw [heap_alloc_if, if_neg (by simp), heap_alloc_if, if_pos rfl]) (by simpa using x.cells_id j u hu)
  have hy : BytesAt (((w.alloc (.cells x.cells.toArray 53)).alloc (.cells y.cells.toArray 53)).drewN n) (w.heap.size + 1) 0 y.id.1 := fun j u hu => by
    rw [Nat.zero_add]
    exact cell_block (fr := (0, 0)) (T := 53) (by show ((w.alloc _).alloc _).heap[w.heap.size + 1]? = _; rw [heap_alloc_if, if_pos (by simp)]) (by simpa using y.cells_id j u hu)
  have hc := bytesCompare_any _ w.heap.size 0 32 (w.heap.size + 1) 0 32 x.id.1 y.id.1 hx hy
  rw [x.id.2, y.id.2] at hc
  exact hc

def cmpL (x y : LB) : Int := cmpI x.id y.id
theorem swo_cmpL : Sort.SWO (ltOf cmpL) := ⟨fun x => swo_cmpI.irrefl x.id, fun x y z => swo_cmpI.trans x.id y.id z.id, fun x y z => swo_cmpI.ntrans x.id y.id z.id⟩

set_option maxRecDepth 100000 in
set_option maxHeartbeats 1000000 in
theorem blockCompare_any (w : World) (x y : LB) :
    Calls Tryz.prog 125 #[.agg x.cells.toArray, .agg y.cells.toArray] w fun e w' => e = .returned (.int .i64 (cmpL x y)) ∧ More w w' := by
  go_enter Tryz.func125, Tryz.ntmps125
  go_wp2
  have HC := Lib.hid (fun n => compare_blocks w x y n)
  go_quiet ((go_at_call 126; exact quiet_left (HC.out _)))
  go_wp2
  go_ret
  exact ⟨rfl, More.two _ _ _ _⟩

theorem block_info : (Tryz.prog.info? 53).map (fun i => (i.zero, i.size, i.bytes)) = some (some (.agg (LB.cells ⟨⟨⟨(List.replicate 32 0).toArray⟩, by rfl⟩, ⟨⟨0, 0, ⟨#[]⟩, 0, 0, [], 0⟩, none, 0⟩⟩).toArray), lbE.k, 112) := by kernel_rfl
theorem clone_blocks (w : World) (v : Value) (l : List LB) (ok : Nat → Prop) (hl : Sl lbE ok w v l) (hlen : l.length ≤ 4294967296) :
    Calls Tryz.prog 123 #[v] w fun e w' => ∃ v', e = .returned v' ∧ w'.ownsRow w.heap.size 53 39 v' l.length (lbE.flat l) ∧ Below w.heap.size w w' :=
  clone_gen lcB _ 112 block_info (by simp only [Value.cells, List.size_toArray, LB.cells_length]; rfl) Tryz.sizeOf53 hl (by omega) (by omega)
theorem sort_blocks (w : World) (v : Value) (l : List LB) (base : Nat) (T : TypeId) (h : w.ownsRow base T 39 v l.length (lbE.flat l)) (hlen : l.length ≤ 4294967296) :
    Calls Tryz.prog 124 #[v, .func (.func 125) #[] #[]] w fun e w' => e = .returned (.tuple #[]) ∧ ∃ zs, zs.Perm l ∧ Risen cmpL zs ∧ w'.ownsRow base T 39 v l.length (lbE.flat zs) ∧ w.grownBy w' v.ownBlock :=
  sort_gen (E := lbE) lsB Tryz.isAgg53 Tryz.sizeOf53 cmpL swo_cmpL 125 #[] (enters_of Tryz.func125 (by kernel_rfl) rfl) blockCompare_any h (by omega)
end Go.Proofs.YtpehmlfghddnaaaGreatDoor
namespace Go.Proofs.YtpehmlfghddnaaaGreatDoor
open Go.RowKit

section
variable {P : Program} {ops : Array Oper} {Q : Exit → Act → World → Prop} {md : Region.Mode} {S : World → Prop}
/-- An operation that yields in whatever world. -/
theorem yieldsIf_run {o : Oper} {a : Act} {v : Value} (hw : Region.wanted o (yielded ops a.tmps) = true) (h : ∀ w, (execOp a.eval o).run P w = .ok (.value v) w) : YieldsIf P ops S o v a := .inl ⟨hw, fun w _ => h w⟩
theorem run_loadVar_cell (w : World) (ty : TypeId) (ad : Addr) (v : Value) (d : TypeDesc) (hc : w.cell? ad = some v) (hu : P.underlying ty = some d) (hd : (match d with | .struct _ | .array _ _ => true | _ => false) = false) : (loadVar ty ad).run P w = .ok v w := by
  have hagg : (isAgg ty).run P w = .ok false w := by
    unfold isAgg
    rw [Sem.run_bind, run_underlying hu w]
    cases d <;> simp_all
  simp [loadVar, Sem.run_bind, hagg, hc]
/-- A load of one protected cell. -/
theorem yieldsIf_cell {o : Oper} {a : Act} (hw : Region.wanted o (yielded ops a.tmps) = true) (ty : TypeId) (x : Operand) (ho : o.op = .load ty x) (ad : Addr) (hx : a.eval x = .pointer (some ad)) (v : Value) (d : TypeDesc)
    (hc : ∀ w, S w → w.cell? ad = some v) (hu : P.underlying ty = some d) (hd : (match d with | .struct _ | .array _ _ => true | _ => false) = false) : YieldsIf P ops S o v a :=
  .inl ⟨hw, fun w hS => by
    unfold execOp
    simp only [ho, hx, Instr.loadAt, Instr.sureAddr, Sem.run_bind, Sem.run_pure, Result.andThen_ok, run_loadVar_cell w ty ad v d (hc w hS) hu hd]⟩
theorem yieldsIf_of {o : Oper} {a : Act} {v : Value} (hw : Region.wanted o (yielded ops a.tmps) = true) (h : ∀ w, S w → (execOp a.eval o).run P w = .ok (.value v) w) : YieldsIf P ops S o v a := .inl ⟨hw, h⟩
theorem yieldsIf_off {o : Oper} {a : Act} (hw : Region.wanted o (yielded ops a.tmps) = false) : YieldsIf P ops S o undef a := .inr ⟨hw, rfl⟩
/-- The beginning: how many operations, which have come up. -/
theorem st_ (n : Nat) (l : Array Bool) {id : Nat} {a : Act} {w : World} (hm : P.follows .mixedOrders = true) (hn : ops.size = n) (hl : Array.replicate n false = l) (hS : S w.drew)
    (h : S w.drew → wpAnyH P .any ops Q S n l a w.drew) : (Code.region id ops true).wp P Q a w := by
  subst hn
  subst hl
  exact wp_region_held_drew hm hS h
def tkB (md : Region.Mode) (ops : Array Oper) (l l' : Array Bool) (i : Nat) : Bool := Region.noSelect ops && Region.free md ops l i && (Region.ready md ops l).contains i && (l.setIfInBounds i true == l')
/-- An operation is taken first. -/
theorem tk_ (i : Nat) (N : Option Tmp) (l' : Array Bool) {oi : Oper} {v : Value} {fuel : Nat} {l : Array Bool} {a : Act} {w : World} (hi : ops[i]? = some oi) (hN : oi.dst = N) (hc : tkB md ops l l' i = true)
    (hQ : ∀ c a w, Q (.panic c) (a.put oi.dst v) w → Q (.panic c) a w) (hy : YieldsIf P ops S oi v a) (hS : S w) {a' : Act} (ha : a.put N v = a')
    (h : wpAnyH P md ops Q S fuel l' a' w) : wpAnyH P md ops Q S (fuel + 1) l a w := by
  subst ha
  subst hN
  simp only [tkB, Bool.and_eq_true, beq_iff_eq] at hc
  obtain ⟨⟨⟨h1, h2⟩, h3⟩, h4⟩ := hc
  subst h4
  exact wpAnyH_take hi h1 h2 h3 hQ hy hS h
def oneB (md : Region.Mode) (ops : Array Oper) (l l' : Array Bool) (i : Nat) : Bool := decide (Region.ready md ops l = [i]) && (l.setIfInBounds i true == l')
/-- One alone may come up: a call. -/
theorem call_ (i : Nat) (N : Option Tmp) (l' : Array Bool) {oi : Oper} {fuel : Nat} {l : Array Bool} {a : Act} {w : World} (hi : ops[i]? = some oi) (hN : oi.dst = N) (hc : oneB md ops l l' i = true)
    (hw : Region.wanted oi (yielded ops a.tmps) = true) (f : FuncId) (args : Array Value) (hx : (execOp a.eval oi).run P w = .ok (.enter f args) w) {R : Ending → World → Prop} (hcall : Calls P f args w R)
    (hK : ∀ e w', R e w' → ∃ v, e = .returned v ∧ S w' ∧ (S w' → ∃ a', a.put N v = a' ∧ wpAnyH P md ops Q S fuel l' a' w')) : wpAnyH P md ops Q S (fuel + 1) l a w := by
  subst hN
  simp only [oneB, Bool.and_eq_true, beq_iff_eq, decide_eq_true_eq] at hc
  obtain ⟨h1, h2⟩ := hc
  subst h2
  refine wpAnyH_all h1 (by simp) fun j hj => ?_
  have : j = i := by simpa using hj
  subst this
  refine wpOp_call hi hw f args hx hcall fun e w' hr => ?_
  obtain ⟨v, he, hS, hk⟩ := hK e w' hr
  obtain ⟨a', ha, hk⟩ := hk hS
  subst ha
  exact ⟨v, he, hS, hk⟩
/-- .. one that yields a value and turns the world. -/
theorem val_ (i : Nat) (N : Option Tmp) (l' : Array Bool) {oi : Oper} {fuel : Nat} {l : Array Bool} {a : Act} {w : World} (hi : ops[i]? = some oi) (hN : oi.dst = N) (hc : oneB md ops l l' i = true)
    (hw : Region.wanted oi (yielded ops a.tmps) = true) (v : Value) (w1 : World) (hx : (execOp a.eval oi).run P w = .ok (.value v) w1) (hS : S w1) {a' : Act} (ha : a.put N v = a')
    (h : wpAnyH P md ops Q S fuel l' a' w1) : wpAnyH P md ops Q S (fuel + 1) l a w := by
  subst hN
  subst ha
  simp only [oneB, Bool.and_eq_true, beq_iff_eq, decide_eq_true_eq] at hc
  obtain ⟨h1, h2⟩ := hc
  subst h2
  refine wpAnyH_all h1 (by simp) fun j hj => ?_
  have : j = i := by simpa using hj
  subst this
  exact wpOp_value hi hw v w1 hx ⟨hS, h⟩
/-- .. a store. -/
theorem sk_ (i : Nat) (l' : Array Bool) {oi : Oper} {fuel : Nat} {l : Array Bool} {a : Act} {w : World} (hi : ops[i]? = some oi) (hN : oi.dst = none) (hc : oneB md ops l l' i = true)
    (hw : Region.wanted oi (yielded ops a.tmps) = true) (w1 : World) (hx : (execOp a.eval oi).run P w = .ok .skip w1) (hS : S w1)
    (h : wpAnyH P md ops Q S fuel l' a w1) : wpAnyH P md ops Q S (fuel + 1) l a w := by
  simp only [oneB, Bool.and_eq_true, beq_iff_eq, decide_eq_true_eq] at hc
  obtain ⟨h1, h2⟩ := hc
  subst h2
  refine wpAnyH_all h1 (by simp) fun j hj => ?_
  have : j = i := by simpa using hj
  subst this
  exact wpOp_skip hi hw w1 hx (by rw [hN]; exact ⟨hS, h⟩)
end
theorem exec_neq_id {o : Oper} {a : Act} {w : World} (_hgd : o.op = o.op) (x y : Operand) (T : TypeId) (ho : o.op = .binOp .neq 50 x y T) (i j : ID) (hx : a.eval x = .agg (idc i).toArray) (hy : a.eval y = .agg (idc j).toArray) :
    (execOp a.eval o).run Tryz.prog w = .ok (.value (.bool (!decide (i = j)))) w := by
  unfold execOp
  simp only [ho, hx, hy, Sem.run_bind, run_eqGuard_agg w .neq _ _ _ _ _ guard_id, run_neq_id, Result.andThen_ok, Sem.run_pure]
end Go.Proofs.YtpehmlfghddnaaaGreatDoor
namespace Go.Proofs.YtpehmlfghddnaaaGreatDoor
open Go.RowKit

/-- A family, as a text. -/
def famS (h : Hdr) : ByteArray := ⟨(famB h).toArray⟩
def fitsB (x y : LB) : Bool := !decide (x.id = y.id) && decide (famS x.x.h = famS y.x.h)

theorem LB.cells_hdr (b : LB) (j : Nat) (u : Value) (h : b.x.cells[j]? = some u) : b.cells[32 + j]? = some u := by
  rw [LB.cells, List.getElem?_append_right (by rw [idc_length]; omega), idc_length, show 32 + j - 32 = j by omega]
  exact h

/-- A block lies whole at the head of memory block b. -/
def HoldB (w : World) (b : Nat) (x : LB) : Prop := ∀ j u, x.cells[j]? = some u → w.cell? ⟨b, j, none⟩ = some u
theorem HoldB.id {w : World} {b : Nat} {x : LB} (h : HoldB w b x) : ∀ j u, (idc x.id)[j]? = some u → w.cell? ⟨b, 0 + j, none⟩ = some u := fun j u hu => by rw [Nat.zero_add]; exact h j u (x.cells_id j u hu)
theorem HoldB.hdr {w : World} {b : Nat} {x : LB} (h : HoldB w b x) : ∀ j u, x.x.cells[j]? = some u → w.cell? ⟨b, 32 + j, none⟩ = some u := fun j u hu => h _ u (x.cells_hdr j u hu)
theorem HoldB.below {w w' : World} {b B : Nat} {x : LB} (h : HoldB w b x) (hb : Below B w w') (hlt : b < B) : HoldB w' b x := fun j u hu => (hb.cell (p := ⟨b, j, none⟩) hlt).trans (h j u hu)

set_option maxRecDepth 100000 in
set_option maxHeartbeats 1000000 in
theorem fits_any (w : World) (x y : LB) (ok : Nat → Prop) (hx : x.x.At ok w) (hy : y.x.At ok w) (okx : x.x.h.Ok) (oky : y.x.h.Ok) (ndx : x.x.h.parents.Nodup) (ndy : y.x.h.parents.Nodup) :
    Calls Tryz.prog 127 #[.agg x.cells.toArray, .agg y.cells.toArray] w fun e w' => e = .returned (.bool (fitsB x y)) ∧ Below w.heap.size w w' := by
  have hB0 : Below w.heap.size w ((w.alloc (.cells x.cells.toArray 53)).alloc (.cells y.cells.toArray 53)) := ((Below.refl _ w).alloc (Nat.le_refl _) _).alloc (by simp) _
  have hcx : HoldB ((w.alloc (.cells x.cells.toArray 53)).alloc (.cells y.cells.toArray 53)) w.heap.size x := fun j u hu => cell_block (fr := (0, 0)) (T := 53) (by rw [heap_alloc_if, if_neg (by simp), heap_alloc_if, if_pos rfl]) (by simpa using hu)
  have hcy : HoldB ((w.alloc (.cells x.cells.toArray 53)).alloc (.cells y.cells.toArray 53)) (w.heap.size + 1) y := fun j u hu => cell_block (fr := (0, 0)) (T := 53) (by rw [heap_alloc_if, if_pos (by simp)]) (by simpa using hu)
  have HB0 := Lib.hid hB0
  have HX := Lib.hid hx
  have HY := Lib.hid hy
  have HCX := Lib.hid hcx
  have HCY := Lib.hid hcy
  clear hB0 hx hy hcx hcy
  go_enter Tryz.func127, Tryz.ntmps127
  go_wp2
  generalize (w.alloc (.cells x.cells.toArray 53)).alloc (.cells y.cells.toArray 53) = W at HB0 HCX HCY
  by_cases hne : x.id = y.id
  · have hf : fitsB x y = false := by simp [fitsB, hne]
    have HF := Lib.hid hf
    have HNE := Lib.hid hne
    clear hf hne
    have hSX : HoldB W.drew w.heap.size x ∧ HoldB W.drew (w.heap.size + 1) y := ⟨HCX.out, HCY.out⟩
    have HSX := Lib.hid hSX
    clear hSX
    refine st_ (S := (fun w' => HoldB w' w.heap.size x ∧ HoldB w' (w.heap.size + 1) y)) 15 #[false, false, false, false, false, false, false, false, false, false, false, false, false, false, false] (by kernel_rfl) rfl (by rfl) HSX.out (fun hHeld => ?_)
    refine tk_ 0 (some 5) #[true, false, false, false, false, false, false, false, false, false, false, false, false, false, false] (v := ?_) (a' := ?_) rfl rfl (by kernel_rfl) (fun _ _ _ h => h) (yieldsIf_run rfl ?_) hHeld ?_ ?_
    rotate_left
    · intro w'
      go_simp
      with_reducible rfl
    rotate_left
    · simp only [Act.put, List.setIfInBounds_toArray, List.set_cons_zero, List.set_cons_succ]
      rfl
    refine tk_ 1 (some 6) #[true, true, false, false, false, false, false, false, false, false, false, false, false, false, false] rfl rfl (by kernel_rfl) (fun _ _ _ h => h) (yieldsIf_load rfl 50 (.tmp 5) rfl w.heap.size 0 rfl (idc x.id) _ (fun w' h => h.1.id) Tryz.underlying50 rfl (by rw [idc_length]; exact id_size)) hHeld (a' := ?_) ?_ ?_
    rotate_left
    · simp only [Act.put, List.setIfInBounds_toArray, List.set_cons_zero, List.set_cons_succ]
      rfl
    refine tk_ 2 (some 7) #[true, true, true, false, false, false, false, false, false, false, false, false, false, false, false] (v := ?_) (a' := ?_) rfl rfl (by kernel_rfl) (fun _ _ _ h => h) (yieldsIf_run rfl ?_) hHeld ?_ ?_
    rotate_left
    · intro w'
      go_simp
      with_reducible rfl
    rotate_left
    · simp only [Act.put, List.setIfInBounds_toArray, List.set_cons_zero, List.set_cons_succ]
      rfl
    refine tk_ 3 (some 8) #[true, true, true, true, false, false, false, false, false, false, false, false, false, false, false] rfl rfl (by kernel_rfl) (fun _ _ _ h => h) (yieldsIf_load rfl 50 (.tmp 7) rfl (w.heap.size + 1) 0 rfl (idc y.id) _ (fun w' h => h.2.id) Tryz.underlying50 rfl (by rw [idc_length]; exact id_size)) hHeld (a' := ?_) ?_ ?_
    rotate_left
    · simp only [Act.put, List.setIfInBounds_toArray, List.set_cons_zero, List.set_cons_succ]
      rfl
    refine tk_ 4 (some 9) #[true, true, true, true, true, false, false, false, false, false, false, false, false, false, false] rfl rfl (by kernel_rfl) (fun _ _ _ h => h) (yieldsIf_run (v := .bool false) rfl fun _ => (exec_neq_id rfl (.tmp 6) (.tmp 8) _ rfl x.id y.id rfl rfl).trans (by rw [decide_eq_true HNE.out]; rfl)) hHeld (a' := ?_) ?_ ?_
    rotate_left
    · simp only [Act.put, List.setIfInBounds_toArray, List.set_cons_zero, List.set_cons_succ]
      rfl
    refine tk_ 5 (some 10) #[true, true, true, true, true, true, false, false, false, false, false, false, false, false, false] (v := ?_) (a' := ?_) rfl rfl (by kernel_rfl) (fun _ _ _ h => h) (yieldsIf_run rfl ?_) hHeld ?_ ?_
    rotate_left
    · intro w'
      go_simp
      with_reducible rfl
    rotate_left
    · simp only [Act.put, List.setIfInBounds_toArray, List.set_cons_zero, List.set_cons_succ]
      rfl
    refine tk_ 6 (some 11) #[true, true, true, true, true, true, true, false, false, false, false, false, false, false, false] rfl rfl (by kernel_rfl) (fun _ _ _ h => h) (yieldsIf_off rfl) hHeld (a' := ?_) ?_ ?_
    rotate_left
    · simp only [Act.put, List.setIfInBounds_toArray, List.set_cons_zero, List.set_cons_succ]
      rfl
    refine tk_ 7 (some 12) #[true, true, true, true, true, true, true, true, false, false, false, false, false, false, false] rfl rfl (by kernel_rfl) (fun _ _ _ h => h) (yieldsIf_off rfl) hHeld (a' := ?_) ?_ ?_
    rotate_left
    · simp only [Act.put, List.setIfInBounds_toArray, List.set_cons_zero, List.set_cons_succ]
      rfl
    refine tk_ 8 (some 13) #[true, true, true, true, true, true, true, true, true, false, false, false, false, false, false] rfl rfl (by kernel_rfl) (fun _ _ _ h => h) (yieldsIf_off rfl) hHeld (a' := ?_) ?_ ?_
    rotate_left
    · simp only [Act.put, List.setIfInBounds_toArray, List.set_cons_zero, List.set_cons_succ]
      rfl
    refine tk_ 9 (some 14) #[true, true, true, true, true, true, true, true, true, true, false, false, false, false, false] rfl rfl (by kernel_rfl) (fun _ _ _ h => h) (yieldsIf_off rfl) hHeld (a' := ?_) ?_ ?_
    rotate_left
    · simp only [Act.put, List.setIfInBounds_toArray, List.set_cons_zero, List.set_cons_succ]
      rfl
    refine tk_ 10 (some 15) #[true, true, true, true, true, true, true, true, true, true, true, false, false, false, false] rfl rfl (by kernel_rfl) (fun _ _ _ h => h) (yieldsIf_off rfl) hHeld (a' := ?_) ?_ ?_
    rotate_left
    · simp only [Act.put, List.setIfInBounds_toArray, List.set_cons_zero, List.set_cons_succ]
      rfl
    refine tk_ 11 (some 16) #[true, true, true, true, true, true, true, true, true, true, true, true, false, false, false] rfl rfl (by kernel_rfl) (fun _ _ _ h => h) (yieldsIf_off rfl) hHeld (a' := ?_) ?_ ?_
    rotate_left
    · simp only [Act.put, List.setIfInBounds_toArray, List.set_cons_zero, List.set_cons_succ]
      rfl
    refine tk_ 12 (some 17) #[true, true, true, true, true, true, true, true, true, true, true, true, true, false, false] rfl rfl (by kernel_rfl) (fun _ _ _ h => h) (yieldsIf_off rfl) hHeld (a' := ?_) ?_ ?_
    rotate_left
    · simp only [Act.put, List.setIfInBounds_toArray, List.set_cons_zero, List.set_cons_succ]
      rfl
    refine tk_ 13 (some 18) #[true, true, true, true, true, true, true, true, true, true, true, true, true, true, false] (v := ?_) (a' := ?_) rfl rfl (by kernel_rfl) (fun _ _ _ h => h) (yieldsIf_run rfl ?_) hHeld ?_ ?_
    rotate_left
    · intro w'
      go_simp
      with_reducible rfl
    rotate_left
    · simp only [Act.put, List.setIfInBounds_toArray, List.set_cons_zero, List.set_cons_succ]
      rfl
    refine tk_ 14 (some 4) #[true, true, true, true, true, true, true, true, true, true, true, true, true, true, true] (v := ?_) (a' := ?_) rfl rfl (by kernel_rfl) (fun _ _ _ h => h) (yieldsIf_run rfl ?_) hHeld ?_ ?_
    rotate_left
    · intro w'
      go_simp
      with_reducible rfl
    rotate_left
    · simp only [Act.put, List.setIfInBounds_toArray, List.set_cons_zero, List.set_cons_succ]
      rfl
    refine wpAnyH_done (by kernel_rfl) ?_ _
    change Exit.then _ _ _ _ W.drew
    have HBd : Hid (Below w.heap.size w W.drew) := HB0.out.drew
    generalize W.drew = wd at HBd
    go_wp2
    go_ret
    exact ⟨by rw [HF.out]; rfl, HBd.out⟩
  · have hf : decide (x.id = y.id) = false := decide_eq_false hne
    have hff : fitsB x y = ((famS x.x.h).toList == (famS y.x.h).toList) := by
      rw [fitsB, hf]
      show decide (famS x.x.h = famS y.x.h) = _
      rw [Bool.eq_iff_iff]
      simp only [decide_eq_true_eq, beq_iff_eq]
      exact ⟨fun h => by rw [h], fun h => by
        have h2 : (famS x.x.h).data = (famS y.x.h).data := Array.toList_inj.1 (by simpa [ByteArray.toList_eq] using h)
        exact congrArg ByteArray.mk h2⟩
    have HF := Lib.hid hff
    have HNE := Lib.hid hf
    clear hff hf hne
    have hSX : HoldB W.drew w.heap.size x ∧ HoldB W.drew (w.heap.size + 1) y := ⟨HCX.out, HCY.out⟩
    have HXd : Hid (x.x.At ok W.drew) := Lib.hid (HX.out.below HB0.out.drew)
    have HYd : Hid (y.x.At ok W.drew) := Lib.hid (HY.out.below HB0.out.drew)
    have hz : w.heap.size + 1 < W.drew.heap.size := (World.block_lt_of_cell? W _ (HCY.out 0 _ (List.getElem?_eq_getElem (by rw [LB.cells_length]; decide))))
    have HSX := Lib.hid hSX
    clear hSX
    refine st_ (S := (fun w' => HoldB w' w.heap.size x ∧ HoldB w' (w.heap.size + 1) y)) 15 #[false, false, false, false, false, false, false, false, false, false, false, false, false, false, false] (by kernel_rfl) rfl (by rfl) HSX.out (fun hHeld => ?_)
    refine tk_ 0 (some 5) #[true, false, false, false, false, false, false, false, false, false, false, false, false, false, false] (v := ?_) (a' := ?_) rfl rfl (by kernel_rfl) (fun _ _ _ h => h) (yieldsIf_run rfl ?_) hHeld ?_ ?_
    rotate_left
    · intro w'
      go_simp
      with_reducible rfl
    rotate_left
    · simp only [Act.put, List.setIfInBounds_toArray, List.set_cons_zero, List.set_cons_succ]
      rfl
    refine tk_ 1 (some 6) #[true, true, false, false, false, false, false, false, false, false, false, false, false, false, false] rfl rfl (by kernel_rfl) (fun _ _ _ h => h) (yieldsIf_load rfl 50 (.tmp 5) rfl w.heap.size 0 rfl (idc x.id) _ (fun w' h => h.1.id) Tryz.underlying50 rfl (by rw [idc_length]; exact id_size)) hHeld (a' := ?_) ?_ ?_
    rotate_left
    · simp only [Act.put, List.setIfInBounds_toArray, List.set_cons_zero, List.set_cons_succ]
      rfl
    refine tk_ 2 (some 7) #[true, true, true, false, false, false, false, false, false, false, false, false, false, false, false] (v := ?_) (a' := ?_) rfl rfl (by kernel_rfl) (fun _ _ _ h => h) (yieldsIf_run rfl ?_) hHeld ?_ ?_
    rotate_left
    · intro w'
      go_simp
      with_reducible rfl
    rotate_left
    · simp only [Act.put, List.setIfInBounds_toArray, List.set_cons_zero, List.set_cons_succ]
      rfl
    refine tk_ 3 (some 8) #[true, true, true, true, false, false, false, false, false, false, false, false, false, false, false] rfl rfl (by kernel_rfl) (fun _ _ _ h => h) (yieldsIf_load rfl 50 (.tmp 7) rfl (w.heap.size + 1) 0 rfl (idc y.id) _ (fun w' h => h.2.id) Tryz.underlying50 rfl (by rw [idc_length]; exact id_size)) hHeld (a' := ?_) ?_ ?_
    rotate_left
    · simp only [Act.put, List.setIfInBounds_toArray, List.set_cons_zero, List.set_cons_succ]
      rfl
    refine tk_ 4 (some 9) #[true, true, true, true, true, false, false, false, false, false, false, false, false, false, false] rfl rfl (by kernel_rfl) (fun _ _ _ h => h) (yieldsIf_run (v := .bool true) rfl fun _ => (exec_neq_id rfl (.tmp 6) (.tmp 8) _ rfl x.id y.id rfl rfl).trans (by rw [HNE.out]; rfl)) hHeld (a' := ?_) ?_ ?_
    rotate_left
    · simp only [Act.put, List.setIfInBounds_toArray, List.set_cons_zero, List.set_cons_succ]
      rfl
    refine tk_ 5 (some 10) #[true, true, true, true, true, true, false, false, false, false, false, false, false, false, false] (v := ?_) (a' := ?_) rfl rfl (by kernel_rfl) (fun _ _ _ h => h) (yieldsIf_run rfl ?_) hHeld ?_ ?_
    rotate_left
    · intro w'
      go_simp
      with_reducible rfl
    rotate_left
    · simp only [Act.put, List.setIfInBounds_toArray, List.set_cons_zero, List.set_cons_succ]
      rfl
    refine tk_ 6 (some 11) #[true, true, true, true, true, true, true, false, false, false, false, false, false, false, false] (v := ?_) (a' := ?_) rfl rfl (by kernel_rfl) (fun _ _ _ h => h) (yieldsIf_run rfl ?_) hHeld ?_ ?_
    rotate_left
    · intro w'
      go_simp
      with_reducible rfl
    rotate_left
    · simp only [Act.put, List.setIfInBounds_toArray, List.set_cons_zero, List.set_cons_succ]
      rfl
    refine tk_ 7 (some 12) #[true, true, true, true, true, true, true, true, false, false, false, false, false, false, false] rfl rfl (by kernel_rfl) (fun _ _ _ h => h) (yieldsIf_load rfl 46 (.tmp 11) rfl w.heap.size 32 rfl x.x.cells _ (fun w' h => h.1.hdr) Tryz.underlying46 rfl hdr_size) hHeld (a' := ?_) ?_ ?_
    rotate_left
    · simp only [Act.put, List.setIfInBounds_toArray, List.set_cons_zero, List.set_cons_succ]
      rfl
    refine tk_ 9 (some 14) #[true, true, true, true, true, true, true, true, false, true, false, false, false, false, false] (v := ?_) (a' := ?_) rfl rfl (by kernel_rfl) (fun _ _ _ h => h) (yieldsIf_run rfl ?_) hHeld ?_ ?_
    rotate_left
    · intro w'
      go_simp
      with_reducible rfl
    rotate_left
    · simp only [Act.put, List.setIfInBounds_toArray, List.set_cons_zero, List.set_cons_succ]
      rfl
    refine tk_ 10 (some 15) #[true, true, true, true, true, true, true, true, false, true, true, false, false, false, false] rfl rfl (by kernel_rfl) (fun _ _ _ h => h) (yieldsIf_load rfl 46 (.tmp 14) rfl (w.heap.size + 1) 32 rfl y.x.cells _ (fun w' h => h.2.hdr) Tryz.underlying46 rfl hdr_size) hHeld (a' := ?_) ?_ ?_
    rotate_left
    · simp only [Act.put, List.setIfInBounds_toArray, List.set_cons_zero, List.set_cons_succ]
      rfl
    refine call_ 8 (some 13) #[true, true, true, true, true, true, true, true, true, true, true, false, false, false, false] rfl rfl (by kernel_rfl) rfl 197 _ (by kernel_rfl) (family_any _ x.x ok HXd.out okx ndx) ?_
    rintro e w1 ⟨rfl, hb1⟩
    have hB1 : Below w.heap.size w w1 := HB0.out.drew.trans (hb1.mono HB0.out.size)
    have hz1 : w.heap.size + 1 < w1.heap.size := Nat.lt_of_lt_of_le hz hb1.size
    refine ⟨_, rfl, ⟨hHeld.1.below hb1 (Nat.lt_of_succ_lt hz), hHeld.2.below hb1 hz⟩, fun hHeld => ⟨?_, ?_, ?_⟩⟩
    rotate_left
    · simp only [Act.put, List.setIfInBounds_toArray, List.set_cons_zero, List.set_cons_succ]
      rfl
    refine call_ 11 (some 16) #[true, true, true, true, true, true, true, true, true, true, true, true, false, false, false] rfl rfl (by kernel_rfl) rfl 197 _ (by kernel_rfl) (family_any _ y.x ok (HY.out.below hB1) oky ndy) ?_
    rintro e w2 ⟨rfl, hb2⟩
    have hB2 : Below w.heap.size w w2 := hB1.trans (hb2.mono hB1.size)
    refine ⟨_, rfl, ⟨hHeld.1.below hb2 (Nat.lt_of_succ_lt hz1), hHeld.2.below hb2 hz1⟩, fun hHeld => ⟨?_, ?_, ?_⟩⟩
    rotate_left
    · simp only [Act.put, List.setIfInBounds_toArray, List.set_cons_zero, List.set_cons_succ]
      rfl
    refine tk_ 12 (some 17) #[true, true, true, true, true, true, true, true, true, true, true, true, true, false, false] rfl rfl (by kernel_rfl) (fun _ _ _ h => h) (yieldsIf_run (v := .bool ((famS x.x.h).toList == (famS y.x.h).toList)) rfl fun _ => rfl) hHeld (a' := ?_) ?_ ?_
    rotate_left
    · simp only [Act.put, List.setIfInBounds_toArray, List.set_cons_zero, List.set_cons_succ]
      rfl
    refine tk_ 13 (some 18) #[true, true, true, true, true, true, true, true, true, true, true, true, true, true, false] (v := ?_) (a' := ?_) rfl rfl (by kernel_rfl) (fun _ _ _ h => h) (yieldsIf_run rfl ?_) hHeld ?_ ?_
    rotate_left
    · intro w'
      go_simp
      with_reducible rfl
    rotate_left
    · simp only [Act.put, List.setIfInBounds_toArray, List.set_cons_zero, List.set_cons_succ]
      rfl
    refine tk_ 14 (some 4) #[true, true, true, true, true, true, true, true, true, true, true, true, true, true, true] (v := ?_) (a' := ?_) rfl rfl (by kernel_rfl) (fun _ _ _ h => h) (yieldsIf_run rfl ?_) hHeld ?_ ?_
    rotate_left
    · intro w'
      go_simp
      with_reducible rfl
    rotate_left
    · simp only [Act.put, List.setIfInBounds_toArray, List.set_cons_zero, List.set_cons_succ]
      rfl
    refine wpAnyH_done (by kernel_rfl) ?_ _
    change Exit.then _ _ _ _ _
    go_wp2
    go_ret
    exact ⟨by rw [HF.out]; rfl, hB2⟩
end Go.Proofs.YtpehmlfghddnaaaGreatDoor
namespace Go.Proofs.YtpehmlfghddnaaaGreatDoor

/-- How many of the first i have a miner. -/
def minerC (zs : List LB) (i : Nat) (m : Int) : Nat := ((zs.take i).filter fun b => decide (b.x.h.miner = m)).length
theorem minerC_le (zs : List LB) (i : Nat) (m : Int) : minerC zs i m ≤ i := by
  unfold minerC
  exact Nat.le_trans (List.length_filter_le _ _) (List.length_take_le _ _)
theorem minerC_succ (zs : List LB) (i : Nat) (x : LB) (hx : zs[i]? = some x) (m : Int) : minerC zs (i + 1) m = if m = x.x.h.miner then minerC zs i m + 1 else minerC zs i m := by
  unfold minerC
  rw [List.take_add_one, hx, List.filter_append]
  by_cases h : m = x.x.h.miner
  · subst h; simp
  · rw [if_neg h]; simp; exact fun e => h (Eq.symm e)
def fits? (a b : Option LB) : Bool := match a, b with | some a, some b => fitsB a b | _, _ => false
/-- The first i are good. -/
def goodN (zs : List LB) : Nat → Bool
  | 0 => decide (0 < zs.length)
  | i + 1 => goodN zs i && (match zs[i]? with | some x => decide (minerC zs (i + 1) x.x.h.miner = 1) | none => false) && (decide (i = 0) || fits? zs[i - 1]? zs[i]?)
theorem goodN_off {zs : List LB} {i : Nat} (h : goodN zs i = false) : goodN zs (i + 1) = false := by simp [goodN, h]
theorem goodN_twice {zs : List LB} {i : Nat} {x : LB} (hx : zs[i]? = some x) (h : minerC zs (i + 1) x.x.h.miner ≠ 1) : goodN zs (i + 1) = false := by simp [goodN, hx, h]
theorem goodN_first {zs : List LB} {x : LB} (hg : goodN zs 0 = true) (hx : zs[0]? = some x) (h : minerC zs (0 + 1) x.x.h.miner = 1) : goodN zs (0 + 1) = true := by
  rw [goodN, hg, hx]
  simp only [Bool.true_and, decide_true, Bool.true_or, Bool.and_true, decide_eq_true_eq]
  exact h
theorem goodN_next {zs : List LB} {p : Nat} {x y : LB} (hg : goodN zs (p + 1) = true) (hx : zs[p + 1]? = some x) (hy : zs[p]? = some y) (h : minerC zs (p + 1 + 1) x.x.h.miner = 1) : goodN zs (p + 1 + 1) = fitsB y x := by
  rw [goodN, hg, hx]
  simp [h, hy, fits?]
def goodB (zs : List LB) : Bool := goodN zs zs.length
end Go.Proofs.YtpehmlfghddnaaaGreatDoor
