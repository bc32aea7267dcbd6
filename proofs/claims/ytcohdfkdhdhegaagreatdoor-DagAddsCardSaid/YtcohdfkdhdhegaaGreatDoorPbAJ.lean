/- Maps of any keys, their elements told as they lie: for each key its element, if there is one. A dag in memory. Regions that draw their order: what is read is kept but for the last operations, which may write it. No program in sight. -/
import Derived.Test.YtcohdfkdhdhegaaGreatDoorPbAG
import Derived.Test.YtcohdfkdhdhegaaGreatDoorPbAI
import Derived.Maps.OwnSet
import Derived.Maps.Range
import Derived.WideKeyArr
namespace Go.Proofs.YtcohdfkdhdhegaaGreatDoor
open Go.RowKit Go.Maps

def heldR (v : Value) : Option (DataW Value × List MemPlace) := some (.held v, [])
theorem heldR_inv {v : Value} {d : DataW Value} {ps : List MemPlace} (h : heldR v = some (d, ps)) : d = .held v ∧ ps = [] := by
  have := Option.some.inj h
  exact ⟨(congrArg Prod.fst this).symm, (congrArg Prod.snd this).symm⟩
/-- What D holds at each key. -/
def HoldsF (D : DataW Value) (f : Lit → Option Value) : Prop := ∀ kl, (f kl = none → has D kl = false) ∧ ∀ v, f kl = some v → has D kl = true ∧ ∀ z, D.atKey kl z = .held v
theorem HoldsF.has {D : DataW Value} {f : Lit → Option Value} (h : HoldsF D f) (kl : Lit) : has D kl = (f kl).isSome := by
  cases hv : f kl with
  | none => exact (h kl).1 hv
  | some v => exact ((h kl).2 v hv).1
theorem HoldsF.at_ {D : DataW Value} {f : Lit → Option Value} (h : HoldsF D f) (kl : Lit) (z : Value) : D.atKey kl (.held z) = .held ((f kl).getD z) := by
  cases hv : f kl with
  | none => exact atKey_of_not_has ((h kl).1 hv) _
  | some v => exact ((h kl).2 v hv).2 _
open Classical in
/-- f, with v at kl. -/
noncomputable def updF (f : Lit → Option Value) (kl : Lit) (v : Value) : Lit → Option Value := fun x => if x = kl then some v else f x
theorem HoldsF.put {D : DataW Value} {f : Lit → Option Value} (h : HoldsF D f) (hM : IsMap D) {kl : Lit} (hk : WideAt.IsKeyLit kl) (v : Value) : HoldsF (D.put kl (.held v)) (updF f kl v) := by
  intro x
  unfold updF
  by_cases e : x = kl
  · subst e
    rw [if_pos rfl]
    refine ⟨fun h => (by cases h), fun v' hv => ?_⟩
    cases hv
    exact ⟨has_put_same hM hk _, fun z => atKey_put_same hM hk _ z⟩
  · rw [if_neg e]
    exact ⟨fun hn => by rw [has_put_other e]; exact (h x).1 hn, fun v' hv => ⟨by rw [has_put_other e]; exact ((h x).2 v' hv).1, fun z => by rw [atKey_put_other e]; exact ((h x).2 v' hv).2 z⟩⟩

/-- Block b is a map of n entries that holds f. -/
def MapV (P : Program) (k : TypeId) (w : World) (b n : Nat) (f : Lit → Option Value) : Prop :=
  ∃ D : DataW Value, w.ownsMap P k heldR b n D ∧ size D = n ∧ HoldsF D f

section
variable {P : Program} {k t e : TypeId} {w w' : World} {b n : Nat} {f : Lit → Option Value} {D : DataW Value}
theorem owns_exact {R : Value → Option (DataW Value × List MemPlace)} (h : w.ownsMap P k R b n D) : w.ownsMap P k R b (size D) D := by
  obtain ⟨es, clock, hb, F, hs, rfl⟩ := h
  exact ⟨es, clock, hb, F, by simp [size, length_sorted], rfl⟩
theorem MapV.made (P : Program) (k : TypeId) (w : World) : MapV P k (w.alloc (.map #[] 0)) w.heap.size 0 fun _ => none :=
  ⟨.map [], World.ownsMap_made _ _ _ _, rfl, fun _ => ⟨fun _ => rfl, fun _ h => by cases h⟩⟩
theorem MapV.lt (h : MapV P k w b n f) : b < w.heap.size := h.elim fun _ h => h.1.lt
theorem MapV.kept {row : Option Nat} (h : MapV P k w b n f) (hg : w.grownBy w' row) (hne : some b ≠ row) : MapV P k w' b n f := h.elim fun D h => ⟨D, h.1.kept hg hne, h.2⟩
theorem MapV.same (h : MapV P k w b n f) (hb : w'.heap[b]? = w.heap[b]?) : MapV P k w' b n f := by
  obtain ⟨D, ⟨es, clock, h1, h2⟩, h3⟩ := h
  exact ⟨D, ⟨es, clock, hb.trans h1, h2⟩, h3⟩
theorem MapV.fr {ok : Nat → Prop} (h : MapV P k w b n f) (hf : Fr ok w w') (ho : ok b) : MapV P k w' b n f := h.same (hf.2 b ho h.lt)
theorem MapV.below (h : MapV P k w b n f) (hb : Below w.heap.size w w') : MapV P k w' b n f := h.same (hb.block _ h.lt)
theorem MapV.alloc (h : MapV P k w b n f) (o : Obj) : MapV P k (w.alloc o) b n f := h.elim fun D h => ⟨D, h.1.alloc o, h.2⟩
theorem MapV.drew (h : MapV P k w b n f) : MapV P k w.drew b n f := h
/-- A map's block is no row. -/
theorem MapV.no_cells (h : MapV P k w b n f) {cs : Array Value} {T : TypeId} {fr : Nat × Nat} : w.heap[b]? ≠ some (.cells cs T fr) := by
  obtain ⟨D, ⟨es, clock, h1, -⟩, -⟩ := h
  rw [h1]; intro h; cases h
theorem MapV.look (h : MapV P k w b n f) (K : Keyed P k) (ht : P.underlying t = some (.map k e)) {z : Value} (hz : (zeroValue e).run P w = .ok z w) {key : Value} {kl : Lit} (hkey : keyOf P k key = some kl) :
    (Instr.lookup t (.map (some b)) key false).run P w = .ok ((f kl).getD z) w := by
  obtain ⟨D, hD, -, hf⟩ := h
  obtain ⟨v, ps, hr, hv⟩ := hD.lookup K ht hz (zd := .held z) (zp := []) rfl hkey
  have h1 := (heldR_inv hv).1
  rw [hf.at_ kl z] at h1
  rw [hr, DataW.held.inj h1]
theorem MapV.look_ok (h : MapV P k w b n f) (K : Keyed P k) (ht : P.underlying t = some (.map k e)) {z : Value} (hz : (zeroValue e).run P w = .ok z w) {key : Value} {kl : Lit} (hkey : keyOf P k key = some kl) :
    (Instr.lookup t (.map (some b)) key true).run P w = .ok (.tuple #[(f kl).getD z, .bool (f kl).isSome]) w := by
  obtain ⟨D, hD, -, hf⟩ := h
  obtain ⟨v, ps, hr, hv⟩ := hD.look_ok K ht hz (zd := .held z) (zp := []) rfl hkey
  have h1 := (heldR_inv hv).1
  rw [hf.at_ kl z] at h1
  rw [hr, DataW.held.inj h1, hf.has kl]
theorem MapV.len (h : MapV P k w b n f) (ht : P.underlying t = some (.map k e)) (ty : TypeId) : (Builtin.len_ #[t] ty #[.map (some b)]).run P w = .ok (.int .i64 n) w := by
  obtain ⟨D, hD, hs, -⟩ := h
  rw [hD.len ht, hs]
theorem MapV.update (h : MapV P k w b n f) (K : Keyed P k) (ht : P.underlying t = some (.map k e)) (hn : n < 1099511627776) {key : Value} {kl : Lit} (hkey : keyOf P k key = some kl) (v : Value) :
    ∃ w', (Instr.mapUpdate t (.map (some b)) key v).run P w = .ok () w' ∧ MapV P k w' b (if (f kl).isSome then n else n + 1) (updF f kl v) ∧ w.grownBy w' (some b) ∧ w'.heap.size = w.heap.size := by
  obtain ⟨D, hD, hs, hf⟩ := h
  obtain ⟨w', hr, ho, ht'⟩ := hD.store K ht (by unfold maxLen; omega) hkey (val := v) (d := .held v) (ps := []) rfl
  have hT := hD.tidy K
  refine ⟨w', hr, ⟨D.put kl (.held v), ?_, ?_, hf.put hT.isMap (K.key hkey) v⟩, ht'.grown, ?_⟩
  · have hx := owns_exact ho
    rw [size_put hT, hf.has kl, hs] at hx
    exact hx
  · rw [size_put hT, hf.has kl, hs]
  · obtain ⟨es, clock, es', clock', -, rfl⟩ := ht'
    simp [ChangeMaps.setBlock]
variable {ops : Array Oper} {rest : List Oper} {o : Oper} {a : Act} {Q : Exit → Act → World → Prop}
theorem wpl_lookokV (h : MapV P k w b n f) (K : Keyed P k) (ht : P.underlying t = some (.map k e)) {z : Value} (hz : (zeroValue e).run P w = .ok z w) (hg : o.guard = none) (m x : Operand) (ho : o.op = .lookup t m x true) (hm : a.eval m = .map (some b)) {key : Value} {kl : Lit} (hx : a.eval x = key) (hkey : keyOf P k key = some kl)
    (hK : wpList P ops Q rest (a.put o.dst (.tuple #[(f kl).getD z, .bool (f kl).isSome])) w) : wpList P ops Q (o :: rest) a w :=
  wpList_plain hg fun K' hK' => by
    unfold Oper.wp execOp
    simp only [ho, hm, hx, Sem.run_bind, h.look_ok K ht hz hkey, Result.andThen_ok, Sem.run_pure]
    exact hK' _ _ hK
theorem wpl_updV (h : MapV P k w b n f) (K : Keyed P k) (ht : P.underlying t = some (.map k e)) (hn : n < 1099511627776) (hg : o.guard = none) (m x y : Operand) (ho : o.op = .mapUpdate t m x y) (hm : a.eval m = .map (some b)) {key : Value} {kl : Lit} (hx : a.eval x = key) (hkey : keyOf P k key = some kl) {v : Value} (hy : a.eval y = v)
    (hK : ∀ w', MapV P k w' b (if (f kl).isSome then n else n + 1) (updF f kl v) → w.grownBy w' (some b) → w'.heap.size = w.heap.size → wpList P ops Q rest (a.put o.dst undef) w') : wpList P ops Q (o :: rest) a w :=
  wpList_plain hg fun K' hK' => by
    obtain ⟨w', hr, r1, r2, r3⟩ := h.update K ht hn hkey v
    unfold Oper.wp execOp
    simp only [ho, hm, hx, hy, Sem.run_bind, hr, Result.andThen_ok, Sem.run_pure]
    exact hK' _ _ (hK w' r1 r2 r3)
/-- The same where orders are drawn. -/
theorem exec_lookV (h : MapV P k w b n f) (K : Keyed P k) (ht : P.underlying t = some (.map k e)) {z : Value} (hz : (zeroValue e).run P w = .ok z w) (m x : Operand) (ho : o.op = .lookup t m x false) (hm : a.eval m = .map (some b)) {key : Value} {kl : Lit} (hx : a.eval x = key) (hkey : keyOf P k key = some kl) :
    (execOp a.eval o).run P w = .ok (.value ((f kl).getD z)) w := by
  unfold execOp
  simp only [ho, hm, hx, Sem.run_bind, h.look K ht hz hkey, Result.andThen_ok, Sem.run_pure]
theorem exec_lookokV (h : MapV P k w b n f) (K : Keyed P k) (ht : P.underlying t = some (.map k e)) {z : Value} (hz : (zeroValue e).run P w = .ok z w) (m x : Operand) (ho : o.op = .lookup t m x true) (hm : a.eval m = .map (some b)) {key : Value} {kl : Lit} (hx : a.eval x = key) (hkey : keyOf P k key = some kl) :
    (execOp a.eval o).run P w = .ok (.value (.tuple #[(f kl).getD z, .bool (f kl).isSome])) w := by
  unfold execOp
  simp only [ho, hm, hx, Sem.run_bind, h.look_ok K ht hz hkey, Result.andThen_ok, Sem.run_pure]
end

/-! ### names and texts as keys -/
theorem arrID : WideMaps.ArrKey Tryz.prog 66 5 32 := ⟨Tryz.underlying66, by kernel_rfl, by kernel_rfl, by kernel_rfl⟩
theorem lawID : Keyed Tryz.prog 66 := Keyed.of_law arrID.law
theorem lawStr : Keyed Tryz.prog 9 := string_keyed Tryz.underlying9
/-- A name as a key. -/
def idK (x : ID) : Lit := .string (keyBytes (x.1.data.toList.map fun b => .int .u8 (b.toNat : Int)))
def strK (s : ByteArray) : Lit := .string s.data.toList
theorem keyOf_str (s : ByteArray) (h : s.size ≤ maxLen) : keyOf Tryz.prog 9 (.string s) = some (strK s) := WideMaps.keyOf_string_mk Tryz.underlying9 h
theorem strK_inj {s t : ByteArray} (h : strK s = strK t) : s = t := by
  have h1 : s.data.toList = t.data.toList := Lit.string.inj h
  exact ByteArray.ext (Array.toList_inj.1 h1)
theorem mapM_some {α β : Type} {f : α → Option β} {g : α → β} : ∀ {l : List α}, (∀ x ∈ l, f x = some (g x)) → l.mapM f = some (l.map g)
  | [], _ => rfl
  | x :: l, h => by
    rw [List.mapM_cons, h x (by simp), mapM_some fun y hy => h y (by simp [hy])]
    rfl
theorem flatten_single {α β : Type} (g : α → β) : ∀ l : List α, (l.map fun i => [g i]).flatten = l.map g
  | [] => rfl
  | x :: l => by simp [flatten_single g l]
theorem keyLits_id (x : ID) (d : Nat) : Tryz.prog.keyLits (d + 2) 66 (idc x) = some (x.1.data.toList.map fun b => .int .u8 (b.toNat : Int)) := by
  have hl : x.1.data.toList.length = 32 := by simpa using x.2
  unfold Program.keyLits
  rw [Tryz.underlying66]
  simp only
  have hc : Tryz.prog.cellsOf 66 = 32 := by kernel_rfl
  have h1 : Tryz.prog.cellsOf 5 = 1 := by kernel_rfl
  rw [hc, h1, idc_length, if_pos rfl]
  have hm : ((List.range 32).mapM fun i => Tryz.prog.keyLits (d + 1) 5 (((idc x).drop (i * 1)).take 1)) = some ((List.range 32).map fun i => [Lit.int .u8 ((x.1.data.toList.getD i 0).toNat : Int)]) := by
    refine mapM_some fun i hi => ?_
    have hi : i < 32 := by simpa using hi
    have hg : (idc x)[i]? = some (.int .u8 ((x.1.data.toList.getD i 0).toNat : Int)) := by
      unfold idc bytesC
      rw [List.getElem?_map, List.getD_eq_getElem?_getD, List.getElem?_eq_getElem (by omega)]
      rfl
    have hd : ((idc x).drop (i * 1)).take 1 = [.int .u8 ((x.1.data.toList.getD i 0).toNat : Int)] := by
      have hlt : i < (idc x).length := by rw [idc_length]; exact hi
      rw [Nat.mul_one, List.drop_eq_getElem_cons hlt, List.take_succ_cons, List.take_zero]
      rw [List.getElem?_eq_getElem hlt] at hg
      rw [Option.some.inj hg]
    rw [hd]
    unfold Program.keyLits
    rw [Tryz.underlying5]
    have := (x.1.data.toList.getD i 0).toNat_lt
    have hwf : (Lit.int .u8 ((x.1.data.toList.getD i 0).toNat : Int)).wf = true := by
      generalize (x.1.data.toList.getD i 0).toNat = c at this
      simp [Lit.wf, IntKind.min, IntKind.max, IntKind.bits, IntKind.signed]; omega
    simp only [hwf, and_self, if_true]
  rw [hm]
  simp only [Option.map_some, Option.some.injEq]
  rw [flatten_single]
  refine List.ext_getElem? fun i => ?_
  rw [List.getElem?_map, List.getElem?_map]
  by_cases hi : i < 32
  · rw [List.getElem?_range hi, List.getElem?_eq_getElem (by omega : i < x.1.data.toList.length)]
    simp only [Option.map_some, List.getD_eq_getElem?_getD]
    rw [List.getElem?_eq_getElem (by omega : i < x.1.data.toList.length)]
    rfl
  · rw [List.getElem?_eq_none (by simp; omega), List.getElem?_eq_none (by omega)]
    rfl
theorem keyOf_id (x : ID) : keyOf Tryz.prog 66 (.agg (idc x).toArray) = some (idK x) := by
  have hk : Tryz.prog.keyType 66 = true := by kernel_rfl
  obtain ⟨m, hm⟩ : ∃ m, Tryz.prog.types.size + 1 = m + 2 := ⟨Tryz.prog.types.size - 1, by have : 0 < Tryz.prog.types.size := of_decide_eq_true (by kernel_rfl); omega⟩
  have hc : Tryz.prog.cellsOf 66 = 32 := by kernel_rfl
  have hf : (Value.agg (idc x).toArray).formed Tryz.prog 66 = true := by
    simp only [Value.formed, Tryz.underlying66, hc, List.size_toArray, idc_length, beq_self_eq_true]
  unfold keyOf
  rw [Tryz.underlying66]
  simp only [hk, hf, Bool.and_self, if_true, hm, Value.cells]
  rw [keyLits_id x m]
  rfl
theorem bytesC_inj {x y : ByteArray} (h : bytesC x = bytesC y) : x = y := by
  have h1 : x.data.toList = y.data.toList := by
    refine (List.map_inj_right fun a b hab => ?_).1 h
    injection hab with _ h2
    exact UInt8.toNat_inj.1 (Int.ofNat.inj h2)
  exact ByteArray.ext (Array.toList_inj.1 h1)
theorem idc_inj {x y : ID} (h : idc x = idc y) : x = y := Subtype.ext (bytesC_inj h)
theorem idK_iff {x y : ID} : idK x = idK y ↔ x = y := by
  constructor
  · intro h
    have h1 := lawID.inj (keyOf_id x) (h ▸ keyOf_id y)
    injection h1 with h1
    exact idc_inj (by simpa using congrArg Array.toList h1)
  · rintro rfl; rfl
end Go.Proofs.YtcohdfkdhdhegaaGreatDoor
namespace Go.Proofs.YtcohdfkdhdhegaaGreatDoor
open Go.RowKit Go.Maps

/-- What may have turned: the blocks of which S holds, and new ones. -/
structure Chg (S : Nat → Prop) (w w' : World) : Prop where
  os : w'.os = w.os
  tape : w'.tape = w.tape
  output : w'.output = w.output
  size : w.heap.size ≤ w'.heap.size
  block : ∀ k, k < w.heap.size → ¬ S k → w'.heap[k]? = w.heap[k]?
section
variable {S S' : Nat → Prop} {w w1 w2 : World} {ok : Nat → Prop}
theorem Chg.refl (S : Nat → Prop) (w : World) : Chg S w w := ⟨rfl, rfl, rfl, Nat.le_refl _, fun _ _ _ => rfl⟩
theorem Chg.trans (h : Chg S w w1) (k : Chg S w1 w2) : Chg S w w2 :=
  ⟨k.os.trans h.os, k.tape.trans h.tape, k.output.trans h.output, Nat.le_trans h.size k.size, fun i hi hs => (k.block i (Nat.lt_of_lt_of_le hi h.size) hs).trans (h.block i hi hs)⟩
theorem Chg.mono (h : Chg S w w1) (hk : ∀ k, S k → S' k) : Chg S' w w1 := ⟨h.os, h.tape, h.output, h.size, fun i hi hs => h.block i hi fun h => hs (hk i h)⟩
theorem Chg.of_below (h : Below w.heap.size w w1) : Chg S w w1 := ⟨h.os, h.tape, h.output, h.size, fun i hi _ => h.block i hi⟩
theorem Chg.below {B : Nat} (h : Chg S w w1) (hB : B ≤ w.heap.size) (hS : ∀ k, S k → B ≤ k) : Below B w w1 :=
  ⟨h.os, h.tape, h.output, h.size, fun i hi => h.block i (Nat.lt_of_lt_of_le hi hB) fun hs => by have := hS i hs; omega⟩
theorem Chg.fr (h : Chg S w w1) (hk : ∀ k, ok k → ¬ S k) : Fr ok w w1 := ⟨h.size, fun k ho hl => h.block k hl (hk k ho)⟩
theorem Chg.grown {b : Nat} (h : w.grownBy w1 (some b)) (hb : S b) : Chg S w w1 := ⟨h.os, h.tape, h.output, h.size, fun i hi hs => h.block i hi fun e => by injection e with e; subst e; exact hs hb⟩
theorem Chg.step {T : Nat → Prop} (h : Chg T w w1) (k : Chg S w1 w2) (hS : ∀ k, S k → T k ∨ w.heap.size ≤ k) : Chg T w w2 :=
  ⟨k.os.trans h.os, k.tape.trans h.tape, k.output.trans h.output, Nat.le_trans h.size k.size, fun i hi ht => (k.block i (Nat.lt_of_lt_of_le hi h.size) fun hs => by rcases hS i hs with h | h; exact ht h; omega).trans (h.block i hi ht)⟩
theorem Chg.row {row : Option Nat} (h : w.grownBy w1 row) : Chg (fun k => row = some k) w w1 := ⟨h.os, h.tape, h.output, h.size, fun i hi hs => h.block i hi fun e => hs e.symm⟩
/-- Rows are no maps: they are as they were where maps alone were written. -/
theorem Sl.chg {β : Type} {E : Enc β} {v : Value} {ys : List β} (h : Sl E ok w v ys) (hc : Chg S w w1) (hS : ∀ k, S k → ∀ cs T fr, w.heap[k]? ≠ some (.cells cs T fr)) : Sl E ok w1 v ys := by
  obtain ⟨A, n, c, hv, hl, hn, hm, hp, hx⟩ := h
  refine ⟨A, n, c, hv, hl, hn, hm, hp, fun h0 => ?_⟩
  obtain ⟨b, off, hA, hlt, ho, hcell⟩ := hx h0
  have hb : w1.heap[b]? = w.heap[b]? := by
    refine hc.block b hlt fun hs => ?_
    have hl0 : 0 < (E.flat ys).length := by rw [E.flat_length]; exact Nat.mul_pos (by omega) E.k0
    have h1 := hcell 0 _ (List.getElem?_eq_getElem hl0)
    simp only [World.cell?] at h1
    cases hh : w.heap[b]? with
    | none => rw [hh] at h1; cases h1
    | some o =>
      cases o with
      | cells cs T fr => exact hS b hs cs T fr hh
      | _ => rw [hh] at h1; cases h1
  refine ⟨b, off, hA, Nat.lt_of_lt_of_le hlt hc.size, ho, fun m u hu => ?_⟩
  rw [← hcell m u hu]
  exact World.cell?_of_block (w := w) hb
end

/-- A block as an element of a map. -/
def LB.v (x : LB) : Value := .agg x.cells.toArray
open Classical in
/-- The blocks by their names. -/
noncomputable def blkF (D : List LB) : Lit → Option Value := fun k => (D.find? fun x => decide (idK x.id = k)).map LB.v
/-- A family's names. -/
def famL (D : List LB) (s : ByteArray) : List ID := sortI ((D.filter fun x => decide (famS x.x.h = s)).map LB.id)
/-- The families, as they lie. -/
def FamAt (ok : Nat → Prop) (w : World) (D : List LB) (F : Lit → Option Value) : Prop :=
  ∀ s : ByteArray, (F (strK s) = none ∧ ∀ x ∈ D, famS x.x.h ≠ s) ∨ ∃ v, F (strK s) = some v ∧ Sl idE ok w v (famL D s) ∧ ∃ x ∈ D, famS x.x.h = s
/-- A dag: at p its two maps, in the blocks b1 and b2; D: its blocks. -/
structure DagAt (ok : Nat → Prop) (w : World) (p b1 b2 : Nat) (D : List LB) : Prop where
  cell : w.heap[p]? = some (.cells #[.map (some b1), .map (some b2)] 132 (0, 0))
  blocks : MapV Tryz.prog 66 w b1 D.length (blkF D)
  fams : ∃ n F, n ≤ D.length ∧ MapV Tryz.prog 9 w b2 n F ∧ FamAt ok w D F
  ne : b1 ≠ b2
  here : ok p ∧ ok b1 ∧ ok b2
  at_ : ∀ x ∈ D, x.x.At ok w
  ids : ∀ x ∈ D, x.id = hdrID x.x.h
/-- The dag's two maps. -/
def two (b1 b2 k : Nat) : Prop := k = b1 ∨ k = b2
section
variable {ok ok' : Nat → Prop} {w w' : World} {p b1 b2 : Nat} {D : List LB}
theorem DagAt.fr (h : DagAt ok w p b1 b2 D) (hf : Fr ok w w') : DagAt ok w' p b1 b2 D where
  cell := (hf.2 p h.here.1 (Array.getElem?_eq_some_iff.1 h.cell).1).trans h.cell
  blocks := h.blocks.fr hf h.here.2.1
  fams := by
    obtain ⟨n, F, hn, hF, hA⟩ := h.fams
    refine ⟨n, F, hn, hF.fr hf h.here.2.2, fun s => ?_⟩
    rcases hA s with h1 | ⟨v, h1, h2, h3⟩
    · exact .inl h1
    · exact .inr ⟨v, h1, h2.fr hf, h3⟩
  ne := h.ne
  here := h.here
  at_ := fun x hx => Sl.fr (h.at_ x hx) hf
  ids := h.ids
theorem DagAt.below (h : DagAt ok w p b1 b2 D) (hb : Below w.heap.size w w') : DagAt ok w' p b1 b2 D := h.fr (Fr.of_below hb)
theorem DagAt.mono (h : DagAt ok w p b1 b2 D) (hk : ∀ k, ok k → ok' k) : DagAt ok' w p b1 b2 D where
  cell := h.cell
  blocks := h.blocks
  fams := by
    obtain ⟨n, F, hn, hF, hA⟩ := h.fams
    refine ⟨n, F, hn, hF, fun s => ?_⟩
    rcases hA s with h1 | ⟨v, h1, h2, h3⟩
    · exact .inl h1
    · exact .inr ⟨v, h1, h2.mono hk, h3⟩
  ne := h.ne
  here := ⟨hk _ h.here.1, hk _ h.here.2.1, hk _ h.here.2.2⟩
  at_ := fun x hx => Sl.mono (h.at_ x hx) hk
  ids := h.ids
theorem DagAt.lt (h : DagAt ok w p b1 b2 D) : p < w.heap.size ∧ b1 < w.heap.size ∧ b2 < w.heap.size := by
  obtain ⟨n, F, -, hF, -⟩ := h.fams
  exact ⟨(Array.getElem?_eq_some_iff.1 h.cell).1, h.blocks.lt, hF.lt⟩
theorem DagAt.old (h : DagAt ok w p b1 b2 D) : DagAt (fun k => ok k ∧ k < w.heap.size) w p b1 b2 D where
  cell := h.cell
  blocks := h.blocks
  fams := by
    obtain ⟨n, F, hn, hF, hA⟩ := h.fams
    refine ⟨n, F, hn, hF, fun s => ?_⟩
    rcases hA s with h1 | ⟨v, h1, h2, h3⟩
    · exact .inl h1
    · exact .inr ⟨v, h1, h2.old, h3⟩
  ne := h.ne
  here := ⟨⟨h.here.1, h.lt.1⟩, ⟨h.here.2.1, h.lt.2.1⟩, ⟨h.here.2.2, h.lt.2.2⟩⟩
  at_ := fun x hx => Sl.old (h.at_ x hx)
  ids := h.ids
theorem DagAt.no_row (h : DagAt ok w p b1 b2 D) : ∀ k, two b1 b2 k → ∀ cs T fr, w.heap[k]? ≠ some (.cells cs T fr) := by
  rintro k (rfl | rfl) cs T fr
  · exact h.blocks.no_cells
  · obtain ⟨n, F, -, hF, -⟩ := h.fams
    exact hF.no_cells
theorem DagAt.c0 (h : DagAt ok w p b1 b2 D) : w.cell? ⟨p, 0, none⟩ = some (.map (some b1)) := cell_block h.cell rfl
theorem DagAt.c1 (h : DagAt ok w p b1 b2 D) : w.cell? ⟨p, 1, none⟩ = some (.map (some b2)) := cell_block h.cell rfl
end
theorem any_congr {α : Type} {f g : α → Bool} : ∀ {l : List α}, (∀ x ∈ l, f x = g x) → l.any f = l.any g
  | [], _ => rfl
  | x :: l, h => by rw [List.any_cons, List.any_cons, h x (by simp), any_congr fun y hy => h y (by simp [hy])]
theorem find_congr {α : Type} {f g : α → Bool} : ∀ {l : List α}, (∀ x ∈ l, f x = g x) → l.find? f = l.find? g
  | [], _ => rfl
  | x :: l, h => by rw [List.find?_cons, List.find?_cons, h x (by simp), find_congr fun y hy => h y (by simp [hy])]
/-- The block of a name, or a zero one. -/
def getB (D : List LB) (i : ID) : LB := (D.find? fun x => decide (x.id = i)).getD lbZ
open Classical in
theorem find_idK (D : List LB) (i : ID) : (D.find? fun x => decide (idK x.id = idK i)) = D.find? fun x => decide (x.id = i) := by
  congr 1
  funext x
  exact decide_eq_decide.2 idK_iff
theorem blkF_get (D : List LB) (i : ID) : (blkF D (idK i)).getD lbZ.v = (getB D i).v := by
  unfold blkF getB
  rw [find_idK]
  cases D.find? _ <;> rfl
theorem blkF_has (D : List LB) (i : ID) : (blkF D (idK i)).isSome = hasB D i := by
  unfold blkF hasB
  rw [find_idK, Option.isSome_map]
  induction D with
  | nil => rfl
  | cons x D ih =>
    rw [List.find?_cons, List.any_cons]
    cases h : decide (x.id = i)
    · simpa using ih
    · rfl
theorem getB_mem {D : List LB} {i : ID} (h : hasB D i = true) : getB D i ∈ D ∧ (getB D i).id = i := by
  unfold hasB at h
  unfold getB
  cases hf : D.find? fun x => decide (x.id = i) with
  | none => rw [List.find?_eq_none] at hf; obtain ⟨x, hx, he⟩ := List.any_eq_true.1 h; exact absurd he (hf x hx)
  | some x => exact ⟨List.mem_of_find?_eq_some hf, by have := List.find?_some hf; simpa using this⟩
theorem hasB_G {D : List LB} (h : ∀ x ∈ D, x.id = hdrID x.x.h) (i : ID) : hasB D i = hasG (D.map fun x => x.x.h) i := by
  unfold hasB hasG
  rw [List.any_map]
  exact any_congr (fun x hx => by simp only [Function.comp]; rw [h x hx])
theorem getB_G {D : List LB} (h : ∀ x ∈ D, x.id = hdrID x.x.h) (i : ID) (hh : hasB D i = true) : getG (D.map fun x => x.x.h) i = some (getB D i).x.h := by
  unfold hasB at hh
  unfold getB getG
  rw [List.find?_map]
  have : (D.find? ((fun h => decide (hdrID h = i)) ∘ fun x : LB => x.x.h)) = D.find? fun x => decide (x.id = i) := by
    refine find_congr fun x hx => ?_
    simp only [Function.comp]
    rw [h x hx]
  rw [this]
  cases hf : D.find? fun x => decide (x.id = i) with
  | none => rw [List.find?_eq_none] at hf; obtain ⟨x, hx, he⟩ := List.any_eq_true.1 hh; exact absurd he (hf x hx)
  | some x => rfl
theorem zeroBlk (w : World) : (zeroValue 71).run Tryz.prog w = .ok lbZ.v w := by kernel_rfl
theorem zeroIDs (w : World) : (zeroValue 39).run Tryz.prog w = .ok (.slice none 0 0) w := by kernel_rfl
end Go.Proofs.YtcohdfkdhdhegaaGreatDoor
namespace Go.Proofs.YtcohdfkdhdhegaaGreatDoor
open Go.RowKit

section
variable {P : Program} {ops : Array Oper} {Q : Exit → Act → World → Prop} {md : Region.Mode} {S : World → Prop} {ds : List Nat}
/-- Whatever comes up: behind it S holds, but behind those of ds. -/
def wpD (P : Program) (md : Region.Mode) (ops : Array Oper) (Q : Exit → Act → World → Prop) (S : World → Prop) (ds : List Nat) : Nat → Array Bool → Act → World → Prop
  | 0, l, a, w => Region.ready md ops l = [] ∧ Q .normal a w
  | n + 1, l, a, w => (Region.ready md ops l = [] → Q .normal a w) ∧ ∀ i ∈ Region.ready md ops l, wpOp P ops Q i (fun a' w' => (i ∉ ds → S w') ∧ wpD P md ops Q S ds n (l.setIfInBounds i true) a' w') a w
theorem wpAny_of_D : ∀ (n : Nat) (l : Array Bool) (a : Act) (w : World), wpD P md ops Q S ds n l a w → wpAny P md ops Q n l a w
  | 0, _, _, _, h => h
  | n + 1, _, _, _, h => ⟨h.1, fun i hi => wpOp_mono (fun a' w' h' => wpAny_of_D n _ a' w' h'.2) (h.2 i hi)⟩
/-- Who waits for an operation that hasn't come up can't come up. -/
theorem waits_not {i : Nat} {l : Array Bool} {oj : Oper} (hi : i ∈ Region.ready md ops l) (hj : ∀ e ∈ oj.after, Region.binds md e = true → l.getD e.on false = true) {e : Edge} (he : e ∈ oj.after) (hb : Region.binds md e = true) (hon : e.on = i) : False := by
  have h1 := hj e he hb
  have h0 := (mem_ready.1 hi).1
  rw [hon] at h1
  rcases Nat.lt_or_ge i l.size with h' | h'
  · simp [h'] at h0 h1; rw [h0] at h1; cases h1
  · simp [Array.getElem?_eq_none h'] at h1
theorem wpD_first {i : Nat} {oi : Oper} {v : Value} (hi : ops[i]? = some oi) (hsel : ∀ (j : Nat) (o : Oper) cs b, ops[j]? = some o → o.op ≠ .select cs b)
    (hQ : ∀ c a w, Q (.panic c) (a.put oi.dst v) w → Q (.panic c) a w)
    (hds : ∀ d ∈ ds, d ≠ i ∧ ∀ od, ops[d]? = some od → ∃ e ∈ od.after, Region.binds md e = true ∧ e.on = i) :
    ∀ (n : Nat) (l : Array Bool) (a : Act) (w : World),
      (∀ j oj, ops[j]? = some oj → j ≠ i → l.getD j true = false → (∀ e ∈ oj.after, Region.binds md e = true → e.on ≠ i) → oi.apart ops oj = true) →
      i ∈ Region.ready md ops l → YieldsIf P ops S oi v a → S w → wpD P md ops Q S ds n (l.setIfInBounds i true) (a.put oi.dst v) w → wpD P md ops Q S ds (n + 1) l a w := by
  intro n
  induction n with
  | zero =>
    intro l a w _ hr hy hS H
    refine ⟨fun h => (by rw [h] at hr; cases hr), fun j hj => ?_⟩
    rcases Nat.decEq j i with hji | hji
    · have := ready_mono hj hji
      rw [H.1] at this
      cases this
    · subst hji; exact hy.wpOp hi hS ⟨fun _ => hS, H⟩
  | succ n ih =>
    intro l a w hfree hr hy hS H
    refine ⟨fun h => (by rw [h] at hr; cases hr), fun j hj => ?_⟩
    rcases Nat.decEq j i with hji | hji
    · obtain ⟨hjun, oj, hoj, hall⟩ := mem_ready.1 hj
      have hnd : j ∉ ds := fun hd => by
        obtain ⟨e, he, hb, hon⟩ := (hds j hd).2 oj hoj
        exact waits_not hr hall he hb hon
      have h2 := wpOp_putIf hoj (hfree j oj hoj hji hjun fun e he hb heq => waits_not hr hall he hb heq) (fun cs b => hsel i oi cs b hi) (fun cs b => hsel j oj cs b hoj) hQ hy (H.2 j (ready_mono hj hji))
      refine wpOp_mono (fun a' w' h3 => ⟨h3.2.1, ih _ a' w' (fun k ok hk hki hun hno => ?_) (ready_mono hr (Ne.symm hji)) h3.1 (h3.2.1 hnd) ?_⟩) h2
      · refine hfree k ok hk hki ?_ hno
        rcases Nat.decEq j k with hjk | hjk
        · rw [getD_set_ne true hjk] at hun; exact hun
        · subst hjk; exact hjun
      · rw [Array.setIfInBounds_comm _ _ hji]
        exact h3.2.2
    · subst hji; exact hy.wpOp hi hS ⟨fun _ => hS, H⟩

theorem stD_ (ds : List Nat) (n : Nat) (l : Array Bool) {id : Nat} {a : Act} {w : World} (hm : P.follows .mixedOrders = true) (hn : ops.size = n) (hl : Array.replicate n false = l) (hS : S w.drew)
    (h : S w.drew → wpD P .any ops Q S ds n l a w.drew) : (Code.region id ops true).wp P Q a w := by
  subst hn
  subst hl
  exact wp_region_any hm (wpAny_of_D _ _ _ _ (h hS))
def lastB (md : Region.Mode) (ops : Array Oper) (ds : List Nat) (i : Nat) : Bool := ds.all fun d => decide (d ≠ i) && match ops[d]? with | some od => od.after.any (fun e => Region.binds md e && e.on == i) | none => true
theorem tkD_ (i : Nat) (N : Option Tmp) (l' : Array Bool) {oi : Oper} {v : Value} {fuel : Nat} {l : Array Bool} {a : Act} {w : World} (hi : ops[i]? = some oi) (hN : oi.dst = N) (hc : (tkB md ops l l' i && lastB md ops ds i) = true)
    (hQ : ∀ c a w, Q (.panic c) (a.put oi.dst v) w → Q (.panic c) a w) (hy : YieldsIf P ops S oi v a) (hS : S w) {a' : Act} (ha : a.put N v = a')
    (h : wpD P md ops Q S ds fuel l' a' w) : wpD P md ops Q S ds (fuel + 1) l a w := by
  subst ha
  subst hN
  simp only [tkB, Bool.and_eq_true, beq_iff_eq] at hc
  obtain ⟨⟨⟨⟨h1, h2⟩, h3⟩, h4⟩, h5⟩ := hc
  subst h4
  refine wpD_first hi (Region.noSelect_spec h1) hQ (fun d hd => ?_) fuel l a w (Region.free_spec hi h2) (by simpa using h3) hy hS h
  have h6 := List.all_eq_true.1 h5 d hd
  rw [Bool.and_eq_true, decide_eq_true_eq] at h6
  refine ⟨h6.1, fun od ho => ?_⟩
  have h7 := h6.2
  rw [ho] at h7
  obtain ⟨e, he, hx⟩ := Array.any_eq_true'.1 h7
  rw [Bool.and_eq_true, beq_iff_eq] at hx
  exact ⟨e, he, hx.1, hx.2⟩
theorem callD_ (i : Nat) (N : Option Tmp) (l' : Array Bool) {oi : Oper} {fuel : Nat} {l : Array Bool} {a : Act} {w : World} (hi : ops[i]? = some oi) (hN : oi.dst = N) (hc : oneB md ops l l' i = true)
    (hw : Region.wanted oi (yielded ops a.tmps) = true) (f : FuncId) (args : Array Value) (hx : (execOp a.eval oi).run P w = .ok (.enter f args) w) {R : Ending → World → Prop} (hcall : Calls P f args w R)
    (hK : ∀ e w', R e w' → ∃ v, e = .returned v ∧ S w' ∧ (S w' → ∃ a', a.put N v = a' ∧ wpD P md ops Q S ds fuel l' a' w')) : wpD P md ops Q S ds (fuel + 1) l a w := by
  subst hN
  simp only [oneB, Bool.and_eq_true, beq_iff_eq, decide_eq_true_eq] at hc
  obtain ⟨h1, h2⟩ := hc
  subst h2
  refine ⟨fun h0 => (by rw [h1] at h0; cases h0), fun j hj => ?_⟩
  rw [h1] at hj
  have : j = i := by simpa using hj
  subst this
  refine wpOp_call hi hw f args hx hcall fun e w' hr => ?_
  obtain ⟨v, he, hS, hk⟩ := hK e w' hr
  obtain ⟨a', ha, hk⟩ := hk hS
  subst ha
  exact ⟨v, he, fun _ => hS, hk⟩
theorem valD_ (i : Nat) (N : Option Tmp) (l' : Array Bool) {oi : Oper} {fuel : Nat} {l : Array Bool} {a : Act} {w : World} (hi : ops[i]? = some oi) (hN : oi.dst = N) (hc : oneB md ops l l' i = true)
    (hw : Region.wanted oi (yielded ops a.tmps) = true) (v : Value) (w1 : World) (hx : (execOp a.eval oi).run P w = .ok (.value v) w1) (hS : i ∉ ds → S w1) {a' : Act} (ha : a.put N v = a')
    (h : wpD P md ops Q S ds fuel l' a' w1) : wpD P md ops Q S ds (fuel + 1) l a w := by
  subst hN
  subst ha
  simp only [oneB, Bool.and_eq_true, beq_iff_eq, decide_eq_true_eq] at hc
  obtain ⟨h1, h2⟩ := hc
  subst h2
  refine ⟨fun h0 => (by rw [h1] at h0; cases h0), fun j hj => ?_⟩
  rw [h1] at hj
  have : j = i := by simpa using hj
  subst this
  exact wpOp_value hi hw v w1 hx ⟨hS, h⟩
/-- An operation that leaves a value and a world that are told by what they are good for (an append). -/
theorem stepD_ (i : Nat) (N : Option Tmp) (l' : Array Bool) {oi : Oper} {fuel : Nat} {l : Array Bool} {a : Act} {w : World} (hi : ops[i]? = some oi) (hN : oi.dst = N) (hc : oneB md ops l l' i = true)
    (hw : Region.wanted oi (yielded ops a.tmps) = true) {R : Value → World → Prop} (hx : ∃ v w1, (execOp a.eval oi).run P w = .ok (.value v) w1 ∧ R v w1)
    (h : ∀ v w1, R v w1 → (i ∉ ds → S w1) ∧ ∃ a', a.put N v = a' ∧ wpD P md ops Q S ds fuel l' a' w1) : wpD P md ops Q S ds (fuel + 1) l a w := by
  obtain ⟨v, w1, hx, hR⟩ := hx
  obtain ⟨hS, a', ha, hk⟩ := h v w1 hR
  exact valD_ i N l' hi hN hc hw v w1 hx hS ha hk
theorem skD_ (i : Nat) (l' : Array Bool) {oi : Oper} {fuel : Nat} {l : Array Bool} {a : Act} {w : World} (hi : ops[i]? = some oi) (hN : oi.dst = none) (hc : oneB md ops l l' i = true)
    (hw : Region.wanted oi (yielded ops a.tmps) = true) (w1 : World) (hx : (execOp a.eval oi).run P w = .ok .skip w1) (hS : i ∉ ds → S w1)
    (h : wpD P md ops Q S ds fuel l' a w1) : wpD P md ops Q S ds (fuel + 1) l a w := by
  simp only [oneB, Bool.and_eq_true, beq_iff_eq, decide_eq_true_eq] at hc
  obtain ⟨h1, h2⟩ := hc
  subst h2
  refine ⟨fun h0 => (by rw [h1] at h0; cases h0), fun j hj => ?_⟩
  rw [h1] at hj
  have : j = i := by simpa using hj
  subst this
  exact wpOp_skip hi hw w1 hx (by rw [hN]; exact ⟨hS, h⟩)
theorem doneD_ {l : Array Bool} {a : Act} {w : World} (hr : Region.ready md ops l = []) (h : Q .normal a w) : ∀ n, wpD P md ops Q S ds n l a w
  | 0 => ⟨hr, h⟩
  | _ + 1 => ⟨fun _ => h, fun i hi => by rw [hr] at hi; cases hi⟩
end

section
variable {P : Program}
/-- 'append(v, x)', x having just been boxed, where orders are drawn. -/
theorem exec_app1 {o : Oper} {a : Act} {W : World} (cs : Array Value) (base : Nat) (s x : Operand) (t e : TypeId) (z : Value) (size bytes : Nat)
    (ho : o.op = .call { callee := .builtin .append, args := #[s, x], argTypes := #[t, t] })
    (ht : P.underlying t = some (.slice e)) (hinfo : (P.info? e).map (fun i => (i.zero, i.size, i.bytes)) = some (some z, size, bytes)) (hz : z.cells.size = size) (hs0 : 0 < size) (hb0 : 0 < bytes)
    (v : Value) (n : Nat) (xs : List Value) (hs : a.eval s = v) (hx : a.eval x = .slice (some ⟨W.heap.size, 0, none⟩) 1 1) (hys : cs.size = size) (h1 : ∀ u ∈ cs.toList, u.oneCell' = true)
    (HO : W.ownsRow base e size v n xs) (hbase : base ≤ W.heap.size) (hl : (n + 1) * bytes ≤ 140737488355328) :
    ∃ v1 w1, (execOp a.eval o).run P (W.alloc (.cells cs e)) = .ok (.value v1) w1 ∧ w1.ownsRow base e size v1 (n + 1) (xs ++ cs.toList) ∧ W.grownBy w1 v.ownBlock ∧ (v1.ownBlock = v.ownBlock ∨ ∃ b, v1.ownBlock = some b ∧ W.heap.size ≤ b) := by
  obtain ⟨i0, hi, hzz⟩ := Option.map_eq_some_iff.1 hinfo
  simp only [Prod.mk.injEq] at hzz
  obtain ⟨hz0, hz1, hz2⟩ := hzz
  have hlen : n + 1 ≤ 140737488355328 := Nat.le_trans (Nat.le_mul_of_pos_right _ hb0) hl
  obtain ⟨v1, w1, hr, hown, hg, -, hat⟩ := run_append_own_at (P := P) (W.alloc (.cells cs e)) base t o.type e i0 z size bytes ht hi hz0 hz1 hz2 hz hs0 v n xs (HO.alloc _) ⟨W.heap.size, 0, none⟩ 1 1 cs.toList (by rw [Array.length_toList, hys]; simp)
    (by simpa using World.news_of_block (cs := cs) (t := e) (fr := (0, 0)) (heap_alloc_new W (.cells cs e))) h1 (by simp only [maxLen]; omega) hl (by simp; omega)
  refine ⟨v1, w1, ?_, hown, World.grownBy.trans (World.grownBy_alloc W _ _) hg, ?_⟩
  · unfold execOp
    simp only [ho, resolve, invoke, builtin, Sem.run_bind, Sem.run_pure, Result.andThen_ok, List.map_toArray, List.map_cons, List.map_nil, hs, hx, hr]
  · rcases hat with hat | hat
    · exact .inl hat
    · exact .inr ⟨_, hat, by simp⟩
theorem run_storeVar_cell (w : World) (ty : TypeId) (b off : Nat) (v u : Value) (h1 : v.oneCell' = true) (hi : (P.info? ty).map (·.size) = some 1) (hc : w.cell? ⟨b, off, none⟩ = some u) (hf : w.frozen? ⟨b, off, none⟩ = false) :
    (storeVar ty ⟨b, off, none⟩ v).run P w = .ok () (w.setCell ⟨b, off, none⟩ v) := by
  have hv : v.cells = #[v] := by cases v <;> first | rfl | cases h1
  cases hq : P.info? ty with
  | none => simp [hq] at hi
  | some i =>
    have hs : i.size = 1 := by simpa [hq] using hi
    have ha : (⟨b, off, none⟩ : Addr).add 0 = ⟨b, off, none⟩ := by rw [add_off]; rfl
    have hst : (store ⟨b, off, none⟩ v : Sem Unit).run P w = .ok () (w.setCell ⟨b, off, none⟩ v) := by
      rw [run_store P w _ v .plain h1]
      simp [hc, hf]
    simp [storeVar, sizeOf, typeInfo, hq, hs, hv, storeCells, ha, hst]
end
end Go.Proofs.YtcohdfkdhdhegaaGreatDoor
