/- The order of names; a list of names, sorted. No program in sight. slices.Clone and slices.SortFunc of names, laid at this translation's own numbers. Names compared with == and !=; slices.Clone, SortFunc, Compact of names; header.Key. header.Key. A header: how it lies; header.Bytes. -/
import Derived.Test.YtcohdfkdhdhegaaGreatDoorPbAB
import Derived.Test.YtcohdfkdhdhegaaGreatDoorProg
import Derived.Shelf.SlicesE.Clone
import Derived.Shelf.SlSortCmp.NoneTotal
import Derived.Stop.BytesEq
import Derived.StillTactics
import Derived.Deep.RegionHeld3
import Derived.Laws.IdiomStrings
namespace Go.Proofs.YtcohdfkdhdhegaaGreatDoor
open Go.RowKit Go.Sort

theorem cb_self (a : List UInt8) : Lib.compareBytes a a = 0 := by
  induction a with
  | nil => rfl
  | cons x a ih => simp [Lib.compareBytes, ih]
theorem cb_swap (a b : List UInt8) : Lib.compareBytes b a = - Lib.compareBytes a b := by
  induction a generalizing b with
  | nil => cases b <;> simp [Lib.compareBytes]
  | cons x a ih =>
    cases b with
    | nil => simp [Lib.compareBytes]
    | cons y b =>
      simp only [Lib.compareBytes]
      by_cases h1 : x < y
      · have h2 : ¬ y < x := UInt8.lt_asymm h1
        simp [h1, h2]
      · by_cases h2 : y < x
        · simp [h1, h2]
        · simp [h1, h2, ih]
theorem cb_zero (a b : List UInt8) (h : Lib.compareBytes a b = 0) : a = b := by
  induction a generalizing b with
  | nil => cases b <;> simp [Lib.compareBytes] at h ⊢
  | cons x a ih =>
    cases b with
    | nil => simp [Lib.compareBytes] at h
    | cons y b =>
      simp only [Lib.compareBytes] at h
      by_cases h1 : x < y
      · simp [h1] at h
      · by_cases h2 : y < x
        · simp [h1, h2] at h
        · simp only [h1, h2, if_false] at h
          have : x = y := UInt8.le_antisymm (UInt8.not_lt.1 h2) (UInt8.not_lt.1 h1)
          rw [this, ih b h]
theorem cb_trans (a b c : List UInt8) (h : Lib.compareBytes a b ≤ 0) (h' : Lib.compareBytes b c ≤ 0) : Lib.compareBytes a c ≤ 0 := by
  induction a generalizing b c with
  | nil => cases c <;> simp [Lib.compareBytes]
  | cons x a ih =>
    cases b with
    | nil => simp [Lib.compareBytes] at h
    | cons y b =>
      cases c with
      | nil => simp [Lib.compareBytes] at h'
      | cons z c =>
        simp only [Lib.compareBytes] at h h' ⊢
        by_cases h1 : x < y
        · by_cases h2 : y < z
          · simp [UInt8.lt_trans h1 h2]
          · by_cases h3 : z < y
            · simp [h2, h3] at h'
            · have : y = z := UInt8.le_antisymm (UInt8.not_lt.1 h3) (UInt8.not_lt.1 h2)
              subst this
              simp [h1]
        · by_cases h2 : y < x
          · simp [h1, h2] at h
          · have : x = y := UInt8.le_antisymm (UInt8.not_lt.1 h2) (UInt8.not_lt.1 h1)
            subst this
            by_cases h3 : x < z
            · simp [h3]
            · by_cases h4 : z < x
              · simp [h3, h4] at h'
              · simp only [h1, h3, h4, if_false] at h h' ⊢
                exact ih b c h h'

theorem cmpI_self (x : ID) : cmpI x x = 0 := cb_self _
theorem cmpI_swap (x y : ID) : cmpI y x = - cmpI x y := cb_swap _ _
theorem cmpI_zero (x y : ID) (h : cmpI x y = 0) : x = y := by
  have h2 : x.1.data = y.1.data := Array.toList_inj.1 (cb_zero _ _ h)
  exact Subtype.ext (by cases hx : x.1; cases hy : y.1; simp_all)
theorem cmpI_trans (x y z : ID) (h : cmpI x y ≤ 0) (h' : cmpI y z ≤ 0) : cmpI x z ≤ 0 := cb_trans _ _ _ h h'
theorem cmpI_lt_trans (x y z : ID) (h : cmpI x y < 0) (h' : cmpI y z ≤ 0) : cmpI x z < 0 := by
  have h1 := cmpI_trans x y z (by omega) h'
  rcases Int.lt_or_eq_of_le h1 with h2 | h2
  · exact h2
  · have := cmpI_zero x z h2
    subst this
    have := cmpI_swap x y
    omega
theorem swo_cmpI : SWO (ltOf cmpI) where
  irrefl x := by simp [ltOf, cmpI_self]
  trans x y z h h' := by
    simp only [ltOf, decide_eq_true_eq] at *
    exact cmpI_lt_trans x y z h (by omega)
  ntrans x y z h h' := by
    simp only [ltOf, decide_eq_false_iff_not] at *
    have h1 := cmpI_swap x y
    have h2 := cmpI_swap y z
    have h3 := cmpI_swap x z
    have := cmpI_trans z y x (by omega) (by omega)
    omega

def insI (x : ID) : List ID → List ID
  | [] => [x]
  | y :: l => if cmpI x y ≤ 0 then x :: y :: l else y :: insI x l
/-- Names, rising. -/
def sortI : List ID → List ID
  | [] => []
  | x :: l => insI x (sortI l)
theorem insI_perm (x : ID) (l : List ID) : (insI x l).Perm (x :: l) := by
  induction l with
  | nil => exact List.Perm.refl _
  | cons y l ih =>
    simp only [insI]
    split
    · exact List.Perm.refl _
    · exact (List.Perm.cons y ih).trans (List.Perm.swap x y l)
theorem sortI_perm (l : List ID) : (sortI l).Perm l := by
  induction l with
  | nil => exact List.Perm.refl _
  | cons x l ih => exact (insI_perm x _).trans (List.Perm.cons x ih)
theorem insI_rises (x : ID) (l : List ID) (h : l.Pairwise fun a b => cmpI a b ≤ 0) : (insI x l).Pairwise fun a b => cmpI a b ≤ 0 := by
  induction l with
  | nil => simp [insI]
  | cons y l ih =>
    simp only [insI]
    rw [List.pairwise_cons] at h
    split
    · rename_i hxy
      rw [List.pairwise_cons]
      refine ⟨fun a ha => ?_, List.pairwise_cons.2 h⟩
      rcases List.mem_cons.1 ha with rfl | ha
      · exact hxy
      · exact cmpI_trans x y a hxy (h.1 a ha)
    · rename_i hxy
      rw [List.pairwise_cons]
      refine ⟨fun a ha => ?_, ih h.2⟩
      have ha' := (insI_perm x l).subset ha
      rcases List.mem_cons.1 ha' with rfl | ha'
      · have := cmpI_swap a y; omega
      · exact h.1 a ha'
theorem sortI_rises (l : List ID) : (sortI l).Pairwise fun a b => cmpI a b ≤ 0 := by
  induction l with
  | nil => simp [sortI]
  | cons x l ih => exact insI_rises x _ ih

theorem risen_pairwise {β : Type} {cf : β → β → Int} {l : List β} (h : Risen cf l) : l.Pairwise fun a b => ¬ cf b a < 0 := by
  rw [List.pairwise_iff_getElem]
  intro i j hi hj hij
  exact h i j _ _ hij (List.getElem?_eq_getElem hi) (List.getElem?_eq_getElem hj)

theorem sortI_only {l zs : List ID} (hp : zs.Perm l) (hr : zs.Pairwise fun a b => cmpI a b ≤ 0) : zs = sortI l :=
  List.Perm.eq_of_pairwise (le := fun a b => cmpI a b ≤ 0) (fun a b _ _ h h' => cmpI_zero a b (by have := cmpI_swap a b; omega)) hr (sortI_rises l) (hp.trans (sortI_perm l).symm)
theorem sortI_risen {l zs : List ID} (hp : zs.Perm l) (hr : Risen cmpI zs) : zs = sortI l :=
  sortI_only hp ((risen_pairwise hr).imp fun {a b} h => by have := cmpI_swap a b; omega)
theorem sortI_of_perm {l m : List ID} (h : l.Perm m) : sortI l = sortI m := sortI_only ((sortI_perm l).trans h) (sortI_rises l)

end Go.Proofs.YtcohdfkdhdhegaaGreatDoor
namespace Go.Proofs.YtcohdfkdhdhegaaGreatDoor
open Go.Shelf
def lcI_ren : Go.Shelf.Ren := ⟨fun | 41 => 107 | n => n, fun | 22 => 39 | 23 => 66 | 4 => 4 | n => n, fun | n => n⟩
theorem lcI : Go.Proofs.SlLaysE0.n41 Tryz.prog lcI_ren := {
  mixed := by kernel_rfl
  f41 := ⟨Tryz.f107.name, by decide, Tryz.func107.trans (congrArg some (by kernel_rfl))⟩
  t4 := Tryz.underlying4
  a4 := Tryz.isAgg4
  z4 := Tryz.sizeOf4
  v4 := Tryz.zeroValue4
  t22 := Tryz.underlying39
  a22 := Tryz.isAgg39
  z22 := Tryz.sizeOf39
  v22 := Tryz.zeroValue39 }
def lsI_ren : Go.Shelf.Ren := ⟨fun | 6 => 108 | 15 => 151 | 14 => 150 | 28 => 186 | 29 => 187 | 20 => 178 | 21 => 179 | 22 => 180 | 23 => 181 | 24 => 182 | 25 => 183 | 26 => 184 | 27 => 185 | 46 => 216 | 47 => 217 | 48 => 218 | 49 => 219 | 50 => 220 | 57 => 240 | n => n, fun | 22 => 39 | 24 => 66 | 25 => 156 | 3 => 3 | 39 => 115 | 0 => 0 | 53 => 214 | 55 => 26 | 4 => 4 | 46 => 249 | 45 => 248 | 50 => 253 | 5 => 5 | 9 => 9 | 66 => 283 | 70 => 286 | 76 => 299 | 77 => 300 | n => n, fun | n => n⟩
theorem lsI : Go.Proofs.SlLaysF0.n6 Tryz.prog lsI_ren := {
  mixed := by kernel_rfl
  f6 := ⟨Tryz.f108.name, by decide, Tryz.func108.trans (congrArg some (by kernel_rfl))⟩
  f14 := ⟨Tryz.f150.name, by decide, Tryz.func150.trans (congrArg some (by kernel_rfl))⟩
  f15 := Tryz.func151.trans (congrArg some (by kernel_rfl))
  f20 := ⟨Tryz.f178.name, by decide, Tryz.func178.trans (congrArg some (by kernel_rfl))⟩
  f21 := ⟨Tryz.f179.name, by decide, Tryz.func179.trans (congrArg some (by kernel_rfl))⟩
  f22 := ⟨Tryz.f180.name, by decide, Tryz.func180.trans (congrArg some (by kernel_rfl))⟩
  f23 := ⟨Tryz.f181.name, by decide, Tryz.func181.trans (congrArg some (by kernel_rfl))⟩
  f24 := ⟨Tryz.f182.name, by decide, Tryz.func182.trans (congrArg some (by kernel_rfl))⟩
  f25 := ⟨Tryz.f183.name, by decide, Tryz.func183.trans (congrArg some (by kernel_rfl))⟩
  f26 := ⟨Tryz.f184.name, by decide, Tryz.func184.trans (congrArg some (by kernel_rfl))⟩
  f27 := ⟨Tryz.f185.name, by decide, Tryz.func185.trans (congrArg some (by kernel_rfl))⟩
  f28 := Tryz.func186.trans (congrArg some (by kernel_rfl))
  f29 := Tryz.func187.trans (congrArg some (by kernel_rfl))
  f46 := ⟨Tryz.f216.name, by decide, Tryz.func216.trans (congrArg some (by kernel_rfl))⟩
  f47 := Tryz.func217.trans (congrArg some (by kernel_rfl))
  f48 := Tryz.func218.trans (congrArg some (by kernel_rfl))
  f49 := ⟨Tryz.f219.name, by decide, Tryz.func219.trans (congrArg some (by kernel_rfl))⟩
  f50 := ⟨Tryz.f220.name, by decide, Tryz.func220.trans (congrArg some (by kernel_rfl))⟩
  f57 := ⟨Tryz.f240.name, by decide, Tryz.func240.trans (congrArg some (by kernel_rfl))⟩
  t0 := Tryz.underlying0
  a0 := Tryz.isAgg0
  z0 := Tryz.sizeOf0
  v0 := Tryz.zeroValue0
  t3 := Tryz.underlying3
  a3 := Tryz.isAgg3
  z3 := Tryz.sizeOf3
  v3 := Tryz.zeroValue3
  t4 := Tryz.underlying4
  a4 := Tryz.isAgg4
  z4 := Tryz.sizeOf4
  v4 := Tryz.zeroValue4
  t5 := Tryz.underlying5
  a5 := Tryz.isAgg5
  z5 := Tryz.sizeOf5
  v5 := Tryz.zeroValue5
  t9 := Tryz.underlying9
  a9 := Tryz.isAgg9
  z9 := Tryz.sizeOf9
  v9 := Tryz.zeroValue9
  t22 := Tryz.underlying39
  a22 := Tryz.isAgg39
  z22 := Tryz.sizeOf39
  v22 := Tryz.zeroValue39
  t25 := Tryz.underlying156
  a25 := Tryz.isAgg156
  z25 := Tryz.sizeOf156
  v25 := Tryz.zeroValue156
  t39 := Tryz.underlying115
  a39 := Tryz.isAgg115
  z39 := Tryz.sizeOf115
  v39 := Tryz.zeroValue115
  t45 := Tryz.underlying248
  a45 := Tryz.isAgg248
  z45 := Tryz.sizeOf248
  v45 := Tryz.zeroValue248
  t46 := Tryz.underlying249
  a46 := Tryz.isAgg249
  z46 := Tryz.sizeOf249
  v46 := Tryz.zeroValue249
  t50 := Tryz.underlying253
  a50 := Tryz.isAgg253
  z50 := Tryz.sizeOf253
  v50 := Tryz.zeroValue253
  t53 := Tryz.underlying214
  a53 := Tryz.isAgg214
  z53 := Tryz.sizeOf214
  v53 := Tryz.zeroValue214
  t55 := Tryz.underlying26
  a55 := Tryz.isAgg26
  z55 := Tryz.sizeOf26
  v55 := Tryz.zeroValue26
  t66 := Tryz.underlying283
  a66 := Tryz.isAgg283
  z66 := Tryz.sizeOf283
  v66 := Tryz.zeroValue283
  t70 := Tryz.underlying286
  a70 := Tryz.isAgg286
  z70 := Tryz.sizeOf286
  v70 := Tryz.zeroValue286
  t76 := Tryz.underlying299
  a76 := Tryz.isAgg299
  z76 := Tryz.sizeOf299
  v76 := Tryz.zeroValue299
  t77 := Tryz.underlying300
  a77 := Tryz.isAgg300
  z77 := Tryz.sizeOf300
  v77 := Tryz.zeroValue300 }
end Go.Proofs.YtcohdfkdhdhegaaGreatDoor
namespace Go.Proofs.YtcohdfkdhdhegaaGreatDoor
open Go.RowKit

theorem byte_size (w : World) : (sizeOf 5).run Tryz.prog w = .ok 1 w := Tryz.sizeOf5 w
theorem run_equalIn_id (w : World) (x y : ID) : (Op.equalIn 10000 66 (.agg (idc x).toArray) (.agg (idc y).toArray)).run Tryz.prog w = .ok (decide (x = y)) w := by
  have h := run_equalIn_bytes (P := Tryz.prog) w 9998 66 5 32 Tryz.underlying66 Tryz.underlying5 byte_size x.1.data.toList y.1.data.toList (by simpa using x.2) (by simpa using y.2)
  have hxy : (x.1.data.toList == y.1.data.toList) = decide (x = y) := by
    rw [Bool.eq_iff_iff]
    simp only [beq_iff_eq, decide_eq_true_eq]
    constructor
    · intro h
      have h2 : x.1.data = y.1.data := Array.toList_inj.1 h
      exact Subtype.ext (by cases hx : x.1; cases hy : y.1; simp_all)
    · rintro rfl; rfl
  rw [hxy] at h
  exact h
theorem run_eql_id (w : World) (x y : ID) : (binOp .eql 66 (.agg (idc x).toArray) (.agg (idc y).toArray)).run Tryz.prog w = .ok (.bool (decide (x = y))) w := by
  rw [run_eql_struct, run_equalIn_id]; rfl
theorem run_neq_id (w : World) (x y : ID) : (binOp .neq 66 (.agg (idc x).toArray) (.agg (idc y).toArray)).run Tryz.prog w = .ok (.bool (!decide (x = y))) w := by
  rw [run_neq_struct, run_equalIn_id]; rfl
theorem guard_id : Tryz.prog.eqGuardType Tryz.prog.depth 66 = false := by kernel_rfl

section
variable {ops : Array Oper} {rest : List Oper} {o : Oper} {a : Act} {w : World}
theorem still_eql (hgd : o.guard = none) (x y : Operand) (T : TypeId) (ho : o.op = .binOp .eql 66 x y T) (i j : ID) (hx : a.eval x = .agg (idc i).toArray) (hy : a.eval y = .agg (idc j).toArray) {Q : Act → Prop}
    (h : wpStill Tryz.prog ops w Q rest (a.put o.dst (.bool (decide (i = j))))) : wpStill Tryz.prog ops w Q (o :: rest) a :=
  wpStill_step fun K hK => by
    have hw : Region.wanted o (yielded ops a.tmps) = true := by simp [Region.wanted, hgd]
    rw [if_pos hw]
    unfold Oper.still execOp
    simp only [ho, hx, hy, Sem.run_bind, run_eqGuard_agg w .eql _ _ _ _ _ guard_id, run_eql_id, Result.andThen_ok, Sem.run_pure]
    exact ⟨rfl, hK _ h⟩
end

/-- No name is the one ahead of it. -/
def Unlike (l : List ID) : Prop := ∀ i x y, l[i]? = some x → l[i + 1]? = some y → x ≠ y

set_option maxRecDepth 100000 in
set_option maxHeartbeats 1000000 in
theorem compact_any (w : World) (v : Value) (l : List ID) (ok : Nat → Prop) (hl : Sl idE ok w v l) (hu : Unlike l) :
    Calls Tryz.prog 110 #[v] w fun e w' => e = .returned v ∧ Below w.heap.size w w' := by
  have HL := Lib.hid hl
  have HU := Lib.hid hu
  obtain ⟨A, c, rfl, hc, hm⟩ := hl.form
  clear hl hu
  go_enter Tryz.func110, Tryz.ntmps110
  by_cases h2 : l.length < 2
  · go_wp2
    go_ret
    exact ⟨rfl, Below.refl _ _⟩
  · go_wp2
    go_loopw [3] (fun ci wr => ∃ i : Nat, 1 ≤ i ∧ i ≤ l.length ∧ ci = .int .i64 i ∧ Below w.heap.size w wr) (fun ci _ => l.length - (intOf ci).toNat)
    case atStart => exact ⟨1, by omega, by omega, rfl, Below.refl _ _⟩
    case round =>
      obtain ⟨i, h1, hi, rfl, hB⟩ := hrel
      by_cases hlt : i < l.length
      · obtain ⟨x, hx⟩ : ∃ x, l[i - 1]? = some x := ⟨_, List.getElem?_eq_getElem (by omega)⟩
        obtain ⟨y, hy⟩ : ∃ y, l[i]? = some y := ⟨_, List.getElem?_eq_getElem hlt⟩
        have hS := HL.out.below hB
        obtain ⟨b, off, rfl, hb, -, hcx⟩ := hS.at_ (i - 1) x hx
        obtain ⟨b', off', he, -, -, hcy⟩ := hS.at_ i y hy
        injection he with he
        injection he with e1 e2
        subst e1; subst e2
        obtain ⟨p, ep⟩ : ∃ p, i - 1 = p := ⟨_, rfl⟩
        rw [ep] at hcx
        have hne : ¬ y = x := fun e => HU.out (i - 1) x y hx (by rw [show i - 1 + 1 = i by omega]; exact hy) e.symm
        have hw : IntKind.i64.wrap ((i : Int) - 1) = (p : Int) := by rw [IntWalk.i64_in _ (by omega)]; omega
        have hpl : p < l.length := by omega
        clear hS
        have HEP := Lib.hid ep; clear ep
        have HX := Lib.hid hcx; clear hcx
        have HY := Lib.hid hcy; clear hcy
        have HNE := Lib.hid hne; clear hne
        go_wp2
        refine wp_region_still_lit (by kernel_rfl) (by kernel_rfl) ?_
        repeat (first
          | (refine still_load rfl 66 (.tmp 18) rfl b _ rfl (idc y) _ HY.out Tryz.underlying66 rfl (by rw [idc_length]; exact id_size) ?_)
          | (refine still_load rfl 66 (.tmp 23) rfl b _ rfl (idc x) _ HX.out Tryz.underlying66 rfl (by rw [idc_length]; exact id_size) ?_)
          | (refine still_eql rfl (.tmp 19) (.tmp 24) _ rfl y x rfl rfl ?_; rw [decide_eq_false HNE.out])
          | still_step)
        refine wpStill_nil ?_
        change Exit.then _ _ _ _ wr.drew
        have hBd : Below w.heap.size w wr.drew := hB.drew
        generalize wr.drew = wd at hBd
        go_wp2
        go_roundw
        case rel => exact ⟨i + 1, by omega, by omega, by go_num, hBd⟩
        case measure => simp [intOf]; omega
      · go_wp2
        go_ret
        exact ⟨rfl, hB⟩

theorem id_info : (Tryz.prog.info? 66).map (fun i => (i.zero, i.size, i.bytes)) = some (some (.agg (Array.replicate 32 (.int .u8 0))), idE.k, 32) := by kernel_rfl
theorem clone_id (w : World) (v : Value) (l : List ID) (ok : Nat → Prop) (hl : Sl idE ok w v l) (hlen : l.length ≤ 4294967296) :
    Calls Tryz.prog 107 #[v] w fun e w' => ∃ v', e = .returned v' ∧ w'.ownsRow w.heap.size 66 32 v' l.length (idE.flat l) ∧ Below w.heap.size w w' :=
  clone_gen lcI _ 32 id_info (by simp [Value.cells]; rfl) Tryz.sizeOf66 hl (by omega) (by omega)
theorem more_compare (W : World) (x y : ID) : Calls Tryz.prog 118 (#[.agg (idE.enc x).toArray, .agg (idE.enc y).toArray] ++ #[]) W fun e w' => e = .returned (.int .i64 (cmpI x y)) ∧ More W w' :=
  headerCompare_any W x y
theorem sort_id (w : World) (v : Value) (l : List ID) (base : Nat) (T : TypeId) (h : w.ownsRow base T 32 v l.length (idE.flat l)) (hlen : l.length ≤ 4294967296) :
    Calls Tryz.prog 108 #[v, .func (.func 118) #[] #[]] w fun e w' => e = .returned (.tuple #[]) ∧ w'.ownsRow base T 32 v l.length (idE.flat (sortI l)) ∧ w.grownBy w' v.ownBlock :=
  (sort_gen (E := idE) lsI Tryz.isAgg66 Tryz.sizeOf66 cmpI swo_cmpI 118 #[] (enters_of Tryz.func118 (by kernel_rfl) rfl) more_compare h (by omega)).mono fun e w' ⟨he, zs, hp, hr, ho, hg⟩ => by
    rw [sortI_risen hp hr] at ho
    exact ⟨he, ho, hg⟩
end Go.Proofs.YtcohdfkdhdhegaaGreatDoor
namespace Go.Proofs.YtcohdfkdhdhegaaGreatDoor
open Go.RowKit

set_option maxRecDepth 100000 in
set_option maxHeartbeats 1000000 in
theorem builderString_nil (b : Nat) (p : Value) (w : World) (T : TypeId) (h : w.heap[b]? = some (.cells #[p, .slice none 0 0] T (0, 0))) :
    Calls Tryz.prog 120 #[.pointer (some ⟨b, 0, none⟩)] w fun e w' => e = .returned (.string ⟨#[]⟩) ∧ Below w.heap.size w w' := by
  have hUS : (Builtin.unsafeString_ #[224, 3] 9 #[.pointer none, .int .i64 0]).run Tryz.prog w.drew = .ok (.string .empty) w.drew := Lib.run_unsafeString_none _ _ _ _ none
  have c1 : w.drew.cell? ⟨b, 1, none⟩ = some (.slice none 0 0) := by
    have : w.drew.heap[b]? = some (.cells #[p, .slice none 0 0] T (0, 0)) := h
    rw [Lib.cell_of_heap this]; rfl
  have hSD : (Builtin.unsafeSliceData_ #[145] 224 #[.slice none 0 0]).run Tryz.prog w.drew = .ok (.pointer none) w.drew := rfl
  go_enter Tryz.func120, Tryz.ntmps120
  go_wp2
  go_region
  all_goals (go_wp2; go_ret; exact ⟨rfl, Below.drew (Below.refl _ w)⟩)

/-- Names, one behind the other. -/
def joinI (l : List ID) : List UInt8 := l.flatMap fun x => x.1.data.toList
theorem joinI_snoc (l : List ID) (x : ID) : joinI (l ++ [x]) = joinI l ++ x.1.data.toList := by simp [joinI]
theorem joinI_length (l : List ID) : (joinI l).length = l.length * 32 := by
  induction l with
  | nil => rfl
  | cons x l ih => have := x.2; simp only [joinI, List.flatMap_cons, List.length_append, List.length_cons] at *; rw [ih]; simp [this]; omega
/-- A key. -/
def keyB (l : List ID) : ByteArray := ⟨(joinI (sortI l)).toArray⟩

theorem unlike_sorted {l : List ID} (h : l.Nodup) : Unlike (sortI l) := by
  have hn : (sortI l).Nodup := (sortI_perm l).nodup_iff.2 h
  intro i x y hx hy he
  obtain ⟨h1, e1⟩ := List.getElem?_eq_some_iff.1 hx
  obtain ⟨h2, e2⟩ := List.getElem?_eq_some_iff.1 hy
  have := (List.pairwise_iff_getElem.1 hn) i (i + 1) h1 h2 (by omega)
  exact this (by rw [e1, e2, he])

set_option maxRecDepth 100000 in
set_option maxHeartbeats 1000000 in
theorem key_any (w : World) (v : Value) (l : List ID) (ok : Nat → Prop) (hl : Sl idE ok w v l) (hlen : l.length ≤ 4294967296) (hd : l.Nodup) :
    Calls Tryz.prog 40 #[v] w fun e w' => e = .returned (.string (keyB l)) ∧ Below w.heap.size w w' := by
  have HC := Lib.hid (clone_id w v l ok hl hlen)
  have HLEN := Lib.hid hlen
  have HD := Lib.hid hd
  clear hl hlen hd
  go_enter Tryz.func40, Tryz.ntmps40
  go_wp2_with (first
    | (go_at_call 107; refine HC.out.mono ?_; rintro e w1 ⟨v1, rfl, ho1, hb1⟩; obtain ⟨A1, c1, rfl, hc1⟩ := own_slice ho1; have HO1 := Lib.hid ho1; have HB1 := Lib.hid hb1; clear ho1 hb1)
    | (go_at_call 108; refine (sort_id w1 _ l _ _ HO1.out HLEN.out).mono ?_; rintro e w2 ⟨rfl, ho2, hg2⟩; have HO2 := Lib.hid ho2; have HB2 := Lib.hid (below_grown_own HB1.out HO1.out (Nat.le_refl _) HB1.out.size hg2); clear ho2 hg2)
    | (go_at_call 110; refine (compact_any _ _ (sortI l) _ (Sl.of_own (E := idE) (by rw [(sortI_perm l).length_eq]; exact HO2.out.alloc _)) (unlike_sorted HD.out)).mono ?_; rintro e w3 ⟨rfl, hb3⟩))
  have hsz1 : w2.heap.size ≤ w3.heap.size := by have := hb3.size; simp at this; omega
  have hS3 : Sl idE (fun k => k < w2.heap.size) w3 (.slice A1 l.length c1) (sortI l) := by
    have h2 : w2.ownsRow w.heap.size 66 32 (.slice A1 l.length c1) (sortI l).length (idE.flat (sortI l)) := by rw [(sortI_perm l).length_eq]; exact HO2.out
    have h3 := (Sl.of_own (E := idE) (h2.alloc (.cells #[.pointer none, .slice none 0 0] 167))).below hb3
    exact h3.mono fun k hk => (own_lt h2 k hk).2
  have hbk3 : w3.heap[w2.heap.size]? = some (.cells #[.pointer none, .slice none 0 0] 167 (0, 0)) := (hb3.block _ (by simp)).trans (heap_alloc_new w2 _)
  have hbuf3 : BufAt 167 w2.heap.size w2.heap.size [] w3 := (buf_new 167 w2 w2.heap.size (Nat.le_refl _)).below hb3
  have hB3 : Below w.heap.size w w3 := (HB2.out.alloc HB2.out.size _).trans (hb3.mono (by have := HB2.out.size; simp; omega))
  have hml : (sortI l).length = l.length := (sortI_perm l).length_eq
  have HML := Lib.hid hml
  have hs2 := HB2.out.size
  generalize w2.heap.size = b at hsz1 hS3 hbk3 hbuf3 hs2
  have HS3 := Lib.hid hS3
  clear hS3 hb3 hml
  go_wp2
  go_loopw [13] (fun ci wr => ∃ i : Nat, i ≤ l.length ∧ ci = .int .i64 i ∧ BufAt 167 b b (joinI ((sortI l).take i)) wr ∧ Below b w3 wr ∧ (i = 0 → wr.heap[b]? = some (.cells #[.pointer none, .slice none 0 0] 167 (0, 0)))) (fun ci _ => l.length - (intOf ci).toNat)
  case atStart => exact ⟨0, by omega, rfl, hbuf3, Below.refl _ _, fun _ => hbk3⟩
  case round =>
    obtain ⟨i, hi, rfl, hbuf, hbel, h00⟩ := hrel
    have hsr := hbel.size
    have hlen := HLEN.out
    by_cases hlt : i < l.length
    · obtain ⟨x, hx⟩ : ∃ x, (sortI l)[i]? = some x := ⟨_, List.getElem?_eq_getElem (by rw [HML.out]; exact hlt)⟩
      have hSr : Sl idE (fun k => k < b) wr (.slice A1 l.length c1) (sortI l) := HS3.out.fr (Fr.below hbel fun k hk _ => hk)
      obtain ⟨bk, off, rfl, hbkl, -, hcx⟩ := hSr.at_ i x hx
      have HX := Lib.hid hcx
      have HBUF := Lib.hid hbuf
      have HBEL := Lib.hid hbel
      clear hcx hbuf hbel h00 hSr
      go_wp2_with (first
        | (refine wpl_load rfl 66 (.tmp 15) rfl bk _ rfl (idc x) _ HX.out Tryz.underlying66 rfl (by rw [idc_length]; exact id_size) ?_)
        | (refine wpl_store_new rfl 66 _ _ rfl rfl (idc x) rfl _ _ (by rw [idc_length]; simp) (idE.one x) (by rw [idc_length]; exact id_size) ?_)
        | (go_at_call 119; refine (write_any 167 bt_builder b b _ x.1 wr.heap.size 0 32 32 _ x.2 (bytesAt_new wr x.1 _) (by have := HBUF.out.lt; omega) (HBUF.out.below ((Below.refl _ wr).alloc (Nat.le_refl _) _)) (by rw [joinI_length]; have := List.length_take_le i (sortI l); have := HML.out; have := HLEN.out; omega) (by simp; omega)).mono ?_; rintro e w4 ⟨rfl, hu4, hb4⟩))
      go_roundw
      case rel =>
        refine ⟨i + 1, by omega, by go_num, ?_, ?_, fun h => by omega⟩
        · rw [List.take_add_one, hx]
          exact (joinI_snoc _ x) ▸ hu4.buf
        · exact (HBEL.out.alloc (by omega) _).trans hb4
      case measure => simp [intOf]; omega
    · have hil : i = l.length := by omega
      subst hil
      have htk : (sortI l).take l.length = sortI l := List.take_of_length_le (by rw [HML.out]; exact Nat.le_refl _)
      rw [htk] at hbuf
      have hfin : Calls Tryz.prog 120 #[.pointer (some ⟨b, 0, none⟩)] wr fun e w' => e = .returned (.string (keyB l)) ∧ Below b wr w' := by
        by_cases h0 : l.length = 0
        · refine (builderString_nil b _ wr _ (h00 h0)).mono ?_
          rintro e w' ⟨rfl, hb⟩
          have : l = [] := List.eq_nil_of_length_eq_zero h0
          subst this
          exact ⟨rfl, hb.mono (by omega)⟩
        · refine (builderString_any 167 b b _ wr hbuf (fun h => ?_)).mono ?_
          · have := congrArg List.length h
            rw [joinI_length, HML.out] at this
            simp at this
            omega
          · rintro e w' ⟨rfl, hb⟩
            exact ⟨rfl, hb⟩
      have HF := Lib.hid hfin
      clear hfin hbuf h00
      go_wp2_with (go_at_call 120; refine HF.out.mono ?_; rintro e w4 ⟨rfl, hb4⟩)
      go_ret
      exact ⟨rfl, hB3.trans ((hbel.trans hb4).mono hs2)⟩
end Go.Proofs.YtcohdfkdhdhegaaGreatDoor
namespace Go.Proofs.YtcohdfkdhdhegaaGreatDoor
open Go.RowKit

structure Hdr where
  height : Int
  miner : Int
  ticket : ByteArray
  wins : Int
  power : Int
  parents : List ID
  salt : Int

/-- A header whose parents lie somewhere. -/
structure LH where
  h : Hdr
  A : Option Addr
  c : Nat
def LH.v (x : LH) : Value := .slice x.A x.h.parents.length x.c
def LH.cells (x : LH) : List Value := [.int .i64 x.h.height, .int .i64 x.h.miner, .string x.h.ticket, .int .i64 x.h.wins, .int .u64 x.h.power, x.v, .int .i64 x.h.salt]
def LH.At (ok : Nat → Prop) (w : World) (x : LH) : Prop := Sl idE ok w x.v x.h.parents

def I64 (x : Int) : Prop := -9223372036854775808 ≤ x ∧ x ≤ 9223372036854775807
/-- What is asked of a header where its bytes are made. -/
structure Hdr.Ok (h : Hdr) : Prop where
  height : I64 h.height
  miner : I64 h.miner
  wins : I64 h.wins
  salt : I64 h.salt
  p0 : 0 ≤ h.power
  p1 : h.power ≤ 4611686018427387904
  ticket : h.ticket.size ≤ 1048576
  parents : h.parents.length ≤ 1048576

/-- Its bytes. -/
def hdrB (h : Hdr) : List UInt8 :=
  numB h.height.toNat ++ numB h.miner.toNat ++ textB h.ticket ++ numB h.wins.toNat ++ numB h.power.toNat ++ numB h.parents.length ++ joinI h.parents ++ numB h.salt.toNat

theorem num_s (B b n : Nat) (l : List UInt8) (x : Int) (w W : World) (h : BufAt 219 B b l w) (hB : B ≤ w.heap.size) (hW : Below B W w) (hl : l.length ≤ n) (hn : n ≤ 1099511627776) (h0 : -9223372036854775808 ≤ x) (h1 : x ≤ 9223372036854775807) :
    Calls Tryz.prog 156 #[.pointer (some ⟨b, 0, none⟩), .int .i64 x] w fun e w' => e = .returned (.pointer (some ⟨b, 0, none⟩)) ∧ BufAt 219 B b (l ++ numB x.toNat) w' ∧ B ≤ w'.heap.size ∧ (l ++ numB x.toNat).length ≤ n + 9 ∧ Below B W w' :=
  (num_any B b l x w h h0 h1 (by omega) hB).mono fun e w' ⟨he, hu, hb⟩ => ⟨he, hu.buf, Nat.le_trans hB hb.size, by have := numB_length x.toNat; simp; omega, hW.trans hb⟩
theorem text_s (B b n : Nat) (l : List UInt8) (x : ByteArray) (w W : World) (h : BufAt 219 B b l w) (hB : B ≤ w.heap.size) (hW : Below B W w) (hl : l.length ≤ n) (hn : n ≤ 1099511627776) (hx : x.size ≤ 68719476736) :
    Calls Tryz.prog 157 #[.pointer (some ⟨b, 0, none⟩), .string x] w fun e w' => e = .returned (.pointer (some ⟨b, 0, none⟩)) ∧ BufAt 219 B b (l ++ textB x) w' ∧ B ≤ w'.heap.size ∧ (l ++ textB x).length ≤ n + 68719476745 ∧ Below B W w' :=
  (text_any B b l x w h (by omega) hB).mono fun e w' ⟨he, hu, hb⟩ => ⟨he, hu.buf, Nat.le_trans hB hb.size, by have := numB_length x.size; simp [textB]; omega, hW.trans hb⟩

/-- A name's bytes as a text. -/
theorem conv_id (w : World) (b off : Nat) (x : ID) (h : BytesAt w b off x.1) : (convert 145 9 (.slice (some ⟨b, off, none⟩) 32 32)).run Tryz.prog w = .ok (.string x.1) w := by
  have h2 := run_convert_bytes_back (P := Tryz.prog) w 145 9 5 ⟨b, off, none⟩ 32 x.1.data.toList Tryz.underlying145 Tryz.underlying5 Tryz.underlying9 (fun j hj => by
    rw [add_off]
    exact h j _ (bytesC_at x.1 j _ (List.getElem?_eq_getElem hj)))
  rw [show x.1.data.toList.length = 32 by simpa using x.2] at h2
  simpa using h2

theorem keep6 {w w' : World} {B b : Nat} {v0 v1 v2 v3 v4 v5 : Value} (hb : Below B w w') (hlt : b < B)
    (h : w.cell? ⟨b, 0, none⟩ = some v0 ∧ w.cell? ⟨b, 1, none⟩ = some v1 ∧ w.cell? ⟨b, 2, none⟩ = some v2 ∧ w.cell? ⟨b, 3, none⟩ = some v3 ∧ w.cell? ⟨b, 4, none⟩ = some v4 ∧ w.cell? ⟨b, 5, none⟩ = some v5) :
    w'.cell? ⟨b, 0, none⟩ = some v0 ∧ w'.cell? ⟨b, 1, none⟩ = some v1 ∧ w'.cell? ⟨b, 2, none⟩ = some v2 ∧ w'.cell? ⟨b, 3, none⟩ = some v3 ∧ w'.cell? ⟨b, 4, none⟩ = some v4 ∧ w'.cell? ⟨b, 5, none⟩ = some v5 := by
  have hc : ∀ i, w'.cell? ⟨b, i, none⟩ = w.cell? ⟨b, i, none⟩ := fun i => hb.cell (p := ⟨b, i, none⟩) hlt
  simpa only [hc] using h

set_option maxRecDepth 100000 in
set_option maxHeartbeats 2000000 in
theorem hdrBytes_any (w : World) (x : LH) (ok : Nat → Prop) (hx : x.At ok w) (hok : x.h.Ok) :
    Calls Tryz.prog 114 #[.agg x.cells.toArray] w fun e w' => e = .returned (.string ⟨(hdrB x.h).toArray⟩) ∧ Below w.heap.size w w' := by
  obtain ⟨⟨height, miner, ticket, wins, power, parents, salt⟩, A, c⟩ := x
  have HL := Lib.hid hx
  obtain ⟨⟨h1, h2⟩, ⟨h3, h4⟩, ⟨h5, h6⟩, ⟨h7, h8⟩, h9, h10, h11, h12⟩ := hok
  simp only at h1 h2 h3 h4 h5 h6 h7 h8 h9 h10 h11 h12
  clear hx
  change Calls _ _ #[.agg #[.int .i64 height, .int .i64 miner, .string ticket, .int .i64 wins, .int .u64 power, .slice A parents.length c, .int .i64 salt]] w fun e w' => e = .returned (.string ⟨(hdrB ⟨height, miner, ticket, wins, power, parents, salt⟩).toArray⟩) ∧ Below w.heap.size w w'
  change Hid (Sl idE ok w (.slice A parents.length c) parents) at HL
  obtain ⟨-, hc, hm⟩ := HL.out.len
  go_enter Tryz.func114, Tryz.ntmps114
  go_wp2
  have hb0 : BufAt 219 (w.heap.size + 1) (w.heap.size + 1) [] ((w.alloc (.cells #[.int .i64 height, .int .i64 miner, .string ticket, .int .i64 wins, .int .u64 power, .slice A parents.length c, .int .i64 salt] 41)).alloc (.cells #[.pointer none, .slice none 0 0] 219)) := by
    have := buf_new 219 (w.alloc (.cells #[.int .i64 height, .int .i64 miner, .string ticket, .int .i64 wins, .int .u64 power, .slice A parents.length c, .int .i64 salt] 41)) (w.heap.size + 1) (by simp)
    rwa [World.size_alloc] at this
  have hB0 : Below w.heap.size w ((w.alloc (.cells #[.int .i64 height, .int .i64 miner, .string ticket, .int .i64 wins, .int .u64 power, .slice A parents.length c, .int .i64 salt] 41)).alloc (.cells #[.pointer none, .slice none 0 0] 219)) := ((Below.refl _ w).alloc (Nat.le_refl _) _).alloc (by simp) _
  have hK : ∀ i u, (#[Value.int .i64 height, .int .i64 miner, .string ticket, .int .i64 wins, .int .u64 power, .slice A parents.length c, .int .i64 salt] : Array Value)[i]? = some u → ((w.alloc (.cells #[.int .i64 height, .int .i64 miner, .string ticket, .int .i64 wins, .int .u64 power, .slice A parents.length c, .int .i64 salt] 41)).alloc (.cells #[.pointer none, .slice none 0 0] 219)).cell? ⟨w.heap.size, i, none⟩ = some u := fun i u hu => by
    refine cell_block (fr := (0, 0)) (T := 41) ?_ hu
    rw [heap_alloc_if, if_neg (by simp), heap_alloc_if, if_pos rfl]
  generalize hW : (w.alloc (.cells #[.int .i64 height, .int .i64 miner, .string ticket, .int .i64 wins, .int .u64 power, .slice A parents.length c, .int .i64 salt] 41)).alloc (.cells #[.pointer none, .slice none 0 0] 219) = W at hb0 hB0 hK
  have hS0 : W.drew.cell? ⟨w.heap.size, 0, none⟩ = some (.int .i64 height) ∧ W.drew.cell? ⟨w.heap.size, 1, none⟩ = some (.int .i64 miner) ∧ W.drew.cell? ⟨w.heap.size, 2, none⟩ = some (.string ticket) ∧ W.drew.cell? ⟨w.heap.size, 3, none⟩ = some (.int .i64 wins) ∧ W.drew.cell? ⟨w.heap.size, 4, none⟩ = some (.int .u64 power) ∧ W.drew.cell? ⟨w.heap.size, 5, none⟩ = some (.slice A parents.length c) :=
    ⟨hK 0 _ rfl, hK 1 _ rfl, hK 2 _ rfl, hK 3 _ rfl, hK 4 _ rfl, hK 5 _ rfl⟩
  have hsz : w.heap.size + 1 ≤ W.heap.size := by rw [← hW]; simp
  have hk6 : W.cell? ⟨w.heap.size, 6, none⟩ = some (.int .i64 salt) := hK 6 _ rfl
  have hb0 : BufAt 219 (w.heap.size + 1) (w.heap.size + 1) [] W.drew := hb0
  have hbw : Below (w.heap.size + 1) W W.drew := (Below.refl _ W).drew
  have hsz' : w.heap.size + 1 ≤ W.drew.heap.size := hsz
  have hl0 : ([] : List UInt8).length ≤ 0 := Nat.le_refl _
  clear hK
  have hpw : IntKind.i64.wrap power = power := IntWalk.i64_in _ (by omega)
  go_region_held3 (fun w' => w'.cell? ⟨w.heap.size, 0, none⟩ = some (.int .i64 height) ∧ w'.cell? ⟨w.heap.size, 1, none⟩ = some (.int .i64 miner) ∧ w'.cell? ⟨w.heap.size, 2, none⟩ = some (.string ticket) ∧ w'.cell? ⟨w.heap.size, 3, none⟩ = some (.int .i64 wins) ∧ w'.cell? ⟨w.heap.size, 4, none⟩ = some (.int .u64 power) ∧ w'.cell? ⟨w.heap.size, 5, none⟩ = some (.slice A parents.length c))
    (first | assumption | exact keep6 (w := W) (by assumption) (Nat.lt_succ_self _) hS0)
    (first
      | (go_at_call 156; refine (num_s _ _ _ _ _ _ W (by assumption) (by assumption) (by assumption) (by assumption) (by omega) (by omega) (by omega)).mono ?_; rintro e w' ⟨rfl, hbu, hbs, hbl, hbb⟩)
      | (go_at_call 157; refine (text_s _ _ _ _ _ _ W (by assumption) (by assumption) (by assumption) (by assumption) (by omega) (by omega)).mono ?_; rintro e w' ⟨rfl, hbu, hbs, hbl, hbb⟩))
  rename_i hH
  obtain ⟨-, -, -, -, -, hc5⟩ := hH
  have hk6' : w'.cell? ⟨w.heap.size, 6, none⟩ = some (.int .i64 salt) := (hbb.cell (p := ⟨w.heap.size, 6, none⟩) (Nat.lt_succ_self _)).trans hk6
  have hbt : Below w.heap.size w w' := hB0.trans (hbb.mono (by omega))
  obtain ⟨L, hL⟩ : ∃ L, [] ++ numB height.toNat ++ numB miner.toNat ++ textB ticket ++ numB wins.toNat ++ numB power.toNat ++ numB ((parents.length : Int)).toNat = L := ⟨_, rfl⟩
  rw [hL] at hbu hbl
  have HH := Lib.hid hL
  obtain ⟨b, hb⟩ : ∃ b, w.heap.size + 1 = b := ⟨_, rfl⟩
  have hwb : w.heap.size < b := by omega
  rw [hb] at hbu
  simp only [hb]
  clear hb0 hB0 hS0 hsz hk6 hbw hsz' hl0 hbb hW hL
  have HBT := Lib.hid hbt
  have HBU := Lib.hid hbu
  clear hbt hbu
  go_wp2
  go_loopw [29] (fun ci wr => ∃ i : Nat, i ≤ parents.length ∧ ci = .int .i64 i ∧ BufAt 219 b b (L ++ joinI (parents.take i)) wr ∧ Below b w' wr) (fun ci _ => parents.length - (intOf ci).toNat)
  case atStart => exact ⟨0, by omega, rfl, by simpa [joinI] using HBU.out, Below.refl _ _⟩
  case round =>
    obtain ⟨i, hi, rfl, hbuf, hbel⟩ := hrel
    have hsr := hbel.size
    have HBUF := Lib.hid hbuf
    have HBEL := Lib.hid hbel
    clear hbuf hbel
    by_cases hlt : i < parents.length
    · obtain ⟨x, hx⟩ : ∃ x, parents[i]? = some x := ⟨_, List.getElem?_eq_getElem hlt⟩
      have hSr : Sl idE (fun k => ok k ∧ k < w.heap.size) wr (.slice A parents.length c) parents := HL.out.old.fr (Fr.trans (Fr.below HBT.out fun k hk _ => hk.2) (Fr.below HBEL.out fun k hk _ => by omega))
      obtain ⟨bk, off, rfl, hbkl, -, hcx⟩ := hSr.at_ i x hx
      have HX := Lib.hid hcx
      clear hcx hSr
      have hcv := conv_id (wr.alloc (.cells (idc x).toArray 66)) wr.heap.size 0 x (bytesAt_new wr x.1 _)
      have hraw := raw_any b b (L ++ joinI (parents.take i)) x.1 (wr.alloc (.cells (idc x).toArray 66)) (HBUF.out.below ((Below.refl _ wr).alloc (Nat.le_refl _) _)) (by have := List.length_take_le i parents; have := x.2; rw [List.length_append, joinI_length]; omega) (by simp; omega)
      have HR := Lib.hid hraw
      clear hraw
      go_wp2_with (first
        | (refine wpl_load rfl 66 (.tmp 31) rfl bk _ rfl (idc x) _ HX.out Tryz.underlying66 rfl (by rw [idc_length]; exact id_size) ?_)
        | (refine wpl_store_new rfl 66 _ _ rfl rfl (idc x) rfl _ _ (by rw [idc_length]; simp) (idE.one x) (by rw [idc_length]; exact id_size) ?_)
        | (go_at_call 158; refine HR.out.mono ?_; rintro e w4 ⟨rfl, hu4, hb4⟩))
      go_roundw
      case rel =>
        refine ⟨i + 1, by omega, by go_num, ?_, (HBEL.out.alloc (by omega) _).trans hb4⟩
        rw [List.take_add_one, hx]
        have := joinI_snoc (parents.take i) x
        simp only [Option.toList_some]
        rw [this, ← List.append_assoc]
        exact hu4.buf
      case measure => simp [intOf]; omega
    · have hil : i = parents.length := by omega
      subst hil
      have hk : wr.cell? ⟨w.heap.size, 6, none⟩ = some (.int .i64 salt) := (HBEL.out.cell (p := ⟨w.heap.size, 6, none⟩) hwb).trans hk6'
      have hnum := num_any b b (L ++ joinI (parents.take parents.length)) salt wr HBUF.out h7 h8 (by rw [List.length_append, joinI_length, List.take_length]; omega) (by omega)
      have HN := Lib.hid hnum
      clear hnum
      go_wp2_with (first
        | (go_at_call 156; refine HN.out.mono ?_; rintro e w4 ⟨rfl, hu4, hb4⟩; have HY := Lib.hid (bytes_any b b _ w4 hu4.buf (by have := numB_ne salt.toNat; simp [this])); clear hu4)
        | (go_at_call 159; refine HY.out.mono ?_; rintro e w5 ⟨rfl, hb5⟩))
      go_ret
      refine ⟨?_, HBT.out.trans ((HBEL.out.trans (hb4.trans hb5)).mono (by omega))⟩
      have := HH.out
      simp only [Int.toNat_natCast] at this
      rw [← this]
      show Ending.returned (Value.string ⟨_⟩) = Ending.returned (Value.string ⟨_⟩)
      simp only [hdrB, List.nil_append, List.append_assoc]
end Go.Proofs.YtcohdfkdhdhegaaGreatDoor
