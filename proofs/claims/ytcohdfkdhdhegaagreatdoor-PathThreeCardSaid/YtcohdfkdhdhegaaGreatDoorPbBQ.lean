/- coxswainlaw14.PathThree: whatever the seeds and the three numbers: the call returns true; the argument reads behind it as before. The two tables of digest are as the program's text lays them (the card ties that); no other condition. -/
import Derived.Test.YtcohdfkdhdhegaaGreatDoorPbBJ
import Derived.Test.YtcohdfkdhdhegaaGreatDoorPbBP
import Derived.JoinedOf
import Derived.SevenTiedAt
import Derived.Stop.Joined
import Derived.Test.YtcohdfkdhdhegaaGreatDoorCards
import Derived.Test.YtcohdfkdhdhegaaGreatDoorTie
import Derived.ChangeSame
import Derived.ChangeVars
import Derived.RowKitTokens
import Derived.LaidHandle
namespace Go.Proofs.YtcohdfkdhdhegaaGreatDoor
open Go.ChangeShapes Go.WideShapes Go.ChangeAt Go.RowKit

section
variable {H : Type} {enc : TypeId × Value → H} {w : World} {base : Nat} {sp : Nat → Bool} {held : Bool} {fuel : Nat}
set_option maxRecDepth 100000 in
theorem open_three {cs : List Value} {x : DataW H × List MemPlace} (h : DataW.trod enc Tryz.prog w base (fun _ => true) held fuel 76 cs = some x) (hw : ∀ m ∈ x.1.weights Tryz.prog 76, m ≤ 140737488351232) :
    ∃ (v : Value) (i j k : Int), cs = [v, .int .i64 i, .int .i64 j, .int .i64 k] ∧ ∀ A n c, v = .slice A n c → ∃ l : List LSD, SlW sdE (fun _ => True) w (.slice A n c) l ∧ ∀ y ∈ l, InS w y := by
  obtain ⟨xs, n', rfl, hy, hlen, hxl, hf⟩ := DataW.trod_struct Tryz.underlying76 h
  have cT : Tryz.prog.cellsOf 76 = 4 := by kernel_rfl
  have ci : Tryz.prog.cellsOf 3 = 1 := by kernel_rfl
  have cl : Tryz.prog.cellsOf 22 = 1 := by kernel_rfl
  rw [cT] at hlen
  match cs, hlen with
  | [c0, c1, c2, c3], _ =>
    match xs, hxl with
    | [x0, x1, x2, x3], _ =>
      have h0 : DataW.trod enc Tryz.prog w base (fun _ => true) held n' 22 [c0] = some x0 := by
        have : DataW.trod enc Tryz.prog w base (fun _ => true) held n' 22 (([c0, c1, c2, c3].drop 0).take (Tryz.prog.cellsOf 22)) = some x0 := hf 0 _ rfl
        rw [cl] at this
        exact this
      have h1 : DataW.trod enc Tryz.prog w base (fun _ => true) held n' 3 [c1] = some x1 := by
        have : DataW.trod enc Tryz.prog w base (fun _ => true) held n' 3 (([c0, c1, c2, c3].drop 1).take (Tryz.prog.cellsOf 3)) = some x1 := hf 1 _ rfl
        rw [ci] at this
        exact this
      have h2 : DataW.trod enc Tryz.prog w base (fun _ => true) held n' 3 [c2] = some x2 := by
        have : DataW.trod enc Tryz.prog w base (fun _ => true) held n' 3 (([c0, c1, c2, c3].drop 2).take (Tryz.prog.cellsOf 3)) = some x2 := hf 2 _ rfl
        rw [ci] at this
        exact this
      have h3 : DataW.trod enc Tryz.prog w base (fun _ => true) held n' 3 [c3] = some x3 := by
        have : DataW.trod enc Tryz.prog w base (fun _ => true) held n' 3 (([c0, c1, c2, c3].drop 3).take (Tryz.prog.cellsOf 3)) = some x3 := hf 3 _ rfl
        rw [ci] at this
        exact this
      obtain ⟨a1, e1, -, -⟩ := DataW.trod_int Tryz.underlying3 h1
      obtain ⟨a2, e2, -, -⟩ := DataW.trod_int Tryz.underlying3 h2
      obtain ⟨a3, e3, -, -⟩ := DataW.trod_int Tryz.underlying3 h3
      simp only [List.cons.injEq, and_true] at e1 e2 e3
      subst e1; subst e2; subst e3
      refine ⟨c0, a1, a2, a3, rfl, ?_⟩
      rintro A n c rfl
      exact open_seeds h0 fun m hm => hw m (by
        rw [hy]
        exact weights_struct Tryz.underlying76 0 _ rfl (d := x0.1) rfl hm)
end
set_option maxRecDepth 100000 in
/-- The row in a struct of seeds and numbers is a plain one. -/
theorem spot_of_three {W : World} {base : Nat} {cs : Array Value} (h : Value.okWide Tryz.prog W .any base 76 (.agg cs)) : cs.size = 4 ∧ ∀ v, cs[0]? = some v → ∃ A n c, v = .slice A n c ∧ ∀ a, A = some a → a.spot = none := by
  have hT : Tryz.prog.cellTypes Tryz.prog.depth 76 = some [22, 3, 3, 3] := by kernel_rfl
  have cT : Tryz.prog.cellsOf 76 = 4 := by kernel_rfl
  simp only [Value.okWide, Tryz.underlying76] at h
  obtain ⟨cs', he, hsz, ts, hts, -, hc⟩ := h
  cases he
  rw [hT] at hts
  cases hts
  refine ⟨hsz.trans cT, fun v hv => ?_⟩
  obtain ⟨u, hu, hk⟩ := hc 0 v hv
  cases hu
  have hk' : Value.okWide Tryz.prog W .any base 22 v := by
    simp only [Value.okWide, Tryz.underlying22]
    exact hk
  obtain ⟨A, n, c, rfl⟩ := okWide_slice Tryz.underlying22 hk'
  exact ⟨A, n, c, rfl, spot_of_ok Tryz.underlying22 hk'⟩
end Go.Proofs.YtcohdfkdhdhegaaGreatDoor
namespace Go.Proofs.YtcohdfkdhdhegaaGreatDoor.pathThree
open Go
set_option maxRecDepth 100000
theorem k0 : (fun (_ : Program) (_ : FuncId) (_ : Func) (s : ChangeSpec) (c : OpenClaim) => (c.wf (OpenSpec.ofChange s) : Bool)) Tryz.prog 10 Tryz.f10 Rows.pathThreeSpec Rows.pathThreeRow = true := by kernel_rfl
theorem k1 : (fun (P : Program) (_ : FuncId) (_ : Func) (_ : ChangeSpec) (_ : OpenClaim) => (laidOutB P : Bool)) Tryz.prog 10 Tryz.f10 Rows.pathThreeSpec Rows.pathThreeRow = true := by kernel_rfl
theorem k2 : (fun (P : Program) (_ : FuncId) (_ : Func) (_ : ChangeSpec) (_ : OpenClaim) => (mapsRowed P : Bool)) Tryz.prog 10 Tryz.f10 Rows.pathThreeSpec Rows.pathThreeRow = true := by kernel_rfl
theorem k3 : (fun (P : Program) (_ : FuncId) (fn : Func) (_ : ChangeSpec) (_ : OpenClaim) => (fn.params.all (P.readableRec ·) : Bool)) Tryz.prog 10 Tryz.f10 Rows.pathThreeSpec Rows.pathThreeRow = true := by kernel_rfl
theorem k4 : (fun (P : Program) (_ : FuncId) (_ : Func) (s : ChangeSpec) (c : OpenClaim) => (namedTie P c.named s.vars : Bool)) Tryz.prog 10 Tryz.f10 Rows.pathThreeSpec Rows.pathThreeRow = true := by kernel_rfl
theorem k5 : (fun (_ : Program) (_ : FuncId) (_ : Func) (_ : ChangeSpec) (c : OpenClaim) => ((c.stops == []) : Bool)) Tryz.prog 10 Tryz.f10 Rows.pathThreeSpec Rows.pathThreeRow = true := by kernel_rfl
theorem k6 : (fun (P : Program) (_ : FuncId) (_ : Func) (_ : ChangeSpec) (_ : OpenClaim) => ((P.stops == []) : Bool)) Tryz.prog 10 Tryz.f10 Rows.pathThreeSpec Rows.pathThreeRow = true := by kernel_rfl
theorem k7 : (fun (_ : Program) (_ : FuncId) (_ : Func) (_ : ChangeSpec) (c : OpenClaim) => ((c.knobs == []) : Bool)) Tryz.prog 10 Tryz.f10 Rows.pathThreeSpec Rows.pathThreeRow = true := by kernel_rfl
theorem k8 : (fun (P : Program) (_ : FuncId) (_ : Func) (_ : ChangeSpec) (_ : OpenClaim) => ((P.stopKnobs == []) : Bool)) Tryz.prog 10 Tryz.f10 Rows.pathThreeSpec Rows.pathThreeRow = true := by kernel_rfl
theorem k9 : (fun (P : Program) (f : FuncId) (_ : Func) (_ : ChangeSpec) (c : OpenClaim) => ((c.inPlace == P.inPlace f) : Bool)) Tryz.prog 10 Tryz.f10 Rows.pathThreeSpec Rows.pathThreeRow = true := by kernel_rfl
theorem k10 : (fun (P : Program) (f : FuncId) (_ : Func) (_ : ChangeSpec) (c : OpenClaim) => ((c.unfollowed == P.unfollowed f) : Bool)) Tryz.prog 10 Tryz.f10 Rows.pathThreeSpec Rows.pathThreeRow = true := by kernel_rfl
theorem k11 : (fun (P : Program) (f : FuncId) (_ : Func) (_ : ChangeSpec) (c : OpenClaim) => ((c.recurses == P.recurses f) : Bool)) Tryz.prog 10 Tryz.f10 Rows.pathThreeSpec Rows.pathThreeRow = true := by kernel_rfl
theorem k12 : (fun (P : Program) (f : FuncId) (_ : Func) (_ : ChangeSpec) (c : OpenClaim) => ((c.named == P.varsNamed f) : Bool)) Tryz.prog 10 Tryz.f10 Rows.pathThreeSpec Rows.pathThreeRow = true := by kernel_rfl
theorem k13 : (fun (P : Program) (_ : FuncId) (fn : Func) (s : ChangeSpec) (c : OpenClaim) => ((c.maps == (fn.params.toList ++ s.plain.varTypes P).any (P.mapsRec ·)) : Bool)) Tryz.prog 10 Tryz.f10 Rows.pathThreeSpec Rows.pathThreeRow = true := by kernel_rfl
theorem k14 : (fun (P : Program) (_ : FuncId) (fn : Func) (s : ChangeSpec) (c : OpenClaim) => ((c.ifaces == (fn.params.toList ++ s.plain.varTypes P).any (P.ifacesRec ·)) : Bool)) Tryz.prog 10 Tryz.f10 Rows.pathThreeSpec Rows.pathThreeRow = true := by kernel_rfl
theorem k15 : (fun (P : Program) (_ : FuncId) (fn : Func) (_ : ChangeSpec) (c : OpenClaim) => ((c.mapsOut == P.mapsAmong fn.resultTypes.toList) : Bool)) Tryz.prog 10 Tryz.f10 Rows.pathThreeSpec Rows.pathThreeRow = true := by kernel_rfl
theorem k16 : (fun (P : Program) (_ : FuncId) (fn : Func) (s : ChangeSpec) (c : OpenClaim) => ((c.loops == (fn.params.toList ++ s.plain.varTypes P).any (P.loopsFrom ·)) : Bool)) Tryz.prog 10 Tryz.f10 Rows.pathThreeSpec Rows.pathThreeRow = true := by kernel_rfl
theorem k17 : (fun (P : Program) (_ : FuncId) (fn : Func) (s : ChangeSpec) (c : OpenClaim) => ((c.wideKeys == (fn.params.toList ++ s.plain.varTypes P ++ fn.resultTypes.toList).any (P.wideKeysFrom ·)) : Bool)) Tryz.prog 10 Tryz.f10 Rows.pathThreeSpec Rows.pathThreeRow = true := by kernel_rfl
theorem k18 : (fun (P : Program) (_ : FuncId) (_ : Func) (s : ChangeSpec) (_ : OpenClaim) => (s.vars.all (P.varReadable ·) : Bool)) Tryz.prog 10 Tryz.f10 Rows.pathThreeSpec Rows.pathThreeRow = true := by kernel_rfl
theorem k19 : (fun (P : Program) (_ : FuncId) (fn : Func) (_ : ChangeSpec) (_ : OpenClaim) => (fn.resultTypes.all (fun t => P.readableRec t && decide (t < P.types.size)) : Bool)) Tryz.prog 10 Tryz.f10 Rows.pathThreeSpec Rows.pathThreeRow = true := by kernel_rfl
theorem k20 : (fun (P : Program) (_ : FuncId) (fn : Func) (_ : ChangeSpec) (c : OpenClaim) => ((c.ifacesOut == fn.resultTypes.toList.any (P.ifacesRec ·)) : Bool)) Tryz.prog 10 Tryz.f10 Rows.pathThreeSpec Rows.pathThreeRow = true := by kernel_rfl
theorem k21 : (fun (P : Program) (_ : FuncId) (fn : Func) (_ : ChangeSpec) (c : OpenClaim) => ((c.loopsOut == fn.resultTypes.toList.any (P.loopsFrom ·)) : Bool)) Tryz.prog 10 Tryz.f10 Rows.pathThreeSpec Rows.pathThreeRow = true := by kernel_rfl
theorem k22 : (fun (P : Program) (_ : FuncId) (_ : Func) (_ : ChangeSpec) (c : OpenClaim) => ((c.plainKeys == P.plainKeys) : Bool)) Tryz.prog 10 Tryz.f10 Rows.pathThreeSpec Rows.pathThreeRow = true := by kernel_rfl
theorem k23 : (fun (_ : Program) (_ : FuncId) (_ : Func) (_ : ChangeSpec) (c : OpenClaim) => (c.shortTexts.isNone : Bool)) Tryz.prog 10 Tryz.f10 Rows.pathThreeSpec Rows.pathThreeRow = true := by kernel_rfl
theorem k24 : (fun (P : Program) (_ : FuncId) (_ : Func) (_ : ChangeSpec) (_ : OpenClaim) => (P.stopsHeard : Bool)) Tryz.prog 10 Tryz.f10 Rows.pathThreeSpec Rows.pathThreeRow = true := by kernel_rfl
theorem k25 : (fun (P : Program) (_ : FuncId) (_ : Func) (_ : ChangeSpec) (_ : OpenClaim) => (P.mayEnter : Bool)) Tryz.prog 10 Tryz.f10 Rows.pathThreeSpec Rows.pathThreeRow = true := wds.mayEnter_
theorem k26 : (fun (P : Program) (_ : FuncId) (_ : Func) (_ : ChangeSpec) (c : OpenClaim) => ((c.lifted == P.liftsFinal) : Bool)) Tryz.prog 10 Tryz.f10 Rows.pathThreeSpec Rows.pathThreeRow = true := by show (Rows.pathThreeRow.lifted == Tryz.prog.liftsFinal) = true; rw [wds.liftsFinal_]; kernel_rfl
theorem k27 : (fun (P : Program) (_ : FuncId) (_ : Func) (_ : ChangeSpec) (c : OpenClaim) => ((P.make == some c.make) : Bool)) Tryz.prog 10 Tryz.f10 Rows.pathThreeSpec Rows.pathThreeRow = true := by show (Tryz.prog.make == some Rows.pathThreeRow.make) = true; rw [wds.make_]; kernel_rfl
theorem k28 : (fun (P : Program) (_ : FuncId) (fn : Func) (_ : ChangeSpec) (c : OpenClaim) => ((c.kinds == (if c.domain.isEmpty then [] else fn.params.toList.map fun t => match P.underlying t with | some (.int k) => some k | _ => none)) : Bool)) Tryz.prog 10 Tryz.f10 Rows.pathThreeSpec Rows.pathThreeRow = true := by kernel_rfl
theorem k29 : (fun (_ : Program) (_ : FuncId) (_ : Func) (_ : ChangeSpec) (c : OpenClaim) => ((c.pinned == c.pinnedBy) : Bool)) Tryz.prog 10 Tryz.f10 Rows.pathThreeSpec Rows.pathThreeRow = true := by kernel_rfl
theorem k30 : (fun (P : Program) (_ : FuncId) (fn : Func) (s : ChangeSpec) (c : OpenClaim) => ((c.veiled == (fn.params.toList ++ s.plain.varTypes P ++ fn.resultTypes.toList).any (P.veiledRec ·)) : Bool)) Tryz.prog 10 Tryz.f10 Rows.pathThreeSpec Rows.pathThreeRow = true := by kernel_rfl
theorem k31 : (fun (P : Program) (_ : FuncId) (fn : Func) (s : ChangeSpec) (c : OpenClaim) => (c.veiledFits P fn.params.toList (fn.params.toList ++ s.plain.varTypes P ++ fn.resultTypes.toList) : Bool)) Tryz.prog 10 Tryz.f10 Rows.pathThreeSpec Rows.pathThreeRow = true := by kernel_rfl
theorem both {a b : Bool} (ha : a = true) (hb : b = true) : (a && b) = true := by rw [ha, hb]; rfl
theorem closed : joinedFacts Tryz.pinned.checked.prog 10 Tryz.f10 Rows.pathThreeSpec Rows.pathThreeRow = true := (both (both (both (both (both (both (both (both (both (both (both (both (both (both (both (both (both (both (both (both (both (both (both (both (both (both (both (both (both (both (both k0 k1) k2) k3) k4) k5) k6) k7) k8) k9) k10) k11) k12) k13) k14) k15) k16) k17) k18) k19) k20) k21) k22) k23) k24) k25) k26) k27) k28) k29) k30) k31)
theorem named : Tryz.pinned.checked.prog.funcNamed Rows.pathThreeRow.func = some 10 := by kernel_rfl
theorem inst : Tryz.f10.isInstance Tryz.pinned.checked.prog Rows.pathThreeRow.origin Rows.pathThreeRow.targs := of_decide_eq_true (by kernel_rfl)
theorem wrap : Tryz.f10.isWrapper Tryz.pinned.checked.prog Rows.pathThreeRow.wrapper Rows.pathThreeRow.mainSum := by unfold Func.isWrapper; rw [if_neg (of_decide_eq_false (by kernel_rfl))]; exact ⟨rfl, rfl⟩
theorem wfT : Rows.pathThreeRow.wfByText (OpenSpec.ofChange Rows.pathThreeSpec) = true := by kernel_rfl
theorem mainT : Tryz.pinned.checked.prog.mainIs = some (Rows.pathThreeCard.stood.harness.1, Rows.pathThreeCard.stood.harness.2.toList) := wds.told (by kernel_rfl) (by kernel_rfl)
theorem looksT : true = Tryz.prog.looks [] := by kernel_rfl
theorem goesT : false = Rows.pathThreeRow.goesBy Tryz.pinned.checked.prog := by kernel_rfl
theorem stand0 : Tryz.prog.wantsStandIn 76 = false := by kernel_rfl
end Go.Proofs.YtcohdfkdhdhegaaGreatDoor.pathThree
namespace Go.Proofs.YtcohdfkdhdhegaaGreatDoor.pathThree
open Go.ChangeShapes Go.WideShapes Go.ChangeAt Go.RowKit

set_option maxRecDepth 100000 in
theorem lifted (os : Os) (started : os.Started) (H : Type) (enc : TypeId × Value → H) :
    ReturnsInHanded {} Tryz.checked os 10 .any (fun w args => (Rows.pathThreeSpec.pre enc Tryz.prog Tryz.f10 [] false w args ∧ laidMetH Tryz.prog Rows.pathThreeRow.laid w) ∧ sizedMet enc Tryz.prog Tryz.f10 (OpenSpec.ofChange Rows.pathThreeSpec) false w args)
      (Rows.pathThreeSpec.post enc Tryz.prog Tryz.f10 false true false false) := by
  refine returnsInHanded_of_change_and (C := Tryz.checked) (X := fun w _ => laidMetH Tryz.prog Rows.pathThreeRow.laid w) (fun _ _ _ hh h => h.of_heap hh) ownKn started (by kernel_rfl) Tryz.func10
    (ChangeSpec.witness_shaped (enc := enc) (C := Tryz.checked) (os := os) (X := fun w _ => laidMetH Tryz.prog Rows.pathThreeRow.laid w) false (World.doorLaid Tryz.prog 19 os) #[.agg #[.slice none 0 0, .int .i64 0, .int .i64 0, .int .i64 0]] 8 rfl (World.shaped_of_RefB (by kernel_rfl) (by kernel_rfl)) (by kernel_rfl) (by kernel_rfl) (by kernel_rfl) (door_met os _)) ?_
  intro W base args ds gs before hval0 hW _ hsz0 hL _
  have hval : ∀ (j : Nat) t v, Tryz.f10.params[j]? = some t → args[j]? = some v → Value.okWide Tryz.prog W .any base t v := hval0
  have hsz : (DataW.weightsEach Tryz.prog (Tryz.f10.params.toList ++ Rows.pathThreeSpec.plain.varTypes Tryz.prog) (ds ++ gs)).all (· ≤ reachBytes) = true := hsz0
  have hW' := hW
  obtain ⟨p, q, hA0, hV, rfl, hfz, hnd⟩ := hW
  have hA : DataW.TrodAll enc Tryz.prog W 0 (fun _ => true) true Tryz.f10.params.toList args.toList ds p := hA0
  rw [Tryz.params10] at hA hval hsz
  obtain ⟨v0, vs0, d0, ds0, p0, q0, hargs, rfl, rfl, h0, r0⟩ := trodAll_cons hA
  obtain ⟨rfl, rfl, rfl⟩ := trodAll_nil r0
  obtain rfl : args = #[v0] := by cases args; simp_all
  obtain ⟨rfl, rfl⟩ := trodVars_none hV
  have hk0 := hval 0 76 v0 rfl rfl
  obtain ⟨cs, rfl, -⟩ := okWide_struct Tryz.underlying76 hk0
  obtain ⟨hcz, hsp⟩ := spot_of_three hk0
  have k0 := h0
  have lt0 : ∀ x ∈ p0, x.block < W.heap.size := by obtain ⟨m, hm⟩ := k0; exact DataW.trod_lt m _ _ _ hm
  obtain ⟨fuel, hf⟩ := h0
  have hf' : DataW.trod enc Tryz.prog W 0 (fun _ => true) true fuel 76 cs.toList = some (d0, p0) := hf
  obtain ⟨v, i, j, k, hcs, ho⟩ := open_three hf' fun m hm => of_decide_eq_true (List.all_eq_true.1 hsz m (DataW.weights_mem_each (j := 0) rfl rfl m hm))
  obtain rfl : cs = #[v, .int .i64 i, .int .i64 j, .int .i64 k] := by rw [← hcs]
  obtain ⟨A, n, c, rfl, hspot⟩ := hsp v rfl
  obtain ⟨l, hl, hin⟩ := ho A n c rfl
  have hT : Tab W := tab_of_laid hL
  clear hA0 hval0 hsz0 hsz
  refine (three_any W (.slice A n c) l _ _ (hl.strong hspot) (fun x hx => ⟨(hin x hx).at_, (hin x hx).ok⟩) hT i j k).mono fun e W' ⟨he, bel⟩ => ?_
  subst he
  exact ⟨_, rfl, _, _, _, [], _, [], hW', trodAll_mk1 (shut_bool Tryz.underlying4 _), (trodAll_cons_mk (Below.trod laidOutA (by kernel_rfl) (of_decide_eq_true (by kernel_rfl)) k0 bel lt0) trodAll_mk0), rfl, bel.frame _, fun h => by cases h⟩

/-- The row. -/
theorem over : Rows.PathThreeSaid :=
  OpenClaim.holds_of_wide 10 Tryz.f10 rfl rfl rfl rfl rfl rfl rfl ⟨rfl, rfl, rfl, rfl, rfl⟩ rfl rfl rfl rfl rfl named Tryz.func10 closed inst wrap
    (fun os started H enc _ => lifted os started H enc)

/-- The statement. -/
theorem proved : Rows.PathThreeCardSaid :=
  Claim7.holds_tied_plain_at .later [] [.data, .data] true Rows.pathThreeCard.stood.harness true
    over (fun _ h => by cases h) wfT (fun _ h => by cases h) pathThree_row_tie rfl ⟨rfl, rfl⟩ mainT rfl
    (fun f fn hf hfn => by
      obtain rfl : f = 10 := Option.some.inj (named.symm.trans hf) |>.symm
      obtain rfl : fn = Tryz.f10 := (Option.some.inj (Tryz.func10.symm.trans hfn)).symm
      exact ⟨looksT, fun j t ht => by
        rw [Tryz.params10] at ht
        rcases j with _ | j
        · obtain rfl : 76 = t := by simpa using ht
          exact stand0
        · simp at ht⟩)
    goesT
#print axioms proved
end Go.Proofs.YtcohdfkdhdhegaaGreatDoor.pathThree
