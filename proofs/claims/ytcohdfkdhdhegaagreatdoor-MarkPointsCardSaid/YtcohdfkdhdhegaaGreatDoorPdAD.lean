/- coxswainlaw18.MarkPoints: whatever the arguments: the call returns true. The two tables of digest are as the program's text lays them (the card ties that); no other condition. -/
import Derived.Test.YtcohdfkdhdhegaaGreatDoorPdAC
import Derived.JoinedOf
import Derived.SevenTiedAt
import Derived.Stop.Joined
import Derived.Test.YtcohdfkdhdhegaaGreatDoorCards
import Derived.Test.YtcohdfkdhdhegaaGreatDoorTie
import Derived.ChangeSame
import Derived.ChangeVars
import Derived.RowKitTokens
import Derived.LaidHandle
namespace Go.Proofs.YtcohdfkdhdhegaaGreatDoor.markPoints
open Go
set_option maxRecDepth 100000
theorem k0 : (fun (_ : Program) (_ : FuncId) (_ : Func) (s : ChangeSpec) (c : OpenClaim) => (c.wf (OpenSpec.ofChange s) : Bool)) Tryz.prog 7 Tryz.f7 Rows.markPointsSpec Rows.markPointsRow = true := by kernel_rfl
theorem k1 : (fun (P : Program) (_ : FuncId) (_ : Func) (_ : ChangeSpec) (_ : OpenClaim) => (laidOutB P : Bool)) Tryz.prog 7 Tryz.f7 Rows.markPointsSpec Rows.markPointsRow = true := by kernel_rfl
theorem k2 : (fun (P : Program) (_ : FuncId) (_ : Func) (_ : ChangeSpec) (_ : OpenClaim) => (mapsRowed P : Bool)) Tryz.prog 7 Tryz.f7 Rows.markPointsSpec Rows.markPointsRow = true := by kernel_rfl
theorem k3 : (fun (P : Program) (_ : FuncId) (fn : Func) (_ : ChangeSpec) (_ : OpenClaim) => (fn.params.all (P.readableRec ·) : Bool)) Tryz.prog 7 Tryz.f7 Rows.markPointsSpec Rows.markPointsRow = true := by kernel_rfl
theorem k4 : (fun (P : Program) (_ : FuncId) (_ : Func) (s : ChangeSpec) (c : OpenClaim) => (namedTie P c.named s.vars : Bool)) Tryz.prog 7 Tryz.f7 Rows.markPointsSpec Rows.markPointsRow = true := by kernel_rfl
theorem k5 : (fun (_ : Program) (_ : FuncId) (_ : Func) (_ : ChangeSpec) (c : OpenClaim) => ((c.stops == []) : Bool)) Tryz.prog 7 Tryz.f7 Rows.markPointsSpec Rows.markPointsRow = true := by kernel_rfl
theorem k6 : (fun (P : Program) (_ : FuncId) (_ : Func) (_ : ChangeSpec) (_ : OpenClaim) => ((P.stops == []) : Bool)) Tryz.prog 7 Tryz.f7 Rows.markPointsSpec Rows.markPointsRow = true := by kernel_rfl
theorem k7 : (fun (_ : Program) (_ : FuncId) (_ : Func) (_ : ChangeSpec) (c : OpenClaim) => ((c.knobs == []) : Bool)) Tryz.prog 7 Tryz.f7 Rows.markPointsSpec Rows.markPointsRow = true := by kernel_rfl
theorem k8 : (fun (P : Program) (_ : FuncId) (_ : Func) (_ : ChangeSpec) (_ : OpenClaim) => ((P.stopKnobs == []) : Bool)) Tryz.prog 7 Tryz.f7 Rows.markPointsSpec Rows.markPointsRow = true := by kernel_rfl
theorem k9 : (fun (P : Program) (f : FuncId) (_ : Func) (_ : ChangeSpec) (c : OpenClaim) => ((c.inPlace == P.inPlace f) : Bool)) Tryz.prog 7 Tryz.f7 Rows.markPointsSpec Rows.markPointsRow = true := by kernel_rfl
theorem k10 : (fun (P : Program) (f : FuncId) (_ : Func) (_ : ChangeSpec) (c : OpenClaim) => ((c.unfollowed == P.unfollowed f) : Bool)) Tryz.prog 7 Tryz.f7 Rows.markPointsSpec Rows.markPointsRow = true := by kernel_rfl
theorem k11 : (fun (P : Program) (f : FuncId) (_ : Func) (_ : ChangeSpec) (c : OpenClaim) => ((c.recurses == P.recurses f) : Bool)) Tryz.prog 7 Tryz.f7 Rows.markPointsSpec Rows.markPointsRow = true := by kernel_rfl
theorem k12 : (fun (P : Program) (f : FuncId) (_ : Func) (_ : ChangeSpec) (c : OpenClaim) => ((c.named == P.varsNamed f) : Bool)) Tryz.prog 7 Tryz.f7 Rows.markPointsSpec Rows.markPointsRow = true := by kernel_rfl
theorem k13 : (fun (P : Program) (_ : FuncId) (fn : Func) (s : ChangeSpec) (c : OpenClaim) => ((c.maps == (fn.params.toList ++ s.plain.varTypes P).any (P.mapsRec ·)) : Bool)) Tryz.prog 7 Tryz.f7 Rows.markPointsSpec Rows.markPointsRow = true := by kernel_rfl
theorem k14 : (fun (P : Program) (_ : FuncId) (fn : Func) (s : ChangeSpec) (c : OpenClaim) => ((c.ifaces == (fn.params.toList ++ s.plain.varTypes P).any (P.ifacesRec ·)) : Bool)) Tryz.prog 7 Tryz.f7 Rows.markPointsSpec Rows.markPointsRow = true := by kernel_rfl
theorem k15 : (fun (P : Program) (_ : FuncId) (fn : Func) (_ : ChangeSpec) (c : OpenClaim) => ((c.mapsOut == P.mapsAmong fn.resultTypes.toList) : Bool)) Tryz.prog 7 Tryz.f7 Rows.markPointsSpec Rows.markPointsRow = true := by kernel_rfl
theorem k16 : (fun (P : Program) (_ : FuncId) (fn : Func) (s : ChangeSpec) (c : OpenClaim) => ((c.loops == (fn.params.toList ++ s.plain.varTypes P).any (P.loopsFrom ·)) : Bool)) Tryz.prog 7 Tryz.f7 Rows.markPointsSpec Rows.markPointsRow = true := by kernel_rfl
theorem k17 : (fun (P : Program) (_ : FuncId) (fn : Func) (s : ChangeSpec) (c : OpenClaim) => ((c.wideKeys == (fn.params.toList ++ s.plain.varTypes P ++ fn.resultTypes.toList).any (P.wideKeysFrom ·)) : Bool)) Tryz.prog 7 Tryz.f7 Rows.markPointsSpec Rows.markPointsRow = true := by kernel_rfl
theorem k18 : (fun (P : Program) (_ : FuncId) (_ : Func) (s : ChangeSpec) (_ : OpenClaim) => (s.vars.all (P.varReadable ·) : Bool)) Tryz.prog 7 Tryz.f7 Rows.markPointsSpec Rows.markPointsRow = true := by kernel_rfl
theorem k19 : (fun (P : Program) (_ : FuncId) (fn : Func) (_ : ChangeSpec) (_ : OpenClaim) => (fn.resultTypes.all (fun t => P.readableRec t && decide (t < P.types.size)) : Bool)) Tryz.prog 7 Tryz.f7 Rows.markPointsSpec Rows.markPointsRow = true := by kernel_rfl
theorem k20 : (fun (P : Program) (_ : FuncId) (fn : Func) (_ : ChangeSpec) (c : OpenClaim) => ((c.ifacesOut == fn.resultTypes.toList.any (P.ifacesRec ·)) : Bool)) Tryz.prog 7 Tryz.f7 Rows.markPointsSpec Rows.markPointsRow = true := by kernel_rfl
theorem k21 : (fun (P : Program) (_ : FuncId) (fn : Func) (_ : ChangeSpec) (c : OpenClaim) => ((c.loopsOut == fn.resultTypes.toList.any (P.loopsFrom ·)) : Bool)) Tryz.prog 7 Tryz.f7 Rows.markPointsSpec Rows.markPointsRow = true := by kernel_rfl
theorem k22 : (fun (P : Program) (_ : FuncId) (_ : Func) (_ : ChangeSpec) (c : OpenClaim) => ((c.plainKeys == P.plainKeys) : Bool)) Tryz.prog 7 Tryz.f7 Rows.markPointsSpec Rows.markPointsRow = true := by kernel_rfl
theorem k23 : (fun (_ : Program) (_ : FuncId) (_ : Func) (_ : ChangeSpec) (c : OpenClaim) => (c.shortTexts.isNone : Bool)) Tryz.prog 7 Tryz.f7 Rows.markPointsSpec Rows.markPointsRow = true := by kernel_rfl
theorem k24 : (fun (P : Program) (_ : FuncId) (_ : Func) (_ : ChangeSpec) (_ : OpenClaim) => (P.stopsHeard : Bool)) Tryz.prog 7 Tryz.f7 Rows.markPointsSpec Rows.markPointsRow = true := by kernel_rfl
theorem k25 : (fun (P : Program) (_ : FuncId) (_ : Func) (_ : ChangeSpec) (_ : OpenClaim) => (P.mayEnter : Bool)) Tryz.prog 7 Tryz.f7 Rows.markPointsSpec Rows.markPointsRow = true := wds.mayEnter_
theorem k26 : (fun (P : Program) (_ : FuncId) (_ : Func) (_ : ChangeSpec) (c : OpenClaim) => ((c.lifted == P.liftsFinal) : Bool)) Tryz.prog 7 Tryz.f7 Rows.markPointsSpec Rows.markPointsRow = true := by show (Rows.markPointsRow.lifted == Tryz.prog.liftsFinal) = true; rw [wds.liftsFinal_]; kernel_rfl
theorem k27 : (fun (P : Program) (_ : FuncId) (_ : Func) (_ : ChangeSpec) (c : OpenClaim) => ((P.make == some c.make) : Bool)) Tryz.prog 7 Tryz.f7 Rows.markPointsSpec Rows.markPointsRow = true := by show (Tryz.prog.make == some Rows.markPointsRow.make) = true; rw [wds.make_]; kernel_rfl
theorem k28 : (fun (P : Program) (_ : FuncId) (fn : Func) (_ : ChangeSpec) (c : OpenClaim) => ((c.kinds == (if c.domain.isEmpty then [] else fn.params.toList.map fun t => match P.underlying t with | some (.int k) => some k | _ => none)) : Bool)) Tryz.prog 7 Tryz.f7 Rows.markPointsSpec Rows.markPointsRow = true := by kernel_rfl
theorem k29 : (fun (_ : Program) (_ : FuncId) (_ : Func) (_ : ChangeSpec) (c : OpenClaim) => ((c.pinned == c.pinnedBy) : Bool)) Tryz.prog 7 Tryz.f7 Rows.markPointsSpec Rows.markPointsRow = true := by kernel_rfl
theorem k30 : (fun (P : Program) (_ : FuncId) (fn : Func) (s : ChangeSpec) (c : OpenClaim) => ((c.veiled == (fn.params.toList ++ s.plain.varTypes P ++ fn.resultTypes.toList).any (P.veiledRec ·)) : Bool)) Tryz.prog 7 Tryz.f7 Rows.markPointsSpec Rows.markPointsRow = true := by kernel_rfl
theorem k31 : (fun (P : Program) (_ : FuncId) (fn : Func) (s : ChangeSpec) (c : OpenClaim) => (c.veiledFits P fn.params.toList (fn.params.toList ++ s.plain.varTypes P ++ fn.resultTypes.toList) : Bool)) Tryz.prog 7 Tryz.f7 Rows.markPointsSpec Rows.markPointsRow = true := by kernel_rfl
theorem both {a b : Bool} (ha : a = true) (hb : b = true) : (a && b) = true := by rw [ha, hb]; rfl
theorem closed : joinedFacts Tryz.pinned.checked.prog 7 Tryz.f7 Rows.markPointsSpec Rows.markPointsRow = true := (both (both (both (both (both (both (both (both (both (both (both (both (both (both (both (both (both (both (both (both (both (both (both (both (both (both (both (both (both (both (both k0 k1) k2) k3) k4) k5) k6) k7) k8) k9) k10) k11) k12) k13) k14) k15) k16) k17) k18) k19) k20) k21) k22) k23) k24) k25) k26) k27) k28) k29) k30) k31)
theorem named : Tryz.pinned.checked.prog.funcNamed Rows.markPointsRow.func = some 7 := by kernel_rfl
theorem inst : Tryz.f7.isInstance Tryz.pinned.checked.prog Rows.markPointsRow.origin Rows.markPointsRow.targs := of_decide_eq_true (by kernel_rfl)
theorem wrap : Tryz.f7.isWrapper Tryz.pinned.checked.prog Rows.markPointsRow.wrapper Rows.markPointsRow.mainSum := by unfold Func.isWrapper; rw [if_neg (of_decide_eq_false (by kernel_rfl))]; exact ⟨rfl, rfl⟩
theorem wfT : Rows.markPointsRow.wfByText (OpenSpec.ofChange Rows.markPointsSpec) = true := by kernel_rfl
theorem mainT : Tryz.pinned.checked.prog.mainIs = some (Rows.markPointsCard.stood.harness.1, Rows.markPointsCard.stood.harness.2.toList) := wds.told (by kernel_rfl) (by kernel_rfl)
theorem looksT : true = Tryz.prog.looks [] := by kernel_rfl
theorem goesT : false = Rows.markPointsRow.goesBy Tryz.pinned.checked.prog := by kernel_rfl
theorem stand0 : Tryz.prog.wantsStandIn 22 = false := by kernel_rfl
theorem stand1 : Tryz.prog.wantsStandIn 48 = false := by kernel_rfl
end Go.Proofs.YtcohdfkdhdhegaaGreatDoor.markPoints
namespace Go.Proofs.YtcohdfkdhdhegaaGreatDoor.markPoints
open Go.ChangeShapes Go.WideShapes Go.ChangeAt Go.RowKit

set_option maxRecDepth 100000 in
theorem lifted (os : Os) (started : os.Started) (H : Type) (enc : TypeId × Value → H) :
    ReturnsInHanded {} Tryz.checked os 7 .any (fun w args => (Rows.markPointsSpec.pre enc Tryz.prog Tryz.f7 [] false w args ∧ laidMetH Tryz.prog Rows.markPointsRow.laid w) ∧ sizedMet enc Tryz.prog Tryz.f7 (OpenSpec.ofChange Rows.markPointsSpec) false w args)
      (Rows.markPointsSpec.post enc Tryz.prog Tryz.f7 false true false false) := by
  refine returnsInHanded_of_change_and (C := Tryz.checked) (X := fun w _ => laidMetH Tryz.prog Rows.markPointsRow.laid w) (fun _ _ _ hh h => h.of_heap hh) ownKn started (by kernel_rfl) Tryz.func7
    (ChangeSpec.witness_shaped (enc := enc) (C := Tryz.checked) (os := os) (X := fun w _ => laidMetH Tryz.prog Rows.markPointsRow.laid w) false (World.doorLaid Tryz.prog 19 os) #[.slice none 0 0, .slice none 0 0] 8 rfl (World.shaped_of_RefB (by kernel_rfl) (by kernel_rfl)) (by kernel_rfl) (by kernel_rfl) (by kernel_rfl) (door_met os _)) ?_
  intro W base args ds gs before hval0 hW _ hsz0 hL _
  have hval : ∀ (j : Nat) t v, Tryz.f7.params[j]? = some t → args[j]? = some v → Value.okWide Tryz.prog W .any base t v := hval0
  have hsz : (DataW.weightsEach Tryz.prog (Tryz.f7.params.toList ++ Rows.markPointsSpec.plain.varTypes Tryz.prog) (ds ++ gs)).all (· ≤ reachBytes) = true := hsz0
  have hW' := hW
  obtain ⟨p, q, hA0, hV, rfl, hfz, hnd⟩ := hW
  have hA : DataW.TrodAll enc Tryz.prog W 0 (fun _ => true) true Tryz.f7.params.toList args.toList ds p := hA0
  rw [Tryz.params7] at hA hval hsz
  obtain ⟨v0, vs0, d0, ds0, p0, q0, hargs, rfl, rfl, h0, r0⟩ := trodAll_cons hA
  obtain ⟨v1, vs1, d1, ds1, p1, q1, rfl, rfl, rfl, h1, r1⟩ := trodAll_cons r0
  obtain ⟨rfl, rfl, rfl⟩ := trodAll_nil r1
  obtain rfl : args = #[v0, v1] := by cases args; simp_all
  obtain ⟨rfl, rfl⟩ := trodVars_none hV
  have hk0 := hval 0 22 v0 rfl rfl
  obtain ⟨A0, n0, c0, rfl⟩ := okWide_slice Tryz.underlying22 hk0
  have k0 := h0
  have lt0 : ∀ x ∈ p0, x.block < W.heap.size := by obtain ⟨m, hm⟩ := k0; exact DataW.trod_lt m _ _ _ hm
  obtain ⟨fuel0, hf0⟩ := h0
  obtain ⟨l0, hl0, hin0⟩ := open_seeds hf0 fun m hm => of_decide_eq_true (List.all_eq_true.1 hsz m (DataW.weights_mem_each (j := 0) rfl rfl m hm))
  have hk1 := hval 1 48 v1 rfl rfl
  obtain ⟨A1, n1, c1, rfl⟩ := okWide_slice Tryz.underlying48 hk1
  have k1 := h1
  have lt1 : ∀ x ∈ p1, x.block < W.heap.size := by obtain ⟨m, hm⟩ := k1; exact DataW.trod_lt m _ _ _ hm
  obtain ⟨fuel1, hf1⟩ := h1
  obtain ⟨_, _, _, l1, -, hl1, hin1⟩ := open_intsE hf1
  have hT : Tab W := tab_of_laid hL
  clear hA0 hval0 hsz0 hsz
  refine (points_any W (.slice A0 n0 c0) l0 _ _ (hl0.strong (spot_of_ok Tryz.underlying22 hk0)) (fun x hx => ⟨(hin0 x hx).at_, (hin0 x hx).ok⟩) hT (.slice A1 n1 c1) l1 _ (hl1.strong (spot_of_ok Tryz.underlying48 hk1))).mono fun e W' ⟨he, bel⟩ => ?_
  subst he
  exact ⟨_, rfl, _, _, _, [], _, [], hW', trodAll_mk1 (shut_bool Tryz.underlying4 _), (trodAll_cons_mk (Below.trod laidOutA (by kernel_rfl) (of_decide_eq_true (by kernel_rfl)) k0 bel lt0) (trodAll_cons_mk (Below.trod laidOutA (by kernel_rfl) (of_decide_eq_true (by kernel_rfl)) k1 bel lt1) trodAll_mk0)), rfl, bel.frame _, fun h => by cases h⟩

/-- The row. -/
theorem over : Rows.MarkPointsSaid :=
  OpenClaim.holds_of_wide 7 Tryz.f7 rfl rfl rfl rfl rfl rfl rfl ⟨rfl, rfl, rfl, rfl, rfl⟩ rfl rfl rfl rfl rfl named Tryz.func7 closed inst wrap
    (fun os started H enc _ => lifted os started H enc)

/-- The statement. -/
theorem proved : Rows.MarkPointsCardSaid :=
  Claim7.holds_tied_plain_at .later [] [.data, .data] true Rows.markPointsCard.stood.harness true
    over (fun _ h => by cases h) wfT (fun _ h => by cases h) markPoints_row_tie rfl ⟨rfl, rfl⟩ mainT rfl
    (fun f fn hf hfn => by
      obtain rfl : f = 7 := Option.some.inj (named.symm.trans hf) |>.symm
      obtain rfl : fn = Tryz.f7 := (Option.some.inj (Tryz.func7.symm.trans hfn)).symm
      exact ⟨looksT, fun j t ht => by
        rw [Tryz.params7] at ht
        rcases j with _ | j
        · obtain rfl : 22 = t := by simpa using ht
          exact stand0
        rcases j with _ | j
        · obtain rfl : 48 = t := by simpa using ht
          exact stand1
        · simp at ht⟩)
    goesT
#print axioms proved
end Go.Proofs.YtcohdfkdhdhegaaGreatDoor.markPoints
