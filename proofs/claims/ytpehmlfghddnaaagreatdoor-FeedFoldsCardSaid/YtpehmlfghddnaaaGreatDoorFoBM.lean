/- coxswainlaw23.FeedFolds: whatever the arguments: the call returns true; they read behind it as before. The two tables of digest are as the program's text lays them (the card ties that); no other condition. -/
import Derived.Test.YtpehmlfghddnaaaGreatDoorFoBK
import Derived.Test.YtpehmlfghddnaaaGreatDoorFoBL
import Derived.Test.YtpehmlfghddnaaaGreatDoorCards
import Derived.Test.YtpehmlfghddnaaaGreatDoorTie
import Derived.SevenTiedAt
import Derived.ChangeSame
import Derived.ChangeVars
import Derived.JoinedOf
import Derived.RowKitTokens
import Derived.LaidHandle
import Derived.Stop.Joined
namespace Go.Proofs.YtpehmlfghddnaaaGreatDoor.feedFolds
open Go.ChangeShapes Go.WideShapes Go.ChangeAt Go.RowKit

set_option maxRecDepth 100000 in
theorem lifted (os : Os) (started : os.Started) (H : Type) (enc : TypeId × Value → H) :
    ReturnsInHanded {} Tryz.checked os 13 .any (fun w args => (Rows.feedFoldsSpec.pre enc Tryz.prog Tryz.f13 [] false w args ∧ laidMetH Tryz.prog Rows.feedFoldsRow.laid w) ∧ sizedMet enc Tryz.prog Tryz.f13 (OpenSpec.ofChange Rows.feedFoldsSpec) false w args)
      (Rows.feedFoldsSpec.post enc Tryz.prog Tryz.f13 false true false false) := by
  refine returnsInHanded_of_change_and (C := Tryz.checked) (X := fun w _ => laidMetH Tryz.prog Rows.feedFoldsRow.laid w) (fun _ _ _ hh h => h.of_heap hh) ownKn started (by kernel_rfl) Tryz.func13
    (ChangeSpec.witness_shaped (enc := enc) (C := Tryz.checked) (os := os) (X := fun w _ => laidMetH Tryz.prog Rows.feedFoldsRow.laid w) false (World.doorLaid Tryz.prog 19 os) #[.slice none 0 0, .int .i64 0, .slice none 0 0] 8 rfl (World.shaped_of_RefB (by kernel_rfl) (by kernel_rfl)) (by kernel_rfl) (by kernel_rfl) (by kernel_rfl) (door_met os _)) ?_
  intro W base args ds gs before hval0 hW _ hsz0 hL _
  have hval : ∀ (j : Nat) t v, Tryz.f13.params[j]? = some t → args[j]? = some v → Value.okWide Tryz.prog W .any base t v := hval0
  have hsz : (DataW.weightsEach Tryz.prog (Tryz.f13.params.toList ++ Rows.feedFoldsSpec.plain.varTypes Tryz.prog) (ds ++ gs)).all (· ≤ reachBytes) = true := hsz0
  have hW' := hW
  obtain ⟨p, q, hA0, hV, rfl, hfz, hnd⟩ := hW
  have hA : DataW.TrodAll enc Tryz.prog W 0 (fun _ => true) true Tryz.f13.params.toList args.toList ds p := hA0
  rw [Tryz.params13] at hA hval hsz
  obtain ⟨v0, vs0, d0, ds0, p0, q0, hargs, rfl, rfl, h0, r0⟩ := trodAll_cons hA
  obtain ⟨v1, vs1, d1, ds1, p1, q1, rfl, rfl, rfl, h1, r1⟩ := trodAll_cons r0
  obtain ⟨v2, vs2, d2, ds2, p2, q2, rfl, rfl, rfl, h2, r2⟩ := trodAll_cons r1
  obtain ⟨rfl, rfl, rfl⟩ := trodAll_nil r2
  obtain rfl : args = #[v0, v1, v2] := by cases args; simp_all
  obtain ⟨rfl, rfl⟩ := trodVars_none hV
  have hk0 := hval 0 40 v0 rfl rfl
  obtain ⟨A0, n0, c0, rfl⟩ := okWide_slice Tryz.underlying40 hk0
  have k0 := h0
  have lt0 : ∀ x ∈ p0, x.block < W.heap.size := by obtain ⟨m, hm⟩ := k0; exact DataW.trod_lt m _ _ _ hm
  obtain ⟨fuel0, hf0⟩ := h0
  obtain ⟨l0, hl0, hin0⟩ := open_seeds hf0 fun m hm => of_decide_eq_true (List.all_eq_true.1 hsz m (DataW.weights_mem_each (j := 0) rfl rfl m hm))
  obtain ⟨a1, rfl, rfl, rfl, w1⟩ := open_int Tryz.underlying3 (hval 1 3 v1 rfl rfl) h1
  have hin1 := wf_i64 w1
  have hk2 := hval 2 69 v2 rfl rfl
  obtain ⟨A2, n2, c2, rfl⟩ := okWide_slice Tryz.underlying69 hk2
  have k2 := h2
  have lt2 : ∀ x ∈ p2, x.block < W.heap.size := by obtain ⟨m, hm⟩ := k2; exact DataW.trod_lt m _ _ _ hm
  obtain ⟨fuel2, hf2⟩ := h2
  obtain ⟨_, _, _, l2, -, hl2, hin2⟩ := open_intsE hf2
  have hT : Tab W := tab_of_laid hL
  clear hA0 hval0 hsz0 hsz
  refine (folds_any W (.slice A0 n0 c0) l0 _ _ (hl0.strong (spot_of_ok Tryz.underlying40 hk0)) (fun x hx => ⟨(hin0 x hx).at_, (hin0 x hx).ok⟩) hT a1 (.slice A2 n2 c2) l2 _ (hl2.strong (spot_of_ok Tryz.underlying69 hk2))).mono fun e W' ⟨he, bel⟩ => ?_
  subst he
  exact ⟨_, rfl, _, _, _, [], _, [], hW', trodAll_mk1 (shut_bool Tryz.underlying4 _), (trodAll_cons_mk (Below.trod laidOutA (by kernel_rfl) (of_decide_eq_true (by kernel_rfl)) k0 bel lt0) (trodAll_cons_mk (shut_int Tryz.underlying3 w1) (trodAll_cons_mk (Below.trod laidOutA (by kernel_rfl) (of_decide_eq_true (by kernel_rfl)) k2 bel lt2) trodAll_mk0))), rfl, bel.frame _, fun h => by cases h⟩

/-- The row. -/
theorem over : Rows.FeedFoldsSaid :=
  OpenClaim.holds_of_wide 13 Tryz.f13 rfl rfl rfl rfl rfl rfl rfl ⟨rfl, rfl, rfl, rfl, rfl⟩ rfl rfl rfl rfl rfl named Tryz.func13 closed inst wrap
    (fun os started H enc _ => lifted os started H enc)

/-- The statement. -/
theorem proved : Rows.FeedFoldsCardSaid :=
  Claim7.holds_tied_plain_at .later [] [.data, .data] true Rows.feedFoldsCard.stood.harness true
    over (fun _ h => by cases h) wfT (fun _ h => by cases h) feedFolds_row_tie rfl ⟨rfl, rfl⟩ mainT rfl
    (fun f fn hf hfn => by
      obtain rfl : f = 13 := Option.some.inj (named.symm.trans hf) |>.symm
      obtain rfl : fn = Tryz.f13 := (Option.some.inj (Tryz.func13.symm.trans hfn)).symm
      exact ⟨looksT, fun j t ht => by
        rw [Tryz.params13] at ht
        rcases j with _ | j
        · obtain rfl : 40 = t := by simpa using ht
          exact stand0
        rcases j with _ | j
        · obtain rfl : 3 = t := by simpa using ht
          exact stand2
        rcases j with _ | j
        · obtain rfl : 69 = t := by simpa using ht
          exact stand1
        · simp at ht⟩)
    goesT
#print axioms proved
end Go.Proofs.YtpehmlfghddnaaaGreatDoor.feedFolds
