/- coxswainlaw23.events. 'append(v, ys...)': elements that are read, behind a row of the call's own. coxswainlaw23.same, at rows of the same events. -/
import Derived.Test.YtpehmlfghddnaaaGreatDoorPuBI
import Derived.Test.YtpehmlfghddnaaaGreatDoorPuBJ
namespace Go.Proofs.YtpehmlfghddnaaaGreatDoor
open Go.RowKit Go.Maps

/-- Events in a row of the call's own, at first none. -/
structure EvR (w2 W : World) (v : Value) (es : List Ev) : Prop where
  own : W.ownsRow w2.heap.size 117 3 v es.length (evE.flat es)
  below : Below w2.heap.size w2 W
theorem EvR.next {w2 W W' : World} {v : Value} {es : List Ev} (h : EvR w2 W v es) (hb : Below W.heap.size W W') : EvR w2 W' v es := ⟨own_below h.own hb, h.below.trans (hb.mono h.below.size)⟩
theorem EvR.more {w2 W W' : World} {v v1 : Value} {es : List Ev} (h : EvR w2 W v es) (x : Ev) (ho : W'.ownsRow w2.heap.size 117 3 v1 (es.length + 1) (evE.flat es ++ x.cells)) (hg : W.grownBy W' v.ownBlock) : EvR w2 W' v1 (es ++ [x]) :=
  ⟨by rw [evE.flat_append, evE.flat_one, List.length_append]; exact ho, below_grown_own h.below h.own (Nat.le_refl _) h.below.size hg⟩
theorem map_nth {xs : List LNS} {pre : List (List ID)} (h : xs.map LNS.ns = pre.map fun T => T.map Subtype.val) {i : Nat} {x : LNS} (hx : xs[i]? = some x) : ∃ E, pre[i]? = some E ∧ x.ns = E.map Subtype.val := by
  have h1 : (xs.map LNS.ns)[i]? = some x.ns := by rw [List.getElem?_map, hx]; rfl
  rw [h, List.getElem?_map] at h1
  obtain ⟨F, hF, he⟩ := Option.map_eq_some_iff.1 h1
  exact ⟨F, hF, he.symm⟩
theorem above_all {G : List Hdr} (g : GoodG G) {T C : List ID} (hT : TipOf G T) : (aboveG G T C).length ≤ G.length ∧ ∀ E ∈ aboveG G T C, TipOf G E :=
  ⟨Nat.le_trans (List.takeWhile_sublist _).length_le (g.chain_len hT), fun E hE => g.chain_tip T hT E ((List.takeWhile_sublist _).subset hE)⟩
theorem exec_sub {P : Program} {o : Oper} {a : Act} {w : World} (t T : TypeId) (px py : Operand) (ho : o.op = .binOp .sub t px py T) (x y z : Int) (hx : a.eval px = .int .i64 x) (hy : a.eval py = .int .i64 y) (hz : x - y = z) (h1 : I64 z) : (execOp a.eval o).run P w = .ok (.value (.int .i64 z)) w := by
  subst hz
  unfold execOp
  simp only [ho, hx, hy]
  go_simp
  exact IntWalk.i64_in _ h1
theorem and_ex (x y : Int) : ∃ r : Int, ∀ (P : Program) (o : Oper) (a : Act) (w : World) (t T : TypeId) (px py : Operand), o.op = .binOp .and t px py T → a.eval px = .int .i64 x → a.eval py = .int .i64 y → (execOp a.eval o).run P w = .ok (.value (.int .i64 r)) w := by
  refine ⟨IntKind.i64.wrap ((BitVec.ofInt IntKind.i64.bits x &&& BitVec.ofInt IntKind.i64.bits y).toNat : Int), fun P o a w t T px py ho hx hy => ?_⟩
  unfold execOp
  simp only [ho, hx, hy, eqGuard, binOp]
  simp [Op.intBits]
theorem join_named {G : List Hdr} (W : World) (z : LNS) (ok : Nat → Prop) (hz : z.At ok W) {E : List ID} (h : NamT G z.ns E) : Calls Tryz.prog 51 #[z.v] W fun e w' => e = .returned (.string (keyB E)) ∧ W = w' := by
  rw [← h.key]
  exact rjoin_any W z.v z.ns ok hz h.small.1 h.small.2

set_option maxRecDepth 100000 in
set_option maxHeartbeats 2000000 in
theorem events_any (w : World) (D : List LB) (L : List LRH) (hB : Both D L) (vl : Value) (ok okx oky : Nat → Prop) (hl : Sl rbE ok w vl L) (hat : ∀ y ∈ L, y.At ok w) (x : LNS) (hx : x.At okx w) (T : List ID) (hT : NamT (hdrs D) x.ns T) (hn : NamedIn L x.ns) (y : LNS) (hy : y.At oky w) (F : List ID) (hF : NamT (hdrs D) y.ns F) (hnF : NamedIn L y.ns) (hDL : D.length ≤ 1000000) :
    Calls Tryz.prog 84 #[vl, x.v, y.v] w fun e w' => ∃ v, e = .returned v ∧ w'.ownsRow w.heap.size 117 3 v ((aboveG (hdrs D) T (commG (hdrs D) T F)).map (evOf (hdrs D) 1) ++ (aboveG (hdrs D) F (commG (hdrs D) T F)).reverse.map (evOf (hdrs D) 2)).length (evE.flat ((aboveG (hdrs D) T (commG (hdrs D) T F)).map (evOf (hdrs D) 1) ++ (aboveG (hdrs D) F (commG (hdrs D) T F)).reverse.map (evOf (hdrs D) 2))) ∧ Below w.heap.size w w' := by
  have HCO := Lib.hid (common14_any w D L hB vl ok okx oky hl hat x hx T hT hn y hy F hF hnF hDL)
  have hcm := hB.good.comm_mem hT.tip hF.tip
  have HA1 := Lib.hid fun (W : World) (hb : Below w.heap.size w W) (z : LNS) (okz : Nat → Prop) (hz : z.At okz W) (hN : NamT (hdrs D) z.ns (commG (hdrs D) T F)) => above14_any W D L hB vl (fun k => ok k ∧ k < w.heap.size) (fun k => okx k ∧ k < w.heap.size) okz (hl.old.below hb) (fun u hu => Sl.below (Sl.old (hat u hu)) hb) x (Sl.below (Sl.old hx) hb) T hT hn z hz _ hN hcm.1 hDL
  have HA2 := Lib.hid fun (W : World) (hb : Below w.heap.size w W) (z : LNS) (okz : Nat → Prop) (hz : z.At okz W) (hN : NamT (hdrs D) z.ns (commG (hdrs D) T F)) => above14_any W D L hB vl (fun k => ok k ∧ k < w.heap.size) (fun k => oky k ∧ k < w.heap.size) okz (hl.old.below hb) (fun u hu => Sl.below (Sl.old (hat u hu)) hb) y (Sl.below (Sl.old hy) hb) F hF hnF z hz _ hN hcm.2.1 hDL
  have hlen : (hdrs D).length ≤ 1000000 := by simpa [hdrs] using hDL
  have HP1 := Lib.hid (above_all hB.good (C := commG (hdrs D) T F) hT.tip)
  have HP2 := Lib.hid (above_all hB.good (C := commG (hdrs D) T F) hF.tip)
  have HHT := Lib.hid fun (W : World) (hb : Below w.heap.size w W) (z : LNS) (okz : Nat → Prop) (hz : z.At okz W) (E : List ID) (hN : NamT (hdrs D) z.ns E) => height14_any W D L hB vl ok okz (hl.below hb) z hz E hN
  clear hcm hB hl hat hx hy hT hF hn hnF hDL
  generalize hC : commG (hdrs D) T F = C at HCO HA1 HA2 HP1 HP2 ⊢
  generalize hpre : aboveG (hdrs D) T C = pre at HA1 HP1 ⊢
  generalize hsuf : aboveG (hdrs D) F C = suf at HA2 HP2 ⊢
  clear hC hpre hsuf
  go_enter Tryz.func84, Tryz.ntmps84
  go_wp2_with (first
    | (go_at_call 98; refine (HA1.out _ HB1.out z _ HZ.out.1 HZ.out.2.1).mono ?_; rintro e w2 ⟨v, rfl, xs, hxs, hm⟩; have HXS := Lib.hid hxs; have HM := Lib.hid hm; obtain ⟨A1, c1, rfl, -⟩ := own_slice hxs.own; clear hxs hm)
    | (go_at_call 97; refine HCO.out.mono ?_; rintro e w1 ⟨z, rfl, hz1, hz2, hz3, hb1⟩; have HZ := Lib.hid (And.intro hz1 (And.intro hz2 hz3)); have HB1 := Lib.hid hb1; clear hz1 hz2 hz3 hb1))
  have HB2 := Lib.hid (HB1.out.trans (HXS.out.below.mono HB1.out.size))
  have HZ2 := Lib.hid (Sl.below HZ.out.1 HXS.out.below)
  have hxl : xs.length ≤ 1000000 := by
    have h1 := congrArg List.length HM.out
    simp only [List.length_map] at h1
    have := HP1.out.1
    omega
  have HROW := Lib.hid (Sl.of_own (E := nsE) HXS.out.own)
  have HAT := Lib.hid fun u hu => Sl.mono (HXS.out.at_ u hu) (ok' := fun k => k < w.heap.size) fun k hk => hk.2.elim (fun h => h.2) fun h => h.2
  have hxm : xs.length = pre.length := by have h1 := congrArg List.length HM.out; simpa using h1
  have HXM := Lib.hid hxm
  clear HCO HA1 HXS hxm
  go_loopw [7, 23] (fun c7 c23 W => ∃ (i : Nat) (es : List Ev), i ≤ xs.length ∧ c23 = .int .i64 (i : Int) ∧ es = (pre.take i).map (evOf (hdrs D) 1) ∧ EvR w2 W c7 es) (fun _ c23 _ => xs.length - (intOf c23).toNat)
  case atStart => exact ⟨0, [], by omega, rfl, rfl, ⟨World.ownsRow_nil w2 w2.heap.size 117 3, Below.refl _ _⟩⟩
  case round =>
    obtain ⟨i, es, hi, rfl, hes, hI⟩ := hrel
    have HI := Lib.hid hI
    have HES := Lib.hid hes
    have hesl : es.length = i := by have := HXM.out; rw [hes, List.length_map, List.length_take]; omega
    have HESL := Lib.hid hesl
    obtain ⟨Av, cv, rfl, -⟩ := own_slice hI.own
    clear hI hes hesl
    by_cases hil : i < xs.length
    · obtain ⟨u, hu⟩ : ∃ u, xs[i]? = some u := ⟨_, List.getElem?_eq_getElem hil⟩
      obtain ⟨E, hE, hNE⟩ := map_nth HM.out hu
      have HNT : Hid (NamT (hdrs D) u.ns E) := Lib.hid ⟨HP1.out.2 E (List.mem_of_getElem? hE), hNE⟩
      have HZA := Lib.hid (Sl.below (Sl.below (HAT.out u (List.mem_of_getElem? hu)) HI.out.below |> fun h => h) (Below.refl _ _))
      have HJN := Lib.hid (join_named wr u _ HZA.out HNT.out)
      have HHG := Lib.hid (HHT.out wr (HB2.out.trans (HI.out.below.mono HB2.out.size)) u _ HZA.out E HNT.out)
      obtain ⟨ke, hke⟩ : ∃ ke, keyB E = ke := ⟨_, rfl⟩
      obtain ⟨he, hhe⟩ : ∃ he, hgtG (hdrs D) E = he := ⟨_, rfl⟩
      have HEV : Hid (evOf (hdrs D) 1 E = ⟨1, ke, he⟩) := Lib.hid (by unfold evOf; rw [hke, hhe])
      rw [hke] at HJN
      rw [hhe] at HHG
      have HE := Lib.hid hE
      obtain ⟨bz, oz, rfl, -, -, hcz⟩ := (HROW.out.below HI.out.below).at_ i u hu
      have hcz0 : wr.cell? ⟨bz, oz + i, none⟩ = some u.v := by have := hcz 0 _ rfl; rwa [Nat.add_zero, show nsE.k = 1 from rfl, Nat.mul_one] at this
      obtain ⟨un, uA, uc⟩ := u
      have hel : es.length ≤ 1000000 := by have := HESL.out; omega
      clear hcz hu hE hNE hke hhe
      go_wp2_with (first
        | (go_at_call 51; refine HJN.out.mono ?_; rintro e w8 ⟨rfl, rfl⟩)
        | (go_at_call 86; refine HHG.out.mono ?_; rintro e w9 ⟨rfl, hb9⟩; have HI9 := Lib.hid (HI.out.next hb9); clear hb9)
        | (refine wpl_slice1 rfl 109 117 (.tmp 33) rfl (Ev.cells ⟨1, ke, he⟩).toArray rfl _ 3 32 Tryz.underlying109 ev_info evZ_cells rfl (by decide) (by decide) ?_)
        | (at_builtin; refine wpl_app1 (Ev.cells ⟨1, ke, he⟩).toArray w2.heap.size rfl (.tmp 27) (.tmp 34) 109 117 _ 3 32 rfl Tryz.underlying109 ev_info evZ_cells (by decide) (by decide) (.slice Av es.length cv) es.length _ rfl rfl rfl (evE.one ⟨1, ke, he⟩) HI9.out.own HI9.out.below.size (by omega) ?_; intro v1 w10 ho hg _; have HI10 := Lib.hid (HI9.out.more ⟨1, ke, he⟩ ho hg); clear ho hg))
      go_roundw
      case rel => exact ⟨i + 1, es ++ [⟨1, ke, he⟩], by omega, by go_num, by rw [List.take_add_one, HE.out, List.map_append, ← HES.out, ← HEV.out]; rfl, HI10.out⟩
      case measure => simp [intOf]; omega
    · have hie : i = xs.length := by omega
      subst hie
      have HEP : Hid (es = pre.map (evOf (hdrs D) 1)) := Lib.hid (by rw [HES.out, HXM.out, List.take_length])
      have HBW := Lib.hid (HB2.out.trans (HI.out.below.mono HB2.out.size))
      have HA3 := Lib.hid (HA2.out wr HBW.out z _ (Sl.below HZ2.out HI.out.below) HZ.out.2.1)
      clear HES HA2 HROW HAT
      go_wp2_with (go_at_call 98; refine HA3.out.mono ?_; rintro e w3 ⟨v, rfl, ys, hys, hm⟩; have HYS := Lib.hid hys; have HMY := Lib.hid hm; have HI3 := Lib.hid (HI.out.next hys.below); obtain ⟨A2, c2, rfl, -⟩ := own_slice hys.own; clear hys hm)
      have hyl : ys.length = suf.length := by have h1 := congrArg List.length HMY.out; simpa using h1
      have hyb : ys.length ≤ 1000000 := by have := HP2.out.1; omega
      have HBW3 := Lib.hid (HBW.out.trans (HYS.out.below.mono HBW.out.size))
      have HAT2 := Lib.hid fun u hu => Sl.mono (HYS.out.at_ u hu) (ok' := fun k => k < w.heap.size) fun k hk => hk.2.elim (fun h => h.2) fun h => h.2
      have HROW2 : Hid (Sl nsE (fun k => some k ≠ (Value.slice Av es.length cv).ownBlock ∧ True) w3 (.slice A2 ys.length c2) ys) := Lib.hid (Sl.mono (Sl.of_own (E := nsE) HYS.out.own) fun k hk => ⟨fun e => by have := (own_lt HYS.out.own k hk).1; have := (own_lt HI.out.own k e.symm).2; omega, trivial⟩)
      have HI30 := Lib.hid HI3.out.below
      have HYL := Lib.hid hyl
      clear HA3 HBW HYS HI HZ2 HZ hyl
      go_loopw [7, 43] (fun c7 c43 W => ∃ (j : Nat) (es2 : List Ev), j ≤ ys.length ∧ c43 = .int .i64 (j : Int) ∧ es2 = pre.map (evOf (hdrs D) 1) ++ (suf.reverse.take j).map (evOf (hdrs D) 2) ∧ EvR w2 W c7 es2 ∧ Sl nsE (fun k => some k ≠ c7.ownBlock ∧ True) W (.slice A2 ys.length c2) ys ∧ w3.heap.size ≤ W.heap.size) (fun _ c43 _ => ys.length - (intOf c43).toNat)
      case atStart => exact ⟨0, es, by omega, rfl, by rw [HEP.out]; simp, HI3.out, HROW2.out, Nat.le_refl _⟩
      case round =>
        obtain ⟨j, es2, hj, rfl, hes2, hI, hrow, hsz⟩ := hrel
        rename World => W4
        have HI := Lib.hid hI
        have HES := Lib.hid hes2
        have hesl : es2.length = pre.length + j := by have h0 := HYL.out; rw [hes2, List.length_append, List.length_map, List.length_map, List.length_take, List.length_reverse]; omega
        have HESL := Lib.hid hesl
        have HRW := Lib.hid hrow
        have HSZ := Lib.hid hsz
        obtain ⟨Av2, cv2, rfl, -⟩ := own_slice hI.own
        clear hI hes2 hesl hrow hsz HI3 HROW2
        by_cases hjl : j < ys.length
        · obtain ⟨q1, hq1⟩ : ∃ q1 : Nat, (ys.length : Int) - 1 = q1 := ⟨ys.length - 1, by omega⟩
          obtain ⟨q, hq⟩ : ∃ q : Nat, (q1 : Int) - j = q := ⟨ys.length - 1 - j, by omega⟩
          have hql : q < ys.length := by omega
          obtain ⟨u, hu⟩ : ∃ u, ys[q]? = some u := ⟨_, List.getElem?_eq_getElem hql⟩
          obtain ⟨E, hE, hNE⟩ := map_nth HMY.out hu
          have HNT : Hid (NamT (hdrs D) u.ns E) := Lib.hid ⟨HP2.out.2 E (List.mem_of_getElem? hE), hNE⟩
          have HER : Hid (suf.reverse[j]? = some E) := Lib.hid (by have h0 := HYL.out; rw [List.getElem?_reverse (by omega), show suf.length - 1 - j = q by omega]; exact hE)
          have HZA : Hid (u.At (fun k => k < w.heap.size) W4) := Lib.hid (Sl.fr (HAT2.out u (List.mem_of_getElem? hu)) ⟨HSZ.out, fun k hk _ => (HI.out.below.block k (Nat.lt_of_lt_of_le hk HB2.out.size)).trans (HI30.out.block k (Nat.lt_of_lt_of_le hk HB2.out.size)).symm⟩)
          have HJN := Lib.hid (join_named W4 u _ HZA.out HNT.out)
          have HHG := Lib.hid (HHT.out W4 (HB2.out.trans (HI.out.below.mono HB2.out.size)) u _ HZA.out E HNT.out)
          obtain ⟨ke, hke⟩ : ∃ ke, keyB E = ke := ⟨_, rfl⟩
          obtain ⟨he, hhe⟩ : ∃ he, hgtG (hdrs D) E = he := ⟨_, rfl⟩
          have HEV : Hid (evOf (hdrs D) 2 E = ⟨2, ke, he⟩) := Lib.hid (by unfold evOf; rw [hke, hhe])
          rw [hke] at HJN
          rw [hhe] at HHG
          obtain ⟨bz, oz, rfl, -, -, hcz⟩ := HRW.out.at_ q u hu
          have hcz0 : W4.cell? ⟨bz, oz + q, none⟩ = some u.v := by have := hcz 0 _ rfl; rwa [Nat.add_zero, show nsE.k = 1 from rfl, Nat.mul_one] at this
          obtain ⟨un, uA, uc⟩ := u
          have hel : es2.length ≤ 10000000 := by have := HESL.out; have := HP1.out.1; omega
          have i1 : I64 (q1 : Int) := ⟨by omega, by omega⟩
          have i2 : I64 (q : Int) := ⟨by omega, by omega⟩
          clear hcz hu hE hNE hke hhe
          go_wp2_with (first
            | (refine wpl_exec rfl (.int .i64 (q1 : Int)) (exec_sub _ _ (.tmp 48) (.const (.int .i64 1)) rfl ys.length 1 q1 rfl rfl hq1 i1) ?_)
            | (refine wpl_exec rfl (.int .i64 (q : Int)) (exec_sub _ _ (.tmp 49) (.tmp 50) rfl q1 j q rfl rfl hq i2) ?_)
            | (go_at_call 51; refine HJN.out.mono ?_; rintro e w8 ⟨rfl, rfl⟩)
            | (go_at_call 86; refine HHG.out.mono ?_; rintro e w9 ⟨rfl, hb9⟩; have HI9 := Lib.hid (HI.out.next hb9); have HR9 := Lib.hid (And.intro (HRW.out.below hb9) (Nat.le_trans HSZ.out hb9.size)); clear hb9)
            | (refine wpl_slice1 rfl 109 117 (.tmp 60) rfl (Ev.cells ⟨2, ke, he⟩).toArray rfl _ 3 32 Tryz.underlying109 ev_info evZ_cells rfl (by decide) (by decide) ?_)
            | (at_builtin; refine wpl_app1 (Ev.cells ⟨2, ke, he⟩).toArray w2.heap.size rfl (.tmp 54) (.tmp 61) 109 117 _ 3 32 rfl Tryz.underlying109 ev_info evZ_cells (by decide) (by decide) (.slice Av2 es2.length cv2) es2.length _ rfl rfl rfl (evE.one ⟨2, ke, he⟩) HI9.out.own HI9.out.below.size (by omega) ?_; intro v1 w10 ho hg hat; have HI10 := Lib.hid (HI9.out.more ⟨2, ke, he⟩ ho hg); have HR10 := Lib.hid (And.intro (keep_own HR9.out.1 hg hat) (Nat.le_trans HR9.out.2 hg.size)); clear ho hg hat))
          go_roundw
          case rel => exact ⟨j + 1, es2 ++ [⟨2, ke, he⟩], by omega, by go_num, by rw [List.take_add_one, HER.out, List.map_append, ← List.append_assoc, ← HES.out, ← HEV.out]; rfl, HI10.out, HR10.out.1, HR10.out.2⟩
          case measure => simp [intOf]; omega
        · have hje : j = ys.length := by omega
          subst hje
          have HEP2 : Hid (es2 = pre.map (evOf (hdrs D) 1) ++ suf.reverse.map (evOf (hdrs D) 2)) := Lib.hid (by rw [HES.out, HYL.out, ← List.length_reverse, List.take_length])
          go_wp2
          go_ret
          rw [← HEP2.out]
          exact ⟨_, rfl, own_low HI.out.own HB2.out.size, HB2.out.trans (HI.out.below.mono HB2.out.size)⟩
end Go.Proofs.YtpehmlfghddnaaaGreatDoor
namespace Go.Proofs.YtpehmlfghddnaaaGreatDoor
open Go.RowKit Go.Maps

theorem run_append_none_any {P : Program} {w : World} (base : Nat) (t ty e : TypeId) (i : TypeInfo) (size : Nat) (ht : P.underlying t = some (.slice e)) (hi : P.info? e = some i)
    (v : Value) (n c : Nat) (xs : List Value) (hown : w.ownsRow base e size v n xs) :
    (Builtin.append_ #[t, t] ty #[v, .slice none 0 c]).run P w = .ok v w := by
  rcases hown.2 with ⟨rfl, rfl⟩ | ⟨g, cap, cur, rfl, _, _, hnc, _⟩
  · simp [Builtin.append_, run_underlying ht, sizeOf, typeInfo, hi, Builtin.lenOf, Builtin.firstCells]
  · simp [Builtin.append_, run_underlying ht, sizeOf, typeInfo, hi, Builtin.lenOf, Builtin.firstCells, hnc, storeCells]
section
variable {P : Program} {ops : Array Oper} {rest : List Oper} {o : Oper} {a : Act} {W : World} {Q : Exit → Act → World → Prop}
theorem wpl_appR {β : Type} (E : Enc β) {ok : Nat → Prop} (ys : List β) (base : Nat) (hgd : o.guard = none) (s x : Operand) (t e : TypeId) (z : Value) (bytes : Nat)
    (ho : o.op = .call { callee := .builtin .append, args := #[s, x], argTypes := #[t, t] })
    (ht : P.underlying t = some (.slice e)) (hinfo : (P.info? e).map (fun i => (i.zero, i.size, i.bytes)) = some (some z, E.k, bytes)) (hz : z.cells.size = E.k)
    (v : Value) (n : Nat) (xs : List Value) (hs : a.eval s = v) (u : Value) (hx : a.eval x = u) (hy : Sl E ok W u ys)
    (HO : W.ownsRow base e E.k v n xs) (hbase : base ≤ W.heap.size) (h63 : n + ys.length ≤ maxLen) (hl : (n + ys.length) * bytes ≤ 140737488355328)
    (h : ∀ v1 w1, w1.ownsRow base e E.k v1 (n + ys.length) (xs ++ E.flat ys) → W.grownBy w1 v.ownBlock → (v1.ownBlock = v.ownBlock ∨ ∃ b, v1.ownBlock = some b ∧ W.heap.size ≤ b) → wpList P ops Q rest (a.put o.dst v1) w1) :
    wpList P ops Q (o :: rest) a W := by
  obtain ⟨i0, hi, hzz⟩ := Option.map_eq_some_iff.1 hinfo
  simp only [Prod.mk.injEq] at hzz
  obtain ⟨hz0, hz1, hz2⟩ := hzz
  obtain ⟨A, m, c, rfl, hm, hc, hmax, hpl, hcell⟩ := hy
  have hnil : m = 0 → ys = [] := fun h0 => List.length_eq_zero_iff.1 (by omega)
  cases A with
  | none =>
    have h0 : m = 0 := by
      rcases Nat.eq_zero_or_pos m with h0 | h0
      · exact h0
      · obtain ⟨b, off, e, -⟩ := hcell h0
        cases e
    have hys := hnil h0
    subst h0
    subst hys
    refine wpList_plain hgd fun K hK => ?_
    have hrun := run_append_none_any (P := P) (w := W) base t o.type e i0 E.k ht hi v n c xs HO
    unfold Oper.wp
    simp [execOp, ho, resolve, invoke, builtin, hs, hx, hrun, Result.andThen]
    exact hK _ _ (h v W (by simpa [Enc.flat] using HO) ⟨rfl, rfl, rfl, Nat.le_refl _, fun _ _ _ => rfl⟩ (.inl rfl))
  | some ad =>
    have hcells : ∀ j u, (E.flat ys)[j]? = some u → W.cell? (ad.add j) = some u := fun j u hu => by
      by_cases h0 : 0 < m
      · obtain ⟨b, off, e1, -, -, hcl⟩ := hcell h0
        cases e1
        rw [add_off]
        exact hcl j u hu
      · rw [hnil (by omega)] at hu
        cases hu
    refine wpList_append_own_at W hgd s x t ho base e i0 z E.k bytes ht hi hz0 hz1 hz2 hz E.k0 v n xs hs HO ad m c (E.flat ys) hx (by rw [E.flat_length, hm]) hcells (E.flat_one_cell ys) (by omega) (by rw [← hm]; exact hl) hbase ?_
    intro v1 w1 hown hg _ hat
    exact h v1 w1 (by rw [hm]; exact hown) hg (hat.imp id fun hat => ⟨_, hat, Nat.le_refl _⟩)
end
end Go.Proofs.YtpehmlfghddnaaaGreatDoor
namespace Go.Proofs.YtpehmlfghddnaaaGreatDoor
open Go.RowKit Go.Maps

set_option maxRecDepth 100000 in
set_option maxHeartbeats 2000000 in
theorem same23_any (w : World) (a b : Value) (xs : List Ev) (oka okb : Nat → Prop) (ha : Sl evE oka w a xs) (hb : Sl evE okb w b xs) (hlen : xs.length ≤ 1000000) :
    Calls Tryz.prog 81 #[a, b] w fun e w' => e = .returned (.bool true) ∧ Below w.heap.size w w' := by
  obtain ⟨A, c, rfl, -, -⟩ := ha.form
  obtain ⟨B, d, rfl, -, -⟩ := hb.form
  have HA := Lib.hid ha
  have HB := Lib.hid hb
  clear ha hb
  go_enter Tryz.func81, Tryz.ntmps81
  go_wp2
  go_loopw [13] (fun c13 W => ∃ i : Nat, i ≤ xs.length ∧ c13 = .int .i64 (i : Int) ∧ Below w.heap.size w W) (fun c13 _ => xs.length - (intOf c13).toNat)
  case atStart => exact ⟨0, by omega, rfl, Below.refl _ _⟩
  case round =>
    obtain ⟨i, hi, rfl, hW⟩ := hrel
    have HW := Lib.hid hW
    clear hW
    by_cases hil : i < xs.length
    · obtain ⟨x, hx⟩ : ∃ x, xs[i]? = some x := ⟨_, List.getElem?_eq_getElem hil⟩
      obtain ⟨ba, oa, rfl, -, -, hca⟩ := (HA.out.below HW.out).at_ i x hx
      obtain ⟨bb, ob, rfl, -, -, hcb⟩ := (HB.out.below HW.out).at_ i x hx
      obtain ⟨kd, key, ht⟩ := x
      have HCA : Hid (∀ (j : Nat) (u : Value), [Value.int .i64 kd, .string key, .int .i64 ht][j]? = some u → wr.cell? ⟨ba, oa + i * 3 + j, none⟩ = some u) := Lib.hid fun j u hu => hca j u hu
      have HCB : Hid (∀ (j : Nat) (u : Value), [Value.int .i64 kd, .string key, .int .i64 ht][j]? = some u → wr.cell? ⟨bb, ob + i * 3 + j, none⟩ = some u) := Lib.hid fun j u hu => hcb j u hu
      clear hca hcb hx
      go_upto_region 6 with fail
      refine st_ (S := (fun W' => Below wr.heap.size wr W')) 9 #[false, false, false, false, false, false, false, false, false] (by kernel_rfl) rfl (by rfl) (Below.refl _ wr).drew (fun hHeld => ?_)
      refine tk_ 0 (some 16) #[true, false, false, false, false, false, false, false, false] (v := ?_) (a' := ?_) rfl rfl (by kernel_rfl) (fun _ _ _ h => h) (yieldsIf_run rfl ?_) hHeld ?_ ?_
      rotate_left
      · intro w'
        go_simp
        with_reducible rfl
      rotate_left
      · simp only [Act.put, List.setIfInBounds_toArray, List.set_cons_zero, List.set_cons_succ]
        rfl
      refine tk_ 1 (some 17) #[true, true, false, false, false, false, false, false, false] (v := ?_) (a' := ?_) rfl rfl (by kernel_rfl) (fun _ _ _ h => h) (yieldsIf_run rfl ?_) hHeld ?_ ?_
      rotate_left
      · intro w'
        go_simp
        with_reducible rfl
      rotate_left
      · simp only [Act.put, List.setIfInBounds_toArray, List.set_cons_zero, List.set_cons_succ]
        rfl
      refine tk_ 2 (some 18) #[true, true, true, false, false, false, false, false, false] (v := ?_) (a' := ?_) rfl rfl (by kernel_rfl) (fun _ _ _ h => h) (yieldsIf_run rfl ?_) hHeld ?_ ?_
      rotate_left
      · intro w'
        go_simp
        with_reducible rfl
      rotate_left
      · simp only [Act.put, List.setIfInBounds_toArray, List.set_cons_zero, List.set_cons_succ]
        rfl
      refine tk_ 3 (some 19) #[true, true, true, true, false, false, false, false, false] rfl rfl (by kernel_rfl) (fun _ _ _ h => h) (yieldsIf_load rfl 117 (.tmp 18) rfl ba _ rfl [.int .i64 kd, .string key, .int .i64 ht] _ (fun W' h j u hu => (h.cell (cell_lt (HCA.out j u hu))).trans (HCA.out j u hu)) Tryz.underlying117 rfl ev_size) hHeld (a' := ?_) ?_ ?_
      rotate_left
      · simp only [Act.put, List.setIfInBounds_toArray, List.set_cons_zero, List.set_cons_succ]
        rfl
      refine tk_ 4 (some 20) #[true, true, true, true, true, false, false, false, false] (v := ?_) (a' := ?_) rfl rfl (by kernel_rfl) (fun _ _ _ h => h) (yieldsIf_run rfl ?_) hHeld ?_ ?_
      rotate_left
      · intro w'
        go_simp
        with_reducible rfl
      rotate_left
      · simp only [Act.put, List.setIfInBounds_toArray, List.set_cons_zero, List.set_cons_succ]
        rfl
      refine tk_ 5 (some 21) #[true, true, true, true, true, true, false, false, false] (v := ?_) (a' := ?_) rfl rfl (by kernel_rfl) (fun _ _ _ h => h) (yieldsIf_run rfl ?_) hHeld ?_ ?_
      rotate_left
      · intro w'
        go_simp
        with_reducible rfl
      rotate_left
      · simp only [Act.put, List.setIfInBounds_toArray, List.set_cons_zero, List.set_cons_succ]
        rfl
      refine tk_ 6 (some 22) #[true, true, true, true, true, true, true, false, false] (v := ?_) (a' := ?_) rfl rfl (by kernel_rfl) (fun _ _ _ h => h) (yieldsIf_run rfl ?_) hHeld ?_ ?_
      rotate_left
      · intro w'
        go_simp
        with_reducible rfl
      rotate_left
      · simp only [Act.put, List.setIfInBounds_toArray, List.set_cons_zero, List.set_cons_succ]
        rfl
      refine tk_ 7 (some 23) #[true, true, true, true, true, true, true, true, false] rfl rfl (by kernel_rfl) (fun _ _ _ h => h) (yieldsIf_load rfl 117 (.tmp 22) rfl bb _ rfl [.int .i64 kd, .string key, .int .i64 ht] _ (fun W' h j u hu => (h.cell (cell_lt (HCB.out j u hu))).trans (HCB.out j u hu)) Tryz.underlying117 rfl ev_size) hHeld (a' := ?_) ?_ ?_
      rotate_left
      · simp only [Act.put, List.setIfInBounds_toArray, List.set_cons_zero, List.set_cons_succ]
        rfl
      refine tk_ 8 (some 24) #[true, true, true, true, true, true, true, true, true] rfl rfl (by kernel_rfl) (fun _ _ _ h => h) (yieldsIf_run (v := .bool false) rfl fun W' => by go_simp) hHeld (a' := ?_) ?_ ?_
      rotate_left
      · simp only [Act.put, List.setIfInBounds_toArray, List.set_cons_zero, List.set_cons_succ]
        rfl
      refine wpAnyH_done (by kernel_rfl) ?_ _
      change Exit.then _ _ _ _ _
      go_wp2
      go_roundw
      case rel => exact ⟨i + 1, by omega, by go_num, HW.out.drew⟩
      case measure => simp [intOf]; omega
    · have hie : i = xs.length := by omega
      subst hie
      go_wp2
      go_ret
      exact ⟨rfl, HW.out⟩
end Go.Proofs.YtpehmlfghddnaaaGreatDoor
