/- coxswainlaw23.FeedPushes. -/
import Derived.Test.YtpehmlfghddnaaaGreatDoorPuBJ
import Derived.Test.YtpehmlfghddnaaaGreatDoorPuBK
namespace Go.Proofs.YtpehmlfghddnaaaGreatDoor
open Go.RowKit Go.Maps

theorem exec_shr2 {P : Program} {o : Oper} {a : Act} {w : World} (t T : TypeId) (px py : Operand) (ho : o.op = .binOp .shr t px py T) (x : Int) (hx : a.eval px = .int .i64 x) (hy : a.eval py = .int .u64 2) : (execOp a.eval o).run P w = .ok (.value (.int .i64 (x.fdiv 4))) w := by
  unfold execOp
  simp only [ho, hx, hy, eqGuard, binOp]
  simp [Op.shift, IntKind.bits]
theorem exec_from {o : Oper} {a : Act} {w : World} (i j : Tmp) (ho : o.op = .slice 109 (.tmp i) (some (.tmp j)) none none) (A : Option Addr) (n c k : Nat) (hx : a.tmps[i]?.getD undef = .slice A n c) (hy : a.tmps[j]?.getD undef = .int .i64 (k : Int)) (hk : k ≤ n) (hc : n ≤ c) :
    (execOp a.eval o).run Tryz.prog w = .ok (.value (.slice (if c = k then A else A.map (·.add (k * 3))) (n - k) (c - k))) w := by
  have hnc : (k : Int).toNat = k := Int.toNat_natCast k
  by_cases hck : c = k
  · subst hck
    unfold execOp
    simp only [ho]
    go_simp
  · unfold execOp
    simp only [ho]
    go_simp
/-- What lies between the moves. -/
structure PwI (w W : World) (pp p b1 b2 : Nat) (D : List LB) (L : List LRH) (va : Value) (all : List LNS) (vl : Value) (f : Nat) (v : Value) (evs : List Ev) (mo : Int) (st : Value) (H0 : List ID) : Prop where
  fds : FdS w W pp p b1 b2 D f v none evs mo st
  all : AllAt (okF f v none) W p b1 b2 D L va all
  lst : Sl rbE (okF f v none) W vl L
  at_ : ∀ y ∈ L, y.At (okF f v none) W
  stt : TipIs (okF f v none) W (hdrs D) st H0
section
variable {w W W' : World} {pp p b1 b2 : Nat} {D : List LB} {L : List LRH} {va vl : Value} {all : List LNS} {f : Nat} {v v' st wv wv' : Value} {evs evs' : List Ev} {mo : Int} {H0 : List ID}
theorem Mv.row (m : Mv f v v' W W') {β : Type} {E : Enc β} {u : Value} {ys : List β} (h : Sl E (okF f v none) W u ys) : Sl E (okF f v' none) W' u ys := (h.old.fr (m.fr (x := none) fun _ h => h.1)).mono m.low
theorem PwI.mv (h : PwI w W pp p b1 b2 D L va all vl f v evs mo st H0) (m : Mv f v v' W W') (hf : FdS w W' pp p b1 b2 D f v' none evs' mo st) : PwI w W' pp p b1 b2 D L va all vl f v' evs' mo st H0 where
  fds := hf
  all := m.all h.all
  lst := m.row h.lst
  at_ := fun y hy => m.row (h.at_ y hy)
  stt := m.tip h.stt
theorem PwI.next (h : PwI w W pp p b1 b2 D L va all vl f v evs mo st H0) (hb : Below W.heap.size W W') : PwI w W' pp p b1 b2 D L va all vl f v evs mo st H0 := h.mv (.of_below hb) (h.fds.next hb)
theorem takeW (h : PwI w W pp p b1 b2 D L va all vl f v evs mo st H0) (hw : Sl evE (okF f v none) W wv evs) (n : Int) (k : Nat) (hk : (k : Int) = max 0 (min n evs.length)) :
    Calls Tryz.prog 82 #[.pointer (some ⟨f, 0, none⟩), .int .i64 n] W fun e w' => ∃ v1 v', e = .returned v1 ∧ Sl evE (fun i => W.heap.size ≤ i) w' v1 (evs.take k) ∧ Sl evE (okF f v' none) w' wv evs ∧ PwI w w' pp p b1 b2 D L va all vl f v' (evs.drop k) mo st H0 := by
  refine (takeS h.fds n k hk).mono ?_
  rintro e w' ⟨v1, v', rfl, h1, m, hF⟩
  exact ⟨v1, v', rfl, h1, m.row hw, h.mv m hF⟩
/-- The head moves: all events, or a mark. -/
theorem pushW (h : PwI w W pp p b1 b2 D L va all vl f v evs mo st H0) {u1 u2 : Value} {xs ys : List Ev} (h1 : Sl evE (okF f v none) W u1 xs) (h2 : Sl evE (okF f v none) W u2 ys) {av bv : Value} {A B : List ID} (hA : TipOf (hdrs D) A) (ha : TipIs (okF f v none) W (hdrs D) av A) (hB : TipOf (hdrs D) B) (hb : TipIs (okF f v none) W (hdrs D) bv B) (hmost : mo ≤ 1000) (hevs : evs.length ≤ 1000) {es : List Ev} (hes : (aboveG (hdrs D) A (commG (hdrs D) A B)).map (evOf (hdrs D) 1) ++ (aboveG (hdrs D) B (commG (hdrs D) A B)).reverse.map (evOf (hdrs D) 2) = es) :
    Calls Tryz.prog 85 #[.pointer (some ⟨f, 0, none⟩), .pointer (some ⟨pp, 0, none⟩), tipV av, tipV bv] W fun e w' => ∃ v', e = .returned (.bool (decide ((evs.length : Int) + es.length ≤ mo))) ∧ Sl evE (okF f v' none) w' u1 xs ∧ Sl evE (okF f v' none) w' u2 ys ∧ PwI w w' pp p b1 b2 D L va all vl f v' (if (evs.length : Int) + es.length ≤ mo then evs ++ es else [evOf (hdrs D) 3 B]) mo st H0 := by
  have hl : (es.length : Int) = ((aboveG (hdrs D) A (commG (hdrs D) A B)).length + (aboveG (hdrs D) B (commG (hdrs D) A B)).length : Nat) := by rw [← hes]; simp
  refine (pushS h.fds hA ha hB hb hmost hevs).mono ?_
  rintro e w' ⟨v', bo, hbo, rfl, m, hF⟩
  by_cases hc : (evs.length : Int) + es.length ≤ mo
  · have hbt : bo = true := hbo.2 (by omega)
    rw [hbt, if_pos rfl, List.append_assoc, hes] at hF
    exact ⟨v', by rw [hbt, decide_eq_true hc], m.row h1, m.row h2, by rw [if_pos hc]; exact h.mv m hF⟩
  · have hbt : bo = false := by
      cases bo with
      | false => rfl
      | true => exact absurd (by have := hbo.1 rfl; omega) hc
    rw [hbt, if_neg (by decide)] at hF
    exact ⟨v', by rw [hbt, decide_eq_false hc], m.row h1, m.row h2, by rw [if_neg hc]; exact h.mv m hF⟩
theorem pushW_yes (h : PwI w W pp p b1 b2 D L va all vl f v evs mo st H0) {u1 u2 : Value} {xs ys : List Ev} (h1 : Sl evE (okF f v none) W u1 xs) (h2 : Sl evE (okF f v none) W u2 ys) {av bv : Value} {A B : List ID} (hA : TipOf (hdrs D) A) (ha : TipIs (okF f v none) W (hdrs D) av A) (hB : TipOf (hdrs D) B) (hb : TipIs (okF f v none) W (hdrs D) bv B) (hmost : mo ≤ 1000) (hevs : evs.length ≤ 1000) {es : List Ev} (hes : (aboveG (hdrs D) A (commG (hdrs D) A B)).map (evOf (hdrs D) 1) ++ (aboveG (hdrs D) B (commG (hdrs D) A B)).reverse.map (evOf (hdrs D) 2) = es) (hc : (evs.length : Int) + es.length ≤ mo) {ev2 : List Ev} (hev2 : evs ++ es = ev2) :
    Calls Tryz.prog 85 #[.pointer (some ⟨f, 0, none⟩), .pointer (some ⟨pp, 0, none⟩), tipV av, tipV bv] W fun e w' => ∃ v', e = .returned (.bool true) ∧ Sl evE (okF f v' none) w' u1 xs ∧ Sl evE (okF f v' none) w' u2 ys ∧ PwI w w' pp p b1 b2 D L va all vl f v' ev2 mo st H0 := by
  refine (pushW h h1 h2 hA ha hB hb hmost hevs hes).mono ?_
  rintro e w' ⟨v', rfl, g1, g2, g3⟩
  rw [if_pos hc, hev2] at g3
  exact ⟨v', by rw [decide_eq_true hc], g1, g2, g3⟩
theorem pushW_no (h : PwI w W pp p b1 b2 D L va all vl f v evs mo st H0) {u1 u2 : Value} {xs ys : List Ev} (h1 : Sl evE (okF f v none) W u1 xs) (h2 : Sl evE (okF f v none) W u2 ys) {av bv : Value} {A B : List ID} (hA : TipOf (hdrs D) A) (ha : TipIs (okF f v none) W (hdrs D) av A) (hB : TipOf (hdrs D) B) (hb : TipIs (okF f v none) W (hdrs D) bv B) (hmost : mo ≤ 1000) (hevs : evs.length ≤ 1000) {es : List Ev} (hes : (aboveG (hdrs D) A (commG (hdrs D) A B)).map (evOf (hdrs D) 1) ++ (aboveG (hdrs D) B (commG (hdrs D) A B)).reverse.map (evOf (hdrs D) 2) = es) (hc : ¬ (evs.length : Int) + es.length ≤ mo) {x : Ev} (hx : evOf (hdrs D) 3 B = x) :
    Calls Tryz.prog 85 #[.pointer (some ⟨f, 0, none⟩), .pointer (some ⟨pp, 0, none⟩), tipV av, tipV bv] W fun e w' => ∃ v', e = .returned (.bool false) ∧ PwI w w' pp p b1 b2 D L va all vl f v' [x] mo st H0 := by
  refine (pushW h h1 h2 hA ha hB hb hmost hevs hes).mono ?_
  rintro e w' ⟨v', rfl, -, -, g3⟩
  rw [if_neg hc, hx] at g3
  exact ⟨v', by rw [decide_eq_false hc], g3⟩
end

set_option maxRecDepth 100000 in
set_option maxHeartbeats 20000000 in
theorem pushes_any (w : World) (t : Value) (l : List LSD) (ok ok' : Nat → Prop) (hl : Sl sdE ok w t l) (hf : ∀ y ∈ l, y.At ok' w ∧ SeedOk y.s) (ht : Tab w) (most : Int) (mv : Value) (ms : List Int) (okm : Nat → Prop) (hm : Sl intE okm w mv ms) :
    Calls Tryz.prog 10 #[t, .int .i64 most, mv] w fun e w' => e = .returned (.bool true) ∧ Below w.heap.size w w' := by
  obtain ⟨Am, cm, rfl, hcm, hmm⟩ := hm.form
  have HL := Lib.hid hl
  have HF := Lib.hid hf
  have HT := Lib.hid ht
  have HM := Lib.hid hm
  clear hl hf ht hm
  go_enter Tryz.func10, Tryz.ntmps10
  go_upto_region 3 with (go_at_call 79; refine (awake23_any _ HT.out).mono ?_; rintro e w1 ⟨rfl, hb1⟩; have HB1 := Lib.hid hb1; clear hb1)
  go_upto_region 4 with (go_at_call 64; refine (made_any2 w1 t l ok ok' (HL.out.below HB1.out) (fun y hy => ⟨(HF.out y hy).1.below HB1.out, (HF.out y hy).2⟩) 14 (by decide) (HT.out.below HB1.out)).mono ?_; rintro e w2 ⟨p, b1, b2, D, vh, hs, vl, L, va, all, rfl, hmd, hL, hva, hall, hpos, hlen⟩; have HD2 := Lib.hid (And.intro (AllAt.mk hmd.dag hmd.fine hmd.both hva hall hpos (by omega)) (And.intro hmd.list hmd.lat)); have HB2 := Lib.hid (HB1.out.trans (hmd.below.mono HB1.out.size)); have HLL := Lib.hid (And.intro hL hmd.both.same); clear hmd hL hva hall hpos hlen)
  obtain ⟨z0, hz0⟩ : ∃ z0, all[0]? = some z0 := ⟨_, List.getElem?_eq_getElem HD2.out.1.pos⟩
  obtain ⟨Aa, ca, rfl, -, -⟩ := HD2.out.1.row.form
  obtain ⟨ba, oa, rfl, -, -, hcz⟩ := HD2.out.1.row.at_ 0 z0 hz0
  have hza : w2.cell? ⟨ba, oa, none⟩ = some z0.v := by have := hcz 0 _ rfl; simpa using this
  have HZ0 := Lib.hid hz0
  have HZM := Lib.hid (List.mem_of_getElem? hz0)
  have hallp := HD2.out.1.pos
  clear hcz hz0
  have hDL : D.length ≤ 1000000 := by have h1 := congrArg List.length HLL.out.2; simp [hdrs, rhs] at h1; have := HLL.out.1; omega
  have HTIP : Hid (∀ z ∈ all, ∃ T : List ID, TipOf (hdrs D) T ∧ (⟨(joinS z.ns).toArray⟩ : ByteArray) = keyB T ∧ z.ns = T.map Subtype.val) := Lib.hid fun z hz => named_tip HD2.out.1.both (HD2.out.1.at_ z hz).2
  have HSM : Hid (∀ z ∈ all, z.ns.length ≤ 1000 ∧ ∀ s ∈ z.ns, s.size ≤ 1000000) := Lib.hid fun z hz => named_small (fun y hy => (HD2.out.1.both.inl y hy).2) (HD2.out.1.at_ z hz).2
  have HBO := Lib.hid HD2.out.1.both
  have HNI : Hid (∀ z ∈ all, NamedIn L z.ns) := Lib.hid fun z hz => (HD2.out.1.at_ z hz).2
  obtain ⟨H0, hH0, hk0, hns0⟩ := HTIP.out z0 HZM.out
  go_upto_region 7 with (go_at_call 65; refine (pnew_any w2 p b1 b2 D _ HD2.out.1.dag HD2.out.1.fine HD2.out.1.both.good 9).mono ?_; rintro e w4 ⟨pp, rfl, -, hpa, hb4⟩; have HPA := Lib.hid hpa; have HD4 := Lib.hid (And.intro (HD2.out.1.below hb4) (And.intro (HD2.out.2.1.below hb4) fun y hy => Sl.below (HD2.out.2.2 y hy) hb4)); have HB4 := Lib.hid (HB2.out.trans (hb4.mono HB2.out.size)); have hza4 := (hb4.cell (cell_lt hza)).trans hza; clear hb4 hpa)
  clear hza HD2 HB2 HLL
  have HOF := Lib.hid (of_known w4 p b1 b2 D _ _ HD4.out.1.dag HD4.out.1.fine z0 (HD4.out.1.at_ z0 HZM.out).1 H0 hH0 hns0 hk0)
  go_upto_region 9 with (first
    | (go_at_call 67; refine HOF.out.mono ?_; rintro e w5 ⟨h0, rfl, hth, hb5⟩; have HTH := Lib.hid hth; have HP5 := Lib.hid (HPA.out.below hb5); have HD5 := Lib.hid (And.intro (HD4.out.1.below hb5) (And.intro (HD4.out.2.1.below hb5) fun y hy => Sl.below (HD4.out.2.2 y hy) hb5)); have HB5 := Lib.hid (HB4.out.trans (hb5.mono HB4.out.size)); clear hb5 hth)
    | (go_at_call 80; refine (newS (w := w) (x := none) HP5.out HB5.out hDL (fun _ _ e => by cases e) (fun e => by cases e) (fun _ e => by cases e) most h0 (HTH.out.one _ List.mem_cons_self)).mono ?_; rintro e w6 ⟨f, rfl, hf, hF, hb6⟩; have HI6 : Hid (PwI w w6 pp p b1 b2 D L _ all vl f (.slice none 0 0) [] (max 1 (min most 64)) h0 H0) := Lib.hid ⟨hF, (HD5.out.1.old.mono (okF_new (x := none) (fun _ _ e => by cases e) hf)).below hb6, (HD5.out.2.1.old.mono (okF_new (x := none) (fun _ _ e => by cases e) hf)).below hb6, fun y hy => Sl.below (Sl.mono (Sl.old (HD5.out.2.2 y hy)) (okF_new (x := none) (fun _ _ e => by cases e) hf)) hb6, (HTH.out.old.mono (okF_new (x := none) (fun _ _ e => by cases e) hf)).below hb6⟩; clear hb6 hF hf))
  have HN0 := Lib.hid (And.intro hH0 (And.intro hk0 hns0))
  clear HD4 HB4 HPA HOF hza4 HTH HP5 HD5 HB5 HB1 HL HF hk0 hns0
  go_upto_region 12 with fail
  obtain ⟨mo, hmo⟩ : ∃ mo : Int, max 1 (min most 64) = mo := ⟨_, rfl⟩
  have hmo1 : 1 ≤ mo ∧ mo ≤ 64 := by omega
  rw [hmo] at HI6 ⊢
  clear hmo
  obtain ⟨Al, cl, rfl, -, -⟩ := HI6.out.lst.form
  have HC0 : Hid (∀ (W : World) (v : Value) (evs : List Ev), PwI w W pp p b1 b2 D L (.slice (some ⟨ba, oa, none⟩) all.length ca) all (.slice Al L.length cl) f v evs mo h0 H0 → W.cell? ⟨ba, oa, none⟩ = some z0.v) := Lib.hid fun W v evs h => by
    obtain ⟨b, o, e, -, -, hc⟩ := h.all.row.at_ 0 z0 HZ0.out
    cases e
    have := hc 0 _ rfl
    simpa using this
  go_wp2
  go_loopw [11, 13, 14] (fun c11 c13 c14 W => ∃ (i : Nat) (z : LNS) (H : List ID) (v : Value) (evs : List Ev), i ≤ ms.length ∧ i ≤ 30 ∧ c11 = z.v ∧ c14 = .int .i64 (i : Int) ∧ z ∈ all ∧ (TipOf (hdrs D) H ∧ (⟨(joinS z.ns).toArray⟩ : ByteArray) = keyB H ∧ z.ns = H.map Subtype.val) ∧ ((evs.length : Int) ≤ mo ∧ Sl evE (okF f v none) W c13 evs) ∧ PwI w W pp p b1 b2 D L (.slice (some ⟨ba, oa, none⟩) all.length ca) all (.slice Al L.length cl) f v evs mo h0 H0) (fun _ _ c14 _ => 30 - (intOf c14).toNat)
  case atStart =>
    exact ⟨0, z0, H0, _, [], by omega, by omega, rfl, rfl, HZM.out, HN0.out, ⟨by simp; omega, Sl.nil _ _ _⟩, HI6.out⟩
  case round =>
    obtain ⟨i, z, H, v, evs, hi, hi2, rfl, rfl, hz, hH, ⟨hev, hw⟩, hI⟩ := hrel
    have HI := Lib.hid hI
    have HH := Lib.hid hH
    have HWA := Lib.hid hw
    obtain ⟨Aw, cw, rfl, hcw, -⟩ := hw.form
    clear hI hH HI6 hw
    by_cases hil : i < ms.length
    · by_cases hi30 : i < 30
      · obtain ⟨x, hx⟩ : ∃ x, ms[i]? = some x := ⟨_, List.getElem?_eq_getElem hil⟩
        obtain ⟨bm, om, rfl, -, -, hcx⟩ := HM.out.at_ i x hx
        have HCX : Hid (∀ W, Below w.heap.size w W → W.cell? ⟨bm, om + i, none⟩ = some (.int .i64 x)) := Lib.hid fun W hb => by
          have h1 : w.cell? ⟨bm, om + i, none⟩ = some (.int .i64 x) := by have := hcx 0 _ rfl; rwa [Nat.add_zero, show intE.k = 1 from rfl, Nat.mul_one] at this
          exact (hb.cell (cell_lt h1)).trans h1
        have hcx0 := HCX.out _ HI.out.fds.below
        clear hcx hx
        obtain ⟨r, hr⟩ := and_ex x 3
        have HAND := Lib.hid hr
        clear hr
        by_cases hr3 : r = 3
        · subst hr3
          obtain ⟨s, hs⟩ : ∃ s, x.fdiv 4 = s := ⟨_, rfl⟩
          go_upto_region 19 with (first
            | (refine wpl_exec rfl (.int .i64 3) (HAND.out _ _ _ _ 3 3 (.tmp 63) (.const (.int .i64 3)) rfl rfl rfl) ?_)
            | (refine wpl_exec rfl (.int .i64 (x.fdiv 4)) (exec_shr2 _ _ (.tmp 66) (.const (.int .u64 2)) rfl x rfl rfl) ?_))
          (try rw [hs])
          clear hs HAND hcx0 HCX
          obtain ⟨n, hn⟩ : ∃ n, max (-1 : Int) (min s 9) = n := ⟨_, rfl⟩
          rw [hn]
          clear hn
          go_upto_region 20 with fail
          obtain ⟨k, hk⟩ : ∃ k : Nat, (k : Int) = max 0 (min n evs.length) := ⟨(max 0 (min n evs.length)).toNat, by omega⟩
          rw [← hk]
          have hkl : k ≤ evs.length := by omega
          have HTK := Lib.hid (takeW (HI.out.next (Below.refl _ wr).drew) (HWA.out.below (Below.refl _ wr).drew) n k hk)
          have hnc : (k : Int).toNat = k := Int.toNat_natCast k
          have hkt : (evs.take k).length ≤ 1000000 := by rw [List.length_take]; omega
          clear hk
          refine st_ (S := (fun _ => True)) 8 #[false, false, false, false, false, false, false, false] (by kernel_rfl) rfl (by rfl) trivial (fun hHeld => ?_)
          refine tk_ 0 (some 75) #[true, false, false, false, false, false, false, false] (v := ?_) (a' := ?_) rfl rfl (by kernel_rfl) (fun _ _ _ h => h) (yieldsIf_run rfl ?_) hHeld ?_ ?_
          rotate_left
          · intro w'
            go_simp
            with_reducible rfl
          rotate_left
          · simp only [Act.put, List.setIfInBounds_toArray, List.set_cons_zero, List.set_cons_succ]
            rfl
          refine tk_ 1 (some 76) #[true, true, false, false, false, false, false, false] (v := ?_) (a' := ?_) rfl rfl (by kernel_rfl) (fun _ _ _ h => h) (yieldsIf_run rfl ?_) hHeld ?_ ?_
          rotate_left
          · intro w'
            go_simp
            with_reducible rfl
          rotate_left
          · simp only [Act.put, List.setIfInBounds_toArray, List.set_cons_zero, List.set_cons_succ]
            rfl
          refine tk_ 3 (some 78) #[true, true, false, true, false, false, false, false] (v := ?_) (a' := ?_) rfl rfl (by kernel_rfl) (fun _ _ _ h => h) (yieldsIf_run rfl ?_) hHeld ?_ ?_
          rotate_left
          · intro w'
            go_simp
            with_reducible rfl
          rotate_left
          · simp only [Act.put, List.setIfInBounds_toArray, List.set_cons_zero, List.set_cons_succ]
            rfl
          refine tk_ 4 (some 79) #[true, true, false, true, true, false, false, false] (v := ?_) (a' := ?_) rfl rfl (by kernel_rfl) (fun _ _ _ h => h) (yieldsIf_run rfl ?_) hHeld ?_ ?_
          rotate_left
          · intro w'
            go_simp
            with_reducible rfl
          rotate_left
          · simp only [Act.put, List.setIfInBounds_toArray, List.set_cons_zero, List.set_cons_succ]
            rfl
          refine tk_ 5 (some 80) #[true, true, false, true, true, true, false, false] rfl rfl (by kernel_rfl) (fun _ _ _ h => h) (yieldsIf_run (v := .slice Aw k cw) rfl fun W' => by go_simp; intro h; omega) hHeld (a' := ?_) ?_ ?_
          rotate_left
          · simp only [Act.put, List.setIfInBounds_toArray, List.set_cons_zero, List.set_cons_succ]
            rfl
          refine call_ 2 (some 77) #[true, true, true, true, true, true, false, false] rfl rfl (by kernel_rfl) rfl 82 _ (by kernel_rfl) (HTK.out) ?_
          rintro e w8 ⟨v1, v2, rfl, h1, h2, hP⟩
          have HV1 := Lib.hid h1
          have HV2 := Lib.hid h2
          have HP8 := Lib.hid hP
          clear h1 h2 hP
          refine ⟨_, rfl, trivial, fun hHeld => ⟨?_, ?_, ?_⟩⟩
          rotate_left
          · simp only [Act.put, List.setIfInBounds_toArray, List.set_cons_zero, List.set_cons_succ]
            rfl
          refine call_ 6 (some 81) #[true, true, true, true, true, true, true, false] rfl rfl (by kernel_rfl) rfl 81 _ (by kernel_rfl) (same23_any w8 v1 (.slice Aw k cw) (evs.take k) _ _ HV1.out (HV2.out.take hkl) hkt) ?_
          rintro e w9 ⟨rfl, hb9⟩
          have HP9 := Lib.hid (HP8.out.next hb9)
          have HV9 := Lib.hid (HV2.out.below hb9)
          refine ⟨_, rfl, trivial, fun hHeld => ⟨?_, ?_, ?_⟩⟩
          rotate_left
          · simp only [Act.put, List.setIfInBounds_toArray, List.set_cons_zero, List.set_cons_succ]
            rfl
          refine tk_ 7 (some 82) #[true, true, true, true, true, true, true, true] (v := ?_) (a' := ?_) rfl rfl (by kernel_rfl) (fun _ _ _ h => h) (yieldsIf_run rfl ?_) hHeld ?_ ?_
          rotate_left
          · intro w'
            go_simp
            with_reducible rfl
          rotate_left
          · simp only [Act.put, List.setIfInBounds_toArray, List.set_cons_zero, List.set_cons_succ]
            rfl
          refine wpAnyH_done (by kernel_rfl) ?_ _
          change Exit.then _ _ _ _ _
          go_wp2_with (refine wpl_exec rfl _ (exec_from 83 84 rfl Aw evs.length cw k rfl rfl hkl hcw) ?_)
          go_roundw
          case rel => exact ⟨i + 1, z, H, v2, evs.drop k, by omega, by omega, rfl, by go_num, hz, HH.out, ⟨by rw [List.length_drop]; omega, HV9.out.drop hkl⟩, HP9.out⟩
          case measure => simp [intOf]; omega
        · have HPK := Lib.hid (pick_any wr _ _ all HI.out.all.row HI.out.all.pos HI.out.all.len x)
          go_upto_region 24 with (first
            | (refine wpl_exec rfl (.int .i64 r) (HAND.out _ _ _ _ 3 3 (.tmp 63) (.const (.int .i64 3)) rfl rfl rfl) ?_)
            | (go_at_call 83; refine HPK.out.mono ?_; rintro e w8a ⟨⟨z2, hz2, rfl⟩, rfl⟩))
          obtain ⟨T, hT, hkT, hnT⟩ := HTIP.out z2 hz2
          obtain ⟨es, hes⟩ : ∃ es, (aboveG (hdrs D) H (commG (hdrs D) H T)).map (evOf (hdrs D) 1) ++ (aboveG (hdrs D) T (commG (hdrs D) H T)).reverse.map (evOf (hdrs D) 2) = es := ⟨_, rfl⟩
          have HEVT := Lib.hid (events_any wr D L HBO.out (.slice Al L.length cl) _ _ _ HI.out.lst HI.out.at_ z (HI.out.all.at_ z hz).1 H ⟨HH.out.1, HH.out.2.2⟩ (HNI.out z hz) z2 (HI.out.all.at_ z2 hz2).1 T ⟨hT, hnT⟩ (HNI.out z2 hz2) hDL)
          rw [hes] at HEVT
          have hesl : es.length ≤ 2000000 := by
            have h1 := (above_all HBO.out.good (C := commG (hdrs D) H T) HH.out.1).1
            have h2 := (above_all HBO.out.good (C := commG (hdrs D) H T) hT).1
            have h3 : (hdrs D).length = D.length := by simp [hdrs]
            rw [← hes]
            simp only [List.length_append, List.length_map, List.length_reverse]
            omega
          have HES := Lib.hid hes
          clear HPK HAND hcx0 HCX hes
          go_upto_region 25 with (go_at_call 84; refine HEVT.out.mono ?_; rintro e w8 ⟨v1, rfl, ho8, hb8⟩; have HI8 := Lib.hid (HI.out.next hb8); have HWA8 := Lib.hid (HWA.out.below hb8); have HMO8 : Hid (Sl evE (okF f v none) w8 v1 es) := Lib.hid (Sl.mono (Sl.of_own (E := evE) ho8) fun k hk => HI.out.fds.up k (own_lt ho8 k hk).1); obtain ⟨A8, c8, rfl, -⟩ := own_slice ho8; clear ho8 hb8)
          have HOF1 := Lib.hid (of_known w8 p b1 b2 D _ _ HI8.out.all.dag HI8.out.all.fine z (HI8.out.all.at_ z hz).1 H HH.out.1 HH.out.2.2 HH.out.2.1)
          have HOF2 := Lib.hid fun (W : World) (h : PwI w W pp p b1 b2 D L (.slice (some ⟨ba, oa, none⟩) all.length ca) all (.slice Al L.length cl) f v evs mo h0 H0) => of_known W p b1 b2 D _ _ h.all.dag h.all.fine z2 (h.all.at_ z2 hz2).1 T hT hnT hkT
          have hTT := And.intro hT (And.intro hkT hnT)
          have hmo2 : mo ≤ 1000 ∧ evs.length ≤ 1000 := by omega
          clear HI HWA HEVT
          by_cases hfit : (evs.length : Int) + es.length ≤ mo
          · have HFIT := Lib.hid hfit
            obtain ⟨ev2, hev2⟩ : ∃ e, evs ++ es = e := ⟨_, rfl⟩
            have hel2 : ev2.length = evs.length + es.length := by rw [← hev2, List.length_append]
            have HEV2 := Lib.hid hev2
            have HEL2 := Lib.hid hel2
            have HPY := Lib.hid fun (W : World) (h : PwI w W pp p b1 b2 D L (.slice (some ⟨ba, oa, none⟩) all.length ca) all (.slice Al L.length cl) f v evs mo h0 H0) (u1 : Sl evE (okF f v none) W (.slice Aw evs.length cw) evs) (u2 : Sl evE (okF f v none) W (.slice A8 es.length c8) es) (hv tv : Value) (hh : TipIs (okF f v none) W (hdrs D) hv H) (ht : TipIs (okF f v none) W (hdrs D) tv T) => pushW_yes h u1 u2 HH.out.1 hh hT ht hmo2.1 hmo2.2 HES.out HFIT.out HEV2.out
            clear hev2 hel2
            go_upto_region 29 with (first
              | (go_at_call 67; refine (HOF2.out _ HI9.out).mono ?_; rintro e w10 ⟨tv, rfl, hth, hb10⟩; have HTV := Lib.hid (hth.mono fun k hk => hk.elim (HI9.out.fds.up k) id); have HHW := Lib.hid (HHV.out.below hb10); have HI10 := Lib.hid (HI9.out.next hb10); have HPU := Lib.hid (HPY.out _ HI10.out (HR9.out.1.below hb10) (HR9.out.2.below hb10) hv tv HHW.out HTV.out); clear hb10 hth)
              | (go_at_call 67; refine HOF1.out.mono ?_; rintro e w9 ⟨hv, rfl, hth, hb9⟩; have HHV := Lib.hid (hth.mono fun k hk => hk.elim (HI8.out.fds.up k) id); have HI9 := Lib.hid (HI8.out.next hb9); have HR9 := Lib.hid (And.intro (HWA8.out.below hb9) (HMO8.out.below hb9)); clear hb9 hth)
              | (go_at_call 85; refine HPU.out.mono ?_; rintro e w11 ⟨v', rfl, hw1, hw2, hP⟩; have HW11 := Lib.hid hw1; have HM11 := Lib.hid hw2; have HP11 := Lib.hid hP; clear hw1 hw2 hP))
            have hN : 0 + evs.length + es.length = ev2.length := by have := HEL2.out; omega
            have hev3 : (ev2.length : Int) ≤ mo := by have := HEL2.out; omega
            have hbA : Below w11.heap.size w11 (w11.alloc (.cells #[] 117)) := (Below.refl _ _).alloc (Nat.le_refl _) _
            have HWa := Lib.hid (HW11.out.below hbA)
            have HMa := Lib.hid (HM11.out.old.below hbA)
            have HOa := Lib.hid (own_empty w11 w11.heap.size 117 3 (Nat.le_refl _))
            have HBA := Lib.hid hbA
            have hza : w11.heap.size ≤ (w11.alloc (.cells #[] 117)).heap.size := hbA.size
            clear hbA HW11 HM11
            have HN := Lib.hid hN
            clear hN
            go_upto_region 32 with (first
              | (at_builtin; refine wpl_appR evE es w11.heap.size rfl (.tmp 117) (.tmp 118) 109 117 _ 32 rfl Tryz.underlying109 ev_info evZ_cells v5 (0 + evs.length) ([] ++ evE.flat evs) rfl (.slice A8 es.length c8) rfl HMb.out HO5.out HB5.out.size (by simp only [maxLen]; omega) (by omega) ?_; intro v6 w14 ho6x hg6 _; have ho6 := HN.out ▸ ho6x; clear ho6x; have HB6 := Lib.hid (below_grown_own HB5.out HO5.out (Nat.le_refl _) HB5.out.size hg6); obtain ⟨A6, c6, rfl, -⟩ := own_slice ho6; have HO6 := Lib.hid ho6; clear ho6 hg6)
              | (at_builtin; refine wpl_appR evE evs w11.heap.size rfl (.tmp 115) (.tmp 116) 109 117 _ 32 rfl Tryz.underlying109 ev_info evZ_cells (.slice (some ⟨w11.heap.size, 0, none⟩) 0 0) 0 [] rfl (.slice Aw evs.length cw) rfl HWa.out HOa.out hza (by simp only [maxLen]; omega) (by omega) ?_; intro v5 w13 ho5 hg5 hat5; have HO5 := Lib.hid ho5; have HB5 := Lib.hid (below_grown_own HBA.out HOa.out (Nat.le_refl _) hza hg5); have HMb := Lib.hid (HMa.out.fr (Fr.grown hg5 fun k hk e => by have e' : k = w11.heap.size := Option.some.inj e; have := hk.2; omega)); clear ho5 hg5))
            have HI14 := Lib.hid (HP11.out.next HB6.out)
            have HW14 : Hid (Sl evE (okF f v' none) w14 (.slice A6 ev2.length c6) ev2) := Lib.hid (by
              have h := HO6.out
              rw [List.nil_append, ← evE.flat_append, HEV2.out] at h
              exact Sl.mono (Sl.of_own (E := evE) h) fun k hk => HP11.out.fds.up k (own_lt h k hk).1)
            have HLN := Lib.hid (lenS HI14.out.fds)
            clear HEV2 HWa HMa HOa HBA
            go_wp2_with (go_at_call 87; refine HLN.out.mono ?_; rintro e w15 ⟨rfl, rfl⟩)
            go_roundw
            case rel => exact ⟨i + 1, z2, T, v', ev2, by omega, by omega, rfl, by go_num, hz2, hTT, ⟨hev3, HW14.out⟩, HI14.out⟩
            case measure => simp [intOf]; omega
          · have HFIT := Lib.hid hfit
            have HPN := Lib.hid fun (W : World) (h : PwI w W pp p b1 b2 D L (.slice (some ⟨ba, oa, none⟩) all.length ca) all (.slice Al L.length cl) f v evs mo h0 H0) (u1 : Sl evE (okF f v none) W (.slice Aw evs.length cw) evs) (u2 : Sl evE (okF f v none) W (.slice A8 es.length c8) es) (hv tv : Value) (hh : TipIs (okF f v none) W (hdrs D) hv H) (ht : TipIs (okF f v none) W (hdrs D) tv T) => pushW_no h u1 u2 HH.out.1 hh hT ht hmo2.1 hmo2.2 HES.out HFIT.out rfl
            go_upto_region 26 with fail
            clear hfit
            go_upto_region 30 with (first
              | (go_at_call 67; refine (HOF2.out _ HI9.out).mono ?_; rintro e w10 ⟨tv, rfl, hth, hb10⟩; have HTV := Lib.hid (hth.mono fun k hk => hk.elim (HI9.out.fds.up k) id); have HHW := Lib.hid (HHV.out.below hb10); have HI10 := Lib.hid (HI9.out.next hb10); have HPU := Lib.hid (HPN.out _ HI10.out (HR9.out.1.below hb10) (HR9.out.2.below hb10) hv tv HHW.out HTV.out); clear hb10 hth)
              | (go_at_call 67; refine HOF1.out.mono ?_; rintro e w9 ⟨hv, rfl, hth, hb9⟩; have HHV := Lib.hid (hth.mono fun k hk => hk.elim (HI8.out.fds.up k) id); have HI9 := Lib.hid (HI8.out.next hb9); have HR9 := Lib.hid (And.intro (HWA8.out.below hb9) (HMO8.out.below hb9)); clear hb9 hth)
              | (go_at_call 85; refine HPU.out.mono ?_; rintro e w11 ⟨v', rfl, hP⟩; have HP11 := Lib.hid hP; clear hP))
            have HJN2 := Lib.hid fun (W : World) (v' : Value) (evs' : List Ev) (h : PwI w W pp p b1 b2 D L (.slice (some ⟨ba, oa, none⟩) all.length ca) all (.slice Al L.length cl) f v' evs' mo h0 H0) => join_named W z2 _ (h.all.at_ z2 hz2).1 ⟨hT, hnT⟩
            have HHG2 := Lib.hid fun (W : World) (v' : Value) (evs' : List Ev) (h : PwI w W pp p b1 b2 D L (.slice (some ⟨ba, oa, none⟩) all.length ca) all (.slice Al L.length cl) f v' evs' mo h0 H0) => height14_any W D L HBO.out (.slice Al L.length cl) _ _ h.lst z2 (h.all.at_ z2 hz2).1 T ⟨hT, hnT⟩
            obtain ⟨ke, hke⟩ : ∃ ke, keyB T = ke := ⟨_, rfl⟩
            obtain ⟨he, hhe⟩ : ∃ he, hgtG (hdrs D) T = he := ⟨_, rfl⟩
            have HEV : Hid (evOf (hdrs D) 3 T = ⟨3, ke, he⟩) := Lib.hid (by unfold evOf; rw [hke, hhe])
            rw [hke] at HJN2
            rw [hhe] at HHG2
            rw [HEV.out] at HP11
            clear hhe hke
            have hev3 : (([⟨3, ke, he⟩] : List Ev).length : Int) ≤ mo := by simp; omega
            go_upto_region 32 with (first
              | (go_at_call 51; refine (HJN2.out _ _ _ HP11.out).mono ?_; rintro e w12 ⟨rfl, rfl⟩)
              | (go_at_call 86; refine (HHG2.out _ _ _ HP11.out).mono ?_; rintro e w12 ⟨rfl, hb12⟩; have HP12 := Lib.hid (HP11.out.next hb12); clear hb12)
              | (refine wpl_slice1 rfl 109 117 (.tmp 125) rfl (Ev.cells ⟨3, ke, he⟩).toArray rfl _ 3 32 Tryz.underlying109 ev_info evZ_cells rfl (by decide) (by decide) ?_))
            have hbB : Below w12.heap.size w12 (w12.alloc (.cells (Ev.cells ⟨3, ke, he⟩).toArray 117)) := (Below.refl _ _).alloc (Nat.le_refl _) _
            have HI14 := Lib.hid (HP12.out.next hbB)
            have HW14 : Hid (Sl evE (okF f v' none) (w12.alloc (.cells (Ev.cells ⟨3, ke, he⟩).toArray 117)) (.slice (some ⟨w12.heap.size, 0, none⟩) 1 1) [⟨3, ke, he⟩]) := Lib.hid (Sl.mono (Sl.of_block (E := evE) (ys := [⟨3, ke, he⟩]) (heap_alloc_new w12 _) (by rw [evE.flat_one]; rfl) rfl (Nat.le_refl _) (by omega)) fun k hk => by subst hk; exact HP12.out.fds.up _ (Nat.le_refl _))
            have HLN := Lib.hid (lenS HI14.out.fds)
            generalize w12.alloc (.cells (Ev.cells ⟨3, ke, he⟩).toArray 117) = W14 at HI14 HW14 HLN ⊢
            generalize w12.heap.size = g14 at HW14 ⊢
            go_wp2_with (go_at_call 87; refine HLN.out.mono ?_; rintro e w15 ⟨rfl, rfl⟩)
            go_roundw
            case rel => exact ⟨i + 1, z2, T, v', [⟨3, ke, he⟩], by omega, by omega, rfl, by go_num, hz2, hTT, ⟨hev3, HW14.out⟩, HI14.out⟩
            case measure => simp [intOf]; omega
      · have hie : i = 30 := by omega
        subst hie
        have hi99 : ¬ ((30 : Int) < 30) := by omega
        obtain ⟨k0, hk0⟩ : ∃ k0, keyB H0 = k0 := ⟨_, rfl⟩
        have heq : (k0.toList == k0.toList) = true := by rw [str_beq]; exact decide_eq_true rfl
        have hdl : (evs.drop evs.length).length = 0 := by simp
        have HTK := Lib.hid (takeW (HI.out.next (Below.refl _ wr).drew) (HWA.out.below (Below.refl _ wr).drew) 1000 evs.length (by omega))
        rw [List.take_length] at HTK
        have HKY : Hid (∀ (W : World) (v : Value) (evs : List Ev), PwI w W pp p b1 b2 D L (.slice (some ⟨ba, oa, none⟩) all.length ca) all (.slice Al L.length cl) f v evs mo h0 H0 → Calls Tryz.prog 28 #[tipV h0] W fun e w' => e = .returned (.string k0) ∧ Below W.heap.size W w') := Lib.hid fun W v evs h => by rw [← hk0]; exact key_is h.stt (.inr hH0)
        have HJN : Hid (∀ (W : World) (v : Value) (evs : List Ev), PwI w W pp p b1 b2 D L (.slice (some ⟨ba, oa, none⟩) all.length ca) all (.slice Al L.length cl) f v evs mo h0 H0 → Calls Tryz.prog 51 #[z0.v] W fun e w' => e = .returned (.string k0) ∧ W = w') := Lib.hid fun W v evs h => by rw [← hk0]; exact join_named W z0 _ (h.all.at_ z0 HZM.out).1 ⟨hH0, HN0.out.2.2⟩
        have hevl : evs.length ≤ 1000000 := by omega
        have HO1 := Lib.hid (HI.out.stt.one _ (List.mem_singleton.2 rfl))
        have HC1 := Lib.hid (HC0.out _ _ _ (HI.out.next (Below.refl _ wr).drew))
        clear hk0 HH
        go_upto_region 34 with fail
        refine st_ (S := (fun W' => W'.cell? ⟨ba, oa, none⟩ = some z0.v)) 20 #[false, false, false, false, false, false, false, false, false, false, false, false, false, false, false, false, false, false, false, false] (by kernel_rfl) rfl (by rfl) HC1.out (fun hHeld => ?_)
        refine tk_ 0 (some 139) #[true, false, false, false, false, false, false, false, false, false, false, false, false, false, false, false, false, false, false, false] (v := ?_) (a' := ?_) rfl rfl (by kernel_rfl) (fun _ _ _ h => h) (yieldsIf_run rfl ?_) hHeld ?_ ?_
        rotate_left
        · intro w'
          go_simp
          with_reducible rfl
        rotate_left
        · simp only [Act.put, List.setIfInBounds_toArray, List.set_cons_zero, List.set_cons_succ]
          rfl
        refine tk_ 2 (some 141) #[true, false, true, false, false, false, false, false, false, false, false, false, false, false, false, false, false, false, false, false] (v := ?_) (a' := ?_) rfl rfl (by kernel_rfl) (fun _ _ _ h => h) (yieldsIf_run rfl ?_) hHeld ?_ ?_
        rotate_left
        · intro w'
          go_simp
          with_reducible rfl
        rotate_left
        · simp only [Act.put, List.setIfInBounds_toArray, List.set_cons_zero, List.set_cons_succ]
          rfl
        refine call_ 1 (some 140) #[true, true, true, false, false, false, false, false, false, false, false, false, false, false, false, false, false, false, false, false] rfl rfl (by kernel_rfl) rfl 82 _ (by kernel_rfl) (HTK.out) ?_
        rintro e w20 ⟨v1, v2, rfl, h1, h2, hP⟩
        have HV1 := Lib.hid h1
        have HV2 := Lib.hid h2
        have HP20 := Lib.hid hP
        clear h1 h2 hP
        refine ⟨_, rfl, HC0.out _ _ _ HP20.out, fun hHeld => ⟨?_, ?_, ?_⟩⟩
        rotate_left
        · simp only [Act.put, List.setIfInBounds_toArray, List.set_cons_zero, List.set_cons_succ]
          rfl
        refine call_ 3 (some 142) #[true, true, true, true, false, false, false, false, false, false, false, false, false, false, false, false, false, false, false, false] rfl rfl (by kernel_rfl) rfl 81 _ (by kernel_rfl) (same23_any w20 v1 (.slice Aw evs.length cw) evs _ _ HV1.out HV2.out hevl) ?_
        rintro e w21 ⟨rfl, hb21⟩
        have HP21 := Lib.hid (HP20.out.next hb21)
        have HLN := Lib.hid (lenS HP21.out.fds)
        rw [hdl] at HLN
        refine ⟨_, rfl, HC0.out _ _ _ HP21.out, fun hHeld => ⟨?_, ?_, ?_⟩⟩
        rotate_left
        · simp only [Act.put, List.setIfInBounds_toArray, List.set_cons_zero, List.set_cons_succ]
          rfl
        refine tk_ 4 (some 143) #[true, true, true, true, true, false, false, false, false, false, false, false, false, false, false, false, false, false, false, false] (v := ?_) (a' := ?_) rfl rfl (by kernel_rfl) (fun _ _ _ h => h) (yieldsIf_run rfl ?_) hHeld ?_ ?_
        rotate_left
        · intro w'
          go_simp
          with_reducible rfl
        rotate_left
        · simp only [Act.put, List.setIfInBounds_toArray, List.set_cons_zero, List.set_cons_succ]
          rfl
        refine tk_ 5 (some 144) #[true, true, true, true, true, true, false, false, false, false, false, false, false, false, false, false, false, false, false, false] (v := ?_) (a' := ?_) rfl rfl (by kernel_rfl) (fun _ _ _ h => h) (yieldsIf_run rfl ?_) hHeld ?_ ?_
        rotate_left
        · intro w'
          go_simp
          with_reducible rfl
        rotate_left
        · simp only [Act.put, List.setIfInBounds_toArray, List.set_cons_zero, List.set_cons_succ]
          rfl
        refine call_ 6 (some 145) #[true, true, true, true, true, true, true, false, false, false, false, false, false, false, false, false, false, false, false, false] rfl rfl (by kernel_rfl) rfl 87 _ (by kernel_rfl) (HLN.out) ?_
        rintro e w22 ⟨rfl, rfl⟩
        refine ⟨_, rfl, HC0.out _ _ _ HP21.out, fun hHeld => ⟨?_, ?_, ?_⟩⟩
        rotate_left
        · simp only [Act.put, List.setIfInBounds_toArray, List.set_cons_zero, List.set_cons_succ]
          rfl
        refine tk_ 7 (some 146) #[true, true, true, true, true, true, true, true, false, false, false, false, false, false, false, false, false, false, false, false] (v := ?_) (a' := ?_) rfl rfl (by kernel_rfl) (fun _ _ _ h => h) (yieldsIf_run rfl ?_) hHeld ?_ ?_
        rotate_left
        · intro w'
          go_simp
          with_reducible rfl
        rotate_left
        · simp only [Act.put, List.setIfInBounds_toArray, List.set_cons_zero, List.set_cons_succ]
          rfl
        refine tk_ 8 (some 147) #[true, true, true, true, true, true, true, true, true, false, false, false, false, false, false, false, false, false, false, false] (v := ?_) (a' := ?_) rfl rfl (by kernel_rfl) (fun _ _ _ h => h) (yieldsIf_run rfl ?_) hHeld ?_ ?_
        rotate_left
        · intro w'
          go_simp
          with_reducible rfl
        rotate_left
        · simp only [Act.put, List.setIfInBounds_toArray, List.set_cons_zero, List.set_cons_succ]
          rfl
        refine tk_ 9 (some 148) #[true, true, true, true, true, true, true, true, true, true, false, false, false, false, false, false, false, false, false, false] (v := ?_) (a' := ?_) rfl rfl (by kernel_rfl) (fun _ _ _ h => h) (yieldsIf_run rfl ?_) hHeld ?_ ?_
        rotate_left
        · intro w'
          go_simp
          with_reducible rfl
        rotate_left
        · simp only [Act.put, List.setIfInBounds_toArray, List.set_cons_zero, List.set_cons_succ]
          rfl
        refine tk_ 10 (some 149) #[true, true, true, true, true, true, true, true, true, true, true, false, false, false, false, false, false, false, false, false] (v := ?_) (a' := ?_) rfl rfl (by kernel_rfl) (fun _ _ _ h => h) (yieldsIf_run rfl ?_) hHeld ?_ ?_
        rotate_left
        · intro w'
          go_simp
          with_reducible rfl
        rotate_left
        · simp only [Act.put, List.setIfInBounds_toArray, List.set_cons_zero, List.set_cons_succ]
          rfl
        refine tk_ 13 (some 152) #[true, true, true, true, true, true, true, true, true, true, true, false, false, true, false, false, false, false, false, false] (v := ?_) (a' := ?_) rfl rfl (by kernel_rfl) (fun _ _ _ h => h) (yieldsIf_run rfl ?_) hHeld ?_ ?_
        rotate_left
        · intro w'
          go_simp
          with_reducible rfl
        rotate_left
        · simp only [Act.put, List.setIfInBounds_toArray, List.set_cons_zero, List.set_cons_succ]
          rfl
        refine tk_ 14 (some 153) #[true, true, true, true, true, true, true, true, true, true, true, false, false, true, true, false, false, false, false, false] (v := ?_) (a' := ?_) rfl rfl (by kernel_rfl) (fun _ _ _ h => h) (yieldsIf_run rfl ?_) hHeld ?_ ?_
        rotate_left
        · intro w'
          go_simp
          with_reducible rfl
        rotate_left
        · simp only [Act.put, List.setIfInBounds_toArray, List.set_cons_zero, List.set_cons_succ]
          rfl
        refine tk_ 15 (some 154) #[true, true, true, true, true, true, true, true, true, true, true, false, false, true, true, true, false, false, false, false] rfl rfl (by kernel_rfl) (fun _ _ _ h => h) (yieldsIf_cell rfl 32 (.tmp 153) rfl ⟨ba, oa, none⟩ rfl z0.v _ (fun W' h => h) Tryz.underlying32 rfl) hHeld (a' := ?_) ?_ ?_
        rotate_left
        · simp only [Act.put, List.setIfInBounds_toArray, List.set_cons_zero, List.set_cons_succ]
          rfl
        refine call_ 11 (some 150) #[true, true, true, true, true, true, true, true, true, true, true, true, false, true, true, true, false, false, false, false] rfl rfl (by kernel_rfl) rfl 88 _ (by kernel_rfl) (start_any w21 _ f v2 _ mo h0 HP21.out.fds.feed HO1.out) ?_
        rintro e w23 ⟨rfl, hb23⟩
        have HP23 := Lib.hid (HP21.out.next hb23)
        refine ⟨_, rfl, HC0.out _ _ _ HP23.out, fun hHeld => ⟨?_, ?_, ?_⟩⟩
        rotate_left
        · simp only [Act.put, List.setIfInBounds_toArray, List.set_cons_zero, List.set_cons_succ]
          rfl
        refine call_ 12 (some 151) #[true, true, true, true, true, true, true, true, true, true, true, true, true, true, true, true, false, false, false, false] rfl rfl (by kernel_rfl) rfl 28 _ (by kernel_rfl) (HKY.out _ _ _ HP23.out) ?_
        rintro e w24 ⟨rfl, hb24⟩
        have HP24 := Lib.hid (HP23.out.next hb24)
        refine ⟨_, rfl, HC0.out _ _ _ HP24.out, fun hHeld => ⟨?_, ?_, ?_⟩⟩
        rotate_left
        · simp only [Act.put, List.setIfInBounds_toArray, List.set_cons_zero, List.set_cons_succ]
          rfl
        refine call_ 16 (some 155) #[true, true, true, true, true, true, true, true, true, true, true, true, true, true, true, true, true, false, false, false] rfl rfl (by kernel_rfl) rfl 51 _ (by kernel_rfl) (HJN.out _ _ _ HP24.out) ?_
        rintro e w25 ⟨rfl, rfl⟩
        refine ⟨_, rfl, HC0.out _ _ _ HP24.out, fun hHeld => ⟨?_, ?_, ?_⟩⟩
        rotate_left
        · simp only [Act.put, List.setIfInBounds_toArray, List.set_cons_zero, List.set_cons_succ]
          rfl
        refine tk_ 17 (some 156) #[true, true, true, true, true, true, true, true, true, true, true, true, true, true, true, true, true, true, false, false] (v := ?_) (a' := ?_) rfl rfl (by kernel_rfl) (fun _ _ _ h => h) (yieldsIf_run rfl ?_) hHeld ?_ ?_
        rotate_left
        · intro w'
          go_simp
          with_reducible rfl
        rotate_left
        · simp only [Act.put, List.setIfInBounds_toArray, List.set_cons_zero, List.set_cons_succ]
          rfl
        refine tk_ 18 (some 157) #[true, true, true, true, true, true, true, true, true, true, true, true, true, true, true, true, true, true, true, false] (v := ?_) (a' := ?_) rfl rfl (by kernel_rfl) (fun _ _ _ h => h) (yieldsIf_run rfl ?_) hHeld ?_ ?_
        rotate_left
        · intro w'
          go_simp
          with_reducible rfl
        rotate_left
        · simp only [Act.put, List.setIfInBounds_toArray, List.set_cons_zero, List.set_cons_succ]
          rfl
        refine tk_ 19 (some 6) #[true, true, true, true, true, true, true, true, true, true, true, true, true, true, true, true, true, true, true, true] (v := ?_) (a' := ?_) rfl rfl (by kernel_rfl) (fun _ _ _ h => h) (yieldsIf_run rfl ?_) hHeld ?_ ?_
        rotate_left
        · intro w'
          go_simp
          with_reducible rfl
        rotate_left
        · simp only [Act.put, List.setIfInBounds_toArray, List.set_cons_zero, List.set_cons_succ]
          rfl
        refine wpAnyH_done (by kernel_rfl) ?_ _
        change Exit.then _ _ _ _ _
        go_wp2
        go_ret
        exact ⟨rfl, HP24.out.fds.below⟩
    · have hie : i = ms.length := by omega
      obtain ⟨k0, hk0⟩ : ∃ k0, keyB H0 = k0 := ⟨_, rfl⟩
      have heq : (k0.toList == k0.toList) = true := by rw [str_beq]; exact decide_eq_true rfl
      have hdl : (evs.drop evs.length).length = 0 := by simp
      have HTK := Lib.hid (takeW (HI.out.next (Below.refl _ wr).drew) (HWA.out.below (Below.refl _ wr).drew) 1000 evs.length (by omega))
      rw [List.take_length] at HTK
      have HKY : Hid (∀ (W : World) (v : Value) (evs : List Ev), PwI w W pp p b1 b2 D L (.slice (some ⟨ba, oa, none⟩) all.length ca) all (.slice Al L.length cl) f v evs mo h0 H0 → Calls Tryz.prog 28 #[tipV h0] W fun e w' => e = .returned (.string k0) ∧ Below W.heap.size W w') := Lib.hid fun W v evs h => by rw [← hk0]; exact key_is h.stt (.inr hH0)
      have HJN : Hid (∀ (W : World) (v : Value) (evs : List Ev), PwI w W pp p b1 b2 D L (.slice (some ⟨ba, oa, none⟩) all.length ca) all (.slice Al L.length cl) f v evs mo h0 H0 → Calls Tryz.prog 51 #[z0.v] W fun e w' => e = .returned (.string k0) ∧ W = w') := Lib.hid fun W v evs h => by rw [← hk0]; exact join_named W z0 _ (h.all.at_ z0 HZM.out).1 ⟨hH0, HN0.out.2.2⟩
      have hevl : evs.length ≤ 1000000 := by omega
      have HO1 := Lib.hid (HI.out.stt.one _ (List.mem_singleton.2 rfl))
      have HC1 := Lib.hid (HC0.out _ _ _ (HI.out.next (Below.refl _ wr).drew))
      clear hk0 HH
      go_upto_region 34 with fail
      refine st_ (S := (fun W' => W'.cell? ⟨ba, oa, none⟩ = some z0.v)) 20 #[false, false, false, false, false, false, false, false, false, false, false, false, false, false, false, false, false, false, false, false] (by kernel_rfl) rfl (by rfl) HC1.out (fun hHeld => ?_)
      refine tk_ 0 (some 139) #[true, false, false, false, false, false, false, false, false, false, false, false, false, false, false, false, false, false, false, false] (v := ?_) (a' := ?_) rfl rfl (by kernel_rfl) (fun _ _ _ h => h) (yieldsIf_run rfl ?_) hHeld ?_ ?_
      rotate_left
      · intro w'
        go_simp
        with_reducible rfl
      rotate_left
      · simp only [Act.put, List.setIfInBounds_toArray, List.set_cons_zero, List.set_cons_succ]
        rfl
      refine tk_ 2 (some 141) #[true, false, true, false, false, false, false, false, false, false, false, false, false, false, false, false, false, false, false, false] (v := ?_) (a' := ?_) rfl rfl (by kernel_rfl) (fun _ _ _ h => h) (yieldsIf_run rfl ?_) hHeld ?_ ?_
      rotate_left
      · intro w'
        go_simp
        with_reducible rfl
      rotate_left
      · simp only [Act.put, List.setIfInBounds_toArray, List.set_cons_zero, List.set_cons_succ]
        rfl
      refine call_ 1 (some 140) #[true, true, true, false, false, false, false, false, false, false, false, false, false, false, false, false, false, false, false, false] rfl rfl (by kernel_rfl) rfl 82 _ (by kernel_rfl) (HTK.out) ?_
      rintro e w20 ⟨v1, v2, rfl, h1, h2, hP⟩
      have HV1 := Lib.hid h1
      have HV2 := Lib.hid h2
      have HP20 := Lib.hid hP
      clear h1 h2 hP
      refine ⟨_, rfl, HC0.out _ _ _ HP20.out, fun hHeld => ⟨?_, ?_, ?_⟩⟩
      rotate_left
      · simp only [Act.put, List.setIfInBounds_toArray, List.set_cons_zero, List.set_cons_succ]
        rfl
      refine call_ 3 (some 142) #[true, true, true, true, false, false, false, false, false, false, false, false, false, false, false, false, false, false, false, false] rfl rfl (by kernel_rfl) rfl 81 _ (by kernel_rfl) (same23_any w20 v1 (.slice Aw evs.length cw) evs _ _ HV1.out HV2.out hevl) ?_
      rintro e w21 ⟨rfl, hb21⟩
      have HP21 := Lib.hid (HP20.out.next hb21)
      have HLN := Lib.hid (lenS HP21.out.fds)
      rw [hdl] at HLN
      refine ⟨_, rfl, HC0.out _ _ _ HP21.out, fun hHeld => ⟨?_, ?_, ?_⟩⟩
      rotate_left
      · simp only [Act.put, List.setIfInBounds_toArray, List.set_cons_zero, List.set_cons_succ]
        rfl
      refine tk_ 4 (some 143) #[true, true, true, true, true, false, false, false, false, false, false, false, false, false, false, false, false, false, false, false] (v := ?_) (a' := ?_) rfl rfl (by kernel_rfl) (fun _ _ _ h => h) (yieldsIf_run rfl ?_) hHeld ?_ ?_
      rotate_left
      · intro w'
        go_simp
        with_reducible rfl
      rotate_left
      · simp only [Act.put, List.setIfInBounds_toArray, List.set_cons_zero, List.set_cons_succ]
        rfl
      refine tk_ 5 (some 144) #[true, true, true, true, true, true, false, false, false, false, false, false, false, false, false, false, false, false, false, false] (v := ?_) (a' := ?_) rfl rfl (by kernel_rfl) (fun _ _ _ h => h) (yieldsIf_run rfl ?_) hHeld ?_ ?_
      rotate_left
      · intro w'
        go_simp
        with_reducible rfl
      rotate_left
      · simp only [Act.put, List.setIfInBounds_toArray, List.set_cons_zero, List.set_cons_succ]
        rfl
      refine call_ 6 (some 145) #[true, true, true, true, true, true, true, false, false, false, false, false, false, false, false, false, false, false, false, false] rfl rfl (by kernel_rfl) rfl 87 _ (by kernel_rfl) (HLN.out) ?_
      rintro e w22 ⟨rfl, rfl⟩
      refine ⟨_, rfl, HC0.out _ _ _ HP21.out, fun hHeld => ⟨?_, ?_, ?_⟩⟩
      rotate_left
      · simp only [Act.put, List.setIfInBounds_toArray, List.set_cons_zero, List.set_cons_succ]
        rfl
      refine tk_ 7 (some 146) #[true, true, true, true, true, true, true, true, false, false, false, false, false, false, false, false, false, false, false, false] (v := ?_) (a' := ?_) rfl rfl (by kernel_rfl) (fun _ _ _ h => h) (yieldsIf_run rfl ?_) hHeld ?_ ?_
      rotate_left
      · intro w'
        go_simp
        with_reducible rfl
      rotate_left
      · simp only [Act.put, List.setIfInBounds_toArray, List.set_cons_zero, List.set_cons_succ]
        rfl
      refine tk_ 8 (some 147) #[true, true, true, true, true, true, true, true, true, false, false, false, false, false, false, false, false, false, false, false] (v := ?_) (a' := ?_) rfl rfl (by kernel_rfl) (fun _ _ _ h => h) (yieldsIf_run rfl ?_) hHeld ?_ ?_
      rotate_left
      · intro w'
        go_simp
        with_reducible rfl
      rotate_left
      · simp only [Act.put, List.setIfInBounds_toArray, List.set_cons_zero, List.set_cons_succ]
        rfl
      refine tk_ 9 (some 148) #[true, true, true, true, true, true, true, true, true, true, false, false, false, false, false, false, false, false, false, false] (v := ?_) (a' := ?_) rfl rfl (by kernel_rfl) (fun _ _ _ h => h) (yieldsIf_run rfl ?_) hHeld ?_ ?_
      rotate_left
      · intro w'
        go_simp
        with_reducible rfl
      rotate_left
      · simp only [Act.put, List.setIfInBounds_toArray, List.set_cons_zero, List.set_cons_succ]
        rfl
      refine tk_ 10 (some 149) #[true, true, true, true, true, true, true, true, true, true, true, false, false, false, false, false, false, false, false, false] (v := ?_) (a' := ?_) rfl rfl (by kernel_rfl) (fun _ _ _ h => h) (yieldsIf_run rfl ?_) hHeld ?_ ?_
      rotate_left
      · intro w'
        go_simp
        with_reducible rfl
      rotate_left
      · simp only [Act.put, List.setIfInBounds_toArray, List.set_cons_zero, List.set_cons_succ]
        rfl
      refine tk_ 13 (some 152) #[true, true, true, true, true, true, true, true, true, true, true, false, false, true, false, false, false, false, false, false] (v := ?_) (a' := ?_) rfl rfl (by kernel_rfl) (fun _ _ _ h => h) (yieldsIf_run rfl ?_) hHeld ?_ ?_
      rotate_left
      · intro w'
        go_simp
        with_reducible rfl
      rotate_left
      · simp only [Act.put, List.setIfInBounds_toArray, List.set_cons_zero, List.set_cons_succ]
        rfl
      refine tk_ 14 (some 153) #[true, true, true, true, true, true, true, true, true, true, true, false, false, true, true, false, false, false, false, false] (v := ?_) (a' := ?_) rfl rfl (by kernel_rfl) (fun _ _ _ h => h) (yieldsIf_run rfl ?_) hHeld ?_ ?_
      rotate_left
      · intro w'
        go_simp
        with_reducible rfl
      rotate_left
      · simp only [Act.put, List.setIfInBounds_toArray, List.set_cons_zero, List.set_cons_succ]
        rfl
      refine tk_ 15 (some 154) #[true, true, true, true, true, true, true, true, true, true, true, false, false, true, true, true, false, false, false, false] rfl rfl (by kernel_rfl) (fun _ _ _ h => h) (yieldsIf_cell rfl 32 (.tmp 153) rfl ⟨ba, oa, none⟩ rfl z0.v _ (fun W' h => h) Tryz.underlying32 rfl) hHeld (a' := ?_) ?_ ?_
      rotate_left
      · simp only [Act.put, List.setIfInBounds_toArray, List.set_cons_zero, List.set_cons_succ]
        rfl
      refine call_ 11 (some 150) #[true, true, true, true, true, true, true, true, true, true, true, true, false, true, true, true, false, false, false, false] rfl rfl (by kernel_rfl) rfl 88 _ (by kernel_rfl) (start_any w21 _ f v2 _ mo h0 HP21.out.fds.feed HO1.out) ?_
      rintro e w23 ⟨rfl, hb23⟩
      have HP23 := Lib.hid (HP21.out.next hb23)
      refine ⟨_, rfl, HC0.out _ _ _ HP23.out, fun hHeld => ⟨?_, ?_, ?_⟩⟩
      rotate_left
      · simp only [Act.put, List.setIfInBounds_toArray, List.set_cons_zero, List.set_cons_succ]
        rfl
      refine call_ 12 (some 151) #[true, true, true, true, true, true, true, true, true, true, true, true, true, true, true, true, false, false, false, false] rfl rfl (by kernel_rfl) rfl 28 _ (by kernel_rfl) (HKY.out _ _ _ HP23.out) ?_
      rintro e w24 ⟨rfl, hb24⟩
      have HP24 := Lib.hid (HP23.out.next hb24)
      refine ⟨_, rfl, HC0.out _ _ _ HP24.out, fun hHeld => ⟨?_, ?_, ?_⟩⟩
      rotate_left
      · simp only [Act.put, List.setIfInBounds_toArray, List.set_cons_zero, List.set_cons_succ]
        rfl
      refine call_ 16 (some 155) #[true, true, true, true, true, true, true, true, true, true, true, true, true, true, true, true, true, false, false, false] rfl rfl (by kernel_rfl) rfl 51 _ (by kernel_rfl) (HJN.out _ _ _ HP24.out) ?_
      rintro e w25 ⟨rfl, rfl⟩
      refine ⟨_, rfl, HC0.out _ _ _ HP24.out, fun hHeld => ⟨?_, ?_, ?_⟩⟩
      rotate_left
      · simp only [Act.put, List.setIfInBounds_toArray, List.set_cons_zero, List.set_cons_succ]
        rfl
      refine tk_ 17 (some 156) #[true, true, true, true, true, true, true, true, true, true, true, true, true, true, true, true, true, true, false, false] (v := ?_) (a' := ?_) rfl rfl (by kernel_rfl) (fun _ _ _ h => h) (yieldsIf_run rfl ?_) hHeld ?_ ?_
      rotate_left
      · intro w'
        go_simp
        with_reducible rfl
      rotate_left
      · simp only [Act.put, List.setIfInBounds_toArray, List.set_cons_zero, List.set_cons_succ]
        rfl
      refine tk_ 18 (some 157) #[true, true, true, true, true, true, true, true, true, true, true, true, true, true, true, true, true, true, true, false] (v := ?_) (a' := ?_) rfl rfl (by kernel_rfl) (fun _ _ _ h => h) (yieldsIf_run rfl ?_) hHeld ?_ ?_
      rotate_left
      · intro w'
        go_simp
        with_reducible rfl
      rotate_left
      · simp only [Act.put, List.setIfInBounds_toArray, List.set_cons_zero, List.set_cons_succ]
        rfl
      refine tk_ 19 (some 6) #[true, true, true, true, true, true, true, true, true, true, true, true, true, true, true, true, true, true, true, true] (v := ?_) (a' := ?_) rfl rfl (by kernel_rfl) (fun _ _ _ h => h) (yieldsIf_run rfl ?_) hHeld ?_ ?_
      rotate_left
      · intro w'
        go_simp
        with_reducible rfl
      rotate_left
      · simp only [Act.put, List.setIfInBounds_toArray, List.set_cons_zero, List.set_cons_succ]
        rfl
      refine wpAnyH_done (by kernel_rfl) ?_ _
      change Exit.then _ _ _ _ _
      go_wp2
      go_ret
      exact ⟨rfl, HP24.out.fds.below⟩
end Go.Proofs.YtpehmlfghddnaaaGreatDoor
