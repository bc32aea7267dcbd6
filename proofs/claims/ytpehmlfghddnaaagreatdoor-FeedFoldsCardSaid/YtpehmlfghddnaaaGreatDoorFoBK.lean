/- coxswainlaw23.FeedFolds. Arguments opened: rows of headers, as they lie; the listed tables; an input that fits. -/
import Derived.Test.YtpehmlfghddnaaaGreatDoorFoAM
import Derived.Test.YtpehmlfghddnaaaGreatDoorFoBJ
import Derived.Test.YtpehmlfghddnaaaGreatDoorRows
import Derived.WalkKit
import Derived.ProofKit
import Derived.OpenShut
import Derived.ShutString
import Derived.ChangeOld
import Derived.Below
import Derived.SliceStrings
import Derived.SizedLaws
import Derived.Deep.Slices
import Derived.LaidMore
import Derived.MakeChecks
import Derived.Carry
namespace Go.Proofs.YtpehmlfghddnaaaGreatDoor
open Go.RowKit Go.Maps

theorem of_known (w : World) (p b1 b2 : Nat) (D : List LB) (okx ok : Nat → Prop) (h : DagAt okx w p b1 b2 D) (hf : FineD D) (x : LNS) (hx : x.At ok w) (T : List ID) (hT : TipOf (hdrs D) T) (hxT : x.ns = T.map Subtype.val) (hk : (⟨(joinS x.ns).toArray⟩ : ByteArray) = keyB T) :
    Calls Tryz.prog 67 #[.pointer (some ⟨p, 0, none⟩), x.v] w fun e w' => ∃ t, e = .returned (tipV t) ∧ TipIs (fun k => w.heap.size ≤ k ∨ okx k) w' (hdrs D) t T ∧ Below w.heap.size w w' := by
  refine (of14_any w p b1 b2 D okx ok h hf x hx T hT hxT hk).mono ?_
  rintro e w' ⟨t, rfl, ht, hb⟩
  exact ⟨t, rfl, TipIs.of_set h.ids (.inr hT) (h.below hb) ht, hb⟩
/-- What lies between the moves. -/
structure FoI (w W : World) (pp p b1 b2 : Nat) (D : List LB) (L : List LRH) (va : Value) (all : List LNS) (vl : Value) (gb f : Nat) (v : Value) (evs : List Ev) (mo : Int) (st : Value) : Prop where
  fds : FdS w W pp p b1 b2 D f v none evs mo st
  all : AllAt (okF f v none) W p b1 b2 D L va all
  lst : Sl rbE (okF f v none) W vl L
  at_ : ∀ y ∈ L, y.At (okF f v none) W
  gbc : W.cell? ⟨gb, 0, none⟩ = some vl
  gbo : okF f v none gb
section
variable {w W W' : World} {pp p b1 b2 : Nat} {D : List LB} {L : List LRH} {va vl : Value} {all : List LNS} {gb f : Nat} {v v' st : Value} {evs evs' : List Ev} {mo : Int}
theorem FoI.mv (h : FoI w W pp p b1 b2 D L va all vl gb f v evs mo st) (m : Mv f v v' W W') (hf : FdS w W' pp p b1 b2 D f v' none evs' mo st) : FoI w W' pp p b1 b2 D L va all vl gb f v' evs' mo st where
  fds := hf
  all := m.all h.all
  lst := (h.lst.old.fr (m.fr (x := none) fun _ h => h.1)).mono m.low
  at_ := fun y hy => Sl.mono (Sl.fr (Sl.old (h.at_ y hy)) (m.fr (x := none) fun _ h => h.1)) m.low
  gbc := by
    have h1 := m.chg.block gb (cell_lt h.gbc) fun hs => hs.elim h.gbo.1.1 fun e => h.gbo.1.2 e.symm
    have h2 := h.gbc
    unfold World.cell? at h2 ⊢
    rw [h1]
    exact h2
  gbo := m.low gb ⟨h.gbo, cell_lt h.gbc⟩
theorem FoI.next (h : FoI w W pp p b1 b2 D L va all vl gb f v evs mo st) (hb : Below W.heap.size W W') : FoI w W' pp p b1 b2 D L va all vl gb f v evs mo st := h.mv (.of_below hb) (h.fds.next hb)
end
theorem exec_and {P : Program} {o : Oper} {a : Act} {w : World} (t T : TypeId) (px py : Operand) (ho : o.op = .binOp .and t px py T) (x y : Int) (hx : a.eval px = .int .i64 x) (hy : a.eval py = .int .i64 y) : ∃ r : Int, (execOp a.eval o).run P w = .ok (.value (.int .i64 r)) w := by
  unfold execOp
  simp only [ho, hx, hy, eqGuard, binOp]
  simp [Op.intBits]
theorem wpl_and {P : Program} {ops : Array Oper} {rest : List Oper} {o : Oper} {a : Act} {w : World} {Q : Exit → Act → World → Prop} (hgd : o.guard = none) (t T : TypeId) (px py : Operand) (ho : o.op = .binOp .and t px py T) (x y : Int) (hx : a.eval px = .int .i64 x) (hy : a.eval py = .int .i64 y)
    (h : ∀ r : Int, wpList P ops Q rest (a.put o.dst (.int .i64 r)) w) : wpList P ops Q (o :: rest) a w :=
  (exec_and t T px py ho x y hx hy).elim fun r hr => wpl_exec hgd _ hr (h r)
theorem fold_cut {ways : ByteArray → ByteArray} {h e : ByteArray} {l : List Ev} (hf : foldE ways h l = some e) (k : Nat) : ∃ a2, foldE ways h (l.take k) = some a2 ∧ foldE ways a2 (l.drop k) = some e := by
  rw [← List.take_append_drop k l, fold_append] at hf
  obtain ⟨a2, h1, h2⟩ := Option.bind_eq_some_iff.1 hf
  exact ⟨a2, h1, h2⟩
section
variable {w W W' : World} {pp p b1 b2 : Nat} {D : List LB} {L : List LRH} {va vl : Value} {all : List LNS} {gb f : Nat} {v v' st : Value} {evs evs' : List Ev} {mo : Int} {ways : ByteArray → ByteArray} {at_ : ByteArray} {e : ByteArray}
theorem foldS (h : FoI w W pp p b1 b2 D L va all vl gb f v evs mo st) (htl : ∀ y ∈ L, TellH y.h) (hw : wayB (rhs L) = ways) {v1 : Value} {es : List Ev} {oke : Nat → Prop} (h1 : Sl evE oke W v1 es) {a2 : ByteArray} (ha : foldE ways at_ es = some a2) :
    Calls Tryz.prog 91 #[.func (.func 173) #[] #[.pointer (some ⟨gb, 0, none⟩)], .string at_, v1] W fun e w' => e = .returned (.tuple #[.string a2, .bool true]) ∧ Below W.heap.size W w' := by
  have := fold_any W gb vl L _ h.gbc h.lst h.at_ htl at_ v1 es oke h1
  rw [hw, ha] at this
  exact this
theorem takeF (h : FoI w W pp p b1 b2 D L va all vl gb f v evs mo st) (hf : foldE ways at_ evs = some e) (n : Int) :
    Calls Tryz.prog 82 #[.pointer (some ⟨f, 0, none⟩), .int .i64 n] W fun en w' => ∃ (v1 v' : Value) (a2 : ByteArray) (es ds : List Ev), en = .returned v1 ∧ Sl evE (fun i => W.heap.size ≤ i) w' v1 es ∧ foldE ways at_ es = some a2 ∧ foldE ways a2 ds = some e ∧ ds.length ≤ evs.length ∧ ((evs.length : Int) ≤ n → ds = []) ∧ FoI w w' pp p b1 b2 D L va all vl gb f v' ds mo st := by
  refine (takeS h.fds n (max 0 (min n evs.length)).toNat (by omega)).mono ?_
  rintro en w' ⟨v1, v', rfl, h1, hm, hF⟩
  obtain ⟨a2, h2, h3⟩ := fold_cut hf (max 0 (min n evs.length)).toNat
  exact ⟨v1, v', a2, _, _, rfl, h1, h2, h3, by rw [List.length_drop]; omega, fun hn => List.drop_eq_nil_of_le (by omega), h.mv hm hF⟩
end

set_option maxRecDepth 100000 in
set_option maxHeartbeats 2000000 in
theorem folds_any (w : World) (t : Value) (l : List LSD) (ok ok' : Nat → Prop) (hl : Sl sdE ok w t l) (hf : ∀ y ∈ l, y.At ok' w ∧ SeedOk y.s) (ht : Tab w) (most : Int) (mv : Value) (ms : List Int) (okm : Nat → Prop) (hm : Sl intE okm w mv ms) :
    Calls Tryz.prog 13 #[t, .int .i64 most, mv] w fun e w' => e = .returned (.bool true) ∧ Below w.heap.size w w' := by
  obtain ⟨Am, cm, rfl, hcm, hmm⟩ := hm.form
  have HL := Lib.hid hl
  have HF := Lib.hid hf
  have HT := Lib.hid ht
  have HM := Lib.hid hm
  clear hl hf ht hm
  go_enter Tryz.func13, Tryz.ntmps13
  go_upto_region 3 with (go_at_call 79; refine (awake23_any _ HT.out).mono ?_; rintro e w1 ⟨rfl, hb1⟩; have HB1 := Lib.hid hb1; clear hb1)
  go_upto_region 4 with (go_at_call 64; refine (made_any2 w1 t l ok ok' (HL.out.below HB1.out) (fun y hy => ⟨(HF.out y hy).1.below HB1.out, (HF.out y hy).2⟩) 14 (by decide) (HT.out.below HB1.out)).mono ?_; rintro e w2 ⟨p, b1, b2, D, vh, hs, vl, L, va, all, rfl, hmd, hL, hva, hall, hpos, hlen⟩; have HD2 := Lib.hid (And.intro (AllAt.mk hmd.dag hmd.fine hmd.both hva hall hpos (by omega)) (And.intro hmd.list hmd.lat)); have HB2 := Lib.hid (HB1.out.trans (hmd.below.mono HB1.out.size)); have HLL := Lib.hid (And.intro hL hmd.both.same); clear hmd hL hva hall hpos hlen)
  obtain ⟨z0, hz0⟩ : ∃ z0, all[0]? = some z0 := ⟨_, List.getElem?_eq_getElem HD2.out.1.pos⟩
  obtain ⟨Aa, ca, rfl, -, -⟩ := HD2.out.1.row.form
  obtain ⟨ba, oa, rfl, -, -, hcz⟩ := HD2.out.1.row.at_ 0 z0 hz0
  have hza : w2.cell? ⟨ba, oa, none⟩ = some z0.v := by have := hcz 0 _ rfl; simpa using this
  have HZM := Lib.hid (List.mem_of_getElem? hz0)
  have hallp := HD2.out.1.pos
  clear hcz hz0
  have hDL : D.length ≤ 1000000 := by have h1 := congrArg List.length HLL.out.2; simp [hdrs, rhs] at h1; have := HLL.out.1; omega
  have HTIP : Hid (∀ z ∈ all, ∃ T : List ID, TipOf (hdrs D) T ∧ (⟨(joinS z.ns).toArray⟩ : ByteArray) = keyB T ∧ z.ns = T.map Subtype.val) := Lib.hid fun z hz => named_tip HD2.out.1.both (HD2.out.1.at_ z hz).2
  have HSM : Hid (∀ z ∈ all, z.ns.length ≤ 1000 ∧ ∀ s ∈ z.ns, s.size ≤ 1000000) := Lib.hid fun z hz => named_small (fun y hy => (HD2.out.1.both.inl y hy).2) (HD2.out.1.at_ z hz).2
  have HTL : Hid (∀ y ∈ L, TellH y.h) := Lib.hid fun y hy => (HD2.out.1.both.inl y hy).2
  obtain ⟨ways, hways⟩ : ∃ f, wayB (rhs L) = f := ⟨_, rfl⟩
  have HWK : Hid (∀ T, TipOf (hdrs D) T → ways (keyB T) = keyB (parG (hdrs D) T)) := Lib.hid fun T hT => by rw [← hways]; exact way_key HD2.out.1.both hT
  have HWE := Lib.hid hways
  obtain ⟨H0, hH0, hk0, hns0⟩ := HTIP.out z0 HZM.out
  obtain ⟨k0, hk0e⟩ : ∃ k0, keyB H0 = k0 := ⟨_, rfl⟩
  clear hways
  go_upto_region 7 with (go_at_call 65; refine (pnew_any w2 p b1 b2 D _ HD2.out.1.dag HD2.out.1.fine HD2.out.1.both.good 9).mono ?_; rintro e w4 ⟨pp, rfl, -, hpa, hb4⟩; have HPA := Lib.hid hpa; have HD4 := Lib.hid (And.intro (HD2.out.1.below hb4) (And.intro (HD2.out.2.1.below hb4) fun y hy => Sl.below (HD2.out.2.2 y hy) hb4)); have HB4 := Lib.hid (HB2.out.trans (hb4.mono HB2.out.size)); have hza4 := (hb4.cell (cell_lt hza)).trans hza; clear hb4 hpa)
  clear hza HD2 HB2 HLL
  have HJ0 : Hid (Calls Tryz.prog 51 #[z0.v] w4 fun e w' => e = .returned (.string k0) ∧ w4 = w') := Lib.hid (by rw [← hk0e, ← hk0]; exact rjoin_any w4 z0.v z0.ns _ (HD4.out.1.at_ z0 HZM.out).1 (HSM.out z0 HZM.out).1 (HSM.out z0 HZM.out).2)
  have HOF := Lib.hid (of_known w4 p b1 b2 D _ _ HD4.out.1.dag HD4.out.1.fine z0 (HD4.out.1.at_ z0 HZM.out).1 H0 hH0 hns0 hk0)
  go_upto_region 10 with (first
    | (go_at_call 51; refine HJ0.out.mono ?_; rintro e w4b ⟨rfl, rfl⟩)
    | (go_at_call 67; refine HOF.out.mono ?_; rintro e w5 ⟨h0, rfl, hth, hb5⟩; have HTH := Lib.hid hth; have HP5 := Lib.hid (HPA.out.below hb5); have HD5 := Lib.hid (And.intro (HD4.out.1.below hb5) (And.intro (HD4.out.2.1.below hb5) fun y hy => Sl.below (HD4.out.2.2 y hy) hb5)); have HB5 := Lib.hid (HB4.out.trans (hb5.mono HB4.out.size)); clear hb5 hth)
    | (go_at_call 80; refine (newS (w := w) (x := none) HP5.out HB5.out hDL (fun _ _ e => by cases e) (fun e => by cases e) (fun _ e => by cases e) most h0 (HTH.out.one _ List.mem_cons_self)).mono ?_; rintro e w6 ⟨f, rfl, hf, hF, hb6⟩; have HF6 := Lib.hid hF; have HD6 := Lib.hid (show AllAt (okF f (.slice none 0 0) none) w6 p b1 b2 D L _ all ∧ Sl rbE (okF f (.slice none 0 0) none) w6 vl L ∧ ∀ y ∈ L, y.At (okF f (.slice none 0 0) none) w6 from ⟨(HD5.out.1.old.mono (okF_new (x := none) (fun _ _ e => by cases e) hf)).below hb6, (HD5.out.2.1.old.mono (okF_new (x := none) (fun _ _ e => by cases e) hf)).below hb6, fun y hy => Sl.below (Sl.mono (Sl.old (HD5.out.2.2 y hy)) (okF_new (x := none) (fun _ _ e => by cases e) hf)) hb6⟩); clear hb6 hF hf))
  have HN0 := Lib.hid (And.intro hH0 (And.intro hk0 hns0))
  clear HD4 HB4 HPA HJ0 HOF hza4 hk0 hns0
  obtain ⟨mo, hmo⟩ : ∃ mo : Int, max 1 (min most 64) = mo := ⟨_, rfl⟩
  have hmo1 : 1 ≤ mo ∧ mo ≤ 64 := by omega
  rw [hmo] at HF6
  clear hmo
  obtain ⟨Al, cl, rfl, -, -⟩ := HD6.out.2.1.form
  go_upto_region 13 with (go_at_call 90; refine (ways_any w6 _ rfl).mono ?_; rintro e w7 ⟨gb, rfl, hgb, hgc, hb7⟩; have HI7 := Lib.hid (FoI.mk (HF6.out.next hb7) (HD6.out.1.below hb7) (HD6.out.2.1.below hb7) (fun y hy => Sl.below (HD6.out.2.2 y hy) hb7) hgc (HF6.out.up gb hgb)); clear hgc hb7 hgb)
  have HE0 : Hid (foldE ways k0 [] = some (keyB H0)) := Lib.hid (by rw [hk0e]; rfl)
  clear HD6 HF6 HTH HP5 HD5 HB5 hk0e HB1 HL HF
  go_wp2
  go_loopw [11, 12, 15] (fun c11 c12 c15 W => ∃ (i : Nat) (at_ : ByteArray) (z : LNS) (H : List ID) (v : Value) (evs : List Ev), i ≤ ms.length ∧ i ≤ 30 ∧ c11 = .string at_ ∧ c12 = z.v ∧ c15 = .int .i64 (i : Int) ∧ z ∈ all ∧ (TipOf (hdrs D) H ∧ (⟨(joinS z.ns).toArray⟩ : ByteArray) = keyB H ∧ z.ns = H.map Subtype.val) ∧ ((evs.length : Int) ≤ mo ∧ foldE ways at_ evs = some (keyB H)) ∧ FoI w W pp p b1 b2 D L (.slice (some ⟨ba, oa, none⟩) all.length ca) all (.slice Al L.length cl) gb f v evs mo h0) (fun _ _ c15 _ => 30 - (intOf c15).toNat)
  case atStart =>
    exact ⟨0, k0, z0, H0, _, [], by omega, by omega, rfl, rfl, rfl, HZM.out, HN0.out, ⟨by simp; omega, HE0.out⟩, HI7.out⟩
  case round =>
    obtain ⟨i, at_, z, H, v, evs, hi, hi2, rfl, rfl, rfl, hz, hH, hev, hI⟩ := hrel
    have HI := Lib.hid hI
    have HH := Lib.hid hH
    have HEV := Lib.hid hev
    clear hI hH hev HI7 HE0
    by_cases hil : i < ms.length
    · by_cases hi30 : i < 30
      · obtain ⟨x, hx⟩ : ∃ x, ms[i]? = some x := ⟨_, List.getElem?_eq_getElem hil⟩
        obtain ⟨bm, om, rfl, -, -, hcx⟩ := HM.out.at_ i x hx
        have HCX : Hid (∀ W, Below w.heap.size w W → W.cell? ⟨bm, om + i, none⟩ = some (.int .i64 x)) := Lib.hid fun W hb => by
          have h1 : w.cell? ⟨bm, om + i, none⟩ = some (.int .i64 x) := by have := hcx 0 _ rfl; rwa [Nat.add_zero, show intE.k = 1 from rfl, Nat.mul_one] at this
          exact (hb.cell (cell_lt h1)).trans h1
        have hcx0 := HCX.out _ HI.out.fds.below
        clear hcx hx
        have HPK := Lib.hid (pick_any wr _ _ all HI.out.all.row HI.out.all.pos HI.out.all.len x)
        go_upto_region 17 with (go_at_call 83; refine HPK.out.mono ?_; rintro e w8a ⟨⟨z2, hz2, rfl⟩, rfl⟩)
        obtain ⟨T, hT, hkT, hnT⟩ := HTIP.out z2 hz2
        have HOF1 := Lib.hid (of_known wr p b1 b2 D _ _ HI.out.all.dag HI.out.all.fine z (HI.out.all.at_ z hz).1 H HH.out.1 HH.out.2.2 HH.out.2.1)
        have HOF2 := Lib.hid fun (W : World) (h : FoI w W pp p b1 b2 D L (.slice (some ⟨ba, oa, none⟩) all.length ca) all (.slice Al L.length cl) gb f v evs mo h0) => of_known W p b1 b2 D _ _ h.all.dag h.all.fine z2 (h.all.at_ z2 hz2).1 T hT hnT hkT
        clear HPK hcx0
        go_upto_region 18 with (first
          | (go_at_call 67; refine (HOF2.out _ HI8.out).mono ?_; rintro e w9 ⟨tv, rfl, hth, hb9⟩; have HTV := Lib.hid (hth.mono fun k hk => hk.elim (HI8.out.fds.up k) id); have HHW := Lib.hid (HHV.out.below hb9); have HI9 := Lib.hid (HI8.out.next hb9); have HPU := Lib.hid (pushS HI9.out.fds HH.out.1 HHW.out hT HTV.out (by omega) (by have := HEV.out.1; omega)); clear hb9 hth)
          | (go_at_call 67; refine HOF1.out.mono ?_; rintro e w8 ⟨hv, rfl, hth, hb8⟩; have HHV := Lib.hid (hth.mono fun k hk => hk.elim (HI.out.fds.up k) id); have HI8 := Lib.hid (HI.out.next hb8); clear hb8 hth)
          | (go_at_call 85; refine HPU.out.mono ?_; rintro e w10 ⟨v', bo, hbo, rfl, hm, hF⟩; have HBO := Lib.hid hbo; have HI10 := Lib.hid (HI9.out.mv hm hF); clear hm hF hbo))
        obtain ⟨evs2, he2⟩ : ∃ e, (if bo = true then evs ++ (aboveG (hdrs D) H (commG (hdrs D) H T)).map (evOf (hdrs D) 1) ++ (aboveG (hdrs D) T (commG (hdrs D) H T)).reverse.map (evOf (hdrs D) 2) else [evOf (hdrs D) 3 T]) = e := ⟨_, rfl⟩
        have HEV2 : Hid ((evs2.length : Int) ≤ mo ∧ foldE ways at_ evs2 = some (keyB T)) := Lib.hid (by
          cases bo with
          | true =>
            have h1 := HBO.out.1 rfl
            rw [if_pos rfl] at he2
            rw [← he2]
            refine ⟨by simp only [List.length_append, List.length_map, List.length_reverse]; omega, ?_⟩
            rw [List.append_assoc, fold_append, HEV.out.2]
            exact fold_move HI10.out.fds.path.good HWK.out HH.out.1 hT
          | false =>
            rw [if_neg (by decide)] at he2
            rw [← he2]
            refine ⟨by simp; omega, ?_⟩
            show (if (3 : Int) = 3 ∨ _ then some (keyB T) else _) = _
            exact if_pos (.inl rfl))
        rw [he2] at HI10
        clear he2 HBO HPU HOF1 HOF2 HI8 HI9 HHV HHW HTV HI
        have hcx1 := HCX.out _ HI10.out.fds.below
        have HTK := Lib.hid fun (r : Int) => takeF HI10.out HEV2.out.2 r
        obtain ⟨kT, hkTe⟩ : ∃ kT, keyB T = kT := ⟨_, rfl⟩
        rw [hkTe] at HTK
        go_upto_region 20 with (first
          | (refine wpl_and rfl 3 3 (.tmp 85) (.const (.int .i64 7)) rfl x 7 rfl rfl fun r => ?_)
          | (go_at_call 82; refine (HTK.out _).mono ?_; rintro e w11 ⟨v1, v2, a2, es, dd, rfl, h1, h2, h3, h4, -, hF⟩; have HV1 := Lib.hid h1; have HD1 := Lib.hid (And.intro h3 h4); have HI11 := Lib.hid hF; have HFO := Lib.hid (foldS hF HTL.out HWE.out h1 h2); clear h1 h2 h3 h4 hF)
          | (go_at_call 91; refine HFO.out.mono ?_; rintro e w12 ⟨rfl, hb12⟩; have HI12 := Lib.hid (HI11.out.next hb12); clear hb12))
        clear HTK HI10 HI11 HFO HV1 hcx1
        have HJN : Hid (Calls Tryz.prog 51 #[z2.v] w12 fun e w' => e = .returned (.string kT) ∧ w12 = w') := Lib.hid (by rw [← hkTe, ← hkT]; exact rjoin_any w12 z2.v z2.ns _ (HI12.out.all.at_ z2 hz2).1 (HSM.out z2 hz2).1 (HSM.out z2 hz2).2)
        have HREL : Hid ((dd.length : Int) ≤ mo ∧ foldE ways a2 dd = some (keyB T)) := Lib.hid ⟨by have := HD1.out.2; have := HEV2.out.1; omega, by rw [hkTe]; exact HD1.out.1⟩
        have HLN := Lib.hid (lenS HI12.out.fds)
        have hTT := And.intro hT (And.intro hkT hnT)
        by_cases hd0 : dd.length = 0
        · have hdd : dd = [] := List.length_eq_zero_iff.1 hd0
          have hak : a2 = kT := by have := HD1.out.1; rw [hdd] at this; exact Option.some.inj this
          subst hak
          have heq : (a2.toList == a2.toList) = true := by rw [str_beq]; exact decide_eq_true rfl
          rw [hd0] at HLN
          clear hkT hnT hkTe hT HWK HEV HEV2 HD1
          go_wp2_with (first
            | (go_at_call 87; refine HLN.out.mono ?_; rintro e w13 ⟨rfl, rfl⟩)
            | (go_at_call 51; refine HJN.out.mono ?_; rintro e w13 ⟨rfl, rfl⟩))
          go_roundw
          case rel => exact ⟨i + 1, a2, z2, T, v2, dd, by omega, by omega, rfl, rfl, by go_num, hz2, hTT, HREL.out, HI12.out⟩
          case measure => simp [intOf]; omega
        · have hd1 : 0 < dd.length := by omega
          clear hkT hnT hkTe hT HWK HEV HEV2 HD1 HJN
          go_wp2_with (go_at_call 87; refine HLN.out.mono ?_; rintro e w13 ⟨rfl, rfl⟩)
          go_roundw
          case rel => exact ⟨i + 1, a2, z2, T, v2, dd, by omega, by omega, rfl, rfl, by go_num, hz2, hTT, HREL.out, HI12.out⟩
          case measure => simp [intOf]; omega
      · have hie : i = 30 := by omega
        subst hie
        obtain ⟨kH, hkH⟩ : ∃ kH, keyB H = kH := ⟨_, rfl⟩
        have HTK := Lib.hid (takeF HI.out HEV.out.2 100)
        rw [hkH] at HTK
        have HJN := Lib.hid fun (W : World) (v' : Value) (ds : List Ev) (h : FoI w W pp p b1 b2 D L (.slice (some ⟨ba, oa, none⟩) all.length ca) all (.slice Al L.length cl) gb f v' ds mo h0) => (show Calls Tryz.prog 51 #[z.v] W fun e w' => e = .returned (.string kH) ∧ W = w' from by rw [← hkH, ← HH.out.2.1]; exact rjoin_any W z.v z.ns _ (h.all.at_ z hz).1 (HSM.out z hz).1 (HSM.out z hz).2)
        have hle : (evs.length : Int) ≤ 100 := by have := HEV.out.1; omega
        clear HEV HH HWK hkH
        go_wp2_with (first
          | (go_at_call 82; refine HTK.out.mono ?_; rintro e w11 ⟨v1, v2, a2, es, dd, rfl, h1, h2, h3, -, h5, hF⟩; have hak : a2 = kH := (by have := h3; rw [h5 hle] at this; exact Option.some.inj this); subst hak; have heq : (a2.toList == a2.toList) = true := (by rw [str_beq]; exact decide_eq_true rfl); have HI11 := Lib.hid hF; have HFO := Lib.hid (foldS hF HTL.out HWE.out h1 h2); clear h1 h2 h3 h5 hF)
          | (go_at_call 91; refine HFO.out.mono ?_; rintro e w12 ⟨rfl, hb12⟩; have HI12 := Lib.hid (HI11.out.next hb12); clear hb12)
          | (go_at_call 51; refine (HJN.out _ _ _ HI12.out).mono ?_; rintro e w13 ⟨rfl, rfl⟩))
        go_ret
        exact ⟨rfl, HI12.out.fds.below⟩
    · have hie : i = ms.length := by omega
      subst hie
      obtain ⟨kH, hkH⟩ : ∃ kH, keyB H = kH := ⟨_, rfl⟩
      have HTK := Lib.hid (takeF HI.out HEV.out.2 100)
      rw [hkH] at HTK
      have HJN := Lib.hid fun (W : World) (v' : Value) (ds : List Ev) (h : FoI w W pp p b1 b2 D L (.slice (some ⟨ba, oa, none⟩) all.length ca) all (.slice Al L.length cl) gb f v' ds mo h0) => (show Calls Tryz.prog 51 #[z.v] W fun e w' => e = .returned (.string kH) ∧ W = w' from by rw [← hkH, ← HH.out.2.1]; exact rjoin_any W z.v z.ns _ (h.all.at_ z hz).1 (HSM.out z hz).1 (HSM.out z hz).2)
      have hle : (evs.length : Int) ≤ 100 := by have := HEV.out.1; omega
      clear HEV HH HWK hkH
      go_wp2_with (first
        | (go_at_call 82; refine HTK.out.mono ?_; rintro e w11 ⟨v1, v2, a2, es, dd, rfl, h1, h2, h3, -, h5, hF⟩; have hak : a2 = kH := (by have := h3; rw [h5 hle] at this; exact Option.some.inj this); subst hak; have heq : (a2.toList == a2.toList) = true := (by rw [str_beq]; exact decide_eq_true rfl); have HI11 := Lib.hid hF; have HFO := Lib.hid (foldS hF HTL.out HWE.out h1 h2); clear h1 h2 h3 h5 hF)
        | (go_at_call 91; refine HFO.out.mono ?_; rintro e w12 ⟨rfl, hb12⟩; have HI12 := Lib.hid (HI11.out.next hb12); clear hb12)
        | (go_at_call 51; refine (HJN.out _ _ _ HI12.out).mono ?_; rintro e w13 ⟨rfl, rfl⟩))
      go_ret
      exact ⟨rfl, HI12.out.fds.below⟩
end Go.Proofs.YtpehmlfghddnaaaGreatDoor
namespace Go.Proofs.YtpehmlfghddnaaaGreatDoor
open Go.ChangeShapes Go.WideShapes Go.ChangeAt Go.RowKit
open Go.Deep (open_slice)

theorem weights_in {H : Type} {P : Program} {e : TypeId} : ∀ {l : List (DataW H)} {d : DataW H}, d ∈ l → ∀ n ∈ d.weights P e, n ∈ DataW.weightsAll P e l
  | [], _, h, _, _ => by cases h
  | x :: r, d, h, n, hn => by
    simp only [DataW.weightsAll, List.mem_append]
    rcases List.mem_cons.1 h with rfl | h
    · exact .inl hn
    · exact .inr (weights_in h n hn)
theorem weights_slice {H : Type} {P : Program} {t e : TypeId} {elems spare : List (DataW H)} (hu : P.underlying t = some (.slice e)) {d : DataW H} (hd : d ∈ elems) {n : Nat} (hn : n ∈ d.weights P e) : n ∈ (DataW.slice elems spare).weights P t := by
  simp only [DataW.weights, hu, List.mem_cons, List.mem_append]
  exact .inr (.inl (weights_in hd n hn))
theorem weights_struct {H : Type} {P : Program} {t : TypeId} {fs : Array Field} {parts : List (DataW H)} (hu : P.underlying t = some (.struct fs)) (j : Nat) (f : Field) (hf : fs[j]? = some f) {d : DataW H} (hd : parts[j]? = some d) {n : Nat} (hn : n ∈ d.weights P f.type) : n ∈ (DataW.agg parts).weights P t := by
  simp only [DataW.weights, hu]
  exact DataW.weights_mem_each (j := j) (by rw [List.getElem?_map, Array.getElem?_toList, hf]; rfl) hd n hn

theorem plain_of_cell {w : World} {x : Addr} {u : Value} (h : w.cell? x = some u) : x.spot = none ∧ x.block < w.heap.size := by
  refine ⟨?_, World.block_lt_of_cell? w _ h⟩
  rcases x with ⟨b, o, s⟩
  rcases s with _ | s
  · rfl
  · simp only [World.cell?] at h
    split at h <;> simp at h
theorem exists_list {α : Type} {R : Nat → α → Prop} : ∀ n : Nat, (∀ i, i < n → ∃ y, R i y) → ∃ l : List α, l.length = n ∧ ∀ i y, l[i]? = some y → R i y
  | 0, _ => ⟨[], rfl, fun i y h => by simp at h⟩
  | n + 1, h => by
    obtain ⟨l, hl, hR⟩ := exists_list n fun i hi => h i (by omega)
    obtain ⟨y, hy⟩ := h n (by omega)
    refine ⟨l ++ [y], by simp [hl], fun i z hz => ?_⟩
    rcases Nat.lt_or_ge i n with hi | hi
    · rw [List.getElem?_append_left (by omega)] at hz
      exact hR i z hz
    · have hlt : i < (l ++ [y]).length := (List.getElem?_eq_some_iff.1 hz).1
      simp at hlt
      obtain rfl : i = n := by omega
      rw [List.getElem?_append_right (by omega), hl, Nat.sub_self] at hz
      simp at hz
      subst hz
      exact hy
section
variable {H : Type} {enc : TypeId × Value → H} {w : World} {base : Nat} {sp : Nat → Bool} {held : Bool} {fuel : Nat}
/-- A row whose elements lie at their places. -/
theorem slw_of_cells {β : Type} (E : Enc β) {a : Addr} {len cap : Nat} {l : List β} (hl : l.length = len) (hc : len ≤ cap) (hm : cap ≤ maxLen) (h : ∀ i y, l[i]? = some y → ∀ j u, (E.enc y)[j]? = some u → w.cell? (a.add (i * E.k + j)) = some u) : SlW E (fun _ => True) w (.slice (some a) len cap) l := by
  refine ⟨_, len, cap, rfl, hl, hc, by simpa [maxLen] using hm, fun h0 => ?_⟩
  obtain ⟨y0, hy0⟩ : ∃ y, l[0]? = some y := ⟨_, List.getElem?_eq_getElem (by omega)⟩
  have hk : 0 < (E.enc y0).length := by rw [E.hk]; exact E.k0
  have h1 := plain_of_cell (h 0 y0 hy0 0 _ (List.getElem?_eq_getElem hk))
  have hs : a.spot = none := by have := h1.1; unfold Addr.add at this; simpa using this
  have hb : a.block < w.heap.size := by have := h1.2; rwa [block_of_add] at this
  obtain ⟨b, o, s⟩ := a
  simp only at hs hb
  subst hs
  refine ⟨b, o, rfl, hb, trivial, fun m u hu => ?_⟩
  obtain ⟨i, j, hj, rfl⟩ : ∃ i j, j < E.k ∧ m = i * E.k + j := ⟨m / E.k, m % E.k, Nat.mod_lt _ E.k0, by rw [Nat.mul_comm]; exact (Nat.div_add_mod m E.k).symm⟩
  have hlt := (List.getElem?_eq_some_iff.1 hu).1
  rw [E.flat_length] at hlt
  have hi : i < l.length := by
    rcases Nat.lt_or_ge i l.length with h | h
    · exact h
    · have := Nat.mul_le_mul_right E.k h; omega
  obtain ⟨y, hy⟩ : ∃ y, l[i]? = some y := ⟨_, List.getElem?_eq_getElem hi⟩
  have hv : (E.enc y)[j]? = some ((E.enc y)[j]'(by rw [E.hk]; exact hj)) := List.getElem?_eq_getElem _
  have h2 := E.flat_get l i y hy j _ hv
  rw [hu] at h2
  have h3 := h i y hy j _ hv
  rw [add_off] at h3
  rw [h3, ← Option.some.inj h2]
theorem SlW.strong {β : Type} {E : Enc β} {ok : Nat → Prop} {A : Option Addr} {n c : Nat} {ys : List β} (h : SlW E ok w (.slice A n c) ys) (hp : ∀ a, A = some a → a.spot = none) : Sl E ok w (.slice A n c) ys := by
  obtain ⟨A', n', c', he, hl, hc, hm, hx⟩ := h
  injection he with h1 h2 h3
  subst h1; subst h2; subst h3
  refine ⟨A, n, c, rfl, hl, hc, hm, fun a ha => ?_, hx⟩
  have := hp a ha
  obtain ⟨b, o, s⟩ := a
  simp only at this
  subst this
  exact ⟨b, o, rfl⟩

theorem open_strs {v : Value} {x : DataW H × List MemPlace} (h : DataW.trod enc Tryz.prog w base (fun _ => true) held fuel 32 [v] = some x) : ∃ A n c l, v = .slice A n c ∧ SlW strE (fun _ => True) w v l := by
  rcases open_strings Tryz.underlying32 Tryz.underlying9 (by kernel_rfl) h with ⟨hcs, -⟩ | ⟨a, len, cap, ss, hcs, -, hl, hm, hsl, -, hc, -⟩
  · obtain rfl : v = .slice none 0 0 := by simpa using hcs
    exact ⟨_, _, _, [], rfl, (Sl.nil _ _ _).weak⟩
  · obtain rfl : v = .slice (some a) len cap := by simpa using hcs
    have hsl' : ss.length = cap := by simpa using hsl
    refine ⟨_, _, _, ss.take len, rfl, slw_of_cells strE (by rw [List.length_take]; omega) hl hm fun i y hy j u hu => ?_⟩
    obtain rfl : j = 0 := by have := (List.getElem?_eq_some_iff.1 hu).1; rw [strE.hk] at this; have : j < 1 := this; omega
    have hi : i < len := by have := (List.getElem?_eq_some_iff.1 hy).1; rw [List.length_take] at this; omega
    rw [List.getElem?_take_of_lt hi] at hy
    have h1 := hc i (by omega)
    rw [List.getD_eq_getElem?_getD, hy] at h1
    have hu : some (Value.string y) = some u := hu
    injection hu with hu
    subst hu
    rw [show i * strE.k + 0 = i from Nat.mul_one i]
    exact h1

theorem wf_i64 {n : Int} (h : (Lit.int .i64 n).wf = true) : I64 n := by
  simp [Lit.wf, IntKind.min, IntKind.max, IntKind.bits, IntKind.signed] at h
  exact ⟨by omega, by omega⟩
theorem wf_u64 {n : Int} (h : (Lit.int .u64 n).wf = true) : 0 ≤ n ∧ n ≤ 18446744073709551615 := by
  simp [Lit.wf, IntKind.min, IntKind.max, IntKind.bits, IntKind.signed] at h
  exact ⟨by omega, by omega⟩
/-- What a header that came in is like. -/
structure InH (w : World) (x : LRH) : Prop where
  at_ : SlW strE (fun _ => True) w x.v x.h.parents
  ticket : x.h.ticket.size ≤ 140737488351232
  p0 : 0 ≤ x.h.power
  p1 : x.h.power ≤ 18446744073709551615
  height : I64 x.h.height
  miner : I64 x.h.miner
  wins : I64 x.h.wins
  salt : I64 x.h.salt
set_option maxRecDepth 100000 in
theorem open_hdr {cs : List Value} {x : DataW H × List MemPlace} (h : DataW.trod enc Tryz.prog w base (fun _ => true) held fuel 34 cs = some x) (hw : ∀ m ∈ x.1.weights Tryz.prog 34, m ≤ 140737488351232) : ∃ y : LRH, cs = y.cells ∧ InH w y := by
  obtain ⟨xs, n', rfl, hy, hlen, hxl, hf⟩ := DataW.trod_struct Tryz.underlying34 h
  have c53 : Tryz.prog.cellsOf 34 = 7 := by kernel_rfl
  have ci : Tryz.prog.cellsOf 3 = 1 := by kernel_rfl
  have cS : Tryz.prog.cellsOf 9 = 1 := by kernel_rfl
  have cu : Tryz.prog.cellsOf 31 = 1 := by kernel_rfl
  have cl : Tryz.prog.cellsOf 32 = 1 := by kernel_rfl
  rw [c53] at hlen
  match cs, hlen with
  | [c0, c1, c2, c3, c4, c5, c6], _ =>
    match xs, hxl with
    | [x0, x1, x2, x3, x4, x5, x6], _ =>
      have h0 : DataW.trod enc Tryz.prog w base (fun _ => true) held n' 3 [c0] = some x0 := by
        have : DataW.trod enc Tryz.prog w base (fun _ => true) held n' 3 (([c0, c1, c2, c3, c4, c5, c6].drop 0).take (Tryz.prog.cellsOf 3)) = some x0 := hf 0 _ rfl
        rw [ci] at this
        exact this
      have h1 : DataW.trod enc Tryz.prog w base (fun _ => true) held n' 3 [c1] = some x1 := by
        have : DataW.trod enc Tryz.prog w base (fun _ => true) held n' 3 (([c0, c1, c2, c3, c4, c5, c6].drop 1).take (Tryz.prog.cellsOf 3)) = some x1 := hf 1 _ rfl
        rw [ci] at this
        exact this
      have h2 : DataW.trod enc Tryz.prog w base (fun _ => true) held n' 9 [c2] = some x2 := by
        have : DataW.trod enc Tryz.prog w base (fun _ => true) held n' 9 (([c0, c1, c2, c3, c4, c5, c6].drop 2).take (Tryz.prog.cellsOf 9)) = some x2 := hf 2 _ rfl
        rw [cS] at this
        exact this
      have h3 : DataW.trod enc Tryz.prog w base (fun _ => true) held n' 3 [c3] = some x3 := by
        have : DataW.trod enc Tryz.prog w base (fun _ => true) held n' 3 (([c0, c1, c2, c3, c4, c5, c6].drop 3).take (Tryz.prog.cellsOf 3)) = some x3 := hf 3 _ rfl
        rw [ci] at this
        exact this
      have h4 : DataW.trod enc Tryz.prog w base (fun _ => true) held n' 31 [c4] = some x4 := by
        have : DataW.trod enc Tryz.prog w base (fun _ => true) held n' 31 (([c0, c1, c2, c3, c4, c5, c6].drop 4).take (Tryz.prog.cellsOf 31)) = some x4 := hf 4 _ rfl
        rw [cu] at this
        exact this
      have h5 : DataW.trod enc Tryz.prog w base (fun _ => true) held n' 32 [c5] = some x5 := by
        have : DataW.trod enc Tryz.prog w base (fun _ => true) held n' 32 (([c0, c1, c2, c3, c4, c5, c6].drop 5).take (Tryz.prog.cellsOf 32)) = some x5 := hf 5 _ rfl
        rw [cl] at this
        exact this
      have h6 : DataW.trod enc Tryz.prog w base (fun _ => true) held n' 3 [c6] = some x6 := by
        have : DataW.trod enc Tryz.prog w base (fun _ => true) held n' 3 (([c0, c1, c2, c3, c4, c5, c6].drop 6).take (Tryz.prog.cellsOf 3)) = some x6 := hf 6 _ rfl
        rw [ci] at this
        exact this
      obtain ⟨a0, e0, f0, g0⟩ := DataW.trod_int Tryz.underlying3 h0
      obtain ⟨a1, e1, f1, g1⟩ := DataW.trod_int Tryz.underlying3 h1
      obtain ⟨a2, e2, f2, g2⟩ := DataW.trod_string Tryz.underlying9 h2
      obtain ⟨a3, e3, f3, g3⟩ := DataW.trod_int Tryz.underlying3 h3
      obtain ⟨a4, e4, f4, g4⟩ := DataW.trod_int Tryz.underlying31 h4
      obtain ⟨A, n, c, l, hv5, hs5⟩ := open_strs h5
      obtain ⟨a6, e6, f6, g6⟩ := DataW.trod_int Tryz.underlying3 h6
      simp only [List.cons.injEq, and_true] at e0 e1 e2 e3 e4 e6
      subst e0; subst e1; subst e2; subst e3; subst e4; subst e6; subst hv5
      have hl5 := hs5.len.1
      subst hl5
      refine ⟨⟨⟨a0, a1, a2, a3, a4, l, a6⟩, A, c⟩, rfl, hs5, ?_, (wf_u64 g4).1, (wf_u64 g4).2, wf_i64 g0, wf_i64 g1, wf_i64 g3, wf_i64 g6⟩
      have := hw a2.data.toList.length (by
        rw [hy]
        exact weights_struct Tryz.underlying34 2 _ rfl (d := .lit (.string a2.data.toList)) (by rw [f2]; rfl) (by simp [DataW.weights]))
      simpa using this
/-! ### the listed tables -/
theorem gStart : Tryz.prog.globalNamed "coxswain/digest.start" = some 0 := by kernel_rfl
theorem gKey : Tryz.prog.globalNamed "coxswain/digest.key" = some 2 := by kernel_rfl
theorem tStart : (Tryz.prog.globals[0]?).map (·.type) = some 261 := by kernel_rfl
theorem tKey : (Tryz.prog.globals[2]?).map (·.type) = some 311 := by kernel_rfl
set_option maxRecDepth 100000 in
theorem words_of {t : TypeId} {n : Nat} {cs : List Value} {l : List Nat} {ps : List MemPlace} (hu : Tryz.prog.underlying t = some (.array n 241)) (hn : Tryz.prog.cellsOf t = n) (h : DataW.trod enc Tryz.prog w base sp held fuel t cs = some (.agg (l.map fun x : Nat => .lit (.int .u32 (x : Int))), ps)) : cs = wc l := by
  obtain ⟨xs, m, -, hx, hlen, hxl, hel⟩ := DataW.trod_array hu h
  have c1 : Tryz.prog.cellsOf 241 = 1 := by kernel_rfl
  simp only [Prod.mk.injEq, DataW.agg.injEq] at hx
  have hll : l.length = n := by have := congrArg List.length hx.1; simp at this; omega
  refine List.ext_getElem? fun i => ?_
  by_cases hi : i < n
  · have h1 := hel i hi
    rw [c1, Nat.mul_one, List.drop_eq_getElem_cons (by rw [hlen, hn]; exact hi), List.take_succ_cons, List.take_zero, List.getElem?_eq_getElem (by omega)] at h1
    obtain ⟨k, e1, e2, -⟩ := DataW.trod_int Tryz.underlying241 h1
    have h3 := congrArg (fun z : List (DataW H) => z[i]?) hx.1
    simp only [List.getElem?_map] at h3
    rw [List.getElem?_eq_getElem (by omega), List.getElem?_eq_getElem (by omega)] at h3
    simp only [Option.map_some, Option.some.injEq, e2] at h3
    have h4 : (l[i]'(by omega) : Int) = k := by injection h3 with h3; injection h3
    rw [List.getElem?_eq_getElem (by rw [hlen, hn]; exact hi)]
    simp only [List.cons.injEq, and_true] at e1
    rw [e1, wc, List.getElem?_map, List.getElem?_eq_getElem (by omega), ← h4]
    rfl
  · rw [List.getElem?_eq_none (by omega), List.getElem?_eq_none (by rw [wc_length]; omega)]
set_option maxRecDepth 100000 in
theorem tab_of_laid {W : World} (h : laidMetH Tryz.prog [("coxswain/digest.start", Rows.laid_coxswain_digest_start), ("coxswain/digest.key", Rows.laid_coxswain_digest_key)] W) : Tab W := by
  rw [MakeChecks.laidMetH_plain _ _ _ (by kernel_rfl)] at h
  obtain ⟨ps, ⟨g0, t0, cs0, f0, p0, q0, hg0, ht0, hv0, hd0, ⟨g1, t1, cs1, f1, p1, q1, hg1, ht1, hv1, hd1, _, _⟩, _⟩, _, _⟩ := h
  obtain rfl := Option.some.inj (gStart.symm.trans hg0)
  obtain rfl := Option.some.inj (gKey.symm.trans hg1)
  obtain rfl := Option.some.inj (tStart.symm.trans ht0)
  obtain rfl := Option.some.inj (tKey.symm.trans ht1)
  have e0 := words_of (l := startN.l) Tryz.underlying261 (by kernel_rfl) hd0
  have e1 := words_of (l := keyN) Tryz.underlying311 (by kernel_rfl) hd1
  have c0 : ∀ j u, (wc startN.l)[j]? = some u → W.cell? ⟨0, j, none⟩ = some u := fun j u hu => by
    rw [World.var?_cell hg0 hv0 j, ← Array.getElem?_toList, e0, hu]
  have c1 : ∀ j u, (wc keyN)[j]? = some u → W.cell? ⟨2, j, none⟩ = some u := fun j u hu => by
    rw [World.var?_cell hg1 hv1 j, ← Array.getElem?_toList, e1, hu]
  exact ⟨c0, c1, World.block_lt_of_cell? W _ (c1 0 _ rfl), World.block_lt_of_cell? W _ (c0 0 _ rfl)⟩
end
theorem ownKn : ownKnob Tryz.prog.godebug = none := by kernel_rfl
theorem laidOutA : laidOutB Tryz.prog = true := by kernel_rfl
set_option maxRecDepth 100000 in
theorem door_met (os : Os) (args : Array Value) : laidMetH Tryz.prog [("coxswain/digest.start", Rows.laid_coxswain_digest_start), ("coxswain/digest.key", Rows.laid_coxswain_digest_key)] ((World.doorLaid Tryz.prog 19 os).forCall (fun _ _ => 0) ⟨#[], args, []⟩).memory :=
  laidMetH_of_parts3 (fuel := 8) (laidMet_of_run' 8 (by kernel_rfl) (by kernel_rfl)) (by kernel_rfl) (by kernel_rfl)
set_option maxRecDepth 100000 in
theorem spot_of_ok {W : World} {base : Nat} {t e : TypeId} (ht : Tryz.prog.underlying t = some (.slice e)) {A : Option Addr} {n c : Nat} (h : Value.okWide Tryz.prog W .any base t (.slice A n c)) : ∀ a, A = some a → a.spot = none := by
  rintro a rfl
  simp only [Value.okWide, ht, Cell.okWide, Cell.ok] at h
  exact h.2.2.2.1
end Go.Proofs.YtpehmlfghddnaaaGreatDoor
