/- coxswainlaw14.PathHeights: whatever the arguments: the call returns true; they read behind it as before. The two tables of digest are as the program's text lays them (the card ties that); no other condition. -/
import Derived.Test.YtcohdfkdhdhegaaGreatDoorPbBI
import Derived.Test.YtcohdfkdhdhegaaGreatDoorPbBJ
import Derived.Test.YtcohdfkdhdhegaaGreatDoorPbBK
import Derived.JoinedOf
import Derived.SevenTiedAt
import Derived.Stop.Joined
import Derived.Test.YtcohdfkdhdhegaaGreatDoorCards
import Derived.Test.YtcohdfkdhdhegaaGreatDoorTie
import Derived.ChangeSame
import Derived.ChangeVars
import Derived.RowKitTokens
import Derived.LaidHandle
namespace Go.Proofs.YtcohdfkdhdhegaaGreatDoor
open Go.RowKit Go.Maps

/-- The document's list and its chain, and a tipset in a variable. -/
structure HtS (w W : World) (D : List LB) (L : List LRH) (vl : Value) (g : Nat) (tv : Value) (A : List ID) (v : Value) (xs : List LNS) : Prop where
  lst : Sl rbE (fun _ => True) W vl L
  at_ : ∀ y ∈ L, y.At (fun _ => True) W
  b0 : W.heap[g]? = some (.cells #[tv] 52 (0, 0))
  tip : TipIs (fun _ => True) W (hdrs D) tv A
  row : Sl nsE (fun _ => True) W v xs
  rat : ∀ x ∈ xs, x.At (fun _ => True) W
  below : Below w.heap.size w W
theorem HtS.next {w W W' : World} {D : List LB} {L : List LRH} {vl : Value} {g : Nat} {tv : Value} {A : List ID} {v : Value} {xs : List LNS} (h : HtS w W D L vl g tv A v xs) (hb : Below W.heap.size W W') : HtS w W' D L vl g tv A v xs :=
  ⟨h.lst.below hb, fun y hy => Sl.below (h.at_ y hy) hb, (hb.block _ (Array.getElem?_eq_some_iff.1 h.b0).1).trans h.b0, h.tip.below hb, h.row.below hb, fun y hy => Sl.below (h.rat y hy) hb, h.below.trans (hb.mono h.below.size)⟩
theorem chain_at_none {G : List Hdr} (g : GoodG G) {T : List ID} (hT : TipOf G T) {k : Int} (h : ∀ (i : Nat) (F : List ID), (chainG G T)[i]? = some F → k < hgtG G F) : atG G T k = [] ∧ k < 0 := by
  have h1 : ∀ F ∈ chainG G T, k < hgtG G F := fun F hF => by
    obtain ⟨i, hi⟩ := List.getElem?_of_mem hF
    exact h i F hi
  refine ⟨?_, by have := h1 _ (g.root_in T hT); rw [g.root_hgt] at this; exact this⟩
  unfold atG
  rw [List.find?_eq_none.2 fun x hx => by have := h1 x hx; simp; omega]
  rfl
theorem chain_at_some {G : List Hdr} {T F : List ID} {k : Int} {i : Nat} (hi : (chainG G T)[i]? = some F) (h : ∀ (j : Nat) (E : List ID), j < i → (chainG G T)[j]? = some E → k < hgtG G E) (hF : hgtG G F ≤ k) : atG G T k = F := by
  have hl : i < (chainG G T).length := (List.getElem?_eq_some_iff.1 hi).1
  refine atG_split (pre := (chainG G T).take i) (rest := (chainG G T).drop (i + 1)) ?_ (fun x hx => ?_) hF
  · have h1 : (chainG G T)[i] = F := (List.getElem?_eq_some_iff.1 hi).2
    rw [← h1, ← List.drop_eq_getElem_cons hl, List.take_append_drop]
  · obtain ⟨j, hj⟩ := List.getElem?_of_mem hx
    rw [List.getElem?_take] at hj
    split at hj
    · rename_i hji; exact h j x hji hj
    · cases hj

set_option maxRecDepth 100000 in
set_option maxHeartbeats 4000000 in
theorem heights_any (w : World) (t : Value) (l : List LSD) (ok ok' : Nat → Prop) (hl : Sl sdE ok w t l) (hf : ∀ y ∈ l, y.At ok' w ∧ SeedOk y.s) (ht : Tab w) (xi xh : Int) :
    Calls Tryz.prog 8 #[t, .int .i64 xi, .int .i64 xh] w fun e w' => e = .returned (.bool true) ∧ Below w.heap.size w w' := by
  have HL := Lib.hid hl
  have HF := Lib.hid hf
  have HT := Lib.hid ht
  clear hl hf ht
  go_enter Tryz.func8, Tryz.ntmps8
  go_upto_region 3 with (go_at_call 59; refine (awake14_any _ HT.out).mono ?_; rintro e w1 ⟨rfl, hb1⟩; have HB1 := Lib.hid hb1; clear hb1)
  go_upto_region 4 with (go_at_call 43; refine (made_any2 w1 t l ok ok' (HL.out.below HB1.out) (fun y hy => ⟨(HF.out y hy).1.below HB1.out, (HF.out y hy).2⟩) 16 (by decide) (HT.out.below HB1.out)).mono ?_; rintro e w2 ⟨p, b1, b2, D, vh, hs, vl, L, va, all, rfl, hmd, hL, hva, hall, hpos, hlen⟩; obtain ⟨Al, cl, rfl, -, -⟩ := hmd.list.form; obtain ⟨Aa, ca, rfl, -, -⟩ := hva.form; have HD2 := Lib.hid (And.intro (AllAt.mk hmd.dag hmd.fine hmd.both hva hall hpos (by omega)) (And.intro hmd.list hmd.lat)); have HB2 := Lib.hid (HB1.out.trans (hmd.below.mono HB1.out.size)); have HLL := Lib.hid (And.intro hL hmd.both.same); clear hmd hL hva hall hpos hlen)
  have hallp := HD2.out.1.pos
  have halln := HD2.out.1.len
  have hDL : D.length ≤ 1000000 := by have h1 := congrArg List.length HLL.out.2; simp [hdrs, rhs] at h1; have := HLL.out.1; omega
  have HBO := Lib.hid HD2.out.1.both
  have GG := HBO.out.good
  obtain ⟨rr, hrr, q1, q2, j, hj, hidx⟩ := pick_ix2 xi all.length hallp halln
  have hw1 : IntKind.i64.wrap (rr + all.length) = rr + all.length := IntWalk.i64_in _ (by omega)
  have HR := Lib.hid hrr
  have HX := Lib.hid hidx
  clear hrr hidx
  obtain ⟨y, hy⟩ : ∃ y, all[j]? = some y := ⟨_, List.getElem?_eq_getElem hj⟩
  have HYM := Lib.hid (List.mem_of_getElem? hy)
  obtain ⟨T, hT, hkT, hnT⟩ := named_tip HBO.out (HD2.out.1.at_ y HYM.out).2
  have HNT : Hid (NamT (hdrs D) y.ns T) := Lib.hid ⟨hT, hnT⟩
  have HNI : Hid (NamedIn L y.ns) := Lib.hid (HD2.out.1.at_ y HYM.out).2
  have HKT := Lib.hid hkT
  obtain ⟨ba, oa, e0, -, -, hcy⟩ := HD2.out.1.row.at_ j y hy
  cases e0
  have HCY : Hid (w2.cell? ⟨ba, oa + j, none⟩ = some y.v) := Lib.hid (by have := hcy 0 _ rfl; rwa [Nat.add_zero, show nsE.k = 1 from rfl, Nat.mul_one] at this)
  obtain ⟨k, hk⟩ : ∃ k : Int, max (-2) (min xh 100) = k := ⟨_, rfl⟩
  have hk0 : -2 ≤ k ∧ k ≤ 100 := by omega
  clear hcy hy hkT hnT
  go_upto_region 9 with (go_at_call 44; refine (pnew_any w2 p b1 b2 D _ HD2.out.1.dag HD2.out.1.fine HD2.out.1.both.good 8).mono ?_; rintro e w4 ⟨pp, rfl, -, hpa, hb4⟩; have HPA := Lib.hid hpa; have HD4 := Lib.hid (And.intro (HD2.out.1.below hb4) (And.intro (HD2.out.2.1.below hb4) fun y hy => Sl.below (HD2.out.2.2 y hy) hb4)); have HB4 := Lib.hid (HB2.out.trans (hb4.mono HB2.out.size)); have HCY4 := Lib.hid ((hb4.cell (cell_lt HCY.out)).trans HCY.out); clear hb4 hpa)
  have hcy0 := HCY4.out
  have HOF := Lib.hid (of_known w4 p b1 b2 D _ _ HD4.out.1.dag HD4.out.1.fine y (HD4.out.1.at_ y HYM.out).1 T hT HNT.out.ns HKT.out)
  clear HCY HB2 HD2 HLL
  go_upto_region 10 with (first
    | (refine wpl_exec rfl (.int .i64 rr) ((exec_rem 3 3 (.tmp 30) (.tmp 32) rfl xi all.length rfl rfl (by omega) (by rw [HR.out]; constructor <;> omega)).trans (by rw [HR.out])) ?_)
    | (refine wpl_exec rfl (.int .i64 (j : Int)) ((exec_rem 3 3 (.tmp 36) (.tmp 38) rfl (rr + all.length) all.length rfl rfl (by omega) (by rw [HX.out]; constructor <;> omega)).trans (by rw [HX.out])) ?_))
  go_upto_region 11 with fail
  clear hcy0 hw1
  go_upto_region 12 with (first
    | (go_at_call 46; refine HOF.out.mono ?_; rintro e w8 ⟨tv, rfl, hth, hb8⟩; have HTV := Lib.hid hth; have HPA8 := Lib.hid (HPA.out.below hb8); have HB8 := Lib.hid hb8; clear hb8 hth)
    | (go_at_call 60; refine (at_any w8 pp p b1 b2 D _ _ HPA8.out.toD HPA8.out.dag HPA8.out.fine HPA8.out.good tv T HNT.out.tip HTV.out k).mono ?_; rintro e w9 ⟨t2, rfl, ht2, hb9⟩; have HT2 := Lib.hid (ht2.mono (ok' := fun _ => True) fun _ _ => trivial); have HB9 := Lib.hid (HB8.out.trans (hb9.mono HB8.out.size)); clear ht2 hb9)
    | (refine wpl_store_new rfl 52 _ _ rfl rfl [t2] rfl _ _ rfl HT2.out.one tip_size ?_))
  have hbA : Below w9.heap.size w9 (w9.alloc (.cells #[t2] 52)) := (Below.refl _ _).alloc (Nat.le_refl _) _
  have HBX : Hid ((w9.alloc (.cells #[t2] 52)).heap[w9.heap.size]? = some (.cells #[t2] 52 (0, 0))) := Lib.hid (heap_alloc_new w9 _)
  have HTA := Lib.hid (HT2.out.below hbA)
  have HBA := Lib.hid (HB9.out.trans (hbA.mono HB9.out.size))
  have HBW := Lib.hid (HB4.out.trans (HBA.out.mono HB4.out.size))
  have HLA : Hid (Sl rbE (fun _ => True) (w9.alloc (.cells #[t2] 52)) (.slice Al L.length cl) L ∧ (∀ y ∈ L, y.At (fun _ => True) (w9.alloc (.cells #[t2] 52))) ∧ y.At (fun _ => True) (w9.alloc (.cells #[t2] 52))) := Lib.hid ⟨(HD4.out.2.1.below HBA.out).mono fun _ _ => trivial, fun y hy => (Sl.below (HD4.out.2.2 y hy) HBA.out).mono fun _ _ => trivial, (Sl.below (HD4.out.1.at_ y HYM.out).1 HBA.out).mono fun _ _ => trivial⟩
  clear hbA HB9 HB8 HT2 HTV HPA8 HOF HPA HB4 HD4 HCY4 HBA
  simp only [Act.put]
  generalize w9.alloc (.cells #[t2] 52) = WA at HBX HTA HBW HLA ⊢
  generalize w9.heap.size = g at HBX ⊢
  have HCH := Lib.hid (chain14_any WA D L HBO.out (.slice Al L.length cl) _ _ HLA.out.1 HLA.out.2.1 y HLA.out.2.2 T HNT.out HNI.out hDL)
  go_wp2_with (go_at_call 53; refine HCH.out.mono ?_; rintro e w10 ⟨v, rfl, xs, hxs, hm⟩; obtain ⟨Ax, cx, rfl, -⟩ := own_slice hxs.own; have HXS := Lib.hid hxs; have HM := Lib.hid hm; clear hxs hm)
  have HS0 : Hid (HtS w w10 D L (.slice Al L.length cl) g t2 (atG (hdrs D) T k) (.slice Ax xs.length cx) xs) := Lib.hid ⟨HLA.out.1.below HXS.out.below, fun y hy => Sl.below (HLA.out.2.1 y hy) HXS.out.below, (HXS.out.below.block _ (Array.getElem?_eq_some_iff.1 HBX.out).1).trans HBX.out, HTA.out.below HXS.out.below, Sl.mono (Sl.of_own (E := nsE) HXS.out.own) fun _ _ => trivial, fun x hx => Sl.mono (HXS.out.at_ x hx) fun _ _ => trivial, HBW.out.trans (HXS.out.below.mono HBW.out.size)⟩
  have HLN : Hid (xs.length = (chainG (hdrs D) T).length) := Lib.hid (by have := congrArg List.length HM.out; simpa using this)
  have hxl : xs.length ≤ 1000000 := by rw [HLN.out]; exact Nat.le_trans (GG.chain_len HNT.out.tip) (by simpa [hdrs] using hDL)
  clear HXS HBX HTA HBW HLA HCH
  go_loopw [14, 55] (fun c14 c55 W => ∃ i : Nat, i ≤ xs.length ∧ c55 = .int .i64 (i : Int) ∧ (∀ (m : Nat) (E : List ID), m < i → (chainG (hdrs D) T)[m]? = some E → k < hgtG (hdrs D) E) ∧ HtS w W D L (.slice Al L.length cl) g t2 (atG (hdrs D) T k) (.slice Ax xs.length cx) xs) (fun _ c55 _ => xs.length - (intOf c55).toNat)
  case atStart => exact ⟨0, by omega, rfl, fun m E hm => by omega, HS0.out⟩
  case round =>
    obtain ⟨i, hi, rfl, hlow, hS⟩ := hrel
    have HS := Lib.hid hS
    have HLOW := Lib.hid hlow
    clear hS hlow HS0
    by_cases hil : i < xs.length
    · obtain ⟨x, hx⟩ : ∃ x, xs[i]? = some x := ⟨_, List.getElem?_eq_getElem hil⟩
      have HXM := Lib.hid (List.mem_of_getElem? hx)
      obtain ⟨F, hF, hNF⟩ := chain_nth GG HNT.out.tip HM.out hx
      obtain ⟨bx, ox, rfl, -, -, hcx⟩ := HS.out.row.at_ i x hx
      have hcx0 : wr.cell? ⟨bx, ox + i, none⟩ = some x.v := by have := hcx 0 _ rfl; rwa [Nat.add_zero, show nsE.k = 1 from rfl, Nat.mul_one] at this
      have HNF := Lib.hid hNF
      have HFE := Lib.hid hF
      have HHT := Lib.hid (height14_any wr D L HBO.out (.slice Al L.length cl) _ _ HS.out.lst x (HS.out.rat x HXM.out) F hNF)
      obtain ⟨hg, hhg⟩ : ∃ hg, hgtG (hdrs D) F = hg := ⟨_, rfl⟩
      rw [hhg] at HHT
      have HHG := Lib.hid hhg
      clear hx hF hNF hcx hhg
      by_cases hle : hg ≤ k
      · have hat : atG (hdrs D) T k = F := chain_at_some HFE.out HLOW.out (by rw [HHG.out]; exact hle)
        rw [hat] at HS
        obtain ⟨kf, hkf⟩ : ∃ kf, keyB F = kf := ⟨_, rfl⟩
        have HKK : Hid (∀ W, Below wr.heap.size wr W → Calls Tryz.prog 54 #[tipV t2] W fun e w' => e = .returned (.string kf) ∧ Below W.heap.size W w') := Lib.hid fun W hb => by rw [← hkf]; exact key_is (HS.out.tip.below hb) (.inr HNF.out.tip)
        have HJJ : Hid (∀ W, Below wr.heap.size wr W → Calls Tryz.prog 26 #[x.v] W fun e w' => e = .returned (.string kf) ∧ W = w') := Lib.hid fun W hb => by rw [← hkf]; exact join_named W x _ (Sl.below (HS.out.rat x HXM.out) hb) HNF.out
        have hqf : (kf.toList == kf.toList) = true := by rw [str_beq]; exact decide_eq_true rfl
        clear hkf hat
        go_wp2_with (first
          | (go_at_call 61; refine HHT.out.mono ?_; rintro e w11 ⟨rfl, hb⟩; have HB11 := Lib.hid hb; have HG11 := Lib.hid ((hb.block _ (Array.getElem?_eq_some_iff.1 HS.out.b0).1).trans HS.out.b0); clear hb)
          | (refine wpl_tip rfl _ rfl _ rfl _ HG11.out ?_)
          | (go_at_call 54; refine (HKK.out _ HB11.out).mono ?_; rintro e w12 ⟨rfl, hb⟩; have HB12 := Lib.hid (HB11.out.trans (hb.mono HB11.out.size)); clear hb)
          | (go_at_call 26; refine (HJJ.out _ HB12.out).mono ?_; rintro e w13 ⟨rfl, rfl⟩))
        go_ret
        exact ⟨rfl, HS.out.below.trans (HB12.out.mono HS.out.below.size)⟩
      · go_wp2_with (go_at_call 61; refine HHT.out.mono ?_; rintro e w11 ⟨rfl, hb⟩; have HB11 := Lib.hid hb; clear hb)
        go_roundw
        case rel => exact ⟨i + 1, by omega, by go_num, fun m E hm hE => by
          rcases Nat.lt_succ_iff_lt_or_eq.1 hm with h | h
          · exact HLOW.out m E h hE
          · subst h
            rw [HFE.out] at hE
            cases hE
            rw [HHG.out]; omega, HS.out.next HB11.out⟩
        case measure => simp [intOf]; omega
    · have hie : i = xs.length := by omega
      subst hie
      have hnone := chain_at_none GG HNT.out.tip (k := k) fun m E hE => HLOW.out m E (by have := (List.getElem?_eq_some_iff.1 hE).1; rw [HLN.out]; exact this) hE
      have hneg := hnone.2
      rw [hnone.1] at HS
      have HZ := Lib.hid (zero_is HS.out.tip)
      have hg0 := HS.out.b0
      clear hnone
      go_wp2_with (first
        | (refine wpl_tip rfl _ rfl _ rfl _ hg0 ?_)
        | (go_at_call 30; refine HZ.out.mono ?_; rintro e w11 ⟨rfl, hb⟩; have HB11 := Lib.hid hb; clear hb))
      go_ret
      exact ⟨by first | rfl | simp; omega, HS.out.below.trans (HB11.out.mono HS.out.below.size)⟩
end Go.Proofs.YtcohdfkdhdhegaaGreatDoor
namespace Go.Proofs.YtcohdfkdhdhegaaGreatDoor.pathHeights
open Go
set_option maxRecDepth 100000
theorem k0 : (fun (_ : Program) (_ : FuncId) (_ : Func) (s : ChangeSpec) (c : OpenClaim) => (c.wf (OpenSpec.ofChange s) : Bool)) Tryz.prog 8 Tryz.f8 Rows.pathHeightsSpec Rows.pathHeightsRow = true := by kernel_rfl
theorem k1 : (fun (P : Program) (_ : FuncId) (_ : Func) (_ : ChangeSpec) (_ : OpenClaim) => (laidOutB P : Bool)) Tryz.prog 8 Tryz.f8 Rows.pathHeightsSpec Rows.pathHeightsRow = true := by kernel_rfl
theorem k2 : (fun (P : Program) (_ : FuncId) (_ : Func) (_ : ChangeSpec) (_ : OpenClaim) => (mapsRowed P : Bool)) Tryz.prog 8 Tryz.f8 Rows.pathHeightsSpec Rows.pathHeightsRow = true := by kernel_rfl
theorem k3 : (fun (P : Program) (_ : FuncId) (fn : Func) (_ : ChangeSpec) (_ : OpenClaim) => (fn.params.all (P.readableRec ·) : Bool)) Tryz.prog 8 Tryz.f8 Rows.pathHeightsSpec Rows.pathHeightsRow = true := by kernel_rfl
theorem k4 : (fun (P : Program) (_ : FuncId) (_ : Func) (s : ChangeSpec) (c : OpenClaim) => (namedTie P c.named s.vars : Bool)) Tryz.prog 8 Tryz.f8 Rows.pathHeightsSpec Rows.pathHeightsRow = true := by kernel_rfl
theorem k5 : (fun (_ : Program) (_ : FuncId) (_ : Func) (_ : ChangeSpec) (c : OpenClaim) => ((c.stops == []) : Bool)) Tryz.prog 8 Tryz.f8 Rows.pathHeightsSpec Rows.pathHeightsRow = true := by kernel_rfl
theorem k6 : (fun (P : Program) (_ : FuncId) (_ : Func) (_ : ChangeSpec) (_ : OpenClaim) => ((P.stops == []) : Bool)) Tryz.prog 8 Tryz.f8 Rows.pathHeightsSpec Rows.pathHeightsRow = true := by kernel_rfl
theorem k7 : (fun (_ : Program) (_ : FuncId) (_ : Func) (_ : ChangeSpec) (c : OpenClaim) => ((c.knobs == []) : Bool)) Tryz.prog 8 Tryz.f8 Rows.pathHeightsSpec Rows.pathHeightsRow = true := by kernel_rfl
theorem k8 : (fun (P : Program) (_ : FuncId) (_ : Func) (_ : ChangeSpec) (_ : OpenClaim) => ((P.stopKnobs == []) : Bool)) Tryz.prog 8 Tryz.f8 Rows.pathHeightsSpec Rows.pathHeightsRow = true := by kernel_rfl
theorem k9 : (fun (P : Program) (f : FuncId) (_ : Func) (_ : ChangeSpec) (c : OpenClaim) => ((c.inPlace == P.inPlace f) : Bool)) Tryz.prog 8 Tryz.f8 Rows.pathHeightsSpec Rows.pathHeightsRow = true := by kernel_rfl
theorem k10 : (fun (P : Program) (f : FuncId) (_ : Func) (_ : ChangeSpec) (c : OpenClaim) => ((c.unfollowed == P.unfollowed f) : Bool)) Tryz.prog 8 Tryz.f8 Rows.pathHeightsSpec Rows.pathHeightsRow = true := by kernel_rfl
theorem k11 : (fun (P : Program) (f : FuncId) (_ : Func) (_ : ChangeSpec) (c : OpenClaim) => ((c.recurses == P.recurses f) : Bool)) Tryz.prog 8 Tryz.f8 Rows.pathHeightsSpec Rows.pathHeightsRow = true := by kernel_rfl
theorem k12 : (fun (P : Program) (f : FuncId) (_ : Func) (_ : ChangeSpec) (c : OpenClaim) => ((c.named == P.varsNamed f) : Bool)) Tryz.prog 8 Tryz.f8 Rows.pathHeightsSpec Rows.pathHeightsRow = true := by kernel_rfl
theorem k13 : (fun (P : Program) (_ : FuncId) (fn : Func) (s : ChangeSpec) (c : OpenClaim) => ((c.maps == (fn.params.toList ++ s.plain.varTypes P).any (P.mapsRec ·)) : Bool)) Tryz.prog 8 Tryz.f8 Rows.pathHeightsSpec Rows.pathHeightsRow = true := by kernel_rfl
theorem k14 : (fun (P : Program) (_ : FuncId) (fn : Func) (s : ChangeSpec) (c : OpenClaim) => ((c.ifaces == (fn.params.toList ++ s.plain.varTypes P).any (P.ifacesRec ·)) : Bool)) Tryz.prog 8 Tryz.f8 Rows.pathHeightsSpec Rows.pathHeightsRow = true := by kernel_rfl
theorem k15 : (fun (P : Program) (_ : FuncId) (fn : Func) (_ : ChangeSpec) (c : OpenClaim) => ((c.mapsOut == P.mapsAmong fn.resultTypes.toList) : Bool)) Tryz.prog 8 Tryz.f8 Rows.pathHeightsSpec Rows.pathHeightsRow = true := by kernel_rfl
theorem k16 : (fun (P : Program) (_ : FuncId) (fn : Func) (s : ChangeSpec) (c : OpenClaim) => ((c.loops == (fn.params.toList ++ s.plain.varTypes P).any (P.loopsFrom ·)) : Bool)) Tryz.prog 8 Tryz.f8 Rows.pathHeightsSpec Rows.pathHeightsRow = true := by kernel_rfl
theorem k17 : (fun (P : Program) (_ : FuncId) (fn : Func) (s : ChangeSpec) (c : OpenClaim) => ((c.wideKeys == (fn.params.toList ++ s.plain.varTypes P ++ fn.resultTypes.toList).any (P.wideKeysFrom ·)) : Bool)) Tryz.prog 8 Tryz.f8 Rows.pathHeightsSpec Rows.pathHeightsRow = true := by kernel_rfl
theorem k18 : (fun (P : Program) (_ : FuncId) (_ : Func) (s : ChangeSpec) (_ : OpenClaim) => (s.vars.all (P.varReadable ·) : Bool)) Tryz.prog 8 Tryz.f8 Rows.pathHeightsSpec Rows.pathHeightsRow = true := by kernel_rfl
theorem k19 : (fun (P : Program) (_ : FuncId) (fn : Func) (_ : ChangeSpec) (_ : OpenClaim) => (fn.resultTypes.all (fun t => P.readableRec t && decide (t < P.types.size)) : Bool)) Tryz.prog 8 Tryz.f8 Rows.pathHeightsSpec Rows.pathHeightsRow = true := by kernel_rfl
theorem k20 : (fun (P : Program) (_ : FuncId) (fn : Func) (_ : ChangeSpec) (c : OpenClaim) => ((c.ifacesOut == fn.resultTypes.toList.any (P.ifacesRec ·)) : Bool)) Tryz.prog 8 Tryz.f8 Rows.pathHeightsSpec Rows.pathHeightsRow = true := by kernel_rfl
theorem k21 : (fun (P : Program) (_ : FuncId) (fn : Func) (_ : ChangeSpec) (c : OpenClaim) => ((c.loopsOut == fn.resultTypes.toList.any (P.loopsFrom ·)) : Bool)) Tryz.prog 8 Tryz.f8 Rows.pathHeightsSpec Rows.pathHeightsRow = true := by kernel_rfl
theorem k22 : (fun (P : Program) (_ : FuncId) (_ : Func) (_ : ChangeSpec) (c : OpenClaim) => ((c.plainKeys == P.plainKeys) : Bool)) Tryz.prog 8 Tryz.f8 Rows.pathHeightsSpec Rows.pathHeightsRow = true := by kernel_rfl
theorem k23 : (fun (_ : Program) (_ : FuncId) (_ : Func) (_ : ChangeSpec) (c : OpenClaim) => (c.shortTexts.isNone : Bool)) Tryz.prog 8 Tryz.f8 Rows.pathHeightsSpec Rows.pathHeightsRow = true := by kernel_rfl
theorem k24 : (fun (P : Program) (_ : FuncId) (_ : Func) (_ : ChangeSpec) (_ : OpenClaim) => (P.stopsHeard : Bool)) Tryz.prog 8 Tryz.f8 Rows.pathHeightsSpec Rows.pathHeightsRow = true := by kernel_rfl
theorem k25 : (fun (P : Program) (_ : FuncId) (_ : Func) (_ : ChangeSpec) (_ : OpenClaim) => (P.mayEnter : Bool)) Tryz.prog 8 Tryz.f8 Rows.pathHeightsSpec Rows.pathHeightsRow = true := wds.mayEnter_
theorem k26 : (fun (P : Program) (_ : FuncId) (_ : Func) (_ : ChangeSpec) (c : OpenClaim) => ((c.lifted == P.liftsFinal) : Bool)) Tryz.prog 8 Tryz.f8 Rows.pathHeightsSpec Rows.pathHeightsRow = true := by show (Rows.pathHeightsRow.lifted == Tryz.prog.liftsFinal) = true; rw [wds.liftsFinal_]; kernel_rfl
theorem k27 : (fun (P : Program) (_ : FuncId) (_ : Func) (_ : ChangeSpec) (c : OpenClaim) => ((P.make == some c.make) : Bool)) Tryz.prog 8 Tryz.f8 Rows.pathHeightsSpec Rows.pathHeightsRow = true := by show (Tryz.prog.make == some Rows.pathHeightsRow.make) = true; rw [wds.make_]; kernel_rfl
theorem k28 : (fun (P : Program) (_ : FuncId) (fn : Func) (_ : ChangeSpec) (c : OpenClaim) => ((c.kinds == (if c.domain.isEmpty then [] else fn.params.toList.map fun t => match P.underlying t with | some (.int k) => some k | _ => none)) : Bool)) Tryz.prog 8 Tryz.f8 Rows.pathHeightsSpec Rows.pathHeightsRow = true := by kernel_rfl
theorem k29 : (fun (_ : Program) (_ : FuncId) (_ : Func) (_ : ChangeSpec) (c : OpenClaim) => ((c.pinned == c.pinnedBy) : Bool)) Tryz.prog 8 Tryz.f8 Rows.pathHeightsSpec Rows.pathHeightsRow = true := by kernel_rfl
theorem k30 : (fun (P : Program) (_ : FuncId) (fn : Func) (s : ChangeSpec) (c : OpenClaim) => ((c.veiled == (fn.params.toList ++ s.plain.varTypes P ++ fn.resultTypes.toList).any (P.veiledRec ·)) : Bool)) Tryz.prog 8 Tryz.f8 Rows.pathHeightsSpec Rows.pathHeightsRow = true := by kernel_rfl
theorem k31 : (fun (P : Program) (_ : FuncId) (fn : Func) (s : ChangeSpec) (c : OpenClaim) => (c.veiledFits P fn.params.toList (fn.params.toList ++ s.plain.varTypes P ++ fn.resultTypes.toList) : Bool)) Tryz.prog 8 Tryz.f8 Rows.pathHeightsSpec Rows.pathHeightsRow = true := by kernel_rfl
theorem both {a b : Bool} (ha : a = true) (hb : b = true) : (a && b) = true := by rw [ha, hb]; rfl
theorem closed : joinedFacts Tryz.pinned.checked.prog 8 Tryz.f8 Rows.pathHeightsSpec Rows.pathHeightsRow = true := (both (both (both (both (both (both (both (both (both (both (both (both (both (both (both (both (both (both (both (both (both (both (both (both (both (both (both (both (both (both (both k0 k1) k2) k3) k4) k5) k6) k7) k8) k9) k10) k11) k12) k13) k14) k15) k16) k17) k18) k19) k20) k21) k22) k23) k24) k25) k26) k27) k28) k29) k30) k31)
theorem named : Tryz.pinned.checked.prog.funcNamed Rows.pathHeightsRow.func = some 8 := by kernel_rfl
theorem inst : Tryz.f8.isInstance Tryz.pinned.checked.prog Rows.pathHeightsRow.origin Rows.pathHeightsRow.targs := of_decide_eq_true (by kernel_rfl)
theorem wrap : Tryz.f8.isWrapper Tryz.pinned.checked.prog Rows.pathHeightsRow.wrapper Rows.pathHeightsRow.mainSum := by unfold Func.isWrapper; rw [if_neg (of_decide_eq_false (by kernel_rfl))]; exact ⟨rfl, rfl⟩
theorem wfT : Rows.pathHeightsRow.wfByText (OpenSpec.ofChange Rows.pathHeightsSpec) = true := by kernel_rfl
theorem mainT : Tryz.pinned.checked.prog.mainIs = some (Rows.pathHeightsCard.stood.harness.1, Rows.pathHeightsCard.stood.harness.2.toList) := wds.told (by kernel_rfl) (by kernel_rfl)
theorem looksT : true = Tryz.prog.looks [] := by kernel_rfl
theorem goesT : false = Rows.pathHeightsRow.goesBy Tryz.pinned.checked.prog := by kernel_rfl
theorem stand0 : Tryz.prog.wantsStandIn 22 = false := by kernel_rfl
theorem stand1 : Tryz.prog.wantsStandIn 3 = false := by kernel_rfl
end Go.Proofs.YtcohdfkdhdhegaaGreatDoor.pathHeights
namespace Go.Proofs.YtcohdfkdhdhegaaGreatDoor.pathHeights
open Go.ChangeShapes Go.WideShapes Go.ChangeAt Go.RowKit

set_option maxRecDepth 100000 in
theorem lifted (os : Os) (started : os.Started) (H : Type) (enc : TypeId × Value → H) :
    ReturnsInHanded {} Tryz.checked os 8 .any (fun w args => (Rows.pathHeightsSpec.pre enc Tryz.prog Tryz.f8 [] false w args ∧ laidMetH Tryz.prog Rows.pathHeightsRow.laid w) ∧ sizedMet enc Tryz.prog Tryz.f8 (OpenSpec.ofChange Rows.pathHeightsSpec) false w args)
      (Rows.pathHeightsSpec.post enc Tryz.prog Tryz.f8 false true false false) := by
  refine returnsInHanded_of_change_and (C := Tryz.checked) (X := fun w _ => laidMetH Tryz.prog Rows.pathHeightsRow.laid w) (fun _ _ _ hh h => h.of_heap hh) ownKn started (by kernel_rfl) Tryz.func8
    (ChangeSpec.witness_shaped (enc := enc) (C := Tryz.checked) (os := os) (X := fun w _ => laidMetH Tryz.prog Rows.pathHeightsRow.laid w) false (World.doorLaid Tryz.prog 19 os) #[.slice none 0 0, .int .i64 0, .int .i64 0] 8 rfl (World.shaped_of_RefB (by kernel_rfl) (by kernel_rfl)) (by kernel_rfl) (by kernel_rfl) (by kernel_rfl) (door_met os _)) ?_
  intro W base args ds gs before hval0 hW _ hsz0 hL _
  have hval : ∀ (j : Nat) t v, Tryz.f8.params[j]? = some t → args[j]? = some v → Value.okWide Tryz.prog W .any base t v := hval0
  have hsz : (DataW.weightsEach Tryz.prog (Tryz.f8.params.toList ++ Rows.pathHeightsSpec.plain.varTypes Tryz.prog) (ds ++ gs)).all (· ≤ reachBytes) = true := hsz0
  have hW' := hW
  obtain ⟨p, q, hA0, hV, rfl, hfz, hnd⟩ := hW
  have hA : DataW.TrodAll enc Tryz.prog W 0 (fun _ => true) true Tryz.f8.params.toList args.toList ds p := hA0
  rw [Tryz.params8] at hA hval hsz
  obtain ⟨v0, vs0, d0, ds0, p0, q0, hargs, rfl, rfl, h0, r0⟩ := trodAll_cons hA
  obtain ⟨v1, vs1, d1, ds1, p1, q1, rfl, rfl, rfl, h1, r1⟩ := trodAll_cons r0
  obtain ⟨v2, vs2, d2, ds2, p2, q2, rfl, rfl, rfl, h2, r2⟩ := trodAll_cons r1
  obtain ⟨rfl, rfl, rfl⟩ := trodAll_nil r2
  obtain rfl : args = #[v0, v1, v2] := by cases args; simp_all
  obtain ⟨rfl, rfl⟩ := trodVars_none hV
  have hk0 := hval 0 22 v0 rfl rfl
  obtain ⟨A0, n0, c0, rfl⟩ := okWide_slice Tryz.underlying22 hk0
  have k0 := h0
  have lt0 : ∀ x ∈ p0, x.block < W.heap.size := by obtain ⟨m, hm⟩ := k0; exact DataW.trod_lt m _ _ _ hm
  obtain ⟨fuel0, hf0⟩ := h0
  obtain ⟨l0, hl0, hin0⟩ := open_seeds hf0 fun m hm => of_decide_eq_true (List.all_eq_true.1 hsz m (DataW.weights_mem_each (j := 0) rfl rfl m hm))
  obtain ⟨a1, rfl, rfl, rfl, w1⟩ := open_int Tryz.underlying3 (hval 1 3 v1 rfl rfl) h1
  have hin1 := wf_i64 w1
  obtain ⟨a2, rfl, rfl, rfl, w2⟩ := open_int Tryz.underlying3 (hval 2 3 v2 rfl rfl) h2
  have hin2 := wf_i64 w2
  have hT : Tab W := tab_of_laid hL
  clear hA0 hval0 hsz0 hsz
  refine (heights_any W (.slice A0 n0 c0) l0 _ _ (hl0.strong (spot_of_ok Tryz.underlying22 hk0)) (fun x hx => ⟨(hin0 x hx).at_, (hin0 x hx).ok⟩) hT a1 a2).mono fun e W' ⟨he, bel⟩ => ?_
  subst he
  exact ⟨_, rfl, _, _, _, [], _, [], hW', trodAll_mk1 (shut_bool Tryz.underlying4 _), (trodAll_cons_mk (Below.trod laidOutA (by kernel_rfl) (of_decide_eq_true (by kernel_rfl)) k0 bel lt0) (trodAll_cons_mk (shut_int Tryz.underlying3 w1) (trodAll_cons_mk (shut_int Tryz.underlying3 w2) trodAll_mk0))), rfl, bel.frame _, fun h => by cases h⟩

/-- The row. -/
theorem over : Rows.PathHeightsSaid :=
  OpenClaim.holds_of_wide 8 Tryz.f8 rfl rfl rfl rfl rfl rfl rfl ⟨rfl, rfl, rfl, rfl, rfl⟩ rfl rfl rfl rfl rfl named Tryz.func8 closed inst wrap
    (fun os started H enc _ => lifted os started H enc)

/-- The statement. -/
theorem proved : Rows.PathHeightsCardSaid :=
  Claim7.holds_tied_plain_at .later [] [.data, .data] true Rows.pathHeightsCard.stood.harness true
    over (fun _ h => by cases h) wfT (fun _ h => by cases h) pathHeights_row_tie rfl ⟨rfl, rfl⟩ mainT rfl
    (fun f fn hf hfn => by
      obtain rfl : f = 8 := Option.some.inj (named.symm.trans hf) |>.symm
      obtain rfl : fn = Tryz.f8 := (Option.some.inj (Tryz.func8.symm.trans hfn)).symm
      exact ⟨looksT, fun j t ht => by
        rw [Tryz.params8] at ht
        rcases j with _ | j
        · obtain rfl : 22 = t := by simpa using ht
          exact stand0
        rcases j with _ | j
        · obtain rfl : 3 = t := by simpa using ht
          exact stand1
        rcases j with _ | j
        · obtain rfl : 3 = t := by simpa using ht
          exact stand1
        · simp at ht⟩)
    goesT
#print axioms proved
end Go.Proofs.YtcohdfkdhdhegaaGreatDoor.pathHeights
