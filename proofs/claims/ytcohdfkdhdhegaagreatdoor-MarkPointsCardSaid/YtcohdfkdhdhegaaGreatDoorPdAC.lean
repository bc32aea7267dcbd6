/- coxswainlaw18.MarkPoints. -/
import Derived.Test.YtcohdfkdhdhegaaGreatDoorPbAA
import Derived.Test.YtcohdfkdhdhegaaGreatDoorPbAB
import Derived.Test.YtcohdfkdhdhegaaGreatDoorPbAC
import Derived.Test.YtcohdfkdhdhegaaGreatDoorPbAD
import Derived.Test.YtcohdfkdhdhegaaGreatDoorPbAE
import Derived.Test.YtcohdfkdhdhegaaGreatDoorPbAF
import Derived.Test.YtcohdfkdhdhegaaGreatDoorPbAG
import Derived.Test.YtcohdfkdhdhegaaGreatDoorPbAH
import Derived.Test.YtcohdfkdhdhegaaGreatDoorPbAI
import Derived.Test.YtcohdfkdhdhegaaGreatDoorPbAJ
import Derived.Test.YtcohdfkdhdhegaaGreatDoorPbAK
import Derived.Test.YtcohdfkdhdhegaaGreatDoorPbAL
import Derived.Test.YtcohdfkdhdhegaaGreatDoorPbAM
import Derived.Test.YtcohdfkdhdhegaaGreatDoorPbAN
import Derived.Test.YtcohdfkdhdhegaaGreatDoorPbAO
import Derived.Test.YtcohdfkdhdhegaaGreatDoorPbAP
import Derived.Test.YtcohdfkdhdhegaaGreatDoorPbAQ
import Derived.Test.YtcohdfkdhdhegaaGreatDoorPbAR
import Derived.Test.YtcohdfkdhdhegaaGreatDoorPbAS
import Derived.Test.YtcohdfkdhdhegaaGreatDoorPbAT
import Derived.Test.YtcohdfkdhdhegaaGreatDoorPbAU
import Derived.Test.YtcohdfkdhdhegaaGreatDoorPbAV
import Derived.Test.YtcohdfkdhdhegaaGreatDoorPbAW
import Derived.Test.YtcohdfkdhdhegaaGreatDoorPbAX
import Derived.Test.YtcohdfkdhdhegaaGreatDoorPbAY
import Derived.Test.YtcohdfkdhdhegaaGreatDoorPbAZ
import Derived.Test.YtcohdfkdhdhegaaGreatDoorPbBA
import Derived.Test.YtcohdfkdhdhegaaGreatDoorPbBB
import Derived.Test.YtcohdfkdhdhegaaGreatDoorPbBC
import Derived.Test.YtcohdfkdhdhegaaGreatDoorPbBD
import Derived.Test.YtcohdfkdhdhegaaGreatDoorPbBE
import Derived.Test.YtcohdfkdhdhegaaGreatDoorPbBF
import Derived.Test.YtcohdfkdhdhegaaGreatDoorPbBG
import Derived.Test.YtcohdfkdhdhegaaGreatDoorPbBH
import Derived.Test.YtcohdfkdhdhegaaGreatDoorPbBI
import Derived.Test.YtcohdfkdhdhegaaGreatDoorPbBJ
import Derived.Test.YtcohdfkdhdhegaaGreatDoorPbBK
import Derived.Test.YtcohdfkdhdhegaaGreatDoorPdAA
import Derived.Test.YtcohdfkdhdhegaaGreatDoorPdAB
namespace Go.Proofs.YtcohdfkdhdhegaaGreatDoor
open Go.RowKit Go.Maps

/-- A point in a variable, beside the ways, the document's list and all tipsets. -/
structure PoI (w W : World) (pp p b1 b2 : Nat) (D : List LB) (L : List LRH) (va : Value) (all : List LNS) (vl : Value) (gl gx : Nat) (fv mv : Value) (F M : List ID) : Prop where
  path : PathAt (fun k => k ≠ gx) W pp p b1 b2 D
  ppx : pp ≠ gx
  all : AllAt (fun k => k ≠ gx) W p b1 b2 D L va all
  lst : Sl rbE (fun k => k ≠ gx) W vl L
  at_ : ∀ y ∈ L, y.At (fun k => k ≠ gx) W
  glc : W.cell? ⟨gl, 0, none⟩ = some vl
  gne : gl ≠ gx
  box : W.heap[gx]? = some (.cells #[fv, mv] 91 (0, 0))
  glo : w.heap.size ≤ gx
  fin : TipIs (fun k => k ≠ gx) W (hdrs D) fv F
  mrk : TipIs (fun k => k ≠ gx) W (hdrs D) mv M
  below : Below w.heap.size w W
section
variable {w W W' : World} {pp p b1 b2 : Nat} {D : List LB} {L : List LRH} {va vl : Value} {all : List LNS} {gl gx : Nat} {fv mv fv' mv' : Value} {F M F' M' : List ID}
theorem PoI.next (h : PoI w W pp p b1 b2 D L va all vl gl gx fv mv F M) (hb : Below W.heap.size W W') : PoI w W' pp p b1 b2 D L va all vl gl gx fv mv F M :=
  ⟨h.path.below hb, h.ppx, h.all.below hb, h.lst.below hb, fun y hy => Sl.below (h.at_ y hy) hb, (hb.cell (cell_lt h.glc)).trans h.glc, h.gne, (hb.block _ (Array.getElem?_eq_some_iff.1 h.box).1).trans h.box, h.glo, h.fin.below hb, h.mrk.below hb, h.below.trans (hb.mono h.below.size)⟩
theorem PoI.frx (_ : PoI w W pp p b1 b2 D L va all vl gl gx fv mv F M) (cs : Array Value) : Fr (fun k => k ≠ gx) W (W.setRow gx cs) := ⟨by simp, fun _ hk _ => heap_setRow_ne _ _ _ _ hk⟩
theorem PoI.set (h : PoI w W pp p b1 b2 D L va all vl gl gx fv mv F M) (hf : TipIs (fun k => k ≠ gx) W (hdrs D) fv' F') (hm : TipIs (fun k => k ≠ gx) W (hdrs D) mv' M') : PoI w (W.setRow gx #[fv', mv']) pp p b1 b2 D L va all vl gl gx fv' mv' F' M' := by
  have hfr := h.frx #[fv', mv']
  refine ⟨h.path.fr hfr h.ppx, h.ppx, h.all.fr hfr, h.lst.fr hfr, fun y hy => Sl.fr (h.at_ y hy) hfr, ?_, h.gne, setRow_heap _ _ _ _ _ _ h.box, h.glo, hf.fr hfr, hm.fr hfr, below_setRow h.below h.glo _⟩
  have h1 := h.glc
  unfold World.cell? at h1 ⊢
  rw [heap_setRow_ne _ _ _ _ h.gne]
  exact h1
theorem PoI.up (h : PoI w W pp p b1 b2 D L va all vl gl gx fv mv F M) {k : Nat} (hk : W.heap.size ≤ k) : k ≠ gx := by
  have := (Array.getElem?_eq_some_iff.1 h.box).1
  omega
end

/-- .. and a tipset in a variable. -/
structure PtI (w W : World) (pp p b1 b2 : Nat) (D : List LB) (L : List LRH) (va : Value) (all : List LNS) (vl : Value) (gl gx g2 : Nat) (fv mv : Value) (F M : List ID) (tv : Value) (T : List ID) : Prop where
  i : PoI w W pp p b1 b2 D L va all vl gl gx fv mv F M
  b : W.heap[g2]? = some (.cells #[tv] 52 (0, 0))
  t : TipIs (fun k => k ≠ gx) W (hdrs D) tv T
  ne : g2 ≠ gx
section
variable {w W W' : World} {pp p b1 b2 : Nat} {D : List LB} {L : List LRH} {va vl : Value} {all : List LNS} {gl gx g2 : Nat} {fv mv fv' mv' tv : Value} {F M F' M' T : List ID}
theorem PtI.next (h : PtI w W pp p b1 b2 D L va all vl gl gx g2 fv mv F M tv T) (hb : Below W.heap.size W W') : PtI w W' pp p b1 b2 D L va all vl gl gx g2 fv mv F M tv T := ⟨h.i.next hb, (hb.block _ (Array.getElem?_eq_some_iff.1 h.b).1).trans h.b, h.t.below hb, h.ne⟩
theorem PtI.set (h : PtI w W pp p b1 b2 D L va all vl gl gx g2 fv mv F M tv T) (hf : TipIs (fun k => k ≠ gx) W (hdrs D) fv' F') (hm : TipIs (fun k => k ≠ gx) W (hdrs D) mv' M') : PtI w (W.setRow gx #[fv', mv']) pp p b1 b2 D L va all vl gl gx g2 fv' mv' F' M' tv T :=
  ⟨h.i.set hf hm, (heap_setRow_ne _ _ _ _ h.ne).trans h.b, h.t.fr (h.i.frx _), h.ne⟩
end
theorem join_or {G : List Hdr} (W : World) (z : LNS) (ok : Nat → Prop) (hz : z.At ok W) {M : List ID} (hn : z.ns = M.map Subtype.val) (hM : M = [] ∨ TipOf G M) : Calls Tryz.prog 26 #[z.v] W fun e w' => e = .returned (.string (keyB M)) ∧ W = w' := by
  rcases hM with rfl | hM
  · have h0 : z.ns = [] := hn
    have h := rjoin_any W z.v z.ns ok hz (by rw [h0]; simp) (by rw [h0]; simp)
    rw [h0] at h
    rw [keyB_rise (T := []) rfl]
    exact h
  · exact join_named W z ok hz ⟨hM, hn⟩
theorem one2 {gt : Value} (h : ∀ u ∈ [gt], u.oneCell' = true) : ∀ u ∈ [gt, .slice none 0 0], u.oneCell' = true := fun u hu => by
  simp only [List.mem_cons, List.not_mem_nil, or_false] at hu
  rcases hu with rfl | rfl
  · exact h _ (List.mem_singleton.2 rfl)
  · rfl
theorem fst2 {gt u x : Value} {j : Nat} (h : [gt][j]? = some u) : (#[gt, x] : Array Value)[j]? = some u := by
  cases j with
  | zero => simpa using h
  | succ j => simp at h
theorem two2 {a b : Value} (ha : ∀ u ∈ [a], u.oneCell' = true) (hb : ∀ u ∈ [b], u.oneCell' = true) : ∀ u ∈ [a, b], u.oneCell' = true := fun u hu => by
  simp only [List.mem_cons, List.not_mem_nil, or_false] at hu
  rcases hu with rfl | rfl
  · exact ha _ (List.mem_singleton.2 rfl)
  · exact hb _ (List.mem_singleton.2 rfl)
theorem one_symm {G : List Hdr} (A B : List ID) : oneG G A B = oneG G B A := Bool.or_comm _ _
theorem root_names : [(rid rgenL.h).1] = [rootID].map Subtype.val := by
  have h : rid rgenL.h = rootID := (rgen_in.id).symm
  rw [h]
  rfl
theorem none_at {ok : Nat → Prop} {w : World} {A : Option Addr} (hA : Plain A := by exact plain_some _ _) : LNS.At ok w ⟨[], A, 0⟩ := ⟨A, 0, 0, rfl, rfl, Nat.le_refl _, by omega, hA, fun h => absurd h (by omega)⟩
theorem exec_loadC {P : Program} {o : Oper} {a : Act} {w : World} (ty : TypeId) (x : Operand) (ho : o.op = .load ty x) (ad : Addr) (hx : a.eval x = .pointer (some ad)) (v : Value) (d : TypeDesc) (hc : w.cell? ad = some v) (hu : P.underlying ty = some d) (hd : (match d with | .struct _ | .array _ _ => true | _ => false) = false) : (execOp a.eval o).run P w = .ok (.value v) w := by
  unfold execOp
  simp only [ho, hx, Instr.loadAt, Instr.sureAddr, Sem.run_bind, Sem.run_pure, Result.andThen_ok, run_loadVar_cell w ty ad v d hc hu hd]

set_option maxRecDepth 100000 in
set_option maxHeartbeats 20000000 in
theorem points_any (w : World) (t : Value) (l : List LSD) (ok ok' : Nat → Prop) (hl : Sl sdE ok w t l) (hf : ∀ y ∈ l, y.At ok' w ∧ SeedOk y.s) (ht : Tab w) (mvs : Value) (ms : List Int) (okm : Nat → Prop) (hm : Sl intE okm w mvs ms) :
    Calls Tryz.prog 7 #[t, mvs] w fun e w' => e = .returned (.bool true) ∧ Below w.heap.size w w' := by
  obtain ⟨Am, cm, rfl, hcm, hmm⟩ := hm.form
  have HL := Lib.hid hl
  have HF := Lib.hid hf
  have HT := Lib.hid ht
  have HM := Lib.hid hm
  clear hl hf ht hm
  go_enter Tryz.func7, Tryz.ntmps7
  go_upto_region 3 with (go_at_call 42; refine (awake18_any _ HT.out).mono ?_; rintro e w1 ⟨rfl, hb1⟩; have HB1 := Lib.hid hb1; clear hb1)
  go_upto_region 4 with (go_at_call 43; refine (made_any2 w1 t l ok ok' (HL.out.below HB1.out) (fun y hy => ⟨(HF.out y hy).1.below HB1.out, (HF.out y hy).2⟩) 16 (by decide) (HT.out.below HB1.out)).mono ?_; rintro e w2 ⟨p, b1, b2, D, vh, hs, vl, L, va, all, rfl, hmd, hL, hva, hall, hpos, hlen⟩; obtain ⟨Al, cl, rfl, -, -⟩ := hmd.list.form; obtain ⟨Aa, ca, rfl, -, -⟩ := hva.form; have HD2 := Lib.hid (And.intro (AllAt.mk hmd.dag hmd.fine hmd.both hva hall hpos (by omega)) (And.intro hmd.list hmd.lat)); have HB2 := Lib.hid (HB1.out.trans (hmd.below.mono HB1.out.size)); have HLL := Lib.hid (And.intro hL hmd.both.same); clear hmd hL hva hall hpos hlen)
  obtain ⟨z0, hz0, hzr⟩ := HD2.out.1.root
  obtain ⟨ba, oa, rfl, -, -, hcz⟩ := HD2.out.1.row.at_ 0 z0 hz0
  have HZ0 := Lib.hid hz0
  have HZM := Lib.hid (List.mem_of_getElem? hz0)
  have HZR := Lib.hid hzr
  have hallp := HD2.out.1.pos
  have halln := HD2.out.1.len
  have hDL : D.length ≤ 1000000 := by have h1 := congrArg List.length HLL.out.2; simp [hdrs, rhs] at h1; have := HLL.out.1; omega
  have HTIP : Hid (∀ z ∈ all, ∃ T : List ID, TipOf (hdrs D) T ∧ (⟨(joinS z.ns).toArray⟩ : ByteArray) = keyB T ∧ z.ns = T.map Subtype.val) := Lib.hid fun z hz => named_tip HD2.out.1.both (HD2.out.1.at_ z hz).2
  have HBO := Lib.hid HD2.out.1.both
  have HNI : Hid (∀ z ∈ all, NamedIn L z.ns) := Lib.hid fun z hz => (HD2.out.1.at_ z hz).2
  have hb3 : Below w2.heap.size w2 (w2.alloc (.cells #[.slice Al L.length cl] 33)) := (Below.refl _ _).alloc (Nat.le_refl _) _
  have HD3 := Lib.hid (And.intro (HD2.out.1.old.below hb3) (And.intro (HD2.out.2.1.old.below hb3) fun y hy => Sl.below (Sl.old (HD2.out.2.2 y hy)) hb3))
  have HB3 := Lib.hid (HB2.out.trans (hb3.mono HB2.out.size))
  have HG3 : Hid ((w2.alloc (.cells #[.slice Al L.length cl] 33)).cell? ⟨w2.heap.size, 0, none⟩ = some (.slice Al L.length cl)) := Lib.hid (cell_block (heap_alloc_new w2 _) rfl)
  have HK3 : Hid (∀ k, w1.heap.size ≤ k ∧ k < w2.heap.size → k < (w2.alloc (.cells #[.slice Al L.length cl] 33)).heap.size) := Lib.hid fun k hk => Nat.lt_of_lt_of_le hk.2 hb3.size
  have HK : Hid (∀ k, (w1.heap.size ≤ k ∧ k < w2.heap.size) → k < w2.heap.size) := Lib.hid fun k hk => hk.2
  clear hcz hz0 hzr hb3
  generalize w2.alloc (.cells #[.slice Al L.length cl] 33) = W3 at HD3 HB3 HG3 HK3 ⊢
  generalize w2.heap.size = gl at HD3 HG3 HK3 HK ⊢
  go_upto_region 9 with (go_at_call 44; refine (pnew_any W3 p b1 b2 D _ HD3.out.1.dag HD3.out.1.fine HD3.out.1.both.good 8).mono ?_; rintro e w4 ⟨pp, rfl, -, hpa, hb4⟩; have HPA := Lib.hid hpa; have HD4 := Lib.hid (And.intro (HD3.out.1.below hb4) (And.intro (HD3.out.2.1.below hb4) fun y hy => Sl.below (HD3.out.2.2 y hy) hb4)); have HB4 := Lib.hid (HB3.out.trans (hb4.mono HB3.out.size)); have HG4 := Lib.hid ((hb4.cell (cell_lt HG3.out)).trans HG3.out); have HZ4 := Lib.hid hb4.size; clear hb4 hpa)
  go_upto_region 10 with (first
    | (go_at_call 52; refine (gen_is w4 (HT.out.below HB4.out) HBO.out.good).mono ?_; rintro e w5 ⟨gt, rfl, ht5, hb5⟩; have HT5 := Lib.hid ht5; have HP5 := Lib.hid (HPA.out.below hb5); have HD5 := Lib.hid (And.intro (HD4.out.1.below hb5) (And.intro (HD4.out.2.1.below hb5) fun y hy => Sl.below (HD4.out.2.2 y hy) hb5)); have HB5 := Lib.hid (HB4.out.trans (hb5.mono HB4.out.size)); have HG5 := Lib.hid ((hb5.cell (cell_lt HG4.out)).trans HG4.out); have HZ5 := Lib.hid (Nat.le_trans HZ4.out hb5.size); have HPZ := Lib.hid (Nat.lt_of_lt_of_le (cell_lt HPA.out.toD) hb5.size); have HO5 := Lib.hid (one2 ht5.one); clear hb5 ht5)
    | (refine wpl_store_new rfl 91 _ _ rfl rfl [gt, .slice none 0 0] rfl _ _ rfl HO5.out pt_size ?_))
  have hb6 : Below w5.heap.size w5 (w5.alloc (.cells #[gt, .slice none 0 0] 91)) := (Below.refl _ _).alloc (Nat.le_refl _) _
  have HI6 : Hid (PoI w (w5.alloc (.cells #[gt, .slice none 0 0] 91)) pp p b1 b2 D L (.slice (some ⟨ba, oa, none⟩) all.length ca) all (.slice Al L.length cl) gl w5.heap.size gt (.slice none 0 0) [rootID] []) := Lib.hid (by
    have hz5 : W3.heap.size ≤ w5.heap.size := HZ5.out
    have hkn : ∀ k, w1.heap.size ≤ k ∧ k < gl → k ≠ w5.heap.size := fun k hk => by have := HK3.out k hk; omega
    have hgl : gl < w5.heap.size := cell_lt HG5.out
    exact ⟨(HP5.out.mono hkn).below hb6, by have := HPZ.out; omega, (HD5.out.1.mono hkn).below hb6, (HD5.out.2.1.mono hkn).below hb6, fun y hy => Sl.below (Sl.mono (HD5.out.2.2 y hy) hkn) hb6, (hb6.cell (cell_lt HG5.out)).trans HG5.out, by omega, heap_alloc_new w5 _, HB5.out.size, (HT5.out.old.mono fun k hk => by have := hk.2; omega).below hb6, TipIs.zero, HB5.out.trans (hb6.mono HB5.out.size)⟩)
  clear hb6 HD3 HB3 HG3 HD4 HB4 HG4 HZ4 HPA HP5 HD5 HB5 HG5 HZ5 HPZ HT5 HK3 HK HB1 HB2 HL HF HT HLL HD2 HO5
  generalize w5.alloc (.cells #[gt, .slice none 0 0] 91) = W6 at HI6 ⊢
  generalize w5.heap.size = gx at HI6 ⊢
  have HC0 : Hid (∀ (W : World) (fv mv : Value) (F M : List ID), PoI w W pp p b1 b2 D L (.slice (some ⟨ba, oa, none⟩) all.length ca) all (.slice Al L.length cl) gl gx fv mv F M → W.cell? ⟨ba, oa, none⟩ = some z0.v) := Lib.hid fun W fv mv F M h => by
    obtain ⟨b, o, e, -, -, hc⟩ := h.all.row.at_ 0 z0 HZ0.out
    cases e
    have := hc 0 _ rfl
    simpa using this
  have GG := HBO.out.good
  have GR : TipOf (hdrs D) [rootID] := GG.root_tip
  have HN0 : Hid (NamT (hdrs D) z0.ns [rootID]) := Lib.hid ⟨GR, HZR.out.trans root_names⟩
  have HCH : Hid (∀ (W : World) (fv mv : Value) (F M : List ID), PoI w W pp p b1 b2 D L (.slice (some ⟨ba, oa, none⟩) all.length ca) all (.slice Al L.length cl) gl gx fv mv F M → Calls Tryz.prog 53 #[.slice Al L.length cl, z0.v] W fun e w' => ∃ (n c b o : Nat) (z1 : LNS), e = .returned (.slice (some ⟨b, o, none⟩) (n + 1) c) ∧ Below W.heap.size W w' ∧ w'.cell? ⟨b, o, none⟩ = some z1.v ∧ (NamT (hdrs D) z1.ns [rootID] ∧ NamedIn L z1.ns ∧ z1.At (fun k => k ≠ gx) w')) := Lib.hid fun W fv mv F M h => by
    refine (chain14_any W D L HBO.out _ _ _ h.lst h.at_ z0 (h.all.at_ z0 HZM.out).1 _ HN0.out (HNI.out z0 HZM.out) hDL).mono ?_
    rintro e w' ⟨v, rfl, xs, hxs, hm⟩
    have hc : ∃ r, chainG (hdrs D) [rootID] = [rootID] :: r := ⟨_, GG.chain_step GR⟩
    obtain ⟨r, hr⟩ := hc
    rw [hr] at hm
    cases xs with
    | nil => cases hm
    | cons z1 xs =>
      have h1 : z1.ns = [rootID].map Subtype.val := (List.cons.inj hm).1
      obtain ⟨A, c, rfl, -⟩ := own_slice hxs.own
      obtain ⟨b, o, rfl, -, -, hcz⟩ := (Sl.of_own (E := nsE) hxs.own).at_ 0 z1 rfl
      refine ⟨xs.length, c, b, o, z1, rfl, hxs.below, by have := hcz 0 _ rfl; simpa using this, ⟨GR, h1⟩, hxs.mem z1 (by simp), Sl.mono (hxs.at_ z1 (by simp)) fun k hk => hk.2.elim id id⟩
  simp only [Act.put]
  go_cut [10, 11] from 43 to 50 (fun c10 c11 W => ∃ (z1 z2 : LNS), c10 = z1.v ∧ c11 = z2.v ∧ (NamT (hdrs D) z1.ns [rootID] ∧ NamedIn L z1.ns ∧ z1.At (fun k => k ≠ gx) W) ∧ (z2.ns = [] ∧ z2.At (fun k => k ≠ gx) W) ∧ PoI w W pp p b1 b2 D L (.slice (some ⟨ba, oa, none⟩) all.length ca) all (.slice Al L.length cl) gl gx gt (.slice none 0 0) [rootID] [])
  case first =>
    refine stD_ (S := (fun W' => PoI w W' pp p b1 b2 D L (.slice (some ⟨ba, oa, none⟩) all.length ca) all (.slice Al L.length cl) gl gx gt (.slice none 0 0) [rootID] [])) [9] 10 (bt 0 10) (by kernel_rfl) rfl (by rfl) (HI6.out.next (Below.refl _ W6).drew) (fun hHeld => ?_)
    refine tkD_ 0 (some 43) (bt 1 9) rfl rfl (by kernel_rfl) (fun _ _ _ h => h) (yieldsIf_cell rfl 33 (.tmp 6) rfl ⟨gl, 0, none⟩ rfl (.slice Al L.length cl) _ (fun W' h => h.glc) Tryz.underlying33 rfl) hHeld (a' := ?_) ?_ ?_
    rotate_left
    · simp only [Act.put, List.setIfInBounds_toArray, List.set_cons_zero, List.set_cons_succ]
      rfl
    refine tkD_ 1 (some 44) (bt 2 8) (v := ?_) (a' := ?_) rfl rfl (by kernel_rfl) (fun _ _ _ h => h) (yieldsIf_run rfl ?_) hHeld ?_ ?_
    rotate_left
    · intro w'
      go_simp
      with_reducible rfl
    rotate_left
    · simp only [Act.put, List.setIfInBounds_toArray, List.set_cons_zero, List.set_cons_succ]
      rfl
    refine tkD_ 2 (some 45) (bt 3 7) (v := ?_) (a' := ?_) rfl rfl (by kernel_rfl) (fun _ _ _ h => h) (yieldsIf_run rfl ?_) hHeld ?_ ?_
    rotate_left
    · intro w'
      go_simp
      with_reducible rfl
    rotate_left
    · simp only [Act.put, List.setIfInBounds_toArray, List.set_cons_zero, List.set_cons_succ]
      rfl
    refine tkD_ 3 (some 46) (bt 4 6) rfl rfl (by kernel_rfl) (fun _ _ _ h => h) (yieldsIf_cell rfl 27 (.tmp 45) rfl ⟨ba, oa, none⟩ rfl z0.v _ (fun W' h => HC0.out _ _ _ _ _ h) Tryz.underlying27 rfl) hHeld (a' := ?_) ?_ ?_
    rotate_left
    · simp only [Act.put, List.setIfInBounds_toArray, List.set_cons_zero, List.set_cons_succ]
      rfl
    refine forkD_ 4 7 (by kernel_rfl) ?_ ?_
    · refine fcallD_ 4 (some 47) #[true, true, true, true, true, false, false, false, false, false] rfl rfl (by kernel_rfl) rfl 53 _ (by kernel_rfl) (HCH.out _ _ _ _ _ hHeld) ?_
      rintro e w7 ⟨n7, c7, bz, oz, z1, rfl, hb7, hc7, ha7⟩
      have HP7 := Lib.hid (hHeld.next hb7)
      have HC7 := Lib.hid hc7
      have HA7 := Lib.hid ha7
      clear hb7 hc7 ha7
      have hHeld := HP7.out
      refine ⟨_, rfl, fun _ => hHeld, ?_, ?_, ?_⟩
      rotate_left
      · simp only [Act.put, List.setIfInBounds_toArray, List.set_cons_zero, List.set_cons_succ]
        rfl
      refine tkD_ 5 (some 48) (bt 6 4) (v := ?_) (a' := ?_) rfl rfl (by kernel_rfl) (fun _ _ _ h => h) (yieldsIf_run rfl ?_) hHeld ?_ ?_
      rotate_left
      · intro w'
        go_simp
        with_reducible rfl
      rotate_left
      · simp only [Act.put, List.setIfInBounds_toArray, List.set_cons_zero, List.set_cons_succ]
        rfl
      refine forkD_ 6 7 (by kernel_rfl) ?_ ?_
      · have hHeld := HP7.out
        refine fvalD_ 6 (some 49) (bt 7 3) rfl rfl (by kernel_rfl) rfl (z1.v) (w7) (exec_loadC 27 (.tmp 48) rfl ⟨bz, oz, none⟩ rfl z1.v _ HC7.out Tryz.underlying27 rfl) (fun _ => hHeld) (a' := ?_) ?_ ?_
        rotate_left
        · simp only [Act.put, List.setIfInBounds_toArray, List.set_cons_zero, List.set_cons_succ]
          rfl
        refine tkD_ 8 (some 10) #[true, true, true, true, true, true, true, false, true, false] (v := ?_) (a' := ?_) rfl rfl (by kernel_rfl) (fun _ _ _ h => h) (yieldsIf_run rfl ?_) hHeld ?_ ?_
        rotate_left
        · intro w'
          go_simp
          with_reducible rfl
        rotate_left
        · simp only [Act.put, List.setIfInBounds_toArray, List.set_cons_zero, List.set_cons_succ]
          rfl
        have hHeld := hHeld.next ((Below.refl _ _).alloc (Nat.le_refl _) (.cells #[] 9))
        refine valD_ 7 (some 50) (bt 9 1) rfl rfl (by kernel_rfl) rfl ((.slice (some ⟨w7.heap.size, 0, none⟩) 0 0)) ((w7.alloc (.cells #[] 9))) (by kernel_rfl) (fun _ => hHeld) (a' := ?_) ?_ ?_
        rotate_left
        · simp only [Act.put, List.setIfInBounds_toArray, List.set_cons_zero, List.set_cons_succ]
          rfl
        refine valD_ 9 (some 11) (bt 10 0) rfl rfl (by kernel_rfl) rfl ((.slice (some ⟨w7.heap.size, 0, none⟩) 0 0)) (_) (rfl) (fun h => absurd (by decide) h) (a' := ?_) ?_ ?_
        rotate_left
        · simp only [Act.put, List.setIfInBounds_toArray, List.set_cons_zero, List.set_cons_succ]
          rfl
        refine doneD_ (by kernel_rfl) ?_ _
        change Exit.then _ _ _ _ _
        go_wp2
        go_meet
        case rel => exact ⟨z1, ⟨[], some ⟨w7.heap.size, 0, none⟩, 0⟩, rfl, rfl, ⟨HA7.out.1, HA7.out.2.1, Sl.below HA7.out.2.2 ((Below.refl _ w7).alloc (Nat.le_refl _) _)⟩, ⟨rfl, none_at⟩, HP7.out.next ((Below.refl _ w7).alloc (Nat.le_refl _) _)⟩
      · have hHeld := hHeld.next ((Below.refl _ _).alloc (Nat.le_refl _) (.cells #[] 9))
        refine fvalD_ 7 (some 50) #[true, true, true, true, true, true, false, true, false, false] rfl rfl (by kernel_rfl) rfl ((.slice (some ⟨w7.heap.size, 0, none⟩) 0 0)) ((w7.alloc (.cells #[] 9))) (by kernel_rfl) (fun _ => hHeld) (a' := ?_) ?_ ?_
        rotate_left
        · simp only [Act.put, List.setIfInBounds_toArray, List.set_cons_zero, List.set_cons_succ]
          rfl
        have hHeld := hHeld
        refine valD_ 6 (some 49) (bt 8 2) rfl rfl (by kernel_rfl) rfl (z1.v) ((w7.alloc (.cells #[] 9))) (exec_loadC 27 (.tmp 48) rfl ⟨bz, oz, none⟩ rfl z1.v _ ((((Below.refl _ w7).alloc (Nat.le_refl _) (.cells #[] 9)).cell (cell_lt HC7.out)).trans HC7.out) Tryz.underlying27 rfl) (fun _ => hHeld) (a' := ?_) ?_ ?_
        rotate_left
        · simp only [Act.put, List.setIfInBounds_toArray, List.set_cons_zero, List.set_cons_succ]
          rfl
        refine tkD_ 8 (some 10) (bt 9 1) (v := ?_) (a' := ?_) rfl rfl (by kernel_rfl) (fun _ _ _ h => h) (yieldsIf_run rfl ?_) hHeld ?_ ?_
        rotate_left
        · intro w'
          go_simp
          with_reducible rfl
        rotate_left
        · simp only [Act.put, List.setIfInBounds_toArray, List.set_cons_zero, List.set_cons_succ]
          rfl
        refine valD_ 9 (some 11) (bt 10 0) rfl rfl (by kernel_rfl) rfl ((.slice (some ⟨w7.heap.size, 0, none⟩) 0 0)) (_) (rfl) (fun h => absurd (by decide) h) (a' := ?_) ?_ ?_
        rotate_left
        · simp only [Act.put, List.setIfInBounds_toArray, List.set_cons_zero, List.set_cons_succ]
          rfl
        refine doneD_ (by kernel_rfl) ?_ _
        change Exit.then _ _ _ _ _
        go_wp2
        go_meet
        case rel => exact ⟨z1, ⟨[], some ⟨w7.heap.size, 0, none⟩, 0⟩, rfl, rfl, ⟨HA7.out.1, HA7.out.2.1, Sl.below HA7.out.2.2 ((Below.refl _ w7).alloc (Nat.le_refl _) _)⟩, ⟨rfl, none_at⟩, HP7.out.next ((Below.refl _ w7).alloc (Nat.le_refl _) _)⟩
    · have hHeld := hHeld.next ((Below.refl _ _).alloc (Nat.le_refl _) (.cells #[] 9))
      refine fvalD_ 7 (some 50) #[true, true, true, true, false, false, false, true, false, false] rfl rfl (by kernel_rfl) rfl ((.slice (some ⟨W6.drew.heap.size, 0, none⟩) 0 0)) ((W6.drew.alloc (.cells #[] 9))) (by kernel_rfl) (fun _ => hHeld) (a' := ?_) ?_ ?_
      rotate_left
      · simp only [Act.put, List.setIfInBounds_toArray, List.set_cons_zero, List.set_cons_succ]
        rfl
      refine callD_ 4 (some 47) #[true, true, true, true, true, false, false, true, false, false] rfl rfl (by kernel_rfl) rfl 53 _ (by kernel_rfl) (HCH.out _ _ _ _ _ hHeld) ?_
      rintro e w7 ⟨n7, c7, bz, oz, z1, rfl, hb7, hc7, ha7⟩
      have HP7 := Lib.hid (hHeld.next hb7)
      have HC7 := Lib.hid hc7
      have HA7 := Lib.hid ha7
      clear hb7 hc7 ha7
      refine ⟨_, rfl, HP7.out, fun hHeld => ⟨?_, ?_, ?_⟩⟩
      rotate_left
      · simp only [Act.put, List.setIfInBounds_toArray, List.set_cons_zero, List.set_cons_succ]
        rfl
      refine tkD_ 5 (some 48) #[true, true, true, true, true, true, false, true, false, false] (v := ?_) (a' := ?_) rfl rfl (by kernel_rfl) (fun _ _ _ h => h) (yieldsIf_run rfl ?_) hHeld ?_ ?_
      rotate_left
      · intro w'
        go_simp
        with_reducible rfl
      rotate_left
      · simp only [Act.put, List.setIfInBounds_toArray, List.set_cons_zero, List.set_cons_succ]
        rfl
      have hHeld := HP7.out
      refine valD_ 6 (some 49) (bt 8 2) rfl rfl (by kernel_rfl) rfl (z1.v) (w7) (exec_loadC 27 (.tmp 48) rfl ⟨bz, oz, none⟩ rfl z1.v _ HC7.out Tryz.underlying27 rfl) (fun _ => hHeld) (a' := ?_) ?_ ?_
      rotate_left
      · simp only [Act.put, List.setIfInBounds_toArray, List.set_cons_zero, List.set_cons_succ]
        rfl
      refine tkD_ 8 (some 10) (bt 9 1) (v := ?_) (a' := ?_) rfl rfl (by kernel_rfl) (fun _ _ _ h => h) (yieldsIf_run rfl ?_) hHeld ?_ ?_
      rotate_left
      · intro w'
        go_simp
        with_reducible rfl
      rotate_left
      · simp only [Act.put, List.setIfInBounds_toArray, List.set_cons_zero, List.set_cons_succ]
        rfl
      refine valD_ 9 (some 11) (bt 10 0) rfl rfl (by kernel_rfl) rfl ((.slice (some ⟨W6.drew.heap.size, 0, none⟩) 0 0)) (_) (rfl) (fun h => absurd (by decide) h) (a' := ?_) ?_ ?_
      rotate_left
      · simp only [Act.put, List.setIfInBounds_toArray, List.set_cons_zero, List.set_cons_succ]
        rfl
      refine doneD_ (by kernel_rfl) ?_ _
      change Exit.then _ _ _ _ _
      go_wp2
      go_meet
      case rel => exact ⟨z1, ⟨[], some ⟨W6.drew.heap.size, 0, none⟩, 0⟩, rfl, rfl, HA7.out, ⟨rfl, none_at⟩, HP7.out⟩
  case rest =>
  obtain ⟨z1, z2, rfl, rfl, hz1, hz2, hI7⟩ := hcut
  rename World => W7
  have HZ1 := Lib.hid hz1
  have HZ2 := Lib.hid hz2
  have HI7 := Lib.hid hI7
  clear hz1 hz2 hI7 HI6 HCH
  obtain ⟨kr, hkr⟩ : ∃ kr, keyB [rootID] = kr := ⟨_, rfl⟩
  have HKR := Lib.hid hkr
  clear hkr
  obtain ⟨z1n, z1A, z1c⟩ := z1
  go_wp2
  go_loopw [10, 53] (fun c10 c53 W => ∃ (i : Nat) (zf : LNS), i ≤ all.length ∧ c53 = .int .i64 (i : Int) ∧ c10 = zf.v ∧ (NamT (hdrs D) zf.ns [rootID] ∧ NamedIn L zf.ns ∧ zf.At (fun k => k ≠ gx) W) ∧ z2.At (fun k => k ≠ gx) W ∧ PoI w W pp p b1 b2 D L (.slice (some ⟨ba, oa, none⟩) all.length ca) all (.slice Al L.length cl) gl gx gt (.slice none 0 0) [rootID] []) (fun _ c53 _ => all.length - (intOf c53).toNat)
  case atStart => exact ⟨0, ⟨z1n, z1A, z1c⟩, by omega, rfl, rfl, HZ1.out, HZ2.out.2, HI7.out⟩
  case round =>
    obtain ⟨i, zf, hi, rfl, rfl, hzf, hz2, hI⟩ := hrel
    have HI := Lib.hid hI
    have HZF := Lib.hid hzf
    have HZ2w := Lib.hid hz2
    clear hI hzf hz2 HI7 HZ1
    by_cases hil : i < all.length
    · obtain ⟨y, hy⟩ : ∃ y, all[i]? = some y := ⟨_, List.getElem?_eq_getElem hil⟩
      have hym := List.mem_of_getElem? hy
      obtain ⟨E, hE, -, hnE⟩ := HTIP.out y hym
      have HNE : Hid (NamT (hdrs D) y.ns E) := Lib.hid ⟨hE, hnE⟩
      have HYM := Lib.hid hym
      obtain ⟨by0, oy0, e0, -, -, hcy⟩ := HI.out.all.row.at_ i y hy
      cases e0
      have hcy0 : wr.cell? ⟨ba, oa + i, none⟩ = some y.v := by have := hcy 0 _ rfl; rwa [Nat.add_zero, show nsE.k = 1 from rfl, Nat.mul_one] at this
      have HJN : Hid (∀ W, PoI w W pp p b1 b2 D L (.slice (some ⟨ba, oa, none⟩) all.length ca) all (.slice Al L.length cl) gl gx gt (.slice none 0 0) [rootID] [] → Calls Tryz.prog 26 #[y.v] W fun e w' => e = .returned (.string (keyB E)) ∧ W = w') := Lib.hid fun W h => join_named W y _ (h.all.at_ y HYM.out).1 HNE.out
      have HKY : Hid (∀ W, PoI w W pp p b1 b2 D L (.slice (some ⟨ba, oa, none⟩) all.length ca) all (.slice Al L.length cl) gl gx gt (.slice none 0 0) [rootID] [] → Calls Tryz.prog 54 #[tipV gt] W fun e w' => e = .returned (.string kr) ∧ Below W.heap.size W w') := Lib.hid fun W h => by rw [← HKR.out]; exact key_is h.fin (.inr GR)
      clear hy hcy hE hnE hym
      by_cases hEr : E = [rootID]
      · subst hEr
        rw [HKR.out] at HJN
        go_upto_region 14 with fail
        refine st_ (S := (fun W' => PoI w W' pp p b1 b2 D L (.slice (some ⟨ba, oa, none⟩) all.length ca) all (.slice Al L.length cl) gl gx gt (.slice none 0 0) [rootID] [])) 6 (bt 0 6) (by kernel_rfl) rfl (by rfl) (HI.out.next (Below.refl _ wr).drew) (fun hHeld => ?_)
        refine tk_ 0 (some 57) (bt 1 5) (v := ?_) (a' := ?_) rfl rfl (by kernel_rfl) (fun _ _ _ h => h) (yieldsIf_run rfl ?_) hHeld ?_ ?_
        rotate_left
        · intro w'
          go_simp
          with_reducible rfl
        rotate_left
        · simp only [Act.put, List.setIfInBounds_toArray, List.set_cons_zero, List.set_cons_succ]
          rfl
        refine tk_ 2 (some 59) #[true, false, true, false, false, false] (v := ?_) (a' := ?_) rfl rfl (by kernel_rfl) (fun _ _ _ h => h) (yieldsIf_run rfl ?_) hHeld ?_ ?_
        rotate_left
        · intro w'
          go_simp
          with_reducible rfl
        rotate_left
        · simp only [Act.put, List.setIfInBounds_toArray, List.set_cons_zero, List.set_cons_succ]
          rfl
        refine tk_ 3 (some 60) #[true, false, true, true, false, false] rfl rfl (by kernel_rfl) (fun _ _ _ h => h) (yieldsIf_load rfl 52 (.tmp 59) rfl gx 0 rfl [gt] _ (fun W' h j u hu => by rw [Nat.zero_add]; exact cell_block h.box (fst2 hu)) Tryz.underlying52 rfl tip_size) hHeld (a' := ?_) ?_ ?_
        rotate_left
        · simp only [Act.put, List.setIfInBounds_toArray, List.set_cons_zero, List.set_cons_succ]
          rfl
        refine call_ 1 (some 58) (bt 4 2) rfl rfl (by kernel_rfl) rfl 26 _ (by kernel_rfl) (HJN.out _ hHeld) ?_
        rintro e w8 ⟨rfl, rfl⟩
        refine ⟨_, rfl, hHeld, fun hHeld => ⟨?_, ?_, ?_⟩⟩
        rotate_left
        · simp only [Act.put, List.setIfInBounds_toArray, List.set_cons_zero, List.set_cons_succ]
          rfl
        refine call_ 4 (some 61) (bt 5 1) rfl rfl (by kernel_rfl) rfl 54 _ (by kernel_rfl) (HKY.out _ hHeld) ?_
        rintro e w9 ⟨rfl, hb9⟩
        have HI9 := Lib.hid (hHeld.next hb9)
        have HB9 := Lib.hid ((Below.refl _ wr).drew.trans hb9)
        refine ⟨_, rfl, HI9.out, fun hHeld => ⟨?_, ?_, ?_⟩⟩
        rotate_left
        · simp only [Act.put, List.setIfInBounds_toArray, List.set_cons_zero, List.set_cons_succ]
          rfl
        refine tk_ 5 (some 62) (bt 6 0) (v := ?_) (a' := ?_) rfl rfl (by kernel_rfl) (fun _ _ _ h => h) (yieldsIf_run rfl ?_) hHeld ?_ ?_
        rotate_left
        · intro w'
          go_simp
          with_reducible rfl
        rotate_left
        · simp only [Act.put, List.setIfInBounds_toArray, List.set_cons_zero, List.set_cons_succ]
          rfl
        refine wpAnyH_done (by kernel_rfl) ?_ _
        change Exit.then _ _ _ _ _
        go_wp2
        go_roundw
        case rel => exact ⟨i + 1, y, by omega, by go_num, rfl, ⟨HNE.out, HNI.out y HYM.out, (HI9.out.all.at_ y HYM.out).1⟩, Sl.below HZ2w.out HB9.out, HI9.out⟩
        case measure => simp [intOf]; omega
      · obtain ⟨ke, hke⟩ : ∃ ke, keyB E = ke := ⟨_, rfl⟩
        have HQ : Hid ((ke.toList == kr.toList) = false) := Lib.hid (by
          rw [← hke, ← HKR.out]
          exact Bool.eq_false_iff.2 fun h => hEr ((key_beq (.inr HNE.out.tip) (.inr GR)).1 h))
        rw [hke] at HJN
        clear hke
        go_upto_region 14 with fail
        refine st_ (S := (fun W' => PoI w W' pp p b1 b2 D L (.slice (some ⟨ba, oa, none⟩) all.length ca) all (.slice Al L.length cl) gl gx gt (.slice none 0 0) [rootID] [])) 6 (bt 0 6) (by kernel_rfl) rfl (by rfl) (HI.out.next (Below.refl _ wr).drew) (fun hHeld => ?_)
        refine tk_ 0 (some 57) (bt 1 5) (v := ?_) (a' := ?_) rfl rfl (by kernel_rfl) (fun _ _ _ h => h) (yieldsIf_run rfl ?_) hHeld ?_ ?_
        rotate_left
        · intro w'
          go_simp
          with_reducible rfl
        rotate_left
        · simp only [Act.put, List.setIfInBounds_toArray, List.set_cons_zero, List.set_cons_succ]
          rfl
        refine tk_ 2 (some 59) #[true, false, true, false, false, false] (v := ?_) (a' := ?_) rfl rfl (by kernel_rfl) (fun _ _ _ h => h) (yieldsIf_run rfl ?_) hHeld ?_ ?_
        rotate_left
        · intro w'
          go_simp
          with_reducible rfl
        rotate_left
        · simp only [Act.put, List.setIfInBounds_toArray, List.set_cons_zero, List.set_cons_succ]
          rfl
        refine tk_ 3 (some 60) #[true, false, true, true, false, false] rfl rfl (by kernel_rfl) (fun _ _ _ h => h) (yieldsIf_load rfl 52 (.tmp 59) rfl gx 0 rfl [gt] _ (fun W' h j u hu => by rw [Nat.zero_add]; exact cell_block h.box (fst2 hu)) Tryz.underlying52 rfl tip_size) hHeld (a' := ?_) ?_ ?_
        rotate_left
        · simp only [Act.put, List.setIfInBounds_toArray, List.set_cons_zero, List.set_cons_succ]
          rfl
        refine call_ 1 (some 58) (bt 4 2) rfl rfl (by kernel_rfl) rfl 26 _ (by kernel_rfl) (HJN.out _ hHeld) ?_
        rintro e w8 ⟨rfl, rfl⟩
        refine ⟨_, rfl, hHeld, fun hHeld => ⟨?_, ?_, ?_⟩⟩
        rotate_left
        · simp only [Act.put, List.setIfInBounds_toArray, List.set_cons_zero, List.set_cons_succ]
          rfl
        refine call_ 4 (some 61) (bt 5 1) rfl rfl (by kernel_rfl) rfl 54 _ (by kernel_rfl) (HKY.out _ hHeld) ?_
        rintro e w9 ⟨rfl, hb9⟩
        have HI9 := Lib.hid (hHeld.next hb9)
        have HB9 := Lib.hid ((Below.refl _ wr).drew.trans hb9)
        refine ⟨_, rfl, HI9.out, fun hHeld => ⟨?_, ?_, ?_⟩⟩
        rotate_left
        · simp only [Act.put, List.setIfInBounds_toArray, List.set_cons_zero, List.set_cons_succ]
          rfl
        refine tk_ 5 (some 62) (bt 6 0) rfl rfl (by kernel_rfl) (fun _ _ _ h => h) (yieldsIf_run (v := .bool false) rfl fun W' => by go_simp; exact ne_of_beq_false HQ.out) hHeld (a' := ?_) ?_ ?_
        rotate_left
        · simp only [Act.put, List.setIfInBounds_toArray, List.set_cons_zero, List.set_cons_succ]
          rfl
        refine wpAnyH_done (by kernel_rfl) ?_ _
        change Exit.then _ _ _ _ _
        go_wp2
        go_roundw
        case rel => exact ⟨i + 1, zf, by omega, by go_num, rfl, ⟨HZF.out.1, HZF.out.2.1, Sl.below HZF.out.2.2 HB9.out⟩, Sl.below HZ2w.out HB9.out, HI9.out⟩
        case measure => simp [intOf]; omega
    · have hie : i = all.length := by omega
      subst hie
      have HP0 := Lib.hid (And.intro HZF.out HZ2w.out)
      have HZN := Lib.hid HZ2.out.1
      clear HZF HZ2w
      go_wp2
      go_loopw [10, 11, 14] (fun c10 c11 c14 W => ∃ (i : Nat) (zf zm : LNS) (F M : List ID) (fv mv : Value), i ≤ ms.length ∧ i ≤ 30 ∧ c10 = zf.v ∧ c11 = zm.v ∧ c14 = .int .i64 (i : Int) ∧ (NamT (hdrs D) zf.ns F ∧ NamedIn L zf.ns ∧ zf.At (fun k => k ≠ gx) W) ∧ (zm.ns = M.map Subtype.val ∧ (M = [] ∨ (TipOf (hdrs D) M ∧ NamedIn L zm.ns)) ∧ zm.At (fun k => k ≠ gx) W) ∧ (M = [] ∨ oneG (hdrs D) F M = true) ∧ PoI w W pp p b1 b2 D L (.slice (some ⟨ba, oa, none⟩) all.length ca) all (.slice Al L.length cl) gl gx fv mv F M) (fun _ _ c14 _ => 30 - (intOf c14).toNat)
      case atStart => exact ⟨0, _, z2, [rootID], [], _, _, by omega, by omega, rfl, rfl, rfl, HP0.out.1, ⟨HZN.out, .inl rfl, HP0.out.2⟩, .inl rfl, HI.out⟩
      case round =>
        obtain ⟨i, zf, zm, F, M, fv, mv, hi, hi2, rfl, rfl, rfl, hzf, hzm, hone, hI⟩ := hrel
        rename World => W0
        have HIx := Lib.hid hI
        have HZF := Lib.hid hzf
        have HZM2 := Lib.hid hzm
        have HONE := Lib.hid hone
        clear hI hzf hzm hone HI HP0
        by_cases hil : i < ms.length
        · by_cases hi30 : i < 30
          · obtain ⟨x, hx⟩ : ∃ x, ms[i]? = some x := ⟨_, List.getElem?_eq_getElem hil⟩
            obtain ⟨bm, om, rfl, -, -, hcx⟩ := HM.out.at_ i x hx
            have HCX : Hid (∀ W, Below w.heap.size w W → W.cell? ⟨bm, om + i, none⟩ = some (.int .i64 x)) := Lib.hid fun W hb => by
              have h1 : w.cell? ⟨bm, om + i, none⟩ = some (.int .i64 x) := by have := hcx 0 _ rfl; rwa [Nat.add_zero, show intE.k = 1 from rfl, Nat.mul_one] at this
              exact (hb.cell (cell_lt h1)).trans h1
            have hcx0 := HCX.out _ HIx.out.below
            clear hcx hx
            obtain ⟨rr, hrr, q1, q2, j, hj, hidx⟩ := pick_ix2 x all.length hallp halln
            have hw1 : IntKind.i64.wrap (rr + all.length) = rr + all.length := IntWalk.i64_in _ (by omega)
            have HR := Lib.hid hrr
            have HX := Lib.hid hidx
            clear hrr hidx
            obtain ⟨y, hy⟩ : ∃ y, all[j]? = some y := ⟨_, List.getElem?_eq_getElem hj⟩
            have HYM := Lib.hid (List.mem_of_getElem? hy)
            obtain ⟨T, hT, hkT, hnT⟩ := HTIP.out y HYM.out
            obtain ⟨by0, oy0, e0, -, -, hcy⟩ := HIx.out.all.row.at_ j y hy
            cases e0
            have hcy0 : W0.cell? ⟨ba, oa + j, none⟩ = some y.v := by have := hcy 0 _ rfl; rwa [Nat.add_zero, show nsE.k = 1 from rfl, Nat.mul_one] at this
            have HNT : Hid (NamT (hdrs D) y.ns T) := Lib.hid ⟨hT, hnT⟩
            have HOF := Lib.hid (of_known W0 p b1 b2 D _ _ HIx.out.all.dag HIx.out.all.fine y (HIx.out.all.at_ y HYM.out).1 T hT hnT hkT)
            clear hcy hy hkT hnT
            go_upto_region 23 with (first
              | (refine wpl_exec rfl (.int .i64 rr) ((exec_rem 3 3 (.tmp 81) (.tmp 82) rfl x all.length rfl rfl (by omega) (by rw [HR.out]; constructor <;> omega)).trans (by rw [HR.out])) ?_)
              | (refine wpl_exec rfl (.int .i64 (j : Int)) ((exec_rem 3 3 (.tmp 85) (.tmp 86) rfl (rr + all.length) all.length rfl rfl (by omega) (by rw [HX.out]; constructor <;> omega)).trans (by rw [HX.out])) ?_)
              | (go_at_call 46; refine HOF.out.mono ?_; rintro e w8 ⟨tv, rfl, hth, hb8⟩; have HTV := Lib.hid (hth.mono (ok' := fun k => k ≠ gx) fun k hk => hk.elim (fun h => HIx.out.up h) id); have HI8 := Lib.hid (HIx.out.next hb8); have HB8 := Lib.hid hb8; clear hb8 hth)
              | (refine wpl_store_new rfl 52 _ _ rfl rfl [tv] rfl _ _ rfl HTV.out.one tip_size ?_))
            have hbA : Below w8.heap.size w8 (w8.alloc (.cells #[tv] 52)) := (Below.refl _ _).alloc (Nat.le_refl _) _
            have HPT : Hid (PtI w (w8.alloc (.cells #[tv] 52)) pp p b1 b2 D L (.slice (some ⟨ba, oa, none⟩) all.length ca) all (.slice Al L.length cl) gl gx w8.heap.size fv mv F M tv T) := Lib.hid ⟨HI8.out.next hbA, heap_alloc_new w8 _, HTV.out.below hbA, HI8.out.up (Nat.le_refl _)⟩
            have HBA := Lib.hid (HB8.out.trans (hbA.mono HB8.out.size))
            have HZFA := Lib.hid (And.intro HZF.out.1 (And.intro HZF.out.2.1 (Sl.below HZF.out.2.2 HBA.out)))
            have HZMA := Lib.hid (And.intro HZM2.out.1 (And.intro HZM2.out.2.1 (Sl.below HZM2.out.2.2 HBA.out)))
            clear hbA HI8 HTV HB8 HBA HZF HZM2 HOF
            simp only [Act.put]
            generalize w8.alloc (.cells #[tv] 52) = W9 at HPT HZFA HZMA ⊢
            generalize w8.heap.size = g2 at HPT ⊢
            obtain ⟨r3, hr3⟩ := and_ex x 3
            have HAND := Lib.hid hr3
            clear hr3
            have hcx9 := HCX.out _ HPT.out.i.below
            go_upto_block 4 with (refine wpl_exec rfl (.int .i64 r3) (HAND.out _ _ _ _ 3 3 (.tmp 97) (.const (.int .i64 3)) rfl rfl rfl) ?_)
            clear hcx9 hcx0 HCX HAND hw1
            simp only [Act.put, List.setIfInBounds_toArray, List.set_cons_zero, List.set_cons_succ]
            go_cut [10, 11, 19, 20, 21, 22, 23, 24, 25] from 99 to 167 (fun c10 c11 _ _ _ _ _ _ _ W => ∃ (zf zm : LNS) (F M : List ID) (fv mv : Value), c10 = zf.v ∧ c11 = zm.v ∧ (NamT (hdrs D) zf.ns F ∧ NamedIn L zf.ns ∧ zf.At (fun k => k ≠ gx) W) ∧ (zm.ns = M.map Subtype.val ∧ (M = [] ∨ (TipOf (hdrs D) M ∧ NamedIn L zm.ns)) ∧ zm.At (fun k => k ≠ gx) W) ∧ (M = [] ∨ oneG (hdrs D) F M = true) ∧ PoI w W pp p b1 b2 D L (.slice (some ⟨ba, oa, none⟩) all.length ca) all (.slice Al L.length cl) gl gx fv mv F M)
            case first =>
              have hTF : TipOf (hdrs D) F := HZFA.out.1.tip
              have hTM : M = [] ∨ TipOf (hdrs D) M := HZMA.out.2.1.imp id And.left
              have HX9 : Hid (PtI w W9 pp p b1 b2 D L (.slice (some ⟨ba, oa, none⟩) all.length ca) all (.slice Al L.length cl) gl gx g2 fv mv F M tv T ∧ Below W9.heap.size W9 W9) := Lib.hid ⟨HPT.out, Below.refl _ _⟩
              have hgl9 := HPT.out.i.glc
              have HOFM : Hid (∀ u ∈ [fv, mv], u.oneCell' = true) := Lib.hid (two2 HPT.out.i.fin.one HPT.out.i.mrk.one)
              have HOTM : Hid (∀ u ∈ [tv, mv], u.oneCell' = true) := Lib.hid (two2 HPT.out.t.one HPT.out.i.mrk.one)
              have HOFT : Hid (∀ u ∈ [fv, tv], u.oneCell' = true) := Lib.hid (two2 HPT.out.i.fin.one HPT.out.t.one)
              have HOFN : Hid (∀ u ∈ [fv, .slice none 0 0], u.oneCell' = true) := Lib.hid (one2 HPT.out.i.fin.one)
              have HZML : Hid ((zm.ns.length = 0 ↔ M = [])) := Lib.hid (by rw [HZMA.out.1, List.length_map]; exact List.length_eq_zero_iff)
              by_cases h0 : r3 = 0
              · subst h0
                have HDS := Lib.hid (descends14_any W9 D L HBO.out (.slice Al L.length cl) _ _ _ HPT.out.i.lst HPT.out.i.at_ y (HPT.out.i.all.at_ y HYM.out).1 T HNT.out (HNI.out y HYM.out) zf HZFA.out.2.2 F HZFA.out.1 hDL)
                have HMV := Lib.hid fun (W : World) (h : PtI w W pp p b1 b2 D L (.slice (some ⟨ba, oa, none⟩) all.length ca) all (.slice Al L.length cl) gl gx g2 fv mv F M tv T) => pmove_any W pp p b1 b2 D _ _ _ _ h.i.path fv F hTF h.i.fin mv M hTM h.i.mrk tv T HNT.out.tip h.t
                obtain ⟨d1, hd1⟩ : ∃ d1, descG (hdrs D) T F = d1 := ⟨_, rfl⟩
                obtain ⟨d2, hd2⟩ : ∃ d2, (M.isEmpty || oneG (hdrs D) M T) = d2 := ⟨_, rfl⟩
                rw [hd1] at HDS
                rw [hd1, hd2] at HMV
                cases d1 with
                | false =>
                  simp only [Bool.false_and, Bool.false_eq_true, if_false] at HMV
                  clear hd1 hd2
                  go_upto_region 32 with (first
                    | (go_at_call 56; refine HDS.out.mono ?_; rintro e w10 ⟨rfl, hb⟩; have HX10 := Lib.hid (And.intro (HX9.out.1.next hb) (HX9.out.2.trans (hb.mono HX9.out.2.size))); clear hb))
                  go_upto_region 33 with (first
                    | (refine wpl_tip rfl _ rfl _ rfl _ HX10.out.1.b ?_)
                    | (refine wpl_load rfl 91 (.tmp 9) rfl gx 0 rfl [fv, mv] _ (fun j u hu => by rw [Nat.zero_add]; exact cell_block HX10.out.1.i.box (by simpa using hu)) Tryz.underlying91 rfl pt_size ?_)
                    | (go_at_call 57; refine (HMV.out _ HX10.out.1).mono ?_; rintro e w13 ⟨rfl, hb⟩; have HX13 := Lib.hid (And.intro (HX10.out.1.next hb) (HX10.out.2.trans (hb.mono HX10.out.2.size))); clear hb)
                    | (refine wpl_store_new rfl 91 (.tmp 20) (.tmp 132) rfl rfl [fv, mv] rfl _ _ rfl HOFM.out pt_size ?_))
                  have hbP : Below w13.heap.size w13 (w13.alloc (.cells #[fv, mv] 91)) := (Below.refl _ _).alloc (Nat.le_refl _) _
                  have HXP : Hid ((PtI w (w13.alloc (.cells #[fv, mv] 91)) pp p b1 b2 D L (.slice (some ⟨ba, oa, none⟩) all.length ca) all (.slice Al L.length cl) gl gx g2 fv mv F M tv T ∧ Below W9.heap.size W9 (w13.alloc (.cells #[fv, mv] 91))) ∧ (w13.alloc (.cells #[fv, mv] 91)).heap[w13.heap.size]? = some (.cells #[fv, mv] 91 (0, 0))) := Lib.hid ⟨⟨HX13.out.1.next hbP, HX13.out.2.trans (hbP.mono HX13.out.2.size)⟩, heap_alloc_new w13 _⟩
                  clear hbP hgl9
                  generalize w13.alloc (.cells #[fv, mv] 91) = W13 at HXP ⊢
                  generalize w13.heap.size = g20 at HXP ⊢
                  go_upto_region 35 with fail
                  go_upto_region 36 with (first
                    | (refine wpl_load rfl 91 (.tmp 20) rfl g20 0 rfl [fv, mv] _ (fun j u hu => by rw [Nat.zero_add]; exact cell_block HXP.out.2 (by simpa using hu)) Tryz.underlying91 rfl pt_size ?_)
                    | (refine wpl_store_row rfl 91 (.tmp 9) (.tmp 137) rfl gx rfl [fv, mv] rfl _ 91 HXP.out.1.1.i.box rfl HOFM.out pt_size ?_))
                  go_wp2
                  go_meet
                  case rel => exact ⟨zf, zm, F, M, fv, mv, rfl, rfl, ⟨HZFA.out.1, HZFA.out.2.1, Sl.fr (Sl.below HZFA.out.2.2 HXP.out.1.2) (HXP.out.1.1.i.frx _)⟩, ⟨HZMA.out.1, HZMA.out.2.1, Sl.fr (Sl.below HZMA.out.2.2 HXP.out.1.2) (HXP.out.1.1.i.frx _)⟩, HONE.out, (HXP.out.1.1.i.set HXP.out.1.1.i.fin HXP.out.1.1.i.mrk)⟩
                | true =>
                  by_cases hM0 : M = []
                  · have hd : d2 = true := by rw [← hd2, hM0]; rfl
                    subst hd
                    simp only [Bool.true_and, if_true] at HMV
                    have hzl : zm.ns.length = 0 := HZML.out.2 hM0
                    clear hd1 hd2
                    rw [show zm.v = Value.slice zm.A zm.ns.length zm.c from rfl]
                    go_upto_region 32 with (first
                      | (go_at_call 56; refine HDS.out.mono ?_; rintro e w10 ⟨rfl, hb⟩; have HX10 := Lib.hid (And.intro (HX9.out.1.next hb) (HX9.out.2.trans (hb.mono HX9.out.2.size))); clear hb))
                    go_upto_region 33 with (first
                      | (refine wpl_tip rfl _ rfl _ rfl _ HX10.out.1.b ?_)
                      | (refine wpl_load rfl 91 (.tmp 9) rfl gx 0 rfl [fv, mv] _ (fun j u hu => by rw [Nat.zero_add]; exact cell_block HX10.out.1.i.box (by simpa using hu)) Tryz.underlying91 rfl pt_size ?_)
                      | (go_at_call 57; refine (HMV.out _ HX10.out.1).mono ?_; rintro e w13 ⟨rfl, hb⟩; have HX13 := Lib.hid (And.intro (HX10.out.1.next hb) (HX10.out.2.trans (hb.mono HX10.out.2.size))); clear hb)
                      | (refine wpl_store_new rfl 91 (.tmp 20) (.tmp 132) rfl rfl [tv, mv] rfl _ _ rfl HOTM.out pt_size ?_))
                    have hbP : Below w13.heap.size w13 (w13.alloc (.cells #[tv, mv] 91)) := (Below.refl _ _).alloc (Nat.le_refl _) _
                    have HXP : Hid ((PtI w (w13.alloc (.cells #[tv, mv] 91)) pp p b1 b2 D L (.slice (some ⟨ba, oa, none⟩) all.length ca) all (.slice Al L.length cl) gl gx g2 fv mv F M tv T ∧ Below W9.heap.size W9 (w13.alloc (.cells #[tv, mv] 91))) ∧ (w13.alloc (.cells #[tv, mv] 91)).heap[w13.heap.size]? = some (.cells #[tv, mv] 91 (0, 0))) := Lib.hid ⟨⟨HX13.out.1.next hbP, HX13.out.2.trans (hbP.mono HX13.out.2.size)⟩, heap_alloc_new w13 _⟩
                    clear hbP hgl9
                    generalize w13.alloc (.cells #[tv, mv] 91) = W13 at HXP ⊢
                    generalize w13.heap.size = g20 at HXP ⊢
                    go_upto_region 35 with fail
                    go_upto_region 36 with (first
                      | (refine wpl_load rfl 91 (.tmp 20) rfl g20 0 rfl [tv, mv] _ (fun j u hu => by rw [Nat.zero_add]; exact cell_block HXP.out.2 (by simpa using hu)) Tryz.underlying91 rfl pt_size ?_)
                      | (refine wpl_store_row rfl 91 (.tmp 9) (.tmp 137) rfl gx rfl [tv, mv] rfl _ 91 HXP.out.1.1.i.box rfl HOTM.out pt_size ?_))
                    go_wp2
                    go_meet
                    case rel => exact ⟨y, zm, T, M, tv, mv, rfl, (by unfold LNS.v; rw [hzl]), ⟨HNT.out, HNI.out y HYM.out, Sl.fr (HXP.out.1.1.i.all.at_ y HYM.out).1 (HXP.out.1.1.i.frx _)⟩, ⟨HZMA.out.1, HZMA.out.2.1, Sl.fr (Sl.below HZMA.out.2.2 HXP.out.1.2) (HXP.out.1.1.i.frx _)⟩, .inl hM0, (HXP.out.1.1.i.set HXP.out.1.1.t HXP.out.1.1.i.mrk)⟩
                  · have hzl : zm.ns.length ≠ 0 := fun h => hM0 (HZML.out.1 h)
                    have hzp : 0 < zm.ns.length := Nat.pos_of_ne_zero hzl
                    have ho : oneG (hdrs D) M T = d2 := by rw [← hd2]; cases M with | nil => exact absurd rfl hM0 | cons _ _ => rfl
                    have HON := Lib.hid fun (W : World) (h : PtI w W pp p b1 b2 D L (.slice (some ⟨ba, oa, none⟩) all.length ca) all (.slice Al L.length cl) gl gx g2 fv mv F M tv T) (hb : Below W9.heap.size W9 W) => one18_any W gl D L HBO.out (.slice Al L.length cl) _ _ _ h.i.glc h.i.lst h.i.at_ zm (Sl.below HZMA.out.2.2 hb) M ⟨hTM.resolve_left hM0, HZMA.out.1⟩ (HZMA.out.2.1.resolve_left hM0).2 y (h.i.all.at_ y HYM.out).1 T HNT.out (HNI.out y HYM.out) hDL
                    rw [ho] at HON
                    cases d2 with
                    | false =>
                      simp only [Bool.true_and, Bool.false_eq_true, if_false] at HMV
                      clear hd1 hd2 ho
                      rw [show zm.v = Value.slice zm.A zm.ns.length zm.c from rfl]
                      go_upto_region 32 with (first
                        | (go_at_call 56; refine HDS.out.mono ?_; rintro e w10 ⟨rfl, hb⟩; have HX10 := Lib.hid (And.intro (HX9.out.1.next hb) (HX9.out.2.trans (hb.mono HX9.out.2.size))); clear hb)
                        | (go_at_call 55; refine (HON.out _ HX10.out.1 HX10.out.2).mono ?_; rintro e w11 ⟨rfl, hb⟩; have HX11 := Lib.hid (And.intro (HX10.out.1.next hb) (HX10.out.2.trans (hb.mono HX10.out.2.size))); clear hb))
                      go_upto_region 33 with (first
                        | (refine wpl_tip rfl _ rfl _ rfl _ HX11.out.1.b ?_)
                        | (refine wpl_load rfl 91 (.tmp 9) rfl gx 0 rfl [fv, mv] _ (fun j u hu => by rw [Nat.zero_add]; exact cell_block HX11.out.1.i.box (by simpa using hu)) Tryz.underlying91 rfl pt_size ?_)
                        | (go_at_call 57; refine (HMV.out _ HX11.out.1).mono ?_; rintro e w13 ⟨rfl, hb⟩; have HX13 := Lib.hid (And.intro (HX11.out.1.next hb) (HX11.out.2.trans (hb.mono HX11.out.2.size))); clear hb)
                        | (refine wpl_store_new rfl 91 (.tmp 20) (.tmp 132) rfl rfl [fv, mv] rfl _ _ rfl HOFM.out pt_size ?_))
                      have hbP : Below w13.heap.size w13 (w13.alloc (.cells #[fv, mv] 91)) := (Below.refl _ _).alloc (Nat.le_refl _) _
                      have HXP : Hid ((PtI w (w13.alloc (.cells #[fv, mv] 91)) pp p b1 b2 D L (.slice (some ⟨ba, oa, none⟩) all.length ca) all (.slice Al L.length cl) gl gx g2 fv mv F M tv T ∧ Below W9.heap.size W9 (w13.alloc (.cells #[fv, mv] 91))) ∧ (w13.alloc (.cells #[fv, mv] 91)).heap[w13.heap.size]? = some (.cells #[fv, mv] 91 (0, 0))) := Lib.hid ⟨⟨HX13.out.1.next hbP, HX13.out.2.trans (hbP.mono HX13.out.2.size)⟩, heap_alloc_new w13 _⟩
                      clear hbP hgl9
                      generalize w13.alloc (.cells #[fv, mv] 91) = W13 at HXP ⊢
                      generalize w13.heap.size = g20 at HXP ⊢
                      go_upto_region 35 with fail
                      go_upto_region 36 with (first
                        | (refine wpl_load rfl 91 (.tmp 20) rfl g20 0 rfl [fv, mv] _ (fun j u hu => by rw [Nat.zero_add]; exact cell_block HXP.out.2 (by simpa using hu)) Tryz.underlying91 rfl pt_size ?_)
                        | (refine wpl_store_row rfl 91 (.tmp 9) (.tmp 137) rfl gx rfl [fv, mv] rfl _ 91 HXP.out.1.1.i.box rfl HOFM.out pt_size ?_))
                      go_wp2
                      go_meet
                      case rel => exact ⟨zf, zm, F, M, fv, mv, rfl, rfl, ⟨HZFA.out.1, HZFA.out.2.1, Sl.fr (Sl.below HZFA.out.2.2 HXP.out.1.2) (HXP.out.1.1.i.frx _)⟩, ⟨HZMA.out.1, HZMA.out.2.1, Sl.fr (Sl.below HZMA.out.2.2 HXP.out.1.2) (HXP.out.1.1.i.frx _)⟩, HONE.out, (HXP.out.1.1.i.set HXP.out.1.1.i.fin HXP.out.1.1.i.mrk)⟩
                    | true =>
                      have HOT : Hid (oneG (hdrs D) T M = true) := Lib.hid ((one_symm T M).trans ho)
                      simp only [Bool.true_and, if_true] at HMV
                      clear hd1 hd2 ho
                      rw [show zm.v = Value.slice zm.A zm.ns.length zm.c from rfl]
                      go_upto_region 32 with (first
                        | (go_at_call 56; refine HDS.out.mono ?_; rintro e w10 ⟨rfl, hb⟩; have HX10 := Lib.hid (And.intro (HX9.out.1.next hb) (HX9.out.2.trans (hb.mono HX9.out.2.size))); clear hb)
                        | (go_at_call 55; refine (HON.out _ HX10.out.1 HX10.out.2).mono ?_; rintro e w11 ⟨rfl, hb⟩; have HX11 := Lib.hid (And.intro (HX10.out.1.next hb) (HX10.out.2.trans (hb.mono HX10.out.2.size))); clear hb))
                      go_upto_region 33 with (first
                        | (refine wpl_tip rfl _ rfl _ rfl _ HX11.out.1.b ?_)
                        | (refine wpl_load rfl 91 (.tmp 9) rfl gx 0 rfl [fv, mv] _ (fun j u hu => by rw [Nat.zero_add]; exact cell_block HX11.out.1.i.box (by simpa using hu)) Tryz.underlying91 rfl pt_size ?_)
                        | (go_at_call 57; refine (HMV.out _ HX11.out.1).mono ?_; rintro e w13 ⟨rfl, hb⟩; have HX13 := Lib.hid (And.intro (HX11.out.1.next hb) (HX11.out.2.trans (hb.mono HX11.out.2.size))); clear hb)
                        | (refine wpl_store_new rfl 91 (.tmp 20) (.tmp 132) rfl rfl [tv, mv] rfl _ _ rfl HOTM.out pt_size ?_))
                      have hbP : Below w13.heap.size w13 (w13.alloc (.cells #[tv, mv] 91)) := (Below.refl _ _).alloc (Nat.le_refl _) _
                      have HXP : Hid ((PtI w (w13.alloc (.cells #[tv, mv] 91)) pp p b1 b2 D L (.slice (some ⟨ba, oa, none⟩) all.length ca) all (.slice Al L.length cl) gl gx g2 fv mv F M tv T ∧ Below W9.heap.size W9 (w13.alloc (.cells #[tv, mv] 91))) ∧ (w13.alloc (.cells #[tv, mv] 91)).heap[w13.heap.size]? = some (.cells #[tv, mv] 91 (0, 0))) := Lib.hid ⟨⟨HX13.out.1.next hbP, HX13.out.2.trans (hbP.mono HX13.out.2.size)⟩, heap_alloc_new w13 _⟩
                      clear hbP hgl9
                      generalize w13.alloc (.cells #[tv, mv] 91) = W13 at HXP ⊢
                      generalize w13.heap.size = g20 at HXP ⊢
                      go_upto_region 35 with fail
                      go_upto_region 36 with (first
                        | (refine wpl_load rfl 91 (.tmp 20) rfl g20 0 rfl [tv, mv] _ (fun j u hu => by rw [Nat.zero_add]; exact cell_block HXP.out.2 (by simpa using hu)) Tryz.underlying91 rfl pt_size ?_)
                        | (refine wpl_store_row rfl 91 (.tmp 9) (.tmp 137) rfl gx rfl [tv, mv] rfl _ 91 HXP.out.1.1.i.box rfl HOTM.out pt_size ?_))
                      go_wp2
                      go_meet
                      case rel => exact ⟨y, zm, T, M, tv, mv, rfl, rfl, ⟨HNT.out, HNI.out y HYM.out, Sl.fr (HXP.out.1.1.i.all.at_ y HYM.out).1 (HXP.out.1.1.i.frx _)⟩, ⟨HZMA.out.1, HZMA.out.2.1, Sl.fr (Sl.below HZMA.out.2.2 HXP.out.1.2) (HXP.out.1.1.i.frx _)⟩, .inr HOT.out, (HXP.out.1.1.i.set HXP.out.1.1.t HXP.out.1.1.i.mrk)⟩
              · by_cases h1 : r3 = 1
                · subst h1
                  have HDS := Lib.hid (descends14_any W9 D L HBO.out (.slice Al L.length cl) _ _ _ HPT.out.i.lst HPT.out.i.at_ y (HPT.out.i.all.at_ y HYM.out).1 T HNT.out (HNI.out y HYM.out) zf HZFA.out.2.2 F HZFA.out.1 hDL)
                  have HMV := Lib.hid fun (W : World) (h : PtI w W pp p b1 b2 D L (.slice (some ⟨ba, oa, none⟩) all.length ca) all (.slice Al L.length cl) gl gx g2 fv mv F M tv T) => pmove_any W pp p b1 b2 D _ _ _ _ h.i.path fv F hTF h.i.fin mv M hTM h.i.mrk tv T HNT.out.tip h.t
                  obtain ⟨d1, hd1⟩ : ∃ d1, descG (hdrs D) T F = d1 := ⟨_, rfl⟩
                  obtain ⟨d2, hd2⟩ : ∃ d2, (M.isEmpty || oneG (hdrs D) M T) = d2 := ⟨_, rfl⟩
                  rw [hd1] at HDS
                  rw [hd1, hd2] at HMV
                  cases d1 with
                  | false =>
                    simp only [Bool.false_and, Bool.false_eq_true, if_false] at HMV
                    clear hd1 hd2
                    go_upto_region 32 with (first
                      | (go_at_call 56; refine HDS.out.mono ?_; rintro e w10 ⟨rfl, hb⟩; have HX10 := Lib.hid (And.intro (HX9.out.1.next hb) (HX9.out.2.trans (hb.mono HX9.out.2.size))); clear hb))
                    go_upto_region 33 with (first
                      | (refine wpl_tip rfl _ rfl _ rfl _ HX10.out.1.b ?_)
                      | (refine wpl_load rfl 91 (.tmp 9) rfl gx 0 rfl [fv, mv] _ (fun j u hu => by rw [Nat.zero_add]; exact cell_block HX10.out.1.i.box (by simpa using hu)) Tryz.underlying91 rfl pt_size ?_)
                      | (go_at_call 57; refine (HMV.out _ HX10.out.1).mono ?_; rintro e w13 ⟨rfl, hb⟩; have HX13 := Lib.hid (And.intro (HX10.out.1.next hb) (HX10.out.2.trans (hb.mono HX10.out.2.size))); clear hb)
                      | (refine wpl_store_new rfl 91 (.tmp 20) (.tmp 132) rfl rfl [fv, mv] rfl _ _ rfl HOFM.out pt_size ?_))
                    have hbP : Below w13.heap.size w13 (w13.alloc (.cells #[fv, mv] 91)) := (Below.refl _ _).alloc (Nat.le_refl _) _
                    have HXP : Hid ((PtI w (w13.alloc (.cells #[fv, mv] 91)) pp p b1 b2 D L (.slice (some ⟨ba, oa, none⟩) all.length ca) all (.slice Al L.length cl) gl gx g2 fv mv F M tv T ∧ Below W9.heap.size W9 (w13.alloc (.cells #[fv, mv] 91))) ∧ (w13.alloc (.cells #[fv, mv] 91)).heap[w13.heap.size]? = some (.cells #[fv, mv] 91 (0, 0))) := Lib.hid ⟨⟨HX13.out.1.next hbP, HX13.out.2.trans (hbP.mono HX13.out.2.size)⟩, heap_alloc_new w13 _⟩
                    clear hbP hgl9
                    generalize w13.alloc (.cells #[fv, mv] 91) = W13 at HXP ⊢
                    generalize w13.heap.size = g20 at HXP ⊢
                    go_upto_region 35 with fail
                    go_upto_region 36 with (first
                      | (refine wpl_load rfl 91 (.tmp 20) rfl g20 0 rfl [fv, mv] _ (fun j u hu => by rw [Nat.zero_add]; exact cell_block HXP.out.2 (by simpa using hu)) Tryz.underlying91 rfl pt_size ?_)
                      | (refine wpl_store_row rfl 91 (.tmp 9) (.tmp 137) rfl gx rfl [fv, mv] rfl _ 91 HXP.out.1.1.i.box rfl HOFM.out pt_size ?_))
                    go_wp2
                    go_meet
                    case rel => exact ⟨zf, zm, F, M, fv, mv, rfl, rfl, ⟨HZFA.out.1, HZFA.out.2.1, Sl.fr (Sl.below HZFA.out.2.2 HXP.out.1.2) (HXP.out.1.1.i.frx _)⟩, ⟨HZMA.out.1, HZMA.out.2.1, Sl.fr (Sl.below HZMA.out.2.2 HXP.out.1.2) (HXP.out.1.1.i.frx _)⟩, HONE.out, (HXP.out.1.1.i.set HXP.out.1.1.i.fin HXP.out.1.1.i.mrk)⟩
                  | true =>
                    by_cases hM0 : M = []
                    · have hd : d2 = true := by rw [← hd2, hM0]; rfl
                      subst hd
                      simp only [Bool.true_and, if_true] at HMV
                      have hzl : zm.ns.length = 0 := HZML.out.2 hM0
                      clear hd1 hd2
                      rw [show zm.v = Value.slice zm.A zm.ns.length zm.c from rfl]
                      go_upto_region 32 with (first
                        | (go_at_call 56; refine HDS.out.mono ?_; rintro e w10 ⟨rfl, hb⟩; have HX10 := Lib.hid (And.intro (HX9.out.1.next hb) (HX9.out.2.trans (hb.mono HX9.out.2.size))); clear hb))
                      go_upto_region 33 with (first
                        | (refine wpl_tip rfl _ rfl _ rfl _ HX10.out.1.b ?_)
                        | (refine wpl_load rfl 91 (.tmp 9) rfl gx 0 rfl [fv, mv] _ (fun j u hu => by rw [Nat.zero_add]; exact cell_block HX10.out.1.i.box (by simpa using hu)) Tryz.underlying91 rfl pt_size ?_)
                        | (go_at_call 57; refine (HMV.out _ HX10.out.1).mono ?_; rintro e w13 ⟨rfl, hb⟩; have HX13 := Lib.hid (And.intro (HX10.out.1.next hb) (HX10.out.2.trans (hb.mono HX10.out.2.size))); clear hb)
                        | (refine wpl_store_new rfl 91 (.tmp 20) (.tmp 132) rfl rfl [tv, mv] rfl _ _ rfl HOTM.out pt_size ?_))
                      have hbP : Below w13.heap.size w13 (w13.alloc (.cells #[tv, mv] 91)) := (Below.refl _ _).alloc (Nat.le_refl _) _
                      have HXP : Hid ((PtI w (w13.alloc (.cells #[tv, mv] 91)) pp p b1 b2 D L (.slice (some ⟨ba, oa, none⟩) all.length ca) all (.slice Al L.length cl) gl gx g2 fv mv F M tv T ∧ Below W9.heap.size W9 (w13.alloc (.cells #[tv, mv] 91))) ∧ (w13.alloc (.cells #[tv, mv] 91)).heap[w13.heap.size]? = some (.cells #[tv, mv] 91 (0, 0))) := Lib.hid ⟨⟨HX13.out.1.next hbP, HX13.out.2.trans (hbP.mono HX13.out.2.size)⟩, heap_alloc_new w13 _⟩
                      clear hbP hgl9
                      generalize w13.alloc (.cells #[tv, mv] 91) = W13 at HXP ⊢
                      generalize w13.heap.size = g20 at HXP ⊢
                      go_upto_region 35 with fail
                      go_upto_region 36 with (first
                        | (refine wpl_load rfl 91 (.tmp 20) rfl g20 0 rfl [tv, mv] _ (fun j u hu => by rw [Nat.zero_add]; exact cell_block HXP.out.2 (by simpa using hu)) Tryz.underlying91 rfl pt_size ?_)
                        | (refine wpl_store_row rfl 91 (.tmp 9) (.tmp 137) rfl gx rfl [tv, mv] rfl _ 91 HXP.out.1.1.i.box rfl HOTM.out pt_size ?_))
                      go_wp2
                      go_meet
                      case rel => exact ⟨y, zm, T, M, tv, mv, rfl, (by unfold LNS.v; rw [hzl]), ⟨HNT.out, HNI.out y HYM.out, Sl.fr (HXP.out.1.1.i.all.at_ y HYM.out).1 (HXP.out.1.1.i.frx _)⟩, ⟨HZMA.out.1, HZMA.out.2.1, Sl.fr (Sl.below HZMA.out.2.2 HXP.out.1.2) (HXP.out.1.1.i.frx _)⟩, .inl hM0, (HXP.out.1.1.i.set HXP.out.1.1.t HXP.out.1.1.i.mrk)⟩
                    · have hzl : zm.ns.length ≠ 0 := fun h => hM0 (HZML.out.1 h)
                      have hzp : 0 < zm.ns.length := Nat.pos_of_ne_zero hzl
                      have ho : oneG (hdrs D) M T = d2 := by rw [← hd2]; cases M with | nil => exact absurd rfl hM0 | cons _ _ => rfl
                      have HON := Lib.hid fun (W : World) (h : PtI w W pp p b1 b2 D L (.slice (some ⟨ba, oa, none⟩) all.length ca) all (.slice Al L.length cl) gl gx g2 fv mv F M tv T) (hb : Below W9.heap.size W9 W) => one18_any W gl D L HBO.out (.slice Al L.length cl) _ _ _ h.i.glc h.i.lst h.i.at_ zm (Sl.below HZMA.out.2.2 hb) M ⟨hTM.resolve_left hM0, HZMA.out.1⟩ (HZMA.out.2.1.resolve_left hM0).2 y (h.i.all.at_ y HYM.out).1 T HNT.out (HNI.out y HYM.out) hDL
                      rw [ho] at HON
                      cases d2 with
                      | false =>
                        simp only [Bool.true_and, Bool.false_eq_true, if_false] at HMV
                        clear hd1 hd2 ho
                        rw [show zm.v = Value.slice zm.A zm.ns.length zm.c from rfl]
                        go_upto_region 32 with (first
                          | (go_at_call 56; refine HDS.out.mono ?_; rintro e w10 ⟨rfl, hb⟩; have HX10 := Lib.hid (And.intro (HX9.out.1.next hb) (HX9.out.2.trans (hb.mono HX9.out.2.size))); clear hb)
                          | (go_at_call 55; refine (HON.out _ HX10.out.1 HX10.out.2).mono ?_; rintro e w11 ⟨rfl, hb⟩; have HX11 := Lib.hid (And.intro (HX10.out.1.next hb) (HX10.out.2.trans (hb.mono HX10.out.2.size))); clear hb))
                        go_upto_region 33 with (first
                          | (refine wpl_tip rfl _ rfl _ rfl _ HX11.out.1.b ?_)
                          | (refine wpl_load rfl 91 (.tmp 9) rfl gx 0 rfl [fv, mv] _ (fun j u hu => by rw [Nat.zero_add]; exact cell_block HX11.out.1.i.box (by simpa using hu)) Tryz.underlying91 rfl pt_size ?_)
                          | (go_at_call 57; refine (HMV.out _ HX11.out.1).mono ?_; rintro e w13 ⟨rfl, hb⟩; have HX13 := Lib.hid (And.intro (HX11.out.1.next hb) (HX11.out.2.trans (hb.mono HX11.out.2.size))); clear hb)
                          | (refine wpl_store_new rfl 91 (.tmp 20) (.tmp 132) rfl rfl [fv, mv] rfl _ _ rfl HOFM.out pt_size ?_))
                        have hbP : Below w13.heap.size w13 (w13.alloc (.cells #[fv, mv] 91)) := (Below.refl _ _).alloc (Nat.le_refl _) _
                        have HXP : Hid ((PtI w (w13.alloc (.cells #[fv, mv] 91)) pp p b1 b2 D L (.slice (some ⟨ba, oa, none⟩) all.length ca) all (.slice Al L.length cl) gl gx g2 fv mv F M tv T ∧ Below W9.heap.size W9 (w13.alloc (.cells #[fv, mv] 91))) ∧ (w13.alloc (.cells #[fv, mv] 91)).heap[w13.heap.size]? = some (.cells #[fv, mv] 91 (0, 0))) := Lib.hid ⟨⟨HX13.out.1.next hbP, HX13.out.2.trans (hbP.mono HX13.out.2.size)⟩, heap_alloc_new w13 _⟩
                        clear hbP hgl9
                        generalize w13.alloc (.cells #[fv, mv] 91) = W13 at HXP ⊢
                        generalize w13.heap.size = g20 at HXP ⊢
                        go_upto_region 35 with fail
                        go_upto_region 36 with (first
                          | (refine wpl_load rfl 91 (.tmp 20) rfl g20 0 rfl [fv, mv] _ (fun j u hu => by rw [Nat.zero_add]; exact cell_block HXP.out.2 (by simpa using hu)) Tryz.underlying91 rfl pt_size ?_)
                          | (refine wpl_store_row rfl 91 (.tmp 9) (.tmp 137) rfl gx rfl [fv, mv] rfl _ 91 HXP.out.1.1.i.box rfl HOFM.out pt_size ?_))
                        go_wp2
                        go_meet
                        case rel => exact ⟨zf, zm, F, M, fv, mv, rfl, rfl, ⟨HZFA.out.1, HZFA.out.2.1, Sl.fr (Sl.below HZFA.out.2.2 HXP.out.1.2) (HXP.out.1.1.i.frx _)⟩, ⟨HZMA.out.1, HZMA.out.2.1, Sl.fr (Sl.below HZMA.out.2.2 HXP.out.1.2) (HXP.out.1.1.i.frx _)⟩, HONE.out, (HXP.out.1.1.i.set HXP.out.1.1.i.fin HXP.out.1.1.i.mrk)⟩
                      | true =>
                        have HOT : Hid (oneG (hdrs D) T M = true) := Lib.hid ((one_symm T M).trans ho)
                        simp only [Bool.true_and, if_true] at HMV
                        clear hd1 hd2 ho
                        rw [show zm.v = Value.slice zm.A zm.ns.length zm.c from rfl]
                        go_upto_region 32 with (first
                          | (go_at_call 56; refine HDS.out.mono ?_; rintro e w10 ⟨rfl, hb⟩; have HX10 := Lib.hid (And.intro (HX9.out.1.next hb) (HX9.out.2.trans (hb.mono HX9.out.2.size))); clear hb)
                          | (go_at_call 55; refine (HON.out _ HX10.out.1 HX10.out.2).mono ?_; rintro e w11 ⟨rfl, hb⟩; have HX11 := Lib.hid (And.intro (HX10.out.1.next hb) (HX10.out.2.trans (hb.mono HX10.out.2.size))); clear hb))
                        go_upto_region 33 with (first
                          | (refine wpl_tip rfl _ rfl _ rfl _ HX11.out.1.b ?_)
                          | (refine wpl_load rfl 91 (.tmp 9) rfl gx 0 rfl [fv, mv] _ (fun j u hu => by rw [Nat.zero_add]; exact cell_block HX11.out.1.i.box (by simpa using hu)) Tryz.underlying91 rfl pt_size ?_)
                          | (go_at_call 57; refine (HMV.out _ HX11.out.1).mono ?_; rintro e w13 ⟨rfl, hb⟩; have HX13 := Lib.hid (And.intro (HX11.out.1.next hb) (HX11.out.2.trans (hb.mono HX11.out.2.size))); clear hb)
                          | (refine wpl_store_new rfl 91 (.tmp 20) (.tmp 132) rfl rfl [tv, mv] rfl _ _ rfl HOTM.out pt_size ?_))
                        have hbP : Below w13.heap.size w13 (w13.alloc (.cells #[tv, mv] 91)) := (Below.refl _ _).alloc (Nat.le_refl _) _
                        have HXP : Hid ((PtI w (w13.alloc (.cells #[tv, mv] 91)) pp p b1 b2 D L (.slice (some ⟨ba, oa, none⟩) all.length ca) all (.slice Al L.length cl) gl gx g2 fv mv F M tv T ∧ Below W9.heap.size W9 (w13.alloc (.cells #[tv, mv] 91))) ∧ (w13.alloc (.cells #[tv, mv] 91)).heap[w13.heap.size]? = some (.cells #[tv, mv] 91 (0, 0))) := Lib.hid ⟨⟨HX13.out.1.next hbP, HX13.out.2.trans (hbP.mono HX13.out.2.size)⟩, heap_alloc_new w13 _⟩
                        clear hbP hgl9
                        generalize w13.alloc (.cells #[tv, mv] 91) = W13 at HXP ⊢
                        generalize w13.heap.size = g20 at HXP ⊢
                        go_upto_region 35 with fail
                        go_upto_region 36 with (first
                          | (refine wpl_load rfl 91 (.tmp 20) rfl g20 0 rfl [tv, mv] _ (fun j u hu => by rw [Nat.zero_add]; exact cell_block HXP.out.2 (by simpa using hu)) Tryz.underlying91 rfl pt_size ?_)
                          | (refine wpl_store_row rfl 91 (.tmp 9) (.tmp 137) rfl gx rfl [tv, mv] rfl _ 91 HXP.out.1.1.i.box rfl HOTM.out pt_size ?_))
                        go_wp2
                        go_meet
                        case rel => exact ⟨y, zm, T, M, tv, mv, rfl, rfl, ⟨HNT.out, HNI.out y HYM.out, Sl.fr (HXP.out.1.1.i.all.at_ y HYM.out).1 (HXP.out.1.1.i.frx _)⟩, ⟨HZMA.out.1, HZMA.out.2.1, Sl.fr (Sl.below HZMA.out.2.2 HXP.out.1.2) (HXP.out.1.1.i.frx _)⟩, .inr HOT.out, (HXP.out.1.1.i.set HXP.out.1.1.t HXP.out.1.1.i.mrk)⟩
                · by_cases h2 : r3 = 2
                  · subst h2
                    have hTe : T.isEmpty = false := by cases T with | nil => exact absurd rfl HNT.out.tip.ne | cons _ _ => rfl
                    have HST := Lib.hid fun (W : World) (h : PtI w W pp p b1 b2 D L (.slice (some ⟨ba, oa, none⟩) all.length ca) all (.slice Al L.length cl) gl gx g2 fv mv F M tv T) => pset_any W pp p b1 b2 D _ _ _ _ h.i.path fv F hTF h.i.fin mv M h.i.mrk tv T (.inr HNT.out.tip) h.t
                    have HON := Lib.hid fun (W : World) (h : PtI w W pp p b1 b2 D L (.slice (some ⟨ba, oa, none⟩) all.length ca) all (.slice Al L.length cl) gl gx g2 fv mv F M tv T) (hb : Below W9.heap.size W9 W) => one18_any W gl D L HBO.out (.slice Al L.length cl) _ _ _ h.i.glc h.i.lst h.i.at_ zf (Sl.below HZFA.out.2.2 hb) F HZFA.out.1 HZFA.out.2.1 y (h.i.all.at_ y HYM.out).1 T HNT.out (HNI.out y HYM.out) hDL
                    obtain ⟨d1, hd1⟩ : ∃ d1, oneG (hdrs D) F T = d1 := ⟨_, rfl⟩
                    rw [hd1] at HON
                    rw [hTe, hd1] at HST
                    cases d1 with
                    | false =>
                      simp only [Bool.false_or, Bool.false_eq_true, if_false] at HST
                      clear hd1 hTe
                      go_upto_region 40 with (first
                        | (refine wpl_tip rfl _ rfl _ rfl _ HX9.out.1.b ?_)
                        | (refine wpl_load rfl 91 (.tmp 9) rfl gx 0 rfl [fv, mv] _ (fun j u hu => by rw [Nat.zero_add]; exact cell_block HX9.out.1.i.box (by simpa using hu)) Tryz.underlying91 rfl pt_size ?_)
                        | (go_at_call 58; refine (HST.out _ HX9.out.1).mono ?_; rintro e w13 ⟨rfl, hb⟩; have HX13 := Lib.hid (And.intro (HX9.out.1.next hb) (HX9.out.2.trans (hb.mono HX9.out.2.size))); clear hb)
                        | (refine wpl_store_new rfl 91 (.tmp 22) (.tmp 147) rfl rfl [fv, mv] rfl _ _ rfl HOFM.out pt_size ?_))
                      have hbP : Below w13.heap.size w13 (w13.alloc (.cells #[fv, mv] 91)) := (Below.refl _ _).alloc (Nat.le_refl _) _
                      have HXP : Hid ((PtI w (w13.alloc (.cells #[fv, mv] 91)) pp p b1 b2 D L (.slice (some ⟨ba, oa, none⟩) all.length ca) all (.slice Al L.length cl) gl gx g2 fv mv F M tv T ∧ Below W9.heap.size W9 (w13.alloc (.cells #[fv, mv] 91))) ∧ (w13.alloc (.cells #[fv, mv] 91)).heap[w13.heap.size]? = some (.cells #[fv, mv] 91 (0, 0))) := Lib.hid ⟨⟨HX13.out.1.next hbP, HX13.out.2.trans (hbP.mono HX13.out.2.size)⟩, heap_alloc_new w13 _⟩
                      clear hbP hgl9
                      generalize w13.alloc (.cells #[fv, mv] 91) = W13 at HXP ⊢
                      generalize w13.heap.size = g20 at HXP ⊢
                      go_upto_region 42 with (first
                        | (go_at_call 55; refine (HON.out _ HXP.out.1.1 HXP.out.1.2).mono ?_; rintro e w14 ⟨rfl, hb⟩; have HXQ := Lib.hid (And.intro (And.intro (HXP.out.1.1.next hb) (HXP.out.1.2.trans (hb.mono HXP.out.1.2.size))) ((hb.block _ (Array.getElem?_eq_some_iff.1 HXP.out.2).1).trans HXP.out.2)); clear hb))
                      go_upto_region 43 with (first
                        | (refine wpl_load rfl 91 (.tmp 22) rfl g20 0 rfl [fv, mv] _ (fun j u hu => by rw [Nat.zero_add]; exact cell_block HXQ.out.2 (by simpa using hu)) Tryz.underlying91 rfl pt_size ?_)
                        | (refine wpl_store_row rfl 91 (.tmp 9) (.tmp 164) rfl gx rfl [fv, mv] rfl _ 91 HXQ.out.1.1.i.box rfl HOFM.out pt_size ?_))
                      go_wp2
                      go_meet
                      case rel => exact ⟨zf, zm, F, M, fv, mv, rfl, rfl, ⟨HZFA.out.1, HZFA.out.2.1, Sl.fr (Sl.below HZFA.out.2.2 HXQ.out.1.2) (HXQ.out.1.1.i.frx _)⟩, ⟨HZMA.out.1, HZMA.out.2.1, Sl.fr (Sl.below HZMA.out.2.2 HXQ.out.1.2) (HXQ.out.1.1.i.frx _)⟩, HONE.out, (HXQ.out.1.1.i.set HXQ.out.1.1.i.fin HXQ.out.1.1.i.mrk)⟩
                    | true =>
                      have HOT := Lib.hid hd1
                      simp only [Bool.false_or, if_true] at HST
                      clear hd1 hTe
                      go_upto_region 40 with (first
                        | (refine wpl_tip rfl _ rfl _ rfl _ HX9.out.1.b ?_)
                        | (refine wpl_load rfl 91 (.tmp 9) rfl gx 0 rfl [fv, mv] _ (fun j u hu => by rw [Nat.zero_add]; exact cell_block HX9.out.1.i.box (by simpa using hu)) Tryz.underlying91 rfl pt_size ?_)
                        | (go_at_call 58; refine (HST.out _ HX9.out.1).mono ?_; rintro e w13 ⟨rfl, hb⟩; have HX13 := Lib.hid (And.intro (HX9.out.1.next hb) (HX9.out.2.trans (hb.mono HX9.out.2.size))); clear hb)
                        | (refine wpl_store_new rfl 91 (.tmp 22) (.tmp 147) rfl rfl [fv, tv] rfl _ _ rfl HOFT.out pt_size ?_))
                      have hbP : Below w13.heap.size w13 (w13.alloc (.cells #[fv, tv] 91)) := (Below.refl _ _).alloc (Nat.le_refl _) _
                      have HXP : Hid ((PtI w (w13.alloc (.cells #[fv, tv] 91)) pp p b1 b2 D L (.slice (some ⟨ba, oa, none⟩) all.length ca) all (.slice Al L.length cl) gl gx g2 fv mv F M tv T ∧ Below W9.heap.size W9 (w13.alloc (.cells #[fv, tv] 91))) ∧ (w13.alloc (.cells #[fv, tv] 91)).heap[w13.heap.size]? = some (.cells #[fv, tv] 91 (0, 0))) := Lib.hid ⟨⟨HX13.out.1.next hbP, HX13.out.2.trans (hbP.mono HX13.out.2.size)⟩, heap_alloc_new w13 _⟩
                      clear hbP hgl9
                      generalize w13.alloc (.cells #[fv, tv] 91) = W13 at HXP ⊢
                      generalize w13.heap.size = g20 at HXP ⊢
                      go_upto_region 42 with (first
                        | (go_at_call 55; refine (HON.out _ HXP.out.1.1 HXP.out.1.2).mono ?_; rintro e w14 ⟨rfl, hb⟩; have HXQ := Lib.hid (And.intro (And.intro (HXP.out.1.1.next hb) (HXP.out.1.2.trans (hb.mono HXP.out.1.2.size))) ((hb.block _ (Array.getElem?_eq_some_iff.1 HXP.out.2).1).trans HXP.out.2)); clear hb))
                      go_upto_region 43 with (first
                        | (refine wpl_load rfl 91 (.tmp 22) rfl g20 0 rfl [fv, tv] _ (fun j u hu => by rw [Nat.zero_add]; exact cell_block HXQ.out.2 (by simpa using hu)) Tryz.underlying91 rfl pt_size ?_)
                        | (refine wpl_store_row rfl 91 (.tmp 9) (.tmp 164) rfl gx rfl [fv, tv] rfl _ 91 HXQ.out.1.1.i.box rfl HOFT.out pt_size ?_))
                      go_wp2
                      go_meet
                      case rel => exact ⟨zf, y, F, T, fv, tv, rfl, rfl, ⟨HZFA.out.1, HZFA.out.2.1, Sl.fr (Sl.below HZFA.out.2.2 HXQ.out.1.2) (HXQ.out.1.1.i.frx _)⟩, ⟨HNT.out.ns, .inr ⟨HNT.out.tip, HNI.out y HYM.out⟩, Sl.fr (HXQ.out.1.1.i.all.at_ y HYM.out).1 (HXQ.out.1.1.i.frx _)⟩, .inr HOT.out, (HXQ.out.1.1.i.set HXQ.out.1.1.i.fin HXQ.out.1.1.t)⟩
                  · have HST := Lib.hid fun (W : World) (h : PtI w W pp p b1 b2 D L (.slice (some ⟨ba, oa, none⟩) all.length ca) all (.slice Al L.length cl) gl gx g2 fv mv F M tv T) => pset_any W pp p b1 b2 D _ _ _ (fun _ => True) h.i.path fv F hTF h.i.fin mv M h.i.mrk (.slice none 0 0) [] (.inl rfl) TipIs.zero
                    simp only [List.isEmpty_nil, Bool.true_or, if_true] at HST
                    go_upto_region 26 with (first
                      | (refine wpl_load rfl 91 (.tmp 9) rfl gx 0 rfl [fv, mv] _ (fun j u hu => by rw [Nat.zero_add]; exact cell_block HX9.out.1.i.box (by simpa using hu)) Tryz.underlying91 rfl pt_size ?_)
                      | (go_at_call 58; refine (HST.out _ HX9.out.1).mono ?_; rintro e w13 ⟨rfl, hb⟩; have HX13 := Lib.hid (And.intro (HX9.out.1.next hb) (HX9.out.2.trans (hb.mono HX9.out.2.size))); clear hb)
                      | (refine wpl_store_new rfl 91 (.tmp 24) (.tmp 104) rfl rfl [fv, .slice none 0 0] rfl _ _ rfl HOFN.out pt_size ?_))
                    have hbP : Below w13.heap.size w13 (w13.alloc (.cells #[fv, .slice none 0 0] 91)) := (Below.refl _ _).alloc (Nat.le_refl _) _
                    have HXP : Hid ((PtI w (w13.alloc (.cells #[fv, .slice none 0 0] 91)) pp p b1 b2 D L (.slice (some ⟨ba, oa, none⟩) all.length ca) all (.slice Al L.length cl) gl gx g2 fv mv F M tv T ∧ Below W9.heap.size W9 (w13.alloc (.cells #[fv, .slice none 0 0] 91))) ∧ (w13.alloc (.cells #[fv, .slice none 0 0] 91)).heap[w13.heap.size]? = some (.cells #[fv, .slice none 0 0] 91 (0, 0))) := Lib.hid ⟨⟨HX13.out.1.next hbP, HX13.out.2.trans (hbP.mono HX13.out.2.size)⟩, heap_alloc_new w13 _⟩
                    clear hbP hgl9
                    generalize w13.alloc (.cells #[fv, .slice none 0 0] 91) = W13 at HXP ⊢
                    generalize w13.heap.size = g20 at HXP ⊢
                    go_upto_region 28 with fail
                    go_wp2_with (first
                      | (refine wpl_load rfl 91 (.tmp 24) rfl g20 0 rfl [fv, .slice none 0 0] _ (fun j u hu => by rw [Nat.zero_add]; exact cell_block HXP.out.2 (by simpa using hu)) Tryz.underlying91 rfl pt_size ?_)
                      | (refine wpl_store_row rfl 91 (.tmp 9) (.tmp 108) rfl gx rfl [fv, .slice none 0 0] rfl _ 91 HXP.out.1.1.i.box rfl HOFN.out pt_size ?_))
                    go_meet
                    case rel => exact ⟨zf, ⟨[], none, 0⟩, F, [], fv, .slice none 0 0, rfl, rfl, ⟨HZFA.out.1, HZFA.out.2.1, Sl.fr (Sl.below HZFA.out.2.2 HXP.out.1.2) (HXP.out.1.1.i.frx _)⟩, ⟨rfl, .inl rfl, none_at plain_none⟩, .inl rfl, (HXP.out.1.1.i.set HXP.out.1.1.i.fin TipIs.zero)⟩
            case rest =>
              obtain ⟨zf2, zm2, F2, M2, fv2, mv2, rfl, rfl, hzf, hzm, hone, hI⟩ := hcut
              rename World => W10
              have HI10 := Lib.hid hI
              have HZF10 := Lib.hid hzf
              have HZM10 := Lib.hid hzm
              have HONE10 := Lib.hid hone
              have hTF : TipOf (hdrs D) F2 := hzf.1.tip
              have hTM : M2 = [] ∨ TipOf (hdrs D) M2 := hzm.2.1.imp id And.left
              clear hI hzf hzm hone HPT HZFA HZMA HONE
              obtain ⟨flv, FL, hfl⟩ : ∃ (flv : Value) (FL : List ID), (if M2 ≠ [] ∧ descG (hdrs D) M2 F2 = true then (mv2, M2) else (fv2, F2)) = (flv, FL) := ⟨_, _, rfl⟩
              have HFLV : Hid ((if M2 ≠ [] ∧ descG (hdrs D) M2 F2 = true then mv2 else fv2) = flv ∧ TipOf (hdrs D) FL ∧ descG (hdrs D) FL F2 = true ∧ (M2 = [] ∨ descG (hdrs D) FL M2 = true) ∧ ∀ W, PoI w W pp p b1 b2 D L (.slice (some ⟨ba, oa, none⟩) all.length ca) all (.slice Al L.length cl) gl gx fv2 mv2 F2 M2 → TipIs (fun k => k ≠ gx) W (hdrs D) flv FL) := Lib.hid (by
                by_cases hc : M2 ≠ [] ∧ descG (hdrs D) M2 F2 = true
                · rw [if_pos hc] at hfl ⊢
                  cases hfl
                  exact ⟨rfl, hTM.resolve_left hc.1, hc.2, .inr (descG_self GG (hTM.resolve_left hc.1)), fun W h => h.mrk⟩
                · rw [if_neg hc] at hfl ⊢
                  cases hfl
                  refine ⟨rfl, hTF, descG_self GG hTF, ?_, fun W h => h.fin⟩
                  rcases HONE10.out with h | h
                  · exact .inl h
                  · by_cases h0 : M2 = []
                    · exact .inl h0
                    · have h1 : descG (hdrs D) M2 F2 = false := Bool.eq_false_iff.2 fun h2 => hc ⟨h0, h2⟩
                      unfold oneG at h
                      rw [h1, Bool.or_false] at h
                      exact .inr h)
              clear hfl
              have HFLO : Hid (Calls Tryz.prog 49 #[.pointer (some ⟨pp, 0, none⟩), tipV fv2, tipV mv2] W10 fun e w' => e = .returned (tipV flv) ∧ Below W10.heap.size W10 w') := Lib.hid (by
                have h1 := mfloor_any W10 pp p b1 b2 D _ _ _ HI10.out.path fv2 F2 hTF HI10.out.fin mv2 M2 hTM HI10.out.mrk
                rw [HFLV.out.1] at h1
                exact h1)
              have HFL1 := Lib.hid (HFLV.out.2.2.2.2 _ HI10.out).one
              obtain ⟨kf, hkf⟩ : ∃ kf, keyB F2 = kf := ⟨_, rfl⟩
              obtain ⟨km, hkm⟩ : ∃ km, keyB M2 = km := ⟨_, rfl⟩
              have HKF : Hid (∀ W, PoI w W pp p b1 b2 D L (.slice (some ⟨ba, oa, none⟩) all.length ca) all (.slice Al L.length cl) gl gx fv2 mv2 F2 M2 → Calls Tryz.prog 54 #[tipV fv2] W fun e w' => e = .returned (.string kf) ∧ Below W.heap.size W w') := Lib.hid fun W h => by rw [← hkf]; exact key_is h.fin (.inr hTF)
              have HKM : Hid (∀ W, PoI w W pp p b1 b2 D L (.slice (some ⟨ba, oa, none⟩) all.length ca) all (.slice Al L.length cl) gl gx fv2 mv2 F2 M2 → Calls Tryz.prog 54 #[tipV mv2] W fun e w' => e = .returned (.string km) ∧ Below W.heap.size W w') := Lib.hid fun W h => by rw [← hkm]; exact key_is h.mrk hTM
              have HJF : Hid (∀ W, Below W10.heap.size W10 W → Calls Tryz.prog 26 #[zf2.v] W fun e w' => e = .returned (.string kf) ∧ W = w') := Lib.hid fun W hb => by rw [← hkf]; exact join_named W zf2 _ (Sl.below HZF10.out.2.2 hb) HZF10.out.1
              have HJM : Hid (∀ W, Below W10.heap.size W10 W → Calls Tryz.prog 26 #[zm2.v] W fun e w' => e = .returned (.string km) ∧ W = w') := Lib.hid fun W hb => by rw [← hkm]; exact join_or W zm2 _ (Sl.below HZM10.out.2.2 hb) HZM10.out.1 hTM
              have HZR2 : Hid (∀ W, PoI w W pp p b1 b2 D L (.slice (some ⟨ba, oa, none⟩) all.length ca) all (.slice Al L.length cl) gl gx fv2 mv2 F2 M2 → Calls Tryz.prog 30 #[tipV mv2] W fun e w' => e = .returned (.bool M2.isEmpty) ∧ Below W.heap.size W w') := Lib.hid fun W h => zero_is h.mrk
              have HAF : Hid (∀ W, PoI w W pp p b1 b2 D L (.slice (some ⟨ba, oa, none⟩) all.length ca) all (.slice Al L.length cl) gl gx fv2 mv2 F2 M2 → Calls Tryz.prog 50 #[.pointer (some ⟨pp, 0, none⟩), tipV fv2, tipV flv] W fun e w' => e = .returned (.bool true) ∧ Below W.heap.size W w') := Lib.hid fun W h => by
                have h1 := mabove_any W pp p b1 b2 D _ _ _ h.path fv2 F2 hTF h.fin flv FL HFLV.out.2.1 (HFLV.out.2.2.2.2 W h)
                rw [HFLV.out.2.2.1] at h1
                exact h1
              have HAM : Hid (M2 ≠ [] → ∀ W, PoI w W pp p b1 b2 D L (.slice (some ⟨ba, oa, none⟩) all.length ca) all (.slice Al L.length cl) gl gx fv2 mv2 F2 M2 → Calls Tryz.prog 50 #[.pointer (some ⟨pp, 0, none⟩), tipV mv2, tipV flv] W fun e w' => e = .returned (.bool true) ∧ Below W.heap.size W w') := Lib.hid fun h0 W h => by
                have h1 := mabove_any W pp p b1 b2 D _ _ _ h.path mv2 M2 (hTM.resolve_left h0) h.mrk flv FL HFLV.out.2.1 (HFLV.out.2.2.2.2 W h)
                rw [HFLV.out.2.2.2.1.resolve_left h0] at h1
                exact h1
              have hqf : (kf.toList == kf.toList) = true := by rw [str_beq]; exact decide_eq_true rfl
              have hqm : (km.toList == km.toList) = true := by rw [str_beq]; exact decide_eq_true rfl
              have HFT := Lib.hid (And.intro HFLV.out.2.1 HFLV.out.2.2.2.2)
              clear hkf hkm HFLV
              go_upto_region 46 with (first
                | (refine wpl_tipf (by kernel_rfl) _ rfl gx 0 rfl _ _ fv2 rfl HI10.out.box ?_)
                | (refine wpl_tipf (by kernel_rfl) _ rfl gx 1 rfl _ _ mv2 rfl HI10.out.box ?_)
                | (go_at_call 49; refine HFLO.out.mono ?_; rintro e w11 ⟨rfl, hb11⟩; have HB11 := Lib.hid hb11; clear hb11)
                | (refine wpl_store_new rfl 52 _ _ rfl rfl [flv] rfl _ _ rfl HFL1.out tip_size ?_))
              have hbF : Below w11.heap.size w11 (w11.alloc (.cells #[flv] 52)) := (Below.refl _ _).alloc (Nat.le_refl _) _
              have HI11 := Lib.hid (HI10.out.next HB11.out)
              have HQ0 : Hid (PtI w (w11.alloc (.cells #[flv] 52)) pp p b1 b2 D L (.slice (some ⟨ba, oa, none⟩) all.length ca) all (.slice Al L.length cl) gl gx w11.heap.size fv2 mv2 F2 M2 flv FL ∧ Below W10.heap.size W10 (w11.alloc (.cells #[flv] 52))) := Lib.hid ⟨⟨HI11.out.next hbF, heap_alloc_new w11 _, (HFT.out.2 _ HI11.out).below hbF, HI11.out.up (Nat.le_refl _)⟩, HB11.out.trans (hbF.mono HB11.out.size)⟩
              simp only [Act.put]
              clear hbF HI11 HB11 HFT HFLO HFL1
              generalize w11.alloc (.cells #[flv] 52) = W11 at HQ0 ⊢
              generalize w11.heap.size = g3 at HQ0 ⊢
              by_cases hM0 : M2 = []
              · have HZ4 : Hid (∀ W, PoI w W pp p b1 b2 D L (.slice (some ⟨ba, oa, none⟩) all.length ca) all (.slice Al L.length cl) gl gx fv2 mv2 F2 M2 → Calls Tryz.prog 30 #[tipV mv2] W fun e w' => e = .returned (.bool true) ∧ Below W.heap.size W w') := Lib.hid fun W h => by
                  have h1 := HZR2.out W h
                  rw [hM0] at h1
                  exact h1
                clear HZR2 HAM hM0
                go_wp2_with (first
                  | (refine wpl_tipf (by kernel_rfl) _ rfl gx 0 rfl _ _ fv2 rfl HQ4.out.1.i.box ?_)
                  | (refine wpl_tipf (by kernel_rfl) _ rfl gx 0 rfl _ _ fv2 rfl HQ3.out.1.i.box ?_)
                  | (refine wpl_tipf (by kernel_rfl) _ rfl gx 0 rfl _ _ fv2 rfl HQ2.out.1.i.box ?_)
                  | (refine wpl_tipf (by kernel_rfl) _ rfl gx 0 rfl _ _ fv2 rfl HQ1.out.1.i.box ?_)
                  | (refine wpl_tipf (by kernel_rfl) _ rfl gx 0 rfl _ _ fv2 rfl HQ0.out.1.i.box ?_)
                  | (refine wpl_tipf (by kernel_rfl) _ rfl gx 1 rfl _ _ mv2 rfl HQ4.out.1.i.box ?_)
                  | (refine wpl_tipf (by kernel_rfl) _ rfl gx 1 rfl _ _ mv2 rfl HQ3.out.1.i.box ?_)
                  | (refine wpl_tipf (by kernel_rfl) _ rfl gx 1 rfl _ _ mv2 rfl HQ2.out.1.i.box ?_)
                  | (refine wpl_tipf (by kernel_rfl) _ rfl gx 1 rfl _ _ mv2 rfl HQ1.out.1.i.box ?_)
                  | (refine wpl_tipf (by kernel_rfl) _ rfl gx 1 rfl _ _ mv2 rfl HQ0.out.1.i.box ?_)
                  | (refine wpl_tip (by kernel_rfl) _ rfl _ rfl _ HQ4.out.1.b ?_)
                  | (refine wpl_tip (by kernel_rfl) _ rfl _ rfl _ HQ2.out.1.b ?_)
                  | (go_at_call 54; refine (HKM.out _ HQ1.out.1.i).mono ?_; rintro e w13 ⟨rfl, hb⟩; have HQ2 := Lib.hid (And.intro (HQ1.out.1.next hb) (HQ1.out.2.trans (hb.mono HQ1.out.2.size))); clear hb)
                  | (go_at_call 54; refine (HKF.out _ HQ0.out.1.i).mono ?_; rintro e w12 ⟨rfl, hb⟩; have HQ1 := Lib.hid (And.intro (HQ0.out.1.next hb) (HQ0.out.2.trans (hb.mono HQ0.out.2.size))); clear hb)
                  | (go_at_call 26; refine (HJM.out _ HQ2.out.2).mono ?_; rintro e w14 ⟨rfl, rfl⟩)
                  | (go_at_call 26; refine (HJF.out _ HQ1.out.2).mono ?_; rintro e w14 ⟨rfl, rfl⟩)
                  | (go_at_call 50; refine (HAF.out _ HQ2.out.1.i).mono ?_; rintro e w15 ⟨rfl, hb⟩; have HQ3 := Lib.hid (And.intro (HQ2.out.1.next hb) (HQ2.out.2.trans (hb.mono HQ2.out.2.size))); clear hb)
                  | (go_at_call 30; refine (HZ4.out _ HQ3.out.1.i).mono ?_; rintro e w16 ⟨rfl, hb⟩; have HQ4 := Lib.hid (And.intro (HQ3.out.1.next hb) (HQ3.out.2.trans (hb.mono HQ3.out.2.size))); clear hb))
                go_roundw
                case rel => exact ⟨i + 1, zf2, zm2, F2, M2, fv2, mv2, by omega, by omega, rfl, rfl, by go_num, ⟨HZF10.out.1, HZF10.out.2.1, Sl.below HZF10.out.2.2 HQ4.out.2⟩, ⟨HZM10.out.1, HZM10.out.2.1, Sl.below HZM10.out.2.2 HQ4.out.2⟩, HONE10.out, HQ4.out.1.i⟩
                case measure => simp [intOf]; omega
              · have HZ4 : Hid (∀ W, PoI w W pp p b1 b2 D L (.slice (some ⟨ba, oa, none⟩) all.length ca) all (.slice Al L.length cl) gl gx fv2 mv2 F2 M2 → Calls Tryz.prog 30 #[tipV mv2] W fun e w' => e = .returned (.bool false) ∧ Below W.heap.size W w') := Lib.hid fun W h => by
                  have h1 := HZR2.out W h
                  rw [show M2.isEmpty = false from by cases M2 with | nil => exact absurd rfl hM0 | cons _ _ => rfl] at h1
                  exact h1
                clear HZR2
                go_wp2_with (first
                  | (refine wpl_tipf (by kernel_rfl) _ rfl gx 0 rfl _ _ fv2 rfl HQ4.out.1.i.box ?_)
                  | (refine wpl_tipf (by kernel_rfl) _ rfl gx 0 rfl _ _ fv2 rfl HQ3.out.1.i.box ?_)
                  | (refine wpl_tipf (by kernel_rfl) _ rfl gx 0 rfl _ _ fv2 rfl HQ2.out.1.i.box ?_)
                  | (refine wpl_tipf (by kernel_rfl) _ rfl gx 0 rfl _ _ fv2 rfl HQ1.out.1.i.box ?_)
                  | (refine wpl_tipf (by kernel_rfl) _ rfl gx 0 rfl _ _ fv2 rfl HQ0.out.1.i.box ?_)
                  | (refine wpl_tipf (by kernel_rfl) _ rfl gx 1 rfl _ _ mv2 rfl HQ4.out.1.i.box ?_)
                  | (refine wpl_tipf (by kernel_rfl) _ rfl gx 1 rfl _ _ mv2 rfl HQ3.out.1.i.box ?_)
                  | (refine wpl_tipf (by kernel_rfl) _ rfl gx 1 rfl _ _ mv2 rfl HQ2.out.1.i.box ?_)
                  | (refine wpl_tipf (by kernel_rfl) _ rfl gx 1 rfl _ _ mv2 rfl HQ1.out.1.i.box ?_)
                  | (refine wpl_tipf (by kernel_rfl) _ rfl gx 1 rfl _ _ mv2 rfl HQ0.out.1.i.box ?_)
                  | (refine wpl_tip (by kernel_rfl) _ rfl _ rfl _ HQ4.out.1.b ?_)
                  | (refine wpl_tip (by kernel_rfl) _ rfl _ rfl _ HQ2.out.1.b ?_)
                  | (go_at_call 54; refine (HKM.out _ HQ1.out.1.i).mono ?_; rintro e w13 ⟨rfl, hb⟩; have HQ2 := Lib.hid (And.intro (HQ1.out.1.next hb) (HQ1.out.2.trans (hb.mono HQ1.out.2.size))); clear hb)
                  | (go_at_call 54; refine (HKF.out _ HQ0.out.1.i).mono ?_; rintro e w12 ⟨rfl, hb⟩; have HQ1 := Lib.hid (And.intro (HQ0.out.1.next hb) (HQ0.out.2.trans (hb.mono HQ0.out.2.size))); clear hb)
                  | (go_at_call 26; refine (HJM.out _ HQ2.out.2).mono ?_; rintro e w14 ⟨rfl, rfl⟩)
                  | (go_at_call 26; refine (HJF.out _ HQ1.out.2).mono ?_; rintro e w14 ⟨rfl, rfl⟩)
                  | (go_at_call 50; refine (HAM.out hM0 _ HQ4.out.1.i).mono ?_; rintro e w17 ⟨rfl, hb⟩; have HQ5 := Lib.hid (And.intro (HQ4.out.1.next hb) (HQ4.out.2.trans (hb.mono HQ4.out.2.size))); clear hb)
                  | (go_at_call 50; refine (HAF.out _ HQ2.out.1.i).mono ?_; rintro e w15 ⟨rfl, hb⟩; have HQ3 := Lib.hid (And.intro (HQ2.out.1.next hb) (HQ2.out.2.trans (hb.mono HQ2.out.2.size))); clear hb)
                  | (go_at_call 30; refine (HZ4.out _ HQ3.out.1.i).mono ?_; rintro e w16 ⟨rfl, hb⟩; have HQ4 := Lib.hid (And.intro (HQ3.out.1.next hb) (HQ3.out.2.trans (hb.mono HQ3.out.2.size))); clear hb))
                go_roundw
                case rel => exact ⟨i + 1, zf2, zm2, F2, M2, fv2, mv2, by omega, by omega, rfl, rfl, by go_num, ⟨HZF10.out.1, HZF10.out.2.1, Sl.below HZF10.out.2.2 HQ5.out.2⟩, ⟨HZM10.out.1, HZM10.out.2.1, Sl.below HZM10.out.2.2 HQ5.out.2⟩, HONE10.out, HQ5.out.1.i⟩
                case measure => simp [intOf]; omega
          · have hie : i = 30 := by omega
            subst hie
            go_wp2
            go_ret
            exact ⟨rfl, HIx.out.below⟩
        · have hie : i = ms.length := by omega
          subst hie
          go_wp2
          go_ret
          exact ⟨rfl, HIx.out.below⟩
end Go.Proofs.YtcohdfkdhdhegaaGreatDoor
