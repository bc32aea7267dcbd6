/- One of all tipsets, by a number: coxswainlaw14.Of at names, MarkFloors' own function. A feed beside the ways: what lies apart from its block and its row. coxswainlaw14.awake. -/
import Derived.Test.YtcohdfkdhdhegaaGreatDoorPbAT
import Derived.Test.YtcohdfkdhdhegaaGreatDoorPbBD
import Derived.Test.YtcohdfkdhdhegaaGreatDoorPbBF
import Derived.Test.YtcohdfkdhdhegaaGreatDoorPbBH
namespace Go.Proofs.YtcohdfkdhdhegaaGreatDoor
open Go.RowKit Go.Maps

theorem of_is (w : World) (p b1 b2 : Nat) (D : List LB) (okx ok : Nat → Prop) (L : List LRH) (h : DagAt okx w p b1 b2 D) (hf : FineD D) (hB : Both D L) (x : LNS) (hx : x.At ok w) (hn : NamedIn L x.ns) :
    ∃ T : List ID, TipOf (hdrs D) T ∧ x.ns = T.map Subtype.val ∧ Calls Tryz.prog 46 #[.pointer (some ⟨p, 0, none⟩), x.v] w fun e w' => ∃ t, e = .returned (tipV t) ∧ TipIs (fun k => w.heap.size ≤ k ∨ okx k) w' (hdrs D) t T ∧ Below w.heap.size w w' := by
  obtain ⟨T, hT, hk, hxT⟩ := named_tip hB hn
  refine ⟨T, hT, hxT, (of14_any w p b1 b2 D okx ok h hf x hx T hT hxT hk).mono ?_⟩
  rintro e w' ⟨t, rfl, ht, hb⟩
  exact ⟨t, rfl, TipIs.of_set h.ids (.inr hT) (h.below hb) ht, hb⟩
/-- A dag, the document's list, and all tipsets that are named in it. -/
structure AllAt (ok : Nat → Prop) (w : World) (p b1 b2 : Nat) (D : List LB) (L : List LRH) (va : Value) (all : List LNS) : Prop where
  dag : DagAt ok w p b1 b2 D
  fine : FineD D
  both : Both D L
  row : Sl nsE ok w va all
  at_ : ∀ x ∈ all, x.At ok w ∧ NamedIn L x.ns
  root : Rooted all
  len : all.length ≤ 1000
section
variable {ok ok' : Nat → Prop} {w w' : World} {p b1 b2 : Nat} {D : List LB} {L : List LRH} {va : Value} {all : List LNS}
theorem AllAt.pos (h : AllAt ok w p b1 b2 D L va all) : 0 < all.length := h.root.pos
theorem AllAt.below (h : AllAt ok w p b1 b2 D L va all) (hb : Below w.heap.size w w') : AllAt ok w' p b1 b2 D L va all :=
  ⟨h.dag.below hb, h.fine, h.both, h.row.below hb, fun x hx => ⟨Sl.below (h.at_ x hx).1 hb, (h.at_ x hx).2⟩, h.root, h.len⟩
theorem AllAt.mono (h : AllAt ok w p b1 b2 D L va all) (hk : ∀ k, ok k → ok' k) : AllAt ok' w p b1 b2 D L va all :=
  ⟨h.dag.mono hk, h.fine, h.both, h.row.mono hk, fun x hx => ⟨Sl.mono (h.at_ x hx).1 hk, (h.at_ x hx).2⟩, h.root, h.len⟩
theorem AllAt.fr (h : AllAt ok w p b1 b2 D L va all) (hf : Fr ok w w') : AllAt ok w' p b1 b2 D L va all :=
  ⟨h.dag.fr hf, h.fine, h.both, h.row.fr hf, fun x hx => ⟨Sl.fr (h.at_ x hx).1 hf, (h.at_ x hx).2⟩, h.root, h.len⟩
theorem AllAt.old (h : AllAt ok w p b1 b2 D L va all) : AllAt (fun k => ok k ∧ k < w.heap.size) w p b1 b2 D L va all :=
  ⟨h.dag.old, h.fine, h.both, h.row.old, fun x hx => ⟨Sl.old (h.at_ x hx).1, (h.at_ x hx).2⟩, h.root, h.len⟩
end
theorem exec_rem {o : Oper} {a : Act} {w : World} (ty T : TypeId) (px py : Operand) (ho : o.op = .binOp .rem ty px py T) (x y : Int) (hx : a.eval px = .int .i64 x) (hy : a.eval py = .int .i64 y) (h0 : y ≠ 0) (_h1 : I64 (x.tmod y)) : (execOp a.eval o).run Tryz.prog w = .ok (.value (.int .i64 (x.tmod y))) w := by
  unfold execOp
  simp only [ho, hx, hy]
  go_simp
theorem pick_ix2 (x : Int) (n : Nat) (h0 : 0 < n) (h1 : n ≤ 1000) : ∃ r : Int, x.tmod n = r ∧ -(n : Int) < r ∧ r < n ∧ ∃ j : Nat, j < n ∧ (r + n).tmod n = (j : Int) := by
  have b1 : x.tmod n < n := Int.tmod_lt_of_pos x (by omega)
  have b2 : -(n : Int) < x.tmod n := by
    have := Int.tmod_lt_of_pos (-x) (b := (n : Int)) (by omega)
    rw [Int.neg_tmod] at this
    omega
  obtain ⟨j, hj, he⟩ := pick_ix x n h0 h1
  rw [IntWalk.wrap64_in _ (by omega)] at he
  exact ⟨_, rfl, b2, b1, j, hj, he⟩
section
variable {S : World → Prop} {ops : Array Oper}
theorem yieldsIf_rem {o : Oper} {a : Act} (hw : Region.wanted o (yielded ops a.tmps) = true) (ty T : TypeId) (px py : Operand) (ho : o.op = .binOp .rem ty px py T) (x y z : Int) (hx : a.eval px = .int .i64 x) (hy : a.eval py = .int .i64 y) (h0 : y ≠ 0) (hz : x.tmod y = z) (h1 : I64 z) : YieldsIf Tryz.prog ops S o (.int .i64 z) a :=
  yieldsIf_of hw fun w _ => by rw [exec_rem ty T px py ho x y hx hy h0 (by rw [hz]; exact h1), hz]
end

end Go.Proofs.YtcohdfkdhdhegaaGreatDoor
namespace Go.Proofs.YtcohdfkdhdhegaaGreatDoor
open Go.RowKit Go.Maps

section
variable {f : Nat} {v v' v2 : Value} {W W' W2 : World} {x : Option Nat}
end
theorem PathAt.fr {ok : Nat → Prop} {w w' : World} {pp p b1 b2 : Nat} {D : List LB} (h : PathAt ok w pp p b1 b2 D) (hf : Fr ok w w') (hp : ok pp) : PathAt ok w' pp p b1 b2 D :=
  ⟨by
    have hl := cell_lt h.toD
    have h1 := h.toD
    unfold World.cell? at h1 ⊢
    rw [hf.2 pp hp hl]
    exact h1, h.dag.fr hf, h.fine, h.good⟩
theorem PathAt.mono {ok ok' : Nat → Prop} {w : World} {pp p b1 b2 : Nat} {D : List LB} (h : PathAt ok w pp p b1 b2 D) (hk : ∀ k, ok k → ok' k) : PathAt ok' w pp p b1 b2 D := ⟨h.toD, h.dag.mono hk, h.fine, h.good⟩
theorem PathAt.old {ok : Nat → Prop} {w : World} {pp p b1 b2 : Nat} {D : List LB} (h : PathAt ok w pp p b1 b2 D) : PathAt (fun k => ok k ∧ k < w.heap.size) w pp p b1 b2 D := ⟨h.toD, h.dag.old, h.fine, h.good⟩
section
variable {w W W' : World} {pp p b1 b2 : Nat} {D : List LB} {f : Nat} {v v' : Value} {evs evs' : List Ev} {most : Int} {st : Value} {x : Option Nat}
theorem aboveG_self {G : List Hdr} (g : GoodG G) {T : List ID} (h : TipOf G T) : aboveG G T T = [] := by
  rcases g.par_or h with rfl | ⟨hp, -, -⟩
  · have : chainG G [rootID] = [rootID] :: (if parG G [rootID] = [] then [] else chainG G (parG G [rootID])) := g.chain_step h
    exact aboveG_split (pre := []) this.symm (by simp)
  · exact aboveG_split (pre := []) (g.chain_cons h hp).symm (by simp)
end
end Go.Proofs.YtcohdfkdhdhegaaGreatDoor
namespace Go.Proofs.YtcohdfkdhdhegaaGreatDoor
open Go.RowKit Go.Maps

/-- path.New, the cache told. -/
theorem pnew0_any (w : World) (p b1 b2 : Nat) (D : List LB) (okx : Nat → Prop) (h : DagAt okx w p b1 b2 D) (hf : FineD D) (g : GoodG (hdrs D)) (n : Int) :
    Calls Tryz.prog 44 #[.pointer (some ⟨p, 0, none⟩), .int .i64 n] w fun e w' => ∃ pp pc hd mb most, e = .returned (.pointer (some ⟨pp, 0, none⟩)) ∧ (w.heap.size ≤ pp ∧ w.heap.size ≤ pc ∧ w.heap.size ≤ hd ∧ w.heap.size ≤ mb ∧ pp ≠ pc ∧ pp ≠ hd ∧ pp ≠ mb) ∧ 1 ≤ most ∧ w'.heap[pp]? = some (.cells #[.pointer (some ⟨p, 0, none⟩), .pointer (some ⟨pc, 0, none⟩)] 180 (0, 0)) ∧ Cache0 w' pc hd mb most ∧ PathAt okx w' pp p b1 b2 D ∧ Below w.heap.size w w' := by
  have HD := Lib.hid h
  clear h
  go_enter Tryz.func44, Tryz.ntmps44
  go_wp2_with (go_at_call 123; refine (cnew0_any w n).mono ?_; rintro e w1 ⟨pc, hd, mb, most, rfl, hc, hm, hz, hb1⟩; have HB1 := Lib.hid hb1; have HC1 := Lib.hid (And.intro hc (And.intro hm hz)); clear hb1 hc hm hz)
  go_ret
  have hb2 : Below w.heap.size w (w1.alloc (.cells #[.pointer (some ⟨p, 0, none⟩), .pointer (some ⟨pc, 0, none⟩)] 180)) := HB1.out.alloc HB1.out.size _
  have hb3 : Below w1.heap.size w1 (w1.alloc (.cells #[.pointer (some ⟨p, 0, none⟩), .pointer (some ⟨pc, 0, none⟩)] 180)) := (Below.refl _ _).alloc (Nat.le_refl _) _
  have hlt := HC1.out.1.lt
  have hz := HC1.out.2.2
  have hm := HC1.out.2.1
  have hs := HB1.out.size
  exact ⟨_, pc, hd, mb, most, rfl, ⟨hs, hz.1, hz.2.1, hz.2.2, by omega, by omega, by omega⟩, by omega, heap_alloc_new w1 _, HC1.out.1.below hb3, ⟨cell_block (heap_alloc_new w1 _) rfl, HD.out.below hb2, hf, g⟩, hb2⟩
theorem nzero_any (w : World) : Calls Tryz.prog 127 #[.agg #[.slice none 0 0]] w fun e w' => e = .returned (.bool true) ∧ Below w.heap.size w w' := by
  have hg : (w.alloc (.cells #[.slice none 0 0] 178)).cell? ⟨w.heap.size, 0, none⟩ = some (.slice none 0 0) := cell_block (heap_alloc_new w _) rfl
  go_enter Tryz.func127, Tryz.ntmps127
  go_wp2
  go_ret
  exact ⟨rfl, (Below.refl _ w).alloc (Nat.le_refl _) _⟩

set_option maxRecDepth 100000 in
set_option maxHeartbeats 4000000 in
theorem awake14_any (w : World) (ht : Tab w) :
    Calls Tryz.prog 59 #[] w fun e w' => e = .returned (.bool true) ∧ Below w.heap.size w w' := by
  have HT := Lib.hid ht
  clear ht
  go_enter Tryz.func59, Tryz.ntmps59
  go_upto_region 7 with (first
    | (go_at_call 14; refine (dnew_any w HT.out).mono ?_; rintro e w1 ⟨p, b1, b2, D, rfl, hb1, hd1, hf1, hh1, hl1⟩; have HB1 := Lib.hid hb1; have HH1 := Lib.hid hh1; have HP1 := Lib.hid (pnew0_any w1 p b1 b2 D _ hd1.old hf1 (by show GoodG (hdrs D); rw [hh1]; exact .start) 4); have HD1 := Lib.hid hd1; clear hb1 hd1 hf1 hh1 hl1)
    | (go_at_call 44; refine HP1.out.mono ?_; rintro e w2 ⟨pp, pc, hd, mb, most, rfl, hne, hm, hpp, hc2, hp2, hb2⟩; have HNE := Lib.hid hne; have HM := Lib.hid hm; have HPP := Lib.hid hpp; have HC2 := Lib.hid hc2; have HPA := Lib.hid hp2; have HB2 := Lib.hid (HB1.out.trans (hb2.mono HB1.out.size)); have HZ2 := Lib.hid hb2.size; clear hb2 hp2 hne hm hpp hc2))
  have GG := HPA.out.good
  have GR : TipOf (hdrs D) [rootID] := GG.root_tip
  go_upto_region 8 with (first
    | (go_at_call 52; refine (gen_is w2 (HT.out.below HB2.out) GG).mono ?_; rintro e w3 ⟨t, rfl, ht3, hb3⟩; have HT3 := Lib.hid ht3; have HB3 := Lib.hid hb3; clear hb3 ht3)
    | (refine wpl_store_new rfl 52 _ _ rfl rfl [t] rfl _ _ rfl HT3.out.one tip_size ?_))
  have hb4 : Below w2.heap.size w2 (w3.alloc (.cells #[t] 52)) := HB3.out.alloc HB3.out.size _
  have HX : Hid (Box1 w (w3.alloc (.cells #[t] 52)) w3.heap.size t ∧ PathAt (fun k => w.heap.size ≤ k ∧ k < w1.heap.size) (w3.alloc (.cells #[t] 52)) pp p b1 b2 D ∧ TipIs (fun k => w2.heap.size ≤ k) (w3.alloc (.cells #[t] 52)) (hdrs D) t [rootID] ∧ Cache0 (w3.alloc (.cells #[t] 52)) pc hd mb most ∧ (w3.alloc (.cells #[t] 52)).heap[pp]? = some (.cells #[.pointer (some ⟨p, 0, none⟩), .pointer (some ⟨pc, 0, none⟩)] 180 (0, 0)) ∧ w2.heap.size ≤ w3.heap.size) :=
    Lib.hid ⟨⟨HB2.out.trans (hb4.mono HB2.out.size), heap_alloc_new w3 _⟩, (HPA.out.below hb4), HT3.out.below ((Below.refl _ _).alloc (Nat.le_refl _) _), HC2.out.below hb4, (hb4.block _ (Array.getElem?_eq_some_iff.1 HPP.out).1).trans HPP.out, HB3.out.size⟩
  have hlt := HC2.out.lt
  clear hb4 HPA HC2 HPP HT3 HP1
  generalize w3.alloc (.cells #[t] 52) = W0 at HX ⊢
  generalize w3.heap.size = gx at HX ⊢
  have hg : w2.heap.size ≤ gx := HX.out.2.2.2.2.2
  have hz1 := HNE.out
  have hz0 := HB1.out.size
  have HPR : Hid (∀ W, Below W0.heap.size W0 W → Calls Tryz.prog 63 #[.pointer (some ⟨pp, 0, none⟩), tipV t] W fun e w' => ∃ t2, e = .returned (.tuple #[tipV t2, .bool false]) ∧ (∀ u ∈ [t2], u.oneCell' = true) ∧ Below W.heap.size W w') := Lib.hid fun W hb => by
    have hp := HX.out.2.1.below hb
    refine (parent_any W pp p b1 b2 D _ _ hp.toD hp.dag hp.fine GG t [rootID] GR (HX.out.2.2.1.below hb)).mono ?_
    rintro e w' ⟨t2, rfl, h2, h3⟩
    rw [root_par GG]
    exact ⟨t2, rfl, h2.one, h3⟩
  have HBT : Hid (∀ W, Below W0.heap.size W0 W → Calls Tryz.prog 62 #[.pointer (some ⟨pp, 0, none⟩), tipV t, tipV t] W fun e w' => ∃ A c A2 c2, e = .returned (.tuple #[.slice A 0 c, .slice A2 0 c2]) ∧ Below W.heap.size W w') := Lib.hid fun W hb => by
    refine (between_any W pp p b1 b2 D _ _ _ (HX.out.2.1.below hb) t [rootID] GR (HX.out.2.2.1.below hb) t [rootID] GR (HX.out.2.2.1.below hb) (by have := congrArg List.length HH1.out; simp [hdrs] at this; omega)).mono ?_
    rintro e w' ⟨dv, uv, ds, us, rfl, hd, hu, hde, hue, hb2⟩
    rw [GG.comm_self GR, aboveG_self GG GR] at hde hue
    obtain rfl : ds = [] := by simpa using hde
    obtain rfl : us = [] := by simpa using hue
    obtain ⟨A, c, rfl, -, -⟩ := hd.row.form
    obtain ⟨A2, c2, rfl, -, -⟩ := hu.row.form
    exact ⟨A, c, A2, c2, rfl, hb2⟩
  go_upto_region 9 with (first
    | (refine wpl_tip rfl _ rfl _ rfl _ HX.out.1.b0 ?_)
    | (go_at_call 63; refine (HPR.out _ (Below.refl _ _)).mono ?_; rintro e w4 ⟨t2, rfl, ht2, hb4⟩; have HT2 := Lib.hid ht2; have HB4 := Lib.hid hb4; clear ht2 hb4)
    | (refine wpl_store_new rfl 52 _ _ rfl rfl [t2] rfl _ _ rfl HT2.out tip_size ?_))
  have HB5 : Hid (Below W0.heap.size W0 (w4.alloc (.cells #[t2] 52))) := Lib.hid (HB4.out.alloc HB4.out.size _)
  (try simp only [Act.put])
  generalize w4.alloc (.cells #[t2] 52) = W4 at HB5 ⊢
  generalize w4.heap.size = g4
  clear HB4 HT2 HPR
  go_upto_region 10 with (first
    | (refine wpl_tip rfl _ rfl _ rfl _ ((HB5.out.block _ (Array.getElem?_eq_some_iff.1 HX.out.1.b0).1).trans HX.out.1.b0) ?_)
    | (go_at_call 62; refine (HBT.out _ HB5.out).mono ?_; rintro e w6 ⟨A, c, A2, c2, rfl, hb6⟩; have HB6 := Lib.hid (HB5.out.trans (hb6.mono HB5.out.size)); clear hb6))
  clear HBT HB5
  have HBd : Hid (Below W0.heap.size W0 w6.drew) := Lib.hid HB6.out.drew
  have HGX : Hid (w6.drew.heap[gx]? = some (.cells #[t] 52 (0, 0))) := Lib.hid ((HBd.out.block _ (Array.getElem?_eq_some_iff.1 HX.out.1.b0).1).trans HX.out.1.b0)
  have HPT : Hid (PathAt (fun k => (w.heap.size ≤ k ∧ k < w1.heap.size) ∨ k = pp) w6.drew pp p b1 b2 D) := Lib.hid ((HX.out.2.1.below HBd.out).mono fun k hk => .inl hk)
  have HTI : Hid (TipIs (fun k => w2.heap.size ≤ k) w6.drew (hdrs D) t [rootID]) := Lib.hid (HX.out.2.2.1.below HBd.out)
  have hapart : ∀ k, ((w.heap.size ≤ k ∧ k < w1.heap.size) ∨ k = pp) → ¬ (k = pc ∨ k = hd ∨ k = mb) := fun k hk hn => by omega
  have hapt : ∀ k, w2.heap.size ≤ k → ¬ (k = pc ∨ k = hd ∨ k = mb) := fun k hk hn => by omega
  have HWT := Lib.hid (weight0_any w6.drew pp p b1 b2 D _ pc hd mb most ((HBd.out.block _ (Array.getElem?_eq_some_iff.1 HX.out.2.2.2.2.1).1).trans HX.out.2.2.2.2.1) (HX.out.2.1.below HBd.out).dag (HX.out.2.1).fine GG t _ HTI.out (HX.out.2.2.2.1.below HBd.out) HM.out fun k hk => by rcases hk with hk | hk | hk <;> omega)
  have hpt : ∀ V, Chg (fun k => k = pc ∨ k = hd ∨ k = mb) w6.drew V → PathAt (fun k => (w.heap.size ≤ k ∧ k < w1.heap.size) ∨ k = pp) V pp p b1 b2 D := fun V h => HPT.out.fr (h.fr hapart) (.inr rfl)
  have hti : ∀ V, Chg (fun k => k = pc ∨ k = hd ∨ k = mb) w6.drew V → TipIs (fun k => w2.heap.size ≤ k) V (hdrs D) t [rootID] := fun V h => HTI.out.fr (h.fr hapt)
  obtain ⟨kg, hkg⟩ : ∃ kg, keyB [rootID] = kg := ⟨_, rfl⟩
  have HCM : Hid (∀ V, Chg (fun k => k = pc ∨ k = hd ∨ k = mb) w6.drew V → Calls Tryz.prog 64 #[.pointer (some ⟨pp, 0, none⟩), tipV t, tipV t] V fun e w' => ∃ t2, e = .returned (tipV t2) ∧ TipIs (fun _ => True) w' (hdrs D) t2 [rootID] ∧ Below V.heap.size V w') := Lib.hid fun V h => by
    refine (common_any V pp p b1 b2 D _ _ _ (hpt V h) t [rootID] GR (hti V h) t [rootID] GR (hti V h)).mono ?_
    rintro e w' ⟨t2, rfl, h2, hb2⟩
    rw [GG.comm_self GR] at h2
    exact ⟨t2, rfl, h2.mono fun _ _ => trivial, hb2⟩
  have HKY : Hid (∀ (V : World) (u : Value) (ok : Nat → Prop), TipIs ok V (hdrs D) u [rootID] → Calls Tryz.prog 54 #[tipV u] V fun e w' => e = .returned (.string kg) ∧ Below V.heap.size V w') := Lib.hid fun V u ok h => by rw [← hkg]; exact key_is h (.inr GR)
  have HDS : Hid (∀ V, Chg (fun k => k = pc ∨ k = hd ∨ k = mb) w6.drew V → Calls Tryz.prog 51 #[.pointer (some ⟨pp, 0, none⟩), tipV t, tipV t] V fun e w' => e = .returned (.bool true) ∧ Below V.heap.size V w') := Lib.hid fun V h => by
    have h1 := descends_any V pp p b1 b2 D _ _ _ (hpt V h) t [rootID] GR (hti V h) t [rootID] GR (hti V h)
    rw [descG_self GG GR] at h1
    exact h1
  have HTV := Lib.hid hti
  have hgp : ¬ (gx = pc ∨ gx = hd ∨ gx = mb) := hapt gx hg
  have HLD : Hid (∀ V, Chg (fun k => k = pc ∨ k = hd ∨ k = mb) w6.drew V → V.heap[gx]? = some (.cells #[t] 52 (0, 0))) := Lib.hid fun V h => (h.block _ (Array.getElem?_eq_some_iff.1 HGX.out).1 hgp).trans HGX.out
  clear hkg hpt hti hapart hapt HPT HTI HH1 HD1
  refine st_ (S := (fun V => Chg (fun k => k = pc ∨ k = hd ∨ k = mb) w6.drew V)) 35 (bt 0 35) (by kernel_rfl) rfl (by rfl) (Chg.of_below (Below.refl _ _)) (fun hHeld => ?_)
  refine tk_ 0 (some 29) (bt 1 34) (v := ?_) (a' := ?_) rfl rfl (by kernel_rfl) (fun _ _ _ h => h) (yieldsIf_run rfl ?_) hHeld ?_ ?_
  rotate_left
  · intro w'
    go_simp
    with_reducible rfl
  rotate_left
  · simp only [Act.put, List.setIfInBounds_toArray, List.set_cons_zero, List.set_cons_succ]
    rfl
  refine tk_ 1 (some 30) (bt 2 33) (v := ?_) (a' := ?_) rfl rfl (by kernel_rfl) (fun _ _ _ h => h) (yieldsIf_run rfl ?_) hHeld ?_ ?_
  rotate_left
  · intro w'
    go_simp
    with_reducible rfl
  rotate_left
  · simp only [Act.put, List.setIfInBounds_toArray, List.set_cons_zero, List.set_cons_succ]
    rfl
  refine tk_ 2 (some 31) (bt 3 32) (v := ?_) (a' := ?_) rfl rfl (by kernel_rfl) (fun _ _ _ h => h) (yieldsIf_run rfl ?_) hHeld ?_ ?_
  rotate_left
  · intro w'
    go_simp
    with_reducible rfl
  rotate_left
  · simp only [Act.put, List.setIfInBounds_toArray, List.set_cons_zero, List.set_cons_succ]
    rfl
  refine tk_ 3 (some 32) (bt 4 31) (v := ?_) (a' := ?_) rfl rfl (by kernel_rfl) (fun _ _ _ h => h) (yieldsIf_run rfl ?_) hHeld ?_ ?_
  rotate_left
  · intro w'
    go_simp
    with_reducible rfl
  rotate_left
  · simp only [Act.put, List.setIfInBounds_toArray, List.set_cons_zero, List.set_cons_succ]
    rfl
  refine tk_ 4 (some 33) (bt 5 30) rfl rfl (by kernel_rfl) (fun _ _ _ h => h) (yieldsIf_tipb rfl (.tmp 3) rfl gx rfl t (fun V h => HLD.out V h)) hHeld (a' := ?_) ?_ ?_
  rotate_left
  · simp only [Act.put, List.setIfInBounds_toArray, List.set_cons_zero, List.set_cons_succ]
    rfl
  refine call_ 5 (some 34) (bt 6 29) rfl rfl (by kernel_rfl) rfl 126 _ (by kernel_rfl) (HWT.out) ?_
  rintro e v5 ⟨rfl, hc5⟩
  have HC5 := Lib.hid hc5
  refine ⟨_, rfl, HC5.out, fun hHeld => ⟨?_, ?_, ?_⟩⟩
  rotate_left
  · simp only [Act.put, List.setIfInBounds_toArray, List.set_cons_zero, List.set_cons_succ]
    rfl
  refine call_ 6 (some 35) (bt 7 28) rfl rfl (by kernel_rfl) rfl 127 _ (by kernel_rfl) (nzero_any _) ?_
  rintro e v6 ⟨rfl, hb6⟩
  have HC6 := Lib.hid (hHeld.step (Chg.of_below (S := fun k => k = pc ∨ k = hd ∨ k = mb) hb6) fun k hk => .inl hk)
  refine ⟨_, rfl, HC6.out, fun hHeld => ⟨?_, ?_, ?_⟩⟩
  rotate_left
  · simp only [Act.put, List.setIfInBounds_toArray, List.set_cons_zero, List.set_cons_succ]
    rfl
  refine tk_ 7 (some 36) (bt 8 27) (v := ?_) (a' := ?_) rfl rfl (by kernel_rfl) (fun _ _ _ h => h) (yieldsIf_run rfl ?_) hHeld ?_ ?_
  rotate_left
  · intro w'
    go_simp
    with_reducible rfl
  rotate_left
  · simp only [Act.put, List.setIfInBounds_toArray, List.set_cons_zero, List.set_cons_succ]
    rfl
  refine tk_ 8 (some 37) (bt 9 26) (v := ?_) (a' := ?_) rfl rfl (by kernel_rfl) (fun _ _ _ h => h) (yieldsIf_run rfl ?_) hHeld ?_ ?_
  rotate_left
  · intro w'
    go_simp
    with_reducible rfl
  rotate_left
  · simp only [Act.put, List.setIfInBounds_toArray, List.set_cons_zero, List.set_cons_succ]
    rfl
  refine tk_ 9 (some 38) (bt 10 25) (v := ?_) (a' := ?_) rfl rfl (by kernel_rfl) (fun _ _ _ h => h) (yieldsIf_run rfl ?_) hHeld ?_ ?_
  rotate_left
  · intro w'
    go_simp
    with_reducible rfl
  rotate_left
  · simp only [Act.put, List.setIfInBounds_toArray, List.set_cons_zero, List.set_cons_succ]
    rfl
  refine tk_ 10 (some 39) (bt 11 24) (v := ?_) (a' := ?_) rfl rfl (by kernel_rfl) (fun _ _ _ h => h) (yieldsIf_run rfl ?_) hHeld ?_ ?_
  rotate_left
  · intro w'
    go_simp
    with_reducible rfl
  rotate_left
  · simp only [Act.put, List.setIfInBounds_toArray, List.set_cons_zero, List.set_cons_succ]
    rfl
  refine tk_ 11 (some 40) (bt 12 23) (v := ?_) (a' := ?_) rfl rfl (by kernel_rfl) (fun _ _ _ h => h) (yieldsIf_run rfl ?_) hHeld ?_ ?_
  rotate_left
  · intro w'
    go_simp
    with_reducible rfl
  rotate_left
  · simp only [Act.put, List.setIfInBounds_toArray, List.set_cons_zero, List.set_cons_succ]
    rfl
  refine tk_ 12 (some 41) (bt 13 22) (v := ?_) (a' := ?_) rfl rfl (by kernel_rfl) (fun _ _ _ h => h) (yieldsIf_run rfl ?_) hHeld ?_ ?_
  rotate_left
  · intro w'
    go_simp
    with_reducible rfl
  rotate_left
  · simp only [Act.put, List.setIfInBounds_toArray, List.set_cons_zero, List.set_cons_succ]
    rfl
  refine tk_ 13 (some 42) (bt 14 21) (v := ?_) (a' := ?_) rfl rfl (by kernel_rfl) (fun _ _ _ h => h) (yieldsIf_run rfl ?_) hHeld ?_ ?_
  rotate_left
  · intro w'
    go_simp
    with_reducible rfl
  rotate_left
  · simp only [Act.put, List.setIfInBounds_toArray, List.set_cons_zero, List.set_cons_succ]
    rfl
  refine tk_ 14 (some 43) (bt 15 20) (v := ?_) (a' := ?_) rfl rfl (by kernel_rfl) (fun _ _ _ h => h) (yieldsIf_run rfl ?_) hHeld ?_ ?_
  rotate_left
  · intro w'
    go_simp
    with_reducible rfl
  rotate_left
  · simp only [Act.put, List.setIfInBounds_toArray, List.set_cons_zero, List.set_cons_succ]
    rfl
  refine tk_ 15 (some 44) (bt 16 19) (v := ?_) (a' := ?_) rfl rfl (by kernel_rfl) (fun _ _ _ h => h) (yieldsIf_run rfl ?_) hHeld ?_ ?_
  rotate_left
  · intro w'
    go_simp
    with_reducible rfl
  rotate_left
  · simp only [Act.put, List.setIfInBounds_toArray, List.set_cons_zero, List.set_cons_succ]
    rfl
  refine tk_ 16 (some 45) (bt 17 18) (v := ?_) (a' := ?_) rfl rfl (by kernel_rfl) (fun _ _ _ h => h) (yieldsIf_run rfl ?_) hHeld ?_ ?_
  rotate_left
  · intro w'
    go_simp
    with_reducible rfl
  rotate_left
  · simp only [Act.put, List.setIfInBounds_toArray, List.set_cons_zero, List.set_cons_succ]
    rfl
  refine tk_ 17 (some 46) (bt 18 17) (v := ?_) (a' := ?_) rfl rfl (by kernel_rfl) (fun _ _ _ h => h) (yieldsIf_run rfl ?_) hHeld ?_ ?_
  rotate_left
  · intro w'
    go_simp
    with_reducible rfl
  rotate_left
  · simp only [Act.put, List.setIfInBounds_toArray, List.set_cons_zero, List.set_cons_succ]
    rfl
  refine tk_ 18 (some 47) (bt 19 16) (v := ?_) (a' := ?_) rfl rfl (by kernel_rfl) (fun _ _ _ h => h) (yieldsIf_run rfl ?_) hHeld ?_ ?_
  rotate_left
  · intro w'
    go_simp
    with_reducible rfl
  rotate_left
  · simp only [Act.put, List.setIfInBounds_toArray, List.set_cons_zero, List.set_cons_succ]
    rfl
  refine tk_ 19 (some 48) (bt 20 15) (v := ?_) (a' := ?_) rfl rfl (by kernel_rfl) (fun _ _ _ h => h) (yieldsIf_run rfl ?_) hHeld ?_ ?_
  rotate_left
  · intro w'
    go_simp
    with_reducible rfl
  rotate_left
  · simp only [Act.put, List.setIfInBounds_toArray, List.set_cons_zero, List.set_cons_succ]
    rfl
  refine tk_ 20 (some 49) (bt 21 14) rfl rfl (by kernel_rfl) (fun _ _ _ h => h) (yieldsIf_tipb rfl (.tmp 3) rfl gx rfl t (fun V h => HLD.out V h)) hHeld (a' := ?_) ?_ ?_
  rotate_left
  · simp only [Act.put, List.setIfInBounds_toArray, List.set_cons_zero, List.set_cons_succ]
    rfl
  refine tk_ 21 (some 50) (bt 22 13) rfl rfl (by kernel_rfl) (fun _ _ _ h => h) (yieldsIf_tipb rfl (.tmp 3) rfl gx rfl t (fun V h => HLD.out V h)) hHeld (a' := ?_) ?_ ?_
  rotate_left
  · simp only [Act.put, List.setIfInBounds_toArray, List.set_cons_zero, List.set_cons_succ]
    rfl
  refine tk_ 24 (some 53) #[true, true, true, true, true, true, true, true, true, true, true, true, true, true, true, true, true, true, true, true, true, true, false, false, true, false, false, false, false, false, false, false, false, false, false] rfl rfl (by kernel_rfl) (fun _ _ _ h => h) (yieldsIf_tipb rfl (.tmp 3) rfl gx rfl t (fun V h => HLD.out V h)) hHeld (a' := ?_) ?_ ?_
  rotate_left
  · simp only [Act.put, List.setIfInBounds_toArray, List.set_cons_zero, List.set_cons_succ]
    rfl
  refine call_ 22 (some 51) #[true, true, true, true, true, true, true, true, true, true, true, true, true, true, true, true, true, true, true, true, true, true, true, false, true, false, false, false, false, false, false, false, false, false, false] rfl rfl (by kernel_rfl) rfl 64 _ (by kernel_rfl) (HCM.out _ hHeld) ?_
  rintro e v7 ⟨tc, rfl, htc, hb7⟩
  have HC7 := Lib.hid (hHeld.step (Chg.of_below (S := fun k => k = pc ∨ k = hd ∨ k = mb) hb7) fun k hk => .inl hk)
  have HTC := Lib.hid htc
  refine ⟨_, rfl, HC7.out, fun hHeld => ⟨?_, ?_, ?_⟩⟩
  rotate_left
  · simp only [Act.put, List.setIfInBounds_toArray, List.set_cons_zero, List.set_cons_succ]
    rfl
  refine call_ 23 (some 52) (bt 25 10) rfl rfl (by kernel_rfl) rfl 54 _ (by kernel_rfl) (HKY.out _ _ _ HTC.out) ?_
  rintro e v8 ⟨rfl, hb8⟩
  have HC8 := Lib.hid (hHeld.step (Chg.of_below (S := fun k => k = pc ∨ k = hd ∨ k = mb) hb8) fun k hk => .inl hk)
  refine ⟨_, rfl, HC8.out, fun hHeld => ⟨?_, ?_, ?_⟩⟩
  rotate_left
  · simp only [Act.put, List.setIfInBounds_toArray, List.set_cons_zero, List.set_cons_succ]
    rfl
  refine call_ 25 (some 54) (bt 26 9) rfl rfl (by kernel_rfl) rfl 54 _ (by kernel_rfl) (HKY.out _ _ _ (HTV.out _ hHeld)) ?_
  rintro e v9 ⟨rfl, hb9⟩
  have HC9 := Lib.hid (hHeld.step (Chg.of_below (S := fun k => k = pc ∨ k = hd ∨ k = mb) hb9) fun k hk => .inl hk)
  refine ⟨_, rfl, HC9.out, fun hHeld => ⟨?_, ?_, ?_⟩⟩
  rotate_left
  · simp only [Act.put, List.setIfInBounds_toArray, List.set_cons_zero, List.set_cons_succ]
    rfl
  refine tk_ 26 (some 55) (bt 27 8) (v := ?_) (a' := ?_) rfl rfl (by kernel_rfl) (fun _ _ _ h => h) (yieldsIf_run rfl ?_) hHeld ?_ ?_
  rotate_left
  · intro w'
    go_simp
    with_reducible rfl
  rotate_left
  · simp only [Act.put, List.setIfInBounds_toArray, List.set_cons_zero, List.set_cons_succ]
    rfl
  refine tk_ 27 (some 56) (bt 28 7) (v := ?_) (a' := ?_) rfl rfl (by kernel_rfl) (fun _ _ _ h => h) (yieldsIf_run rfl ?_) hHeld ?_ ?_
  rotate_left
  · intro w'
    go_simp
    with_reducible rfl
  rotate_left
  · simp only [Act.put, List.setIfInBounds_toArray, List.set_cons_zero, List.set_cons_succ]
    rfl
  refine tk_ 28 (some 57) (bt 29 6) (v := ?_) (a' := ?_) rfl rfl (by kernel_rfl) (fun _ _ _ h => h) (yieldsIf_run rfl ?_) hHeld ?_ ?_
  rotate_left
  · intro w'
    go_simp
    with_reducible rfl
  rotate_left
  · simp only [Act.put, List.setIfInBounds_toArray, List.set_cons_zero, List.set_cons_succ]
    rfl
  refine tk_ 29 (some 58) (bt 30 5) (v := ?_) (a' := ?_) rfl rfl (by kernel_rfl) (fun _ _ _ h => h) (yieldsIf_run rfl ?_) hHeld ?_ ?_
  rotate_left
  · intro w'
    go_simp
    with_reducible rfl
  rotate_left
  · simp only [Act.put, List.setIfInBounds_toArray, List.set_cons_zero, List.set_cons_succ]
    rfl
  refine tk_ 30 (some 59) (bt 31 4) rfl rfl (by kernel_rfl) (fun _ _ _ h => h) (yieldsIf_tipb rfl (.tmp 3) rfl gx rfl t (fun V h => HLD.out V h)) hHeld (a' := ?_) ?_ ?_
  rotate_left
  · simp only [Act.put, List.setIfInBounds_toArray, List.set_cons_zero, List.set_cons_succ]
    rfl
  refine tk_ 31 (some 60) (bt 32 3) rfl rfl (by kernel_rfl) (fun _ _ _ h => h) (yieldsIf_tipb rfl (.tmp 3) rfl gx rfl t (fun V h => HLD.out V h)) hHeld (a' := ?_) ?_ ?_
  rotate_left
  · simp only [Act.put, List.setIfInBounds_toArray, List.set_cons_zero, List.set_cons_succ]
    rfl
  refine call_ 32 (some 61) (bt 33 2) rfl rfl (by kernel_rfl) rfl 51 _ (by kernel_rfl) (HDS.out _ hHeld) ?_
  rintro e v10 ⟨rfl, hb10⟩
  have HC10 := Lib.hid (hHeld.step (Chg.of_below (S := fun k => k = pc ∨ k = hd ∨ k = mb) hb10) fun k hk => .inl hk)
  refine ⟨_, rfl, HC10.out, fun hHeld => ⟨?_, ?_, ?_⟩⟩
  rotate_left
  · simp only [Act.put, List.setIfInBounds_toArray, List.set_cons_zero, List.set_cons_succ]
    rfl
  refine tk_ 33 (some 62) (bt 34 1) (v := ?_) (a' := ?_) rfl rfl (by kernel_rfl) (fun _ _ _ h => h) (yieldsIf_run rfl ?_) hHeld ?_ ?_
  rotate_left
  · intro w'
    go_simp
    with_reducible rfl
  rotate_left
  · simp only [Act.put, List.setIfInBounds_toArray, List.set_cons_zero, List.set_cons_succ]
    rfl
  refine tk_ 34 (some 0) (bt 35 0) (v := ?_) (a' := ?_) rfl rfl (by kernel_rfl) (fun _ _ _ h => h) (yieldsIf_run rfl ?_) hHeld ?_ ?_
  rotate_left
  · intro w'
    go_simp
    with_reducible rfl
  rotate_left
  · simp only [Act.put, List.setIfInBounds_toArray, List.set_cons_zero]
    rfl
  refine wpAnyH_done (by kernel_rfl) ?_ _
  change Exit.then _ _ _ _ _
  go_wp2
  go_ret
  have hbw : Below w.heap.size w w6.drew := HX.out.1.below.trans (HBd.out.mono HX.out.1.below.size)
  exact ⟨rfl, hbw.trans (HC10.out.below hbw.size fun k hk => by omega)⟩
end Go.Proofs.YtcohdfkdhdhegaaGreatDoor
