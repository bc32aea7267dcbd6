/- coxswainlaw23.awake. coxswainlaw23.pick. coxswainlaw23.Ways: the key of a tipset's parents, by the document's blocks. feed.Fold, over the document's ways. The head behind a move's events, in plain words. A slice is asked whether it is none. coxswainlaw23.FeedRefuses. coxswainlaw23.FeedFolds. coxswainref14.Height, at the names of a tipset. coxswainref14.Chain, at the names of a tipset. coxswainref14.Same and Descends, at the names of tipsets. coxswainref14.Common, at the names of tipsets. coxswainref14.Above, at the names of tipsets. coxswainlaw23.events. -/
import Derived.Test.YtcohdfkdhdhegaaGreatDoorPbAY
import Derived.Test.YtcohdfkdhdhegaaGreatDoorPbBD
import Derived.Test.YtcohdfkdhdhegaaGreatDoorPbBI
import Derived.Laws.Cover3
namespace Go.Proofs.YtcohdfkdhdhegaaGreatDoor
open Go.RowKit Go.Maps

section
variable {w W W' : World} {pp p b1 b2 : Nat} {D : List LB} {f : Nat} {v v' : Value} {evs evs' : List Ev} {most : Int} {st : Value} {x : Option Nat}
end

end Go.Proofs.YtcohdfkdhdhegaaGreatDoor
namespace Go.Proofs.YtcohdfkdhdhegaaGreatDoor
open Go.RowKit Go.Maps

/-- An operation by what it answers. -/
theorem wpl_exec {P : Program} {ops : Array Oper} {rest : List Oper} {o : Oper} {a : Act} {w : World} {Q : Exit → Act → World → Prop} (hgd : o.guard = none) (v : Value) (h1 : (execOp a.eval o).run P w = .ok (.value v) w)
    (h : wpList P ops Q rest (a.put o.dst v) w) : wpList P ops Q (o :: rest) a w :=
  wpList_plain hgd fun K hK => by
    unfold Oper.wp
    rw [h1]
    exact hK _ _ h

end Go.Proofs.YtcohdfkdhdhegaaGreatDoor
namespace Go.Proofs.YtcohdfkdhdhegaaGreatDoor
open Go.RowKit Go.Maps

end Go.Proofs.YtcohdfkdhdhegaaGreatDoor
namespace Go.Proofs.YtcohdfkdhdhegaaGreatDoor
open Go.RowKit Go.Maps

end Go.Proofs.YtcohdfkdhdhegaaGreatDoor
namespace Go.Proofs.YtcohdfkdhdhegaaGreatDoor
open Go.RowKit Go.Maps

section
variable {G : List Hdr} {ways : ByteArray → ByteArray}
end
end Go.Proofs.YtcohdfkdhdhegaaGreatDoor
namespace Go.Proofs.YtcohdfkdhdhegaaGreatDoor
open Go.RowKit Go.Maps
end Go.Proofs.YtcohdfkdhdhegaaGreatDoor
namespace Go.Proofs.YtcohdfkdhdhegaaGreatDoor
open Go.RowKit Go.Maps

end Go.Proofs.YtcohdfkdhdhegaaGreatDoor
namespace Go.Proofs.YtcohdfkdhdhegaaGreatDoor
open Go.RowKit Go.Maps

theorem of_known (w : World) (p b1 b2 : Nat) (D : List LB) (okx ok : Nat → Prop) (h : DagAt okx w p b1 b2 D) (hf : FineD D) (x : LNS) (hx : x.At ok w) (T : List ID) (hT : TipOf (hdrs D) T) (hxT : x.ns = T.map Subtype.val) (hk : (⟨(joinS x.ns).toArray⟩ : ByteArray) = keyB T) :
    Calls Tryz.prog 46 #[.pointer (some ⟨p, 0, none⟩), x.v] w fun e w' => ∃ t, e = .returned (tipV t) ∧ TipIs (fun k => w.heap.size ≤ k ∨ okx k) w' (hdrs D) t T ∧ Below w.heap.size w w' := by
  refine (of14_any w p b1 b2 D okx ok h hf x hx T hT hxT hk).mono ?_
  rintro e w' ⟨t, rfl, ht, hb⟩
  exact ⟨t, rfl, TipIs.of_set h.ids (.inr hT) (h.below hb) ht, hb⟩
section
variable {w W W' : World} {pp p b1 b2 : Nat} {D : List LB} {L : List LRH} {va vl : Value} {all : List LNS} {gb f : Nat} {v v' st : Value} {evs evs' : List Ev} {mo : Int}
end
section
variable {w W W' : World} {pp p b1 b2 : Nat} {D : List LB} {L : List LRH} {va vl : Value} {all : List LNS} {gb f : Nat} {v v' st : Value} {evs evs' : List Ev} {mo : Int} {ways : ByteArray → ByteArray} {at_ : ByteArray} {e : ByteArray}
end

end Go.Proofs.YtcohdfkdhdhegaaGreatDoor
namespace Go.Proofs.YtcohdfkdhdhegaaGreatDoor
open Go.RowKit Go.Maps

/-- Names tell a tipset. -/
structure NamT (G : List Hdr) (ns : List ByteArray) (T : List ID) : Prop where
  tip : TipOf G T
  ns : ns = T.map Subtype.val
/-- The block that a tipset's first name tells. -/
theorem first_block {D : List LB} {L : List LRH} (hB : Both D L) {ns : List ByteArray} {T : List ID} (h : NamT (hdrs D) ns T) : ∃ (s : ByteArray) (h0 : RH), ns[0]? = some s ∧ rget (rhs L) s = some h0 ∧ h0.height = hgtG (hdrs D) T ∧ h0.parents.map idOf = parG (hdrs D) T := by
  obtain ⟨x, hx, hxm, l, hl⟩ := h.tip.head
  have hget : getG (hdrs D) (hdrID x) = some x := by rw [hl] at hx; exact hx
  have hrg : (rget (rhs L) (hdrID x).1).map hdrOf = some x := by
    rw [← get_of (rhs_inL hB.inl), ← hB.same]; exact hget
  obtain ⟨y, hy, hyx⟩ := Option.map_eq_some_iff.1 hrg
  refine ⟨(hdrID x).1, y, by rw [h.ns, hl]; rfl, hy, ?_, ?_⟩
  · unfold hgtG; rw [hx, ← hyx]; rfl
  · unfold parG; rw [hx, ← hyx]; rfl
theorem found_in {L : List LRH} {s : ByteArray} {h0 : RH} (hg : rget (rhs L) s = some h0) {k : Int} (h : FoundAt L s k) : ∃ (i : Nat) (x : LRH), k = (i : Int) ∧ L[i]? = some x ∧ x.h = h0 := by
  rcases h with ⟨-, hh⟩ | ⟨i, x, hk, hx, hr, -⟩
  · rw [rget_none hh] at hg; cases hg
  · rw [hg] at hr; exact ⟨i, x, hk, hx, (Option.some.inj hr).symm⟩

set_option maxRecDepth 100000 in
set_option maxHeartbeats 2000000 in
theorem height14_any (w : World) (D : List LB) (L : List LRH) (hB : Both D L) (vl : Value) (ok okx : Nat → Prop) (hl : Sl rbE ok w vl L) (x : LNS) (hx : x.At okx w) (T : List ID) (hT : NamT (hdrs D) x.ns T) :
    Calls Tryz.prog 61 #[vl, x.v] w fun e w' => e = .returned (.int .i64 (hgtG (hdrs D) T)) ∧ Below w.heap.size w w' := by
  obtain ⟨s, h0, hs, hg, hh, -⟩ := first_block hB hT
  rw [← hh]
  obtain ⟨ns, A, c⟩ := x
  have hx' : Sl strE okx w (.slice A ns.length c) ns := hx
  have hs' : ns[0]? = some s := hs
  have hpos : 0 < ns.length := (List.getElem?_eq_some_iff.1 hs').1
  obtain ⟨bx, ox, rfl, -, -, hcx⟩ := hx'.at_ 0 s hs'
  have hcs : w.cell? ⟨bx, ox, none⟩ = some (.string s) := by have := hcx 0 _ rfl; simpa using this
  obtain ⟨Al, cl, rfl, -, -⟩ := hl.form
  have HL := Lib.hid hl
  have HG := Lib.hid hg
  have HFI := Lib.hid (rfind_any w _ L ok hl s)
  clear hl hx hx' hT hcx hh hg hs hs' hB
  change Calls _ _ #[_, .slice (some ⟨bx, ox, none⟩) ns.length c] w _
  go_enter Tryz.func61, Tryz.ntmps61
  go_wp2_with (go_at_call 88; refine HFI.out.mono ?_; rintro e w1 ⟨k, rfl, hk, hb1⟩; obtain ⟨i, y, rfl, hy, rfl⟩ := found_in HG.out hk; have hil := (List.getElem?_eq_some_iff.1 hy).1; have hLy := (HL.out.below hb1).at_ i y hy; obtain ⟨b, off, rfl, -, -, hcy⟩ := hLy; have hc1 : w1.cell? ⟨b, off + i * 8 + 1, none⟩ = some (.int .i64 y.h.height) := hcy 1 _ rfl; have HB1 := Lib.hid hb1; clear hb1 hk hcy hy)
  go_ret
  exact ⟨rfl, HB1.out⟩
end Go.Proofs.YtcohdfkdhdhegaaGreatDoor
namespace Go.Proofs.YtcohdfkdhdhegaaGreatDoor
open Go.RowKit Go.Maps

def lenOf : Value → Nat | .slice _ n _ => n | _ => 0
/-- What is behind: a tipset's names, or none. -/
def RestT (G : List Hdr) (L : List LRH) (ns : List ByteArray) (r : List (List ID)) : Prop := (∃ T, NamT G ns T ∧ NamedIn L ns ∧ r = chainG G T) ∨ (ns = [] ∧ r = [])
theorem rest_next {D : List LB} {L : List LRH} (hB : Both D L) {T : List ID} (hT : TipOf (hdrs D) T) {y : LRH} (hy : y ∈ L) (hp : y.h.parents.map idOf = parG (hdrs D) T) : ∃ r, chainG (hdrs D) T = T :: r ∧ RestT (hdrs D) L y.h.parents r := by
  refine ⟨_, hB.good.chain_step hT, ?_⟩
  by_cases h0 : parG (hdrs D) T = []
  · rw [if_pos h0]
    rw [h0] at hp
    exact .inr ⟨List.map_eq_nil_iff.1 hp, rfl⟩
  · rw [if_neg h0]
    have ht : TipOf (hdrs D) (parG (hdrs D) T) := by
      rcases hB.good.par hT with ⟨h1, -⟩ | ⟨h1, -, -⟩
      · exact absurd h1 h0
      · exact h1
    refine .inl ⟨_, ⟨ht, by rw [← hp, names_back (hB.inl y hy).1.whole]⟩, ⟨y, hy, .inl ⟨rfl, fun e => h0 (by rw [← hp, e]; rfl)⟩⟩, rfl⟩

set_option maxRecDepth 100000 in
set_option maxHeartbeats 2000000 in
theorem chain14_any (w : World) (D : List LB) (L : List LRH) (hB : Both D L) (vl : Value) (ok okx : Nat → Prop) (hl : Sl rbE ok w vl L) (hat : ∀ y ∈ L, y.At ok w) (x : LNS) (hx : x.At okx w) (T : List ID) (hT : NamT (hdrs D) x.ns T) (hn : NamedIn L x.ns) (hDL : D.length ≤ 1000000) :
    Calls Tryz.prog 53 #[vl, x.v] w fun e w' => ∃ v, e = .returned v ∧ ∃ xs, TipsR (fun k => ok k ∨ okx k) w w' L v xs ∧ xs.map LNS.ns = (chainG (hdrs D) T).map fun T => T.map Subtype.val := by
  obtain ⟨Al, cl, rfl, -, -⟩ := hl.form
  have HL := Lib.hid hl
  have HA := Lib.hid hat
  have HX0 : Hid (x.At (fun k => (ok k ∨ okx k) ∧ k < w.heap.size) w) := Lib.hid (Sl.mono (Sl.old hx) fun k hk => ⟨.inr hk.1, hk.2⟩)
  have HB := Lib.hid hB
  obtain ⟨full, hfull⟩ : ∃ full : List (List ID), chainG (hdrs D) T = full := ⟨_, rfl⟩
  have HLN : Hid (full.length ≤ 1000000) := Lib.hid (by
    rw [← hfull]
    exact Nat.le_trans (hB.good.chain_len hT.tip) (by simpa [hdrs] using hDL))
  rw [hfull]
  have HR0 : Hid (RestT (hdrs D) L x.ns full) := Lib.hid (.inl ⟨T, hT, hn, hfull.symm⟩)
  clear hl hat hx hB hT hn hfull hDL
  go_enter Tryz.func53, Tryz.ntmps53
  go_wp2
  have HT0 : Hid (TipsR (fun k => ok k ∨ okx k) w (w.alloc (.cells #[] 27)) L (.slice (some ⟨w.heap.size, 0, none⟩) 0 0) []) := Lib.hid ⟨⟨rfl, .inr ⟨w.heap.size, 0, #[], rfl, Nat.le_refl _, heap_alloc_new w _, Nat.le_refl _, by decide, rfl, rfl⟩⟩, by simp, by simp, (Below.refl _ w).alloc (Nat.le_refl _) _⟩
  go_loopw [1, 5] (fun c1 c5 W => ∃ (y : LNS) (xs : List LNS) (v : Value) (pre r : List (List ID)), c1 = .slice y.A y.ns.length y.c ∧ c5 = v ∧ y.At (fun k => (ok k ∨ okx k) ∧ k < w.heap.size) w ∧ RestT (hdrs D) L y.ns r ∧ (pre ++ r = full ∧ xs.map LNS.ns = pre.map fun T => T.map Subtype.val) ∧ TipsR (fun k => ok k ∨ okx k) w W L v xs) (fun _ c5 _ => full.length - lenOf c5)
  case atStart => exact ⟨x, [], _, [], full, rfl, rfl, HX0.out, HR0.out, ⟨rfl, rfl⟩, HT0.out⟩
  case round =>
    obtain ⟨y, xs, v, pre, r, rfl, rfl, hy, hr, hpr, hI⟩ := hrel
    have HY := Lib.hid hy
    have HP := Lib.hid hpr
    have HI := Lib.hid hI
    clear hy hpr hI HT0 HR0 HX0
    obtain ⟨Av, cv, rfl, -⟩ := own_slice HI.out.own
    have HXL : Hid (xs.length = pre.length) := Lib.hid (by have := congrArg List.length HP.out.2; simpa using this)
    obtain ⟨ns, A, c⟩ := y
    rcases hr with ⟨T', hT', hn', rfl⟩ | ⟨hns, rfl⟩
    · obtain ⟨s, h0, hs, hg, -, hp⟩ := first_block HB.out hT'
      have hpos : 0 < ns.length := (List.getElem?_eq_some_iff.1 hs).1
      obtain ⟨bx, ox, rfl, -, -, hcx⟩ := (show Sl strE _ w (.slice A ns.length c) ns from HY.out).at_ 0 s hs
      have HCS : Hid (∀ W, Below w.heap.size w W → W.cell? ⟨bx, ox, none⟩ = some (.string s)) := Lib.hid fun W hb => by
        have h1 : w.cell? ⟨bx, ox, none⟩ = some (.string s) := by have := hcx 0 _ rfl; simpa using this
        exact (hb.cell (cell_lt h1)).trans h1
      have HG := Lib.hid hg
      have HPP := Lib.hid hp
      have HTN := Lib.hid (And.intro hT' hn')
      have hlt : xs.length < full.length := by
        obtain ⟨r', hr', -⟩ : ∃ r', chainG (hdrs D) T' = T' :: r' ∧ True := ⟨_, HB.out.good.chain_step hT'.tip, trivial⟩
        rw [← HP.out.1, hr', HXL.out]; simp
      have hfl := HLN.out
      have HYA : Hid ((LNS.mk ns (some ⟨bx, ox, none⟩) c).At (fun k => some k ≠ (Value.slice Av xs.length cv).ownBlock ∧ (ok k ∨ okx k)) wr) := Lib.hid (Sl.mono (Sl.below HY.out HI.out.below |> fun h => h) fun k hk => ⟨fun e => by have := (own_lt HI.out.own k e.symm).1; have := hk.2; omega, hk.1⟩)
      clear hcx hg hp hT' hn' hs
      go_wp2_with (first
        | (refine wpl_ns1 rfl (.tmp 11) rfl ⟨ns, some ⟨bx, ox, none⟩, c⟩ rfl ?_)
        | (at_builtin; refine wpl_app1 #[LNS.v ⟨ns, some ⟨bx, ox, none⟩, c⟩] w.heap.size rfl (.tmp 10) (.tmp 12) 77 27 _ 1 24 rfl Tryz.underlying77 ns_info nsZ_cells (by decide) (by decide) (.slice Av xs.length cv) xs.length _ rfl rfl rfl (fun u hu => nsE.one ⟨ns, some ⟨bx, ox, none⟩, c⟩ u hu) HI.out.own HI.out.below.size (by omega) ?_; intro v1 w7 ho7 hg7 hat7; have HI7 := Lib.hid (HI.out.more ⟨ns, some ⟨bx, ox, none⟩, c⟩ HYA.out HTN.out.2 ho7 hg7 hat7); obtain ⟨A7, c7, rfl, -⟩ := own_slice ho7; have hcs7 := HCS.out _ HI7.out.below; clear ho7 hg7 hat7)
        | (go_at_call 88; refine (rfind_any w7 _ L ok (HL.out.below HI7.out.below) s).mono ?_; rintro e w8 ⟨k, rfl, hk, hb8⟩; obtain ⟨i, yb, rfl, hyb, rfl⟩ := found_in HG.out hk; have hil := (List.getElem?_eq_some_iff.1 hyb).1; have HI8 := Lib.hid (HI7.out.under hb8); have hLy := (HL.out.below HI8.out.below).at_ i yb hyb; obtain ⟨b, off, rfl, -, -, hcy⟩ := hLy; have hc6 : w8.cell? ⟨b, off + i * 8 + 6, none⟩ = some (.slice yb.A yb.h.parents.length yb.c) := hcy 6 _ rfl; have HYM := Lib.hid (List.mem_of_getElem? hyb); clear hb8 hk hcy hyb)
        | (refine wpl_get1 rfl 27 (.tmp 22) rfl ⟨b, off + i * 8 + 6, none⟩ rfl _ _ hc6 Tryz.underlying27 rfl ?_))
      go_roundw
      case rel =>
        obtain ⟨r', hr', hrest⟩ := rest_next HB.out HTN.out.1.tip HYM.out HPP.out
        exact ⟨⟨yb.h.parents, yb.A, yb.c⟩, xs ++ [⟨ns, some ⟨bx, ox, none⟩, c⟩], _, pre ++ [T'], r', rfl, rfl, Sl.mono (Sl.old (HA.out yb HYM.out)) fun k hk => ⟨.inl hk.1, hk.2⟩, hrest, ⟨by rw [← HP.out.1, hr']; simp, by rw [List.map_append, List.map_append, HP.out.2]; simp; exact HTN.out.1.ns⟩, HI8.out⟩
      case measure => simp [lenOf]; omega
    · have hns' : ns = [] := hns
      subst hns'
      go_wp2
      go_ret
      exact ⟨_, rfl, xs, HI.out, by have := HP.out; rw [List.append_nil] at this; rw [← this.1]; exact this.2⟩
end Go.Proofs.YtcohdfkdhdhegaaGreatDoor
namespace Go.Proofs.YtcohdfkdhdhegaaGreatDoor
open Go.RowKit Go.Maps

theorem join_val (T : List ID) : joinS (T.map Subtype.val) = joinI T := by simp [joinS, joinI]
theorem NamT.small {G : List Hdr} {ns : List ByteArray} {T : List ID} (h : NamT G ns T) : ns.length ≤ 1000 ∧ ∀ s ∈ ns, s.size ≤ 1000000 := by
  refine ⟨by rw [h.ns, List.length_map]; have := h.tip.five; omega, fun s hs => ?_⟩
  rw [h.ns] at hs
  obtain ⟨i, -, rfl⟩ := List.mem_map.1 hs
  rw [i.2]; decide
theorem NamT.key {G : List Hdr} {ns : List ByteArray} {T : List ID} (h : NamT G ns T) : (⟨(joinS ns).toArray⟩ : ByteArray) = keyB T := by
  rw [keyB_rise h.tip.rise, h.ns, join_val]
theorem join_iff {G : List Hdr} {a b : List ByteArray} {S T : List ID} (hS : NamT G a S) (hT : NamT G b T) : joinS a = joinS b ↔ S = T := by
  refine ⟨fun h => key_inj (.inr hS.tip) (.inr hT.tip) ?_, fun h => by rw [hS.ns, hT.ns, h]⟩
  rw [← hS.key, ← hT.key, h]
theorem same14_any (w : World) (x y : LNS) (ok ok2 : Nat → Prop) (hx : x.At ok w) (hy : y.At ok2 w) {G : List Hdr} {S T : List ID} (hS : NamT G x.ns S) (hT : NamT G y.ns T) :
    Calls Tryz.prog 124 #[x.v, y.v] w fun e w' => e = .returned (.bool (decide (S = T))) ∧ w = w' := by
  have h := rsame_any w x y ok ok2 hx hy hS.small.1 hT.small.1 hS.small.2 hT.small.2
  rw [show decide (joinS x.ns = joinS y.ns) = decide (S = T) from decide_eq_decide.2 (join_iff hS hT)] at h
  exact h
theorem chain_nth {G : List Hdr} (g : GoodG G) {xs : List LNS} {T : List ID} (hT : TipOf G T) (h : xs.map LNS.ns = (chainG G T).map fun T => T.map Subtype.val) {i : Nat} {x : LNS} (hx : xs[i]? = some x) : ∃ F, (chainG G T)[i]? = some F ∧ NamT G x.ns F := by
  have h1 : (xs.map LNS.ns)[i]? = some x.ns := by rw [List.getElem?_map, hx]; rfl
  rw [h, List.getElem?_map] at h1
  obtain ⟨F, hF, he⟩ := Option.map_eq_some_iff.1 h1
  exact ⟨F, hF, ⟨g.chain_tip T hT F (List.mem_of_getElem? hF), he.symm⟩⟩

set_option maxRecDepth 100000 in
set_option maxHeartbeats 2000000 in
theorem descends14_any (w : World) (D : List LB) (L : List LRH) (hB : Both D L) (vl : Value) (ok okx oky : Nat → Prop) (hl : Sl rbE ok w vl L) (hat : ∀ y ∈ L, y.At ok w) (x : LNS) (hx : x.At okx w) (T : List ID) (hT : NamT (hdrs D) x.ns T) (hn : NamedIn L x.ns) (y : LNS) (hy : y.At oky w) (F : List ID) (hF : NamT (hdrs D) y.ns F) (hDL : D.length ≤ 1000000) :
    Calls Tryz.prog 56 #[vl, x.v, y.v] w fun e w' => e = .returned (.bool (descG (hdrs D) T F)) ∧ Below w.heap.size w w' := by
  have HCH := Lib.hid (chain14_any w D L hB vl ok okx hl hat x hx T hT hn hDL)
  have HB := Lib.hid hB
  have HT := Lib.hid hT
  have HF := Lib.hid hF
  have HY := Lib.hid hy
  obtain ⟨r, hr⟩ : ∃ r, descG (hdrs D) T F = r := ⟨_, rfl⟩
  rw [hr]
  have HR := Lib.hid hr
  clear hl hat hx hB hT hn hF hy hr
  obtain ⟨yn, yA, yc⟩ := y
  go_enter Tryz.func56, Tryz.ntmps56
  go_wp2_with (go_at_call 53; refine HCH.out.mono ?_; rintro e w1 ⟨v, rfl, xs, hxs, hm⟩; have HXS := Lib.hid hxs; have HM := Lib.hid hm; obtain ⟨A1, c1, rfl, -⟩ := own_slice hxs.own; clear hxs hm)
  have hxl : xs.length ≤ 1000000 := by
    have hl := congrArg List.length HM.out
    simp only [List.length_map] at hl
    have h1 := HB.out.good.chain_len HT.out.tip
    have h2 : (hdrs D).length = D.length := by simp [hdrs]
    omega
  go_loopw [13] (fun c13 W => ∃ i : Nat, i ≤ xs.length ∧ c13 = .int .i64 (i : Int) ∧ (∀ j F', j < i → (chainG (hdrs D) T)[j]? = some F' → F' ≠ F) ∧ Below w1.heap.size w1 W) (fun c13 _ => xs.length - (intOf c13).toNat)
  case atStart => exact ⟨0, by omega, rfl, fun j F' h => by omega, Below.refl _ _⟩
  case round =>
    obtain ⟨i, hi, rfl, hall, hb⟩ := hrel
    have HA := Lib.hid hall
    have HBL := Lib.hid hb
    clear hall hb
    by_cases hil : i < xs.length
    · obtain ⟨z, hz⟩ : ∃ z, xs[i]? = some z := ⟨_, List.getElem?_eq_getElem hil⟩
      obtain ⟨Fi, hFi, hNi⟩ := chain_nth HB.out.good HT.out.tip HM.out hz
      obtain ⟨bz, oz, rfl, -, -, hcz⟩ := ((Sl.of_own (E := nsE) HXS.out.own).below HBL.out).at_ i z hz
      have hcz0 : wr.cell? ⟨bz, oz + i, none⟩ = some z.v := by have := hcz 0 _ rfl; rwa [Nat.add_zero, show nsE.k = 1 from rfl, Nat.mul_one] at this
      have HSM := Lib.hid (same14_any wr z ⟨yn, yA, yc⟩ _ _ (Sl.below (HXS.out.at_ z (List.mem_of_getElem? hz)) HBL.out) (Sl.below (Sl.below HY.out HXS.out.below |> fun h => h) HBL.out) hNi HF.out)
      have HFI := Lib.hid hFi
      clear hcz hz hNi hFi
      by_cases he : Fi = F
      · rw [decide_eq_true he] at HSM
        have hr1 : r = true := by rw [← HR.out]; exact descG_iff.2 (he ▸ List.mem_of_getElem? HFI.out)
        subst hr1
        clear HR he
        go_wp2_with (go_at_call 124; refine HSM.out.mono ?_; rintro e w2 ⟨rfl, rfl⟩)
        go_ret
        exact ⟨rfl, HXS.out.below.trans (HBL.out.mono HXS.out.below.size)⟩
      · rw [decide_eq_false he] at HSM
        have HNE := Lib.hid he
        clear he
        go_wp2_with (go_at_call 124; refine HSM.out.mono ?_; rintro e w2 ⟨rfl, rfl⟩)
        go_roundw
        case rel =>
          refine ⟨i + 1, by omega, by go_num, fun j F' hj hF' => ?_, HBL.out⟩
          by_cases hji : j = i
          · subst hji
            rw [HFI.out] at hF'
            rw [← Option.some.inj hF']; exact HNE.out
          · exact HA.out j F' (by omega) hF'
        case measure => simp [intOf]; omega
    · have hie : i = xs.length := by omega
      subst hie
      have hr1 : r = false := by
        rw [← HR.out]
        refine Bool.eq_false_iff.2 fun h => ?_
        obtain ⟨j, hj⟩ := List.getElem?_of_mem (descG_iff.1 h)
        have hl := congrArg List.length HM.out
        simp only [List.length_map] at hl
        exact HA.out j F (by rw [hl]; exact (List.getElem?_eq_some_iff.1 hj).1) hj rfl
      subst hr1
      go_wp2
      go_ret
      exact ⟨rfl, HXS.out.below.trans (HBL.out.mono HXS.out.below.size)⟩
end Go.Proofs.YtcohdfkdhdhegaaGreatDoor
namespace Go.Proofs.YtcohdfkdhdhegaaGreatDoor
open Go.RowKit Go.Maps

set_option maxRecDepth 100000 in
set_option maxHeartbeats 2000000 in
theorem common14_any (w : World) (D : List LB) (L : List LRH) (hB : Both D L) (vl : Value) (ok okx oky : Nat → Prop) (hl : Sl rbE ok w vl L) (hat : ∀ y ∈ L, y.At ok w) (x : LNS) (hx : x.At okx w) (T : List ID) (hT : NamT (hdrs D) x.ns T) (hn : NamedIn L x.ns) (y : LNS) (hy : y.At oky w) (F : List ID) (hF : NamT (hdrs D) y.ns F) (hnF : NamedIn L y.ns) (hDL : D.length ≤ 1000000) :
    Calls Tryz.prog 66 #[vl, x.v, y.v] w fun e w' => ∃ z : LNS, e = .returned z.v ∧ z.At (fun k => ok k ∨ okx k) w' ∧ NamT (hdrs D) z.ns (commG (hdrs D) T F) ∧ NamedIn L z.ns ∧ Below w.heap.size w w' := by
  have HCH := Lib.hid (chain14_any w D L hB vl ok okx hl hat x hx T hT hn hDL)
  have HB := Lib.hid hB
  have HT := Lib.hid hT
  have HF := Lib.hid hF
  have HY := Lib.hid hy
  obtain ⟨r, hr⟩ : ∃ r, commG (hdrs D) T F = r := ⟨_, rfl⟩
  rw [hr]
  have HR := Lib.hid hr
  have HDS := Lib.hid fun (W : World) (hb : Below w.heap.size w W) (z : LNS) (okz : Nat → Prop) (hz : z.At okz W) (E : List ID) (hE : NamT (hdrs D) z.ns E) => descends14_any W D L hB vl ok oky okz (hl.below hb) (fun u hu => Sl.below (hat u hu) hb) y (Sl.below hy hb) F hF hnF z hz E hE hDL
  clear hl hat hx hB hT hn hF hy hnF hr
  obtain ⟨yn, yA, yc⟩ := y
  go_enter Tryz.func66, Tryz.ntmps66
  go_wp2_with (go_at_call 53; refine HCH.out.mono ?_; rintro e w1 ⟨v, rfl, xs, hxs, hm⟩; have HXS := Lib.hid hxs; have HM := Lib.hid hm; obtain ⟨A1, c1, rfl, -⟩ := own_slice hxs.own; clear hxs hm)
  have hxl : xs.length ≤ 1000000 := by
    have hl := congrArg List.length HM.out
    simp only [List.length_map] at hl
    have h1 := HB.out.good.chain_len HT.out.tip
    have h2 : (hdrs D).length = D.length := by simp [hdrs]
    omega
  go_loopw [13] (fun c13 W => ∃ i : Nat, i ≤ xs.length ∧ c13 = .int .i64 (i : Int) ∧ (∀ j F', j < i → (chainG (hdrs D) T)[j]? = some F' → descG (hdrs D) F F' = false) ∧ Below w1.heap.size w1 W) (fun c13 _ => xs.length - (intOf c13).toNat)
  case atStart => exact ⟨0, by omega, rfl, fun j F' h => by omega, Below.refl _ _⟩
  case round =>
    obtain ⟨i, hi, rfl, hall, hb⟩ := hrel
    have HA := Lib.hid hall
    have HBL := Lib.hid hb
    clear hall hb
    by_cases hil : i < xs.length
    · obtain ⟨z, hz⟩ : ∃ z, xs[i]? = some z := ⟨_, List.getElem?_eq_getElem hil⟩
      obtain ⟨Fi, hFi, hNi⟩ := chain_nth HB.out.good HT.out.tip HM.out hz
      obtain ⟨bz, oz, rfl, -, -, hcz⟩ := ((Sl.of_own (E := nsE) HXS.out.own).below HBL.out).at_ i z hz
      have hcz0 : wr.cell? ⟨bz, oz + i, none⟩ = some z.v := by have := hcz 0 _ rfl; rwa [Nat.add_zero, show nsE.k = 1 from rfl, Nat.mul_one] at this
      have HZA := Lib.hid (Sl.below (HXS.out.at_ z (List.mem_of_getElem? hz)) HBL.out)
      have HSM := Lib.hid (HDS.out wr (HXS.out.below.trans (HBL.out.mono HXS.out.below.size)) z _ HZA.out Fi hNi)
      have HZN := Lib.hid (And.intro hNi (HXS.out.mem z (List.mem_of_getElem? hz)))
      have HFI := Lib.hid hFi
      clear hcz hz hNi hFi
      obtain ⟨dd, hdd⟩ : ∃ dd, descG (hdrs D) F Fi = dd := ⟨_, rfl⟩
      rw [hdd] at HSM
      have HDD := Lib.hid hdd
      clear hdd
      have hlt := (List.getElem?_eq_some_iff.1 HFI.out).1
      cases dd with
      | true =>
        have hr1 : r = Fi := by
          rw [← HR.out]
          unfold commG
          have h1 : (chainG (hdrs D) T).find? (fun T => descG (hdrs D) F T) = some Fi := List.find?_eq_some_iff_getElem.2 ⟨HDD.out, i, hlt, (List.getElem?_eq_some_iff.1 HFI.out).2, fun j hj => by
            rw [HA.out j _ hj (List.getElem?_eq_getElem (by omega))]; rfl⟩
          rw [h1]; rfl
        subst hr1
        obtain ⟨zn, zA, zc⟩ := z
        go_wp2_with (go_at_call 56; refine HSM.out.mono ?_; rintro e w2 ⟨rfl, hb2⟩; have HB2 := Lib.hid hb2; clear hb2)
        go_ret
        exact ⟨⟨zn, zA, zc⟩, rfl, Sl.mono (Sl.below HZA.out HB2.out) fun k hk => hk.2, HZN.out.1, HZN.out.2, (HXS.out.below.trans (HBL.out.mono HXS.out.below.size)).trans (HB2.out.mono (Nat.le_trans HXS.out.below.size HBL.out.size))⟩
      | false =>
        go_wp2_with (go_at_call 56; refine HSM.out.mono ?_; rintro e w2 ⟨rfl, hb2⟩; have HB2 := Lib.hid (HBL.out.trans (hb2.mono HBL.out.size)); clear hb2)
        go_roundw
        case rel =>
          refine ⟨i + 1, by omega, by go_num, fun j F' hj hF' => ?_, HB2.out⟩
          by_cases hji : j = i
          · subst hji
            rw [HFI.out] at hF'
            rw [← Option.some.inj hF']; exact HDD.out
          · exact HA.out j F' (by omega) hF'
        case measure => simp [intOf]; omega
    · have hie : i = xs.length := by omega
      subst hie
      exfalso
      obtain ⟨h1, h2, -⟩ := HB.out.good.comm_mem HT.out.tip HF.out.tip
      obtain ⟨j, hj⟩ := List.getElem?_of_mem h1
      have hl := congrArg List.length HM.out
      simp only [List.length_map] at hl
      have h3 := HA.out j _ (by rw [hl]; exact (List.getElem?_eq_some_iff.1 hj).1) hj
      rw [descG_iff.2 h2] at h3
      cases h3
end Go.Proofs.YtcohdfkdhdhegaaGreatDoor
namespace Go.Proofs.YtcohdfkdhdhegaaGreatDoor
open Go.RowKit Go.Maps

set_option maxRecDepth 100000 in
set_option maxHeartbeats 2000000 in
theorem above14_any (w : World) (D : List LB) (L : List LRH) (hB : Both D L) (vl : Value) (ok okx oky : Nat → Prop) (hl : Sl rbE ok w vl L) (hat : ∀ y ∈ L, y.At ok w) (x : LNS) (hx : x.At okx w) (T : List ID) (hT : NamT (hdrs D) x.ns T) (hn : NamedIn L x.ns) (y : LNS) (hy : y.At oky w) (C : List ID) (hC : NamT (hdrs D) y.ns C) (hm : C ∈ chainG (hdrs D) T) (hDL : D.length ≤ 1000000) :
    Calls Tryz.prog 67 #[vl, x.v, y.v] w fun e w' => ∃ v, e = .returned v ∧ ∃ xs, TipsR (fun k => ok k ∨ okx k) w w' L v xs ∧ xs.map LNS.ns = (aboveG (hdrs D) T C).map fun T => T.map Subtype.val := by
  have HCH := Lib.hid fun (W : World) (hb : Below w.heap.size w W) => chain14_any W D L hB vl (fun k => ok k ∧ k < w.heap.size) (fun k => okx k ∧ k < w.heap.size) (hl.old.below hb) (fun u hu => Sl.below (Sl.old (hat u hu)) hb) x (Sl.below (Sl.old hx) hb) T hT hn hDL
  have HB := Lib.hid hB
  have HT := Lib.hid hT
  have HC := Lib.hid hC
  have HY := Lib.hid (show y.At (fun k => oky k ∧ k < w.heap.size) w from Sl.old hy)
  obtain ⟨pre, rest, hsp, hnot⟩ := List.eq_append_cons_of_mem hm
  rw [aboveG_split hsp.symm fun x hx e => hnot (e ▸ hx)]
  have HSP := Lib.hid hsp
  have HNE := Lib.hid hnot
  clear hl hat hx hB hT hn hC hy hm hsp hnot
  obtain ⟨yn, yA, yc⟩ := y
  go_enter Tryz.func67, Tryz.ntmps67
  have HT0 : Hid (TipsR (fun k => ok k ∨ okx k) w (w.alloc (.cells #[] 27)) L (.slice (some ⟨w.heap.size, 0, none⟩) 0 0) []) := Lib.hid ⟨⟨rfl, .inr ⟨w.heap.size, 0, #[], rfl, Nat.le_refl _, heap_alloc_new w _, Nat.le_refl _, by decide, rfl, rfl⟩⟩, by simp, by simp, (Below.refl _ w).alloc (Nat.le_refl _) _⟩
  go_wp2_with (go_at_call 53; refine (HCH.out _ HT0.out.below).mono ?_; rintro e w1 ⟨v, rfl, xs, hxs, hm⟩; have HXS := Lib.hid hxs; have HM := Lib.hid hm; have HT1 := Lib.hid (HT0.out.under hxs.below); obtain ⟨A1, c1, rfl, -⟩ := own_slice hxs.own; clear hxs hm)
  have hxl : xs.length ≤ 1000000 := by
    have hl := congrArg List.length HM.out
    simp only [List.length_map] at hl
    have h1 := HB.out.good.chain_len HT.out.tip
    have h2 : (hdrs D).length = D.length := by simp [hdrs]
    omega
  have HOL := Lib.hid (show ∀ k, (Value.slice A1 xs.length c1).ownBlock = some k → (w.alloc (.cells #[] 27)).heap.size ≤ k ∧ k < w1.heap.size from fun k hk => own_lt HXS.out.own k hk)
  have hszA : (w.alloc (.cells #[] 27)).heap.size = w.heap.size + 1 := World.size_alloc _ _
  have HSZA := Lib.hid hszA
  have HROW := Lib.hid (Sl.of_own (E := nsE) HXS.out.own)
  have hpl : pre.length < xs.length := by
    have hl := congrArg List.length HM.out
    simp only [List.length_map] at hl
    rw [hl, HSP.out]; simp
  clear HT0 hszA HCH
  go_loopw [7, 15] (fun c7 c15 W => ∃ (i : Nat) (out : List LNS) (v : Value), i ≤ pre.length ∧ c7 = v ∧ c15 = .int .i64 (i : Int) ∧ TipsR (fun k => ok k ∨ okx k) w W L v out ∧ out.map LNS.ns = (pre.take i).map (fun T => T.map Subtype.val) ∧ (∀ k, (Value.slice A1 xs.length c1).ownBlock = some k → v.ownBlock ≠ some k) ∧ Sl nsE (fun k => (Value.slice A1 xs.length c1).ownBlock = some k) W (.slice A1 xs.length c1) xs ∧ w1.heap.size ≤ W.heap.size) (fun _ c15 _ => xs.length - (intOf c15).toNat)
  case atStart => exact ⟨0, [], _, by omega, rfl, rfl, HT1.out, rfl, fun k hk e => by have := (HOL.out k hk).1; rw [HSZA.out] at this; have e' : w.heap.size = k := Option.some.inj e; omega, HROW.out, Nat.le_refl _⟩
  case round =>
    obtain ⟨i, out, v, hi, rfl, rfl, hI, hou, hne, hrow, hsz⟩ := hrel
    have HI := Lib.hid hI
    have HOU := Lib.hid hou
    have HNW := Lib.hid hne
    have HRW := Lib.hid hrow
    have HSW := Lib.hid hsz
    clear hI hou hne hrow hsz HT1 HROW
    have hil : i < xs.length := by omega
    obtain ⟨z, hz⟩ : ∃ z, xs[i]? = some z := ⟨_, List.getElem?_eq_getElem hil⟩
    obtain ⟨E, hE, hNE⟩ := chain_nth HB.out.good HT.out.tip HM.out hz
    have HZM := Lib.hid (List.mem_of_getElem? hz)
    have HZA : Hid (z.At (fun k => (ok k ∨ okx k) ∧ k < w.heap.size) wr) := Lib.hid (by
      have h1 : z.At (fun k => (ok k ∨ okx k) ∧ k < w.heap.size) w1 := Sl.mono (HXS.out.at_ z HZM.out) fun k hk => hk.2.elim (fun h => ⟨.inl h.1, h.2⟩) fun h => ⟨.inr h.1, h.2⟩
      exact Sl.fr h1 ⟨HSW.out, fun k hk _ => (HI.out.below.block k hk.2).trans ((Below.block (HXS.out.below.mono (by rw [HSZA.out]; omega)) k hk.2).trans ((((Below.refl _ w).alloc (Nat.le_refl _) (.cells #[] 27) : Below w.heap.size w _)).block k hk.2)).symm⟩)
    have HSM := Lib.hid (same14_any wr z ⟨yn, yA, yc⟩ _ _ HZA.out (Sl.fr HY.out (Fr.below HI.out.below fun k hk _ => hk.2)) hNE HC.out)
    obtain ⟨bz, oz, rfl, -, -, hcz⟩ := HRW.out.at_ i z hz
    have hcz0 : wr.cell? ⟨bz, oz + i, none⟩ = some z.v := by have := hcz 0 _ rfl; rwa [Nat.add_zero, show nsE.k = 1 from rfl, Nat.mul_one] at this
    obtain ⟨Av, cv, rfl, -⟩ := own_slice HI.out.own
    have hol : out.length = i := by have := congrArg List.length HOU.out; simp only [List.length_map, List.length_take] at this; omega
    have HOLN := Lib.hid hol
    have hol2 : out.length ≤ 1000000 := by omega
    obtain ⟨zn, zA, zc⟩ := z
    have HNEz := Lib.hid hNE
    clear hcz hz hol hNE
    by_cases hip : i < pre.length
    · have hEp : pre[i]? = some E := by rw [HSP.out, List.getElem?_append_left hip] at hE; exact hE
      have HEP := Lib.hid hEp
      have hEC : E ≠ C := fun e => HNE.out (e ▸ List.mem_of_getElem? hEp)
      rw [decide_eq_false hEC] at HSM
      clear hEp hE hEC
      go_wp2_with (first
        | (go_at_call 124; refine HSM.out.mono ?_; rintro e w2 ⟨rfl, rfl⟩)
        | (refine wpl_ns1 rfl (.tmp 24) rfl ⟨zn, zA, zc⟩ rfl ?_)
        | (at_builtin; refine wpl_app1 #[LNS.v ⟨zn, zA, zc⟩] w.heap.size rfl (.tmp 23) (.tmp 25) 77 27 _ 1 24 rfl Tryz.underlying77 ns_info nsZ_cells (by decide) (by decide) (.slice Av out.length cv) out.length _ rfl rfl rfl (fun u hu => nsE.one ⟨zn, zA, zc⟩ u hu) HI.out.own HI.out.below.size (by omega) ?_; intro v1 w7 ho7 hg7 hat7; have HI7 := Lib.hid (HI.out.more ⟨zn, zA, zc⟩ (Sl.mono HZA.out fun k hk => ⟨fun e => by have := (own_lt HI.out.own k e.symm).1; have := hk.2; omega, hk.1⟩) (HXS.out.mem _ HZM.out) ho7 hg7 hat7); have HG7 := Lib.hid (And.intro hg7 hat7); clear ho7 hg7 hat7))
      go_roundw
      case rel =>
        refine ⟨i + 1, out ++ [⟨zn, zA, zc⟩], v1, by omega, rfl, by go_num, HI7.out, ?_, fun k hk e => ?_, HRW.out.fr (Fr.grown HG7.out.1 fun k hk e => HNW.out k hk e.symm), Nat.le_trans HSW.out HG7.out.1.size⟩
        · rw [List.map_append, HOU.out, List.take_add_one, HEP.out, List.map_append]
          have := HNEz.out.ns
          simp [this]
        · rcases HG7.out.2 with h | ⟨b, h, hb⟩
          · exact HNW.out k hk (h.symm.trans e)
          · rw [h] at e
            have e' : b = k := Option.some.inj e
            have := (HOL.out k hk).2
            have := HSW.out
            omega
      case measure => simp [intOf]; omega
    · have hie : i = pre.length := by omega
      subst hie
      have hEC : E = C := by rw [HSP.out, List.getElem?_append_right (Nat.le_refl _), Nat.sub_self] at hE; exact (Option.some.inj hE).symm
      rw [decide_eq_true hEC] at HSM
      clear hE hEC
      go_wp2_with (go_at_call 124; refine HSM.out.mono ?_; rintro e w2 ⟨rfl, rfl⟩)
      go_ret
      exact ⟨_, rfl, out, HI.out, by have := HOU.out; rwa [List.take_length] at this⟩
end Go.Proofs.YtcohdfkdhdhegaaGreatDoor
namespace Go.Proofs.YtcohdfkdhdhegaaGreatDoor
open Go.RowKit Go.Maps

theorem map_nth {xs : List LNS} {pre : List (List ID)} (h : xs.map LNS.ns = pre.map fun T => T.map Subtype.val) {i : Nat} {x : LNS} (hx : xs[i]? = some x) : ∃ E, pre[i]? = some E ∧ x.ns = E.map Subtype.val := by
  have h1 : (xs.map LNS.ns)[i]? = some x.ns := by rw [List.getElem?_map, hx]; rfl
  rw [h, List.getElem?_map] at h1
  obtain ⟨F, hF, he⟩ := Option.map_eq_some_iff.1 h1
  exact ⟨F, hF, he.symm⟩
theorem above_all {G : List Hdr} (g : GoodG G) {T C : List ID} (hT : TipOf G T) : (aboveG G T C).length ≤ G.length ∧ ∀ E ∈ aboveG G T C, TipOf G E :=
  ⟨Nat.le_trans (List.takeWhile_sublist _).length_le (g.chain_len hT), fun E hE => g.chain_tip T hT E ((List.takeWhile_sublist _).subset hE)⟩
theorem exec_sub {P : Program} {o : Oper} {a : Act} {w : World} (t T : TypeId) (px py : Operand) (ho : o.op = .binOp .sub t px py T) (x y z : Int) (hx : a.eval px = .int .i64 x) (hy : a.eval py = .int .i64 y) (hz : x - y = z) (h1 : I64 z) : (execOp a.eval o).run P w = .ok (.value (.int .i64 z)) w := by
  subst hz
  unfold execOp
  simp only [ho, hx, hy]
  go_simp
  exact IntWalk.i64_in _ h1
theorem join_named {G : List Hdr} (W : World) (z : LNS) (ok : Nat → Prop) (hz : z.At ok W) {E : List ID} (h : NamT G z.ns E) : Calls Tryz.prog 26 #[z.v] W fun e w' => e = .returned (.string (keyB E)) ∧ W = w' := by
  rw [← h.key]
  exact rjoin_any W z.v z.ns ok hz h.small.1 h.small.2

end Go.Proofs.YtcohdfkdhdhegaaGreatDoor
