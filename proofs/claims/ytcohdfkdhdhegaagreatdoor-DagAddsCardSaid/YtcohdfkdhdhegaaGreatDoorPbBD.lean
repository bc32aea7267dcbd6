/- coxswainlaw14.Made, Of. coxswainlaw14.Of; names that a header tells are a tipset. The genesis tipset in a dag. Ways through a dag, in plain words: what two have in common. No program in sight. -/
import Derived.Test.YtcohdfkdhdhegaaGreatDoorPbAP
import Derived.Test.YtcohdfkdhdhegaaGreatDoorPbAU
import Derived.Test.YtcohdfkdhdhegaaGreatDoorPbAV
import Derived.Test.YtcohdfkdhdhegaaGreatDoorPbAW
import Derived.Test.YtcohdfkdhdhegaaGreatDoorPbAY
import Derived.Test.YtcohdfkdhdhegaaGreatDoorPbBC
namespace Go.Proofs.YtcohdfkdhdhegaaGreatDoor
open Go.RowKit Go.Maps

/-- What a dag and the document's list have in common. -/
structure Both (D : List LB) (L : List LRH) : Prop where
  same : hdrs D = (rhs L).map hdrOf
  good : GoodG (hdrs D)
  inl : ∀ y ∈ L, InL y.h ∧ TellH y.h
  pos : 0 < L.length
theorem grown_ask {h : RH} (k : GrownH h) : AskH h := ⟨k.tell, k.p0⟩
theorem rhs_app (L : List LRH) (x : LRH) : rhs (L ++ [x]) = rhs L ++ [x.h] := by simp [rhs]
theorem rhs_inL {L : List LRH} (h : ∀ y ∈ L, InL y.h ∧ TellH y.h) : ∀ x ∈ rhs L, InL x := fun x hx => by
  obtain ⟨y, hy, rfl⟩ := List.mem_map.1 hx
  exact (h y hy).1
theorem Both.check {D : List LB} {L : List LRH} (h : Both D L) {x : LRH} (k : GrownH x.h) : checkG (hdrs D) (hdrOf x.h) = rcheckF (rhs L) x.h := by
  rw [h.same]
  exact checkG_of (rhs_inL h.inl) k.names
theorem Both.keep {D D' : List LB} {L : List LRH} (h : Both D L) {x : LRH} (k : GrownH x.h) (hD : hdrs D' = addG (hdrs D) (hdrOf x.h)) (e : rcheckF (rhs L) x.h ≠ 0) : Both D' L := by
  have h1 : hdrs D' = hdrs D := by rw [hD]; unfold addG; rw [if_neg (by rw [h.check k]; exact e)]
  exact ⟨h1.trans h.same, by rw [h1]; exact h.good, h.inl, h.pos⟩
theorem Both.more {D D' : List LB} {L : List LRH} (h : Both D L) {x : LRH} (k : GrownH x.h) (hD : hdrs D' = addG (hdrs D) (hdrOf x.h)) (e : rcheckF (rhs L) x.h = 0) : Both D' (L ++ [x]) := by
  have h0 : checkG (hdrs D) (hdrOf x.h) = 0 := (h.check k).trans e
  have h1 : hdrs D' = hdrs D ++ [hdrOf x.h] := by rw [hD]; unfold addG; rw [if_pos h0]
  refine ⟨by rw [h1, rhs_app, List.map_append, h.same]; rfl, by rw [h1]; exact .add h.good h0, fun y hy => ?_, by simp⟩
  rcases List.mem_append.1 hy with hy | hy
  · exact h.inl y hy
  · rw [List.mem_singleton.1 hy]; exact ⟨inL_of k.names e, k.tell⟩
/-- A dag and a list, side by side, in memory. -/
structure MadeS (w W : World) (p b1 b2 : Nat) (D : List LB) (vh : Value) (hs : List LRH) (vl : Value) (L : List LRH) : Prop where
  dag : DagAt (fun k => w.heap.size ≤ k) W p b1 b2 D
  fine : FineD D
  row : Sl lrhE (fun k => w.heap.size ≤ k) W vh hs
  hat : ∀ y ∈ hs, y.At (fun k => w.heap.size ≤ k) W
  list : Sl rbE (fun k => w.heap.size ≤ k) W vl L
  lat : ∀ y ∈ L, y.At (fun k => w.heap.size ≤ k) W
  both : Both D L
  below : Below w.heap.size w W
section
variable {w W W' : World} {p b1 b2 : Nat} {D D' : List LB} {vh vl v' : Value} {hs L : List LRH}
theorem MadeS.next (h : MadeS w W p b1 b2 D vh hs vl L) (hb : Below W.heap.size W W') : MadeS w W' p b1 b2 D vh hs vl L :=
  ⟨h.dag.below hb, h.fine, h.row.below hb, fun y hy => Sl.below (h.hat y hy) hb, h.list.below hb, fun y hy => Sl.below (h.lat y hy) hb, h.both, h.below.trans (hb.mono h.below.size)⟩
end
/-- Between the dag's turn and the list's. -/
structure MadeH (w W : World) (p b1 b2 : Nat) (D' : List LB) (vh : Value) (hs : List LRH) (vl : Value) (L : List LRH) : Prop where
  dag : DagAt (fun k => w.heap.size ≤ k) W p b1 b2 D'
  fine : FineD D'
  row : Sl lrhE (fun k => w.heap.size ≤ k) W vh hs
  hat : ∀ y ∈ hs, y.At (fun k => w.heap.size ≤ k) W
  list : Sl rbE (fun k => w.heap.size ≤ k) W vl L
  lat : ∀ y ∈ L, y.At (fun k => w.heap.size ≤ k) W
  below : Below w.heap.size w W
section
variable {w W W' : World} {p b1 b2 : Nat} {D D' : List LB} {vh vl v' : Value} {hs L : List LRH}
theorem MadeS.chg (h : MadeS w W p b1 b2 D vh hs vl L) (hc : Chg (two b1 b2) W W') (hd : DagAt (fun k => w.heap.size ≤ k ∨ W.heap.size ≤ k) W' p b1 b2 D') (hf : FineD D') : MadeH w W' p b1 b2 D' vh hs vl L :=
  ⟨hd.mono fun k hk => by rcases hk with hk | hk; exact hk; exact Nat.le_trans h.below.size hk, hf, h.row.chg hc h.dag.no_row, fun y hy => Sl.chg (h.hat y hy) hc h.dag.no_row, h.list.chg hc h.dag.no_row, fun y hy => Sl.chg (h.lat y hy) hc h.dag.no_row,
    h.below.trans (hc.below h.below.size fun k hk => by rcases hk with rfl | rfl; exact h.dag.here.2.1; exact h.dag.here.2.2)⟩
theorem MadeH.next (h : MadeH w W p b1 b2 D vh hs vl L) (hb : Below W.heap.size W W') : MadeH w W' p b1 b2 D vh hs vl L :=
  ⟨h.dag.below hb, h.fine, h.row.below hb, fun y hy => Sl.below (h.hat y hy) hb, h.list.below hb, fun y hy => Sl.below (h.lat y hy) hb, h.below.trans (hb.mono h.below.size)⟩
theorem MadeH.same (h : MadeH w W p b1 b2 D vh hs vl L) (hb : Both D L) : MadeS w W p b1 b2 D vh hs vl L := ⟨h.dag, h.fine, h.row, h.hat, h.list, h.lat, hb, h.below⟩
theorem MadeH.more (h : MadeH w W p b1 b2 D vh hs vl L) {x : LRH} (hx : x ∈ hs) (hb : Below W.heap.size W W') (ho : W'.ownsRow W.heap.size 31 8 v' (L.length + 1) (rbE.flat (L ++ [x]))) (hB : Both D (L ++ [x])) : MadeS w W' p b1 b2 D vh hs v' (L ++ [x]) :=
  have h1 := h.next hb
  ⟨h1.dag, h1.fine, h1.row, h1.hat, Sl.mono (Sl.of_own (E := rbE) (ys := L ++ [x]) (by rw [List.length_append]; exact ho)) fun k hk => Nat.le_trans h.below.size (own_lt ho k hk).1, fun y hy => by
    rcases List.mem_append.1 hy with hy | hy
    · exact h1.lat y hy
    · rw [List.mem_singleton.1 hy]; exact h1.hat x hx, hB, h1.below⟩
end

/-- The first one is the first block alone. -/
def Rooted (all : List LNS) : Prop := ∃ z, all[0]? = some z ∧ z.ns = [(rid rgenL.h).1]
theorem rgen_par : rgenL.h.parents = [] := rfl
theorem Rooted.of {L : List LRH} {all : List LNS} (h : ∀ x0, L[0]? = some x0 → x0.h.parents = [] → ∃ z, all[0]? = some z ∧ z.ns = [(rid x0.h).1]) (h0 : L[0]? = some rgenL) : Rooted all := h rgenL h0 rgen_par
theorem Rooted.pos {all : List LNS} (h : Rooted all) : 0 < all.length := by
  obtain ⟨z, hz, -⟩ := h
  exact (List.getElem?_eq_some_iff.1 hz).1

set_option maxRecDepth 100000 in
set_option maxHeartbeats 4000000 in
theorem made_any2 (w : World) (t : Value) (l : List LSD) (ok ok' : Nat → Prop) (hl : Sl sdE ok w t l) (hf : ∀ y ∈ l, y.At ok' w ∧ SeedOk y.s) (n : Nat) (hn : n ≤ 100) (ht : Tab w) :
    Calls Tryz.prog 43 #[t, .int .i64 n] w fun e w' => ∃ p b1 b2 D vh hs vl L va all, e = .returned (.tuple #[.pointer (some ⟨p, 0, none⟩), vl, va]) ∧ MadeS w w' p b1 b2 D vh hs vl L ∧ L.length ≤ n + 1 ∧
      Sl nsE (fun k => w.heap.size ≤ k) w' va all ∧ (∀ x ∈ all, x.At (fun k => w.heap.size ≤ k) w' ∧ NamedIn L x.ns) ∧ Rooted all ∧ all.length ≤ 2 * (n + 1) := by
  have HL := Lib.hid hl
  have HF := Lib.hid hf
  have HT := Lib.hid ht
  clear hl hf ht
  obtain ⟨gn, hgn⟩ : ∃ gn, rid rgenH = gn := ⟨_, rfl⟩
  have HGEN : Hid (∀ W, Calls Tryz.prog 15 #[] W fun e w' => e = .returned (.agg (rbc gn rgenL).toArray) ∧ Below W.heap.size W w') := Lib.hid fun W => by rw [← hgn]; exact rgenesis_any W
  have HGN := Lib.hid hgn
  clear hgn
  go_enter Tryz.func43, Tryz.ntmps43
  go_upto_region 3 with (first
    | (go_at_call 14; refine (dnew_any w HT.out).mono ?_; rintro e w1 ⟨p, b1, b2, D0, rfl, hb1, hd1, hf1, hh1, hl1⟩; have HB1 := Lib.hid hb1; have HD1 := Lib.hid hd1; have HF1 := Lib.hid hf1; have HH1 := Lib.hid hh1; clear hb1 hd1 hf1 hh1 hl1)
    | (go_at_call 15; refine (HGEN.out _).mono ?_; rintro e w2 ⟨rfl, hb2⟩; have HB2 := Lib.hid hb2; clear hb2)
    | (refine wpl_slice1 rfl 33 31 (.tmp 12) rfl (rbc gn rgenL).toArray rfl _ 8 96 Tryz.underlying33 rb_info rbZ_cells rfl (by decide) (by decide) ?_))
  have HBa : Hid (Below w1.heap.size w1 (w2.alloc (.cells (rbc gn rgenL).toArray 31))) := Lib.hid (HB2.out.alloc HB2.out.size _)
  have HROW : Hid (Sl rbE (fun k => w.heap.size ≤ k) (w2.alloc (.cells (rbc gn rgenL).toArray 31)) (.slice (some ⟨w2.heap.size, 0, none⟩) 1 1) [rgenL]) := Lib.hid (by
    refine Sl.mono (Sl.of_block (E := rbE) (ys := [rgenL]) (heap_alloc_new w2 _) (by rw [rbE.flat_one, ← HGN.out]; rfl) rfl (Nat.le_refl _) (by omega)) fun k hk => ?_
    have h1 := HB1.out.size
    have h2 := HB2.out.size
    omega)
  generalize w2.alloc (.cells (rbc gn rgenL).toArray 31) = W2 at HBa HROW ⊢
  generalize w2.heap.size = gl at HROW ⊢
  have HBw : Hid (Below w.heap.size w W2) := Lib.hid (HB1.out.trans (HBa.out.mono HB1.out.size))
  go_upto_region 6 with (go_at_call 16; refine (grown_any W2 t l ok ok' (HL.out.below HBw.out) (fun y hy => ⟨(HF.out y hy).1.below HBw.out, (HF.out y hy).2⟩) n (by omega)).mono ?_; rintro e w3 ⟨vh, hs, rfl, hhl, hg3⟩; obtain ⟨Ah, ch, rfl, -⟩ := own_slice hg3.own; have HG3 := Lib.hid hg3; have HGG : Hid (∀ y ∈ hs, GrownH y.h) := Lib.hid hg3.good; clear hg3)
  have HS0 : Hid (MadeS w w3 p b1 b2 D0 (.slice Ah hs.length ch) hs (.slice (some ⟨gl, 0, none⟩) 1 1) [rgenL]) := Lib.hid (by
    have hb3 := HG3.out.below
    have hsz : w.heap.size ≤ W2.heap.size := HBw.out.size
    refine ⟨((HD1.out.below HBa.out).below hb3), HF1.out, Sl.mono HG3.out.sl fun k hk => Nat.le_trans hsz hk, fun y hy => Sl.mono (HG3.out.at_ y hy) fun k hk => Nat.le_trans hsz hk.1, HROW.out.below hb3, fun y hy => ?_, ?_, HBw.out.trans (hb3.mono hsz)⟩
    · rw [List.mem_singleton.1 hy]; exact Sl.nil _ _ _
    · exact ⟨HH1.out, by rw [HH1.out]; exact .start, fun y hy => by rw [List.mem_singleton.1 hy]; exact ⟨rgen_in, rgen_tell⟩, by simp⟩)
  have HTT := HT
  go_loopw [8, 20] (fun c8 c20 W => ∃ (i : Nat) (D : List LB) (L : List LRH), i ≤ hs.length ∧ c20 = .int .i64 (i : Int) ∧ L.length ≤ i + 1 ∧ (D.length ≤ i + 1 ∧ L[0]? = some rgenL) ∧ MadeS w W p b1 b2 D (.slice Ah hs.length ch) hs c8 L) (fun _ c20 _ => hs.length - (intOf c20).toNat)
  case atStart => exact ⟨0, D0, [rgenL], by omega, rfl, by simp, by have := congrArg List.length HH1.out; simp [hdrs] at this; exact ⟨by omega, rfl⟩, HS0.out⟩
  case round =>
    obtain ⟨i, D, L, hi, rfl, hLl, ⟨hDl, hL0⟩, hS⟩ := hrel
    have HL0 := Lib.hid hL0
    clear hL0
    have HS := Lib.hid hS
    clear hS
    by_cases hih : i < hs.length
    · obtain ⟨x, hx⟩ : ∃ x, hs[i]? = some x := ⟨_, List.getElem?_eq_getElem hih⟩
      have hxm := List.mem_of_getElem? hx
      have HXM := Lib.hid hxm
      have HXG : Hid (GrownH x.h) := Lib.hid (HGG.out x hxm)
      have HXA : Hid (x.At (fun _ => True) wr) := Lib.hid (Sl.mono (HS.out.hat x hxm) fun _ _ => trivial)
      obtain ⟨bh, oh, rfl, hbh, -, hcx⟩ := HS.out.row.at_ i x hx
      have HCX := Lib.hid hcx
      clear hcx hx hxm
      have hbx : Below wr.heap.size wr (wr.alloc (.cells x.cells.toArray 29)) := (Below.refl _ _).alloc (Nat.le_refl _) _
      have HSx := Lib.hid (HS.out.next hbx)
      have HXx : Hid (x.At (fun _ => True) (wr.alloc (.cells x.cells.toArray 29))) := Lib.hid (Sl.below HXA.out hbx)
      have HGx : Hid ((wr.alloc (.cells x.cells.toArray 29)).heap[wr.heap.size]? = some (.cells x.cells.toArray 29 (0, 0))) := Lib.hid (heap_alloc_new wr _)
      clear hbx
      go_upto_region 8 with (first
        | (refine wpl_load rfl 29 (.tmp 22) rfl bh _ rfl x.cells _ HCX.out Tryz.underlying29 rfl rh_size ?_)
        | (refine wpl_store_new rfl 29 _ _ rfl rfl x.cells rfl _ _ rfl (lrhE.one x) rh_size ?_))
      generalize wr.alloc (.cells x.cells.toArray 29) = W1 at HSx HXx HGx ⊢
      generalize wr.heap.size = gx at HGx ⊢
      have hgx : gx < W1.heap.size := (Array.getElem?_eq_some_iff.1 HGx.out).1
      go_upto_region 9 with (first
        | (refine wpl_load rfl 29 (.tmp 10) rfl gx 0 rfl x.cells _ (fun j u hu => by rw [Nat.zero_add]; exact cell_block HGx.out (by simpa using hu)) Tryz.underlying29 rfl rh_size ?_)
        | (go_at_call 19; refine (own_any _ x _ HXx.out (Nat.le_trans HXG.out.tell.parents (by decide))).mono ?_; rintro e w4 ⟨y, hy, rfl, hya, hb4⟩; have HY := Lib.hid hy; have HYA := Lib.hid hya; have HS4 := Lib.hid (HSx.out.next hb4); have HX4 : Hid (x.At (fun _ => True) w4) := Lib.hid (Sl.below HXx.out hb4); have HG4 : Hid (w4.heap[gx]? = some (.cells x.cells.toArray 29 (0, 0))) := Lib.hid ((hb4.block gx hgx).trans HGx.out); clear hy hya hb4)
        | (go_at_call 21; refine (dadd_any w4 p b1 b2 D _ HS4.out.dag HS4.out.fine y _ HYA.out (by rw [HY.out]; exact grown_wide HXG.out) (HTT.out.below HS4.out.below) (by omega)).mono ?_; rintro e w5 ⟨rfl, hc5, D5, hd5, hf5, hh5, hl5⟩; have HH5 := Lib.hid (HS4.out.chg hc5 hd5 hf5); have HX5 : Hid (x.At (fun _ => True) w5) := Lib.hid (Sl.chg HX4.out hc5 HS4.out.dag.no_row); have HG5 : Hid (w5.heap[gx]? = some (.cells x.cells.toArray 29 (0, 0))) := Lib.hid ((hc5.block gx (Array.getElem?_eq_some_iff.1 HG4.out).1 fun hs => HS4.out.dag.no_row gx hs _ _ _ HG4.out).trans HG4.out); have HD5 : Hid (hdrs D5 = addG (hdrs D) (hdrOf x.h)) := Lib.hid (by rw [hh5, HY.out]); clear hc5 hd5 hf5 hh5))
      have HRA := Lib.hid (raddF_any w5 u8 L _ _ HH5.out.list (fun y hy => ⟨HH5.out.lat y hy, (HS.out.both.inl y hy).2⟩) HS.out.both.pos (by omega) x HX5.out (grown_ask HXG.out))
      by_cases h0 : rcheckF (rhs L) x.h = 0
      · have HR2 : Hid (Calls Tryz.prog 20 #[u8, .agg x.cells.toArray] w5 fun e w' => ∃ v', e = .returned (.tuple #[v', .int .i64 0]) ∧ w'.ownsRow w5.heap.size 31 8 v' (L.length + 1) (rbE.flat (L ++ [x])) ∧ Below w5.heap.size w5 w') := Lib.hid (HRA.out.mono fun e w' ⟨ha, hb⟩ => by
          rcases ha with ⟨h1, -⟩ | ⟨-, v', he, ho⟩
          · exact absurd h0 h1
          · exact ⟨v', he, ho, hb⟩)
        have HB9 := Lib.hid (HS.out.both.more HXG.out HD5.out h0)
        clear h0
        go_wp2_with (first
          | (refine wpl_load rfl 29 (.tmp 10) rfl gx 0 rfl x.cells _ (fun j u hu => by rw [Nat.zero_add]; exact cell_block HG5.out (by simpa using hu)) Tryz.underlying29 rfl rh_size ?_)
          | (go_at_call 20; refine HR2.out.mono ?_; rintro e w6 ⟨v', rfl, ho6, hb6⟩; have HO6 := Lib.hid ho6; have HB6 := Lib.hid hb6; clear ho6 hb6))
        go_roundw
        case rel => exact ⟨i + 1, D5, L ++ [x], by omega, by go_num, by simp; omega, ⟨by omega, by rw [List.getElem?_append_left (List.getElem?_eq_some_iff.1 HL0.out).1]; exact HL0.out⟩, HH5.out.more HXM.out HB6.out HO6.out HB9.out⟩
        case measure => simp [intOf]; omega
      · obtain ⟨ce, hce⟩ : ∃ ce, rcheckF (rhs L) x.h = ce := ⟨_, rfl⟩
        have HR2 : Hid (Calls Tryz.prog 20 #[u8, .agg x.cells.toArray] w5 fun e w' => e = .returned (.tuple #[u8, .int .i64 ce]) ∧ Below w5.heap.size w5 w') := Lib.hid (HRA.out.mono fun e w' ⟨ha, hb⟩ => by
          rcases ha with ⟨-, he⟩ | ⟨h1, -⟩
          · rw [hce] at he; exact ⟨he, hb⟩
          · exact absurd h1 h0)
        have HB9 := Lib.hid (HS.out.both.keep HXG.out HD5.out h0)
        clear h0 hce
        go_wp2_with (first
          | (refine wpl_load rfl 29 (.tmp 10) rfl gx 0 rfl x.cells _ (fun j u hu => by rw [Nat.zero_add]; exact cell_block HG5.out (by simpa using hu)) Tryz.underlying29 rfl rh_size ?_)
          | (go_at_call 20; refine HR2.out.mono ?_; rintro e w6 ⟨rfl, hb6⟩; have HB6 := Lib.hid hb6; clear hb6))
        go_roundw
        case rel => exact ⟨i + 1, D5, L, by omega, by go_num, by omega, ⟨by omega, HL0.out⟩, (HH5.out.same HB9.out).next HB6.out⟩
        case measure => simp [intOf]; omega
    · have hii : i = hs.length := by omega
      subst hii
      have HTI : Hid (Calls Tryz.prog 122 #[u8] wr fun e w' => ∃ v' all, e = .returned v' ∧ TipsR (fun k => w.heap.size ≤ k ∨ wr.heap.size ≤ k) wr w' L v' all ∧ (∀ x0, L[0]? = some x0 → x0.h.parents = [] → ∃ z, all[0]? = some z ∧ z.ns = [(rid x0.h).1]) ∧ all.length ≤ 2 * L.length) := Lib.hid (tipsets_any wr u8 L _ HS.out.list (fun y hy => ⟨HS.out.lat y hy, (HS.out.both.inl y hy).2⟩) (by omega))
      go_wp2_with (go_at_call 122; refine HTI.out.mono ?_; rintro e w9 ⟨va, all, rfl, htr, hpa, hal⟩; have HTR := Lib.hid htr; clear htr)
      (try simp only [Exit.inBlock, Exit.then])
      refine ⟨rfl, .tuple #[.pointer (some ⟨p, 0, none⟩), u8, va], by kernel_rfl, ?_⟩
      have hsz : w.heap.size ≤ wr.heap.size := HS.out.below.size
      exact ⟨p, b1, b2, D, _, hs, u8, L, va, all, rfl, HS.out.next HTR.out.below, by omega, Sl.mono (Sl.of_own (E := nsE) HTR.out.own) fun k hk => Nat.le_trans hsz (own_lt HTR.out.own k hk).1, fun x hx => ⟨Sl.mono (HTR.out.at_ x hx) fun k hk => hk.2.elim id (Nat.le_trans hsz), HTR.out.mem x hx⟩, Rooted.of hpa HL0.out, by omega⟩
end Go.Proofs.YtcohdfkdhdhegaaGreatDoor
namespace Go.Proofs.YtcohdfkdhdhegaaGreatDoor
open Go.RowKit Go.Maps

theorem names_back {l : List ByteArray} (h : ∀ s ∈ l, s.size = 32) : (l.map idOf).map Subtype.val = l := by
  rw [List.map_map]
  conv => rhs; rw [← List.map_id l]
  exact List.map_congr_left fun s hs => idOf_self s (h s hs)
theorem keyB_rise {T : List ID} (h : riseB T = true) : keyB T = ⟨(joinI T).toArray⟩ := by unfold keyB; rw [sortI_rise h]
/-- Names that a header of the dag tells are a tipset of the dag's. -/
theorem named_tip {D : List LB} {L : List LRH} (hB : Both D L) {ns : List ByteArray} (h : NamedIn L ns) : ∃ T : List ID, TipOf (hdrs D) T ∧ (⟨(joinS ns).toArray⟩ : ByteArray) = keyB T ∧ ns = T.map Subtype.val := by
  obtain ⟨b, hb, hc⟩ := h
  have hI := (hB.inl b hb).1
  have hm : hdrOf b.h ∈ hdrs D := by
    rw [hB.same]
    exact List.mem_map.2 ⟨b.h, List.mem_map.2 ⟨b, hb, rfl⟩, rfl⟩
  rcases hc with ⟨rfl, hne⟩ | rfl
  · have hT : TipOf (hdrs D) (b.h.parents.map idOf) := by
      rcases hB.good.parents _ hm with he | ⟨h1, -, -⟩
      · have h2 : b.h.parents.map idOf = [] := congrArg Hdr.parents he
        exact absurd (List.map_eq_nil_iff.1 h2) hne
      · exact h1
    refine ⟨_, hT, ?_, (names_back hI.whole).symm⟩
    rw [keyB_rise hT.rise, join_names hI.whole]
  · have hid : hdrID (hdrOf b.h) = rid b.h := hI.id
    have hT : TipOf (hdrs D) [rid b.h] := by
      have hh : hasG (hdrs D) (rid b.h) = true := hasG_iff.2 ⟨_, hm, hid⟩
      obtain ⟨x, hx⟩ := hasG_get hh
      refine ⟨rfl, by simp, by simp, ?_⟩
      unfold tipG
      rw [if_pos (by simp [hh])]
      have hv : ([rid b.h].filterMap fun i => (getG (hdrs D) i).map blkG) = [blkG x] := by simp [hx]
      rw [hv, if_pos (tipB_one _)]
    refine ⟨_, hT, ?_, rfl⟩
    rw [keyB_one]
    simp [joinS]
set_option maxRecDepth 100000 in
set_option maxHeartbeats 2000000 in
theorem of14_any (w : World) (p b1 b2 : Nat) (D : List LB) (okx ok : Nat → Prop) (h : DagAt okx w p b1 b2 D) (hf : FineD D) (x : LNS) (hx : x.At ok w) (T : List ID) (hT : TipOf (hdrs D) T) (hxT : x.ns = T.map Subtype.val) (hk : (⟨(joinS x.ns).toArray⟩ : ByteArray) = keyB T) :
    Calls Tryz.prog 46 #[.pointer (some ⟨p, 0, none⟩), x.v] w fun e w' => ∃ t2, e = .returned (tipV t2) ∧ TipAt (fun k => w.heap.size ≤ k) w' t2 (setD D T) ∧ Below w.heap.size w w' := by
  obtain ⟨ec, hec, hC⟩ := par_tip p b1 b2 D okx h.ids hf T (.inr hT)
  have hne : T ≠ [] := fun e => by have := hT.one; rw [e] at this; simp at this
  have he0 : ec = 0 := by
    cases T with
    | nil => exact absurd rfl hne
    | cons a l => simpa using hec
  subst he0
  have hb0 : Below w.heap.size w (w.alloc (.cells #[.slice none 0 0] 52)) := (Below.refl _ w).alloc (Nat.le_refl _) _
  have hJ := rjoin_any (w.alloc (.cells #[.slice none 0 0] 52)) x.v x.ns ok (Sl.below hx hb0) (by rw [hxT, List.length_map]; have := hT.five; omega) (fun s hs => by rw [hxT] at hs; obtain ⟨i, -, rfl⟩ := List.mem_map.1 hs; rw [i.2]; decide)
  rw [hk] at hJ
  have HJ := Lib.hid hJ
  have HC := Lib.hid hC
  have HD := Lib.hid (h.below hb0)
  have HB0 := Lib.hid hb0
  have HG0 : Hid ((w.alloc (.cells #[.slice none 0 0] 52)).heap[w.heap.size]? = some (.cells #[.slice none 0 0] 52 (0, 0))) := Lib.hid (heap_alloc_new w _)
  obtain ⟨ns, A, c⟩ := x
  change Calls _ _ #[_, .slice A ns.length c] _ _
  replace HJ : Hid (Calls Tryz.prog 26 #[.slice A ns.length c] (w.alloc (.cells #[.slice none 0 0] 52)) fun e w' => e = .returned (.string (keyB T)) ∧ (w.alloc (.cells #[.slice none 0 0] 52)) = w') := HJ
  clear h hf hx hT hxT hk hec hC hb0 hJ hne
  go_enter Tryz.func46, Tryz.ntmps46
  go_upto_region 1 with fail
  try change Code.wp _ _ _ _ (w.alloc (.cells #[.slice none 0 0] 52))
  generalize w.alloc (.cells #[.slice none 0 0] 52) = W0 at HJ HD HB0 HG0 ⊢
  go_upto_region 2 with (first
    | (go_at_call 26; refine HJ.out.mono ?_; rintro e w1 ⟨rfl, rfl⟩)
    | (go_at_call 25; refine (HC.out _ HD.out).mono ?_; rintro e w2 ⟨t2, rfl, ht2, hb2⟩; have HT2 := Lib.hid ht2; have HB2 := Lib.hid hb2; have HG2 : Hid (w2.heap[w.heap.size]? = some (.cells #[.slice none 0 0] 52 (0, 0))) := Lib.hid ((hb2.block _ (Array.getElem?_eq_some_iff.1 HG0.out).1).trans HG0.out); clear ht2 hb2)
    | (refine wpl_store_new rfl 52 _ _ rfl rfl [t2] rfl _ _ rfl (tip_one HT2.out) tip_size ?_))
  have hb6 : Below w2.heap.size w2 (w2.alloc (.cells #[t2] 52)) := (Below.refl _ _).alloc (Nat.le_refl _) _
  have HT3 := Lib.hid (HT2.out.below hb6)
  have HG3 : Hid ((w2.alloc (.cells #[t2] 52)).heap[w2.heap.size]? = some (.cells #[t2] 52 (0, 0))) := Lib.hid (heap_alloc_new w2 _)
  have HG4 : Hid ((w2.alloc (.cells #[t2] 52)).heap[w.heap.size]? = some (.cells #[.slice none 0 0] 52 (0, 0))) := Lib.hid ((hb6.block _ (Array.getElem?_eq_some_iff.1 HG2.out).1).trans HG2.out)
  have HB3 : Hid (Below w.heap.size w (w2.alloc (.cells #[t2] 52))) := Lib.hid (HB0.out.trans ((HB2.out.trans (hb6.mono HB2.out.size)).mono HB0.out.size))
  have HLT : Hid (w.heap.size < W0.heap.size) := Lib.hid (Array.getElem?_eq_some_iff.1 HG0.out).1
  clear hb6
  try change Code.wp _ _ _ _ (w2.alloc (.cells #[t2] 52))
  generalize w2.alloc (.cells #[t2] 52) = W3 at HT3 HG3 HG4 HB3 ⊢
  generalize w2.heap.size = g3 at HG3 ⊢
  go_wp2_with (first
    | (refine wpl_load rfl 52 (.tmp 5) rfl g3 0 rfl [t2] _ (fun j u hu => by rw [Nat.zero_add]; exact cell_block HG3.out (by simpa using hu)) Tryz.underlying52 rfl tip_size ?_)
    | (refine wpl_store_row rfl 52 (.tmp 4) (.tmp 17) rfl w.heap.size rfl [t2] rfl _ 52 HG4.out rfl (tip_one HT3.out) tip_size ?_))
  (try simp only [Exit.inBlock, Exit.then])
  refine bodyPost_ret (results_cell_row rfl _ _ w.heap.size 52 #[t2] (0, 0) _ rfl (setRow_heap _ w.heap.size _ _ _ _ HG4.out) Tryz.underlying52 rfl tip_size) rfl ?_
  exact ⟨t2, rfl, tip_mono (tip_set HT3.out (fun k hk => by have := HLT.out; omega) _) fun k hk => by have := HLT.out; omega, below_setRow HB3.out (Nat.le_refl _) _⟩
end Go.Proofs.YtcohdfkdhdhegaaGreatDoor
namespace Go.Proofs.YtcohdfkdhdhegaaGreatDoor
open Go.RowKit Go.Maps

theorem tip_single {G : List Hdr} {i : ID} (hh : hasG G i = true) : TipOf G [i] := by
  obtain ⟨x, hx⟩ := hasG_get hh
  refine ⟨rfl, by simp, by simp, ?_⟩
  unfold tipG
  rw [if_pos (by simp [hh])]
  have hv : ([i].filterMap fun i => (getG G i).map blkG) = [blkG x] := by simp [hx]
  rw [hv, if_pos (tipB_one _)]
theorem GoodG.root {G : List Hdr} (g : GoodG G) : hasG G rootID = true := hasG_iff.2 ⟨genH, g.gen, rfl⟩
theorem GoodG.root_tip {G : List Hdr} (g : GoodG G) : TipOf G [rootID] := tip_single g.root
theorem GoodG.root_get {G : List Hdr} (g : GoodG G) : getG G rootID = some genH := by
  induction g with
  | start =>
    unfold getG
    rw [List.find?_cons_of_pos (by simp [rootID])]
  | add g _ ih => rw [getG_app g.root]; exact ih
theorem gen_is (w : World) (ht : Tab w) {G : List Hdr} (g : GoodG G) :
    Calls Tryz.prog 52 #[] w fun e w' => ∃ t, e = .returned (tipV t) ∧ TipIs (fun k => w.heap.size ≤ k) w' G t [rootID] ∧ Below w.heap.size w w' := by
  refine (tgenesis_any w ht).mono ?_
  rintro e w' ⟨t, y, hy, rfl, h1, h2, hb⟩
  refine ⟨t, rfl, ⟨[⟨rootID, y⟩], ⟨h1, by simp⟩, rfl, fun b hb => ?_⟩, hb⟩
  rw [List.mem_singleton.1 hb]
  exact ⟨by show getG G rootID = some y.h; rw [hy]; exact g.root_get, h2⟩
theorem descG_self {G : List Hdr} (g : GoodG G) {T : List ID} (h : TipOf G T) : descG G T T = true := descG_iff.2 (g.chain_self h)
end Go.Proofs.YtcohdfkdhdhegaaGreatDoor
namespace Go.Proofs.YtcohdfkdhdhegaaGreatDoor

section
variable {G : List Hdr}
theorem goodN_down {zs : List LB} : ∀ (i j : Nat), goodN zs (i + j) = true → goodN zs i = true
  | i, 0, h => h
  | i, j + 1, h => by
    refine goodN_down i j ?_
    cases h1 : goodN zs (i + j) with
    | true => rfl
    | false => rw [← Nat.add_assoc, goodN_off h1] at h; cases h
theorem fam_long (h : Hdr) : 2 + h.parents.length * 32 ≤ (famB h).length := by
  unfold famB
  simp only [List.length_append, textB, numB, List.length_cons]
  have := keyB_size h.parents
  have h2 : (keyB h.parents).data.toList.length = (keyB h.parents).size := Array.length_toList
  omega
/-- The first tipset is the first block alone. -/
theorem GoodG.root_only (g : GoodG G) {T : List ID} (h : TipOf G T) (h0 : parG G T = []) : T = [rootID] := by
  rcases g.par h with ⟨-, l, rfl⟩ | ⟨h1, -, -⟩
  · cases l with
    | nil => rfl
    | cons j l =>
      exfalso
      have hx : getG G rootID = some genH := g.root_get
      obtain ⟨y, hy⟩ := hasG_get (h.all j (by simp))
      have hv : valsG G (rootID :: j :: l) = blkG genH :: blkG y :: valsG G l := by
        unfold valsG
        rw [List.filterMap_cons, hx, List.filterMap_cons, hy]
        rfl
      have ht := (tipG_all h.ok).2.1
      rw [hv] at ht
      unfold tipB goodB at ht
      have h2 : goodN ((blkG genH :: blkG y :: valsG G l).map toLB) 2 = true := goodN_down 2 ((valsG G l).length) (by rw [← ht]; congr 1; simp; omega)
      have hf : ¬ hdrID genH = hdrID y ∧ famS genH = famS y := by
        rw [goodN] at h2
        simp only [Bool.and_eq_true] at h2
        have h3 := h2.2
        simpa [fits?, fitsB, blkG, toLB] using h3
      rcases g.parents y (getG_some hy).1 with rfl | ⟨h3, -, -⟩
      · exact hf.1 rfl
      · have h4 := congrArg ByteArray.size hf.2
        have h5 : (famS genH).size = 4 := by decide +kernel
        have h6 : (famS y).size = (famB y).length := by simp [famS, ByteArray.size]
        have h7 := fam_long y
        have h8 := h3.one
        omega
  · rw [h0] at h1
    exact absurd rfl h1.ne
theorem GoodG.par_or (g : GoodG G) {T : List ID} (h : TipOf G T) : T = [rootID] ∨ (TipOf G (parG G T) ∧ hgtG G (parG G T) < hgtG G T ∧ 1 ≤ hgtG G T) := by
  rcases g.par h with ⟨h0, -⟩ | h1
  · exact .inl (g.root_only h h0)
  · exact .inr h1
theorem GoodG.root_in (g : GoodG G) : ∀ T, TipOf G T → [rootID] ∈ chainG G T := by
  refine g.chain_ind (fun T h h0 _ => ?_) (fun T h h1 _ ih => ?_)
  · rw [g.chain_root h h0, g.root_only h h0]; exact List.mem_singleton.2 rfl
  · rw [g.chain_cons h h1]; exact List.mem_cons_of_mem _ ih
theorem GoodG.root_hgt (g : GoodG G) : hgtG G [rootID] = 0 := by
  have h : headG G [rootID] = some genH := g.root_get
  unfold hgtG
  rw [h]
  rfl
/-- In a chain each height is met once. -/
theorem GoodG.chain_one (g : GoodG G) {T E F : List ID} (h : TipOf G T) (hE : E ∈ chainG G T) (hF : F ∈ chainG G T) (he : hgtG G E = hgtG G F) : E = F := by
  rw [← g.atG_self h hE, ← g.atG_self h hF, he]
open Classical in
/-- The highest one from which both descend. -/
noncomputable def commG (G : List Hdr) (A B : List ID) : List ID := ((chainG G A).find? fun T => descG G B T).getD []
theorem GoodG.comm_mem (g : GoodG G) {A B : List ID} (hA : TipOf G A) (hB : TipOf G B) : commG G A B ∈ chainG G A ∧ commG G A B ∈ chainG G B ∧ ∀ F ∈ chainG G A, F ∈ chainG G B → hgtG G F ≤ hgtG G (commG G A B) := by
  unfold commG
  cases hf : (chainG G A).find? fun T => descG G B T with
  | none => exact absurd (descG_iff.2 (g.root_in B hB)) (by simpa using List.find?_eq_none.1 hf _ (g.root_in A hA))
  | some C =>
    have h1 := List.find?_some hf
    obtain ⟨-, pre, rest, hs, hpre⟩ := List.find?_eq_some_iff_append.1 hf
    refine ⟨List.mem_of_find?_eq_some hf, descG_iff.1 h1, fun F hF hFB => ?_⟩
    have hd := g.chain_down A hA
    rw [hs] at hF hd
    rcases List.mem_append.1 hF with hF | hF
    · have := hpre F hF
      rw [descG_iff.2 hFB] at this
      cases this
    · rcases List.mem_cons.1 hF with rfl | hF
      · exact Int.le_refl _
      · exact Int.le_of_lt ((List.pairwise_cons.1 (List.pairwise_append.1 hd).2.1).1 F hF)
theorem GoodG.comm_eq (g : GoodG G) {A B C : List ID} (hA : TipOf G A) (hB : TipOf G B) (h1 : C ∈ chainG G A) (h2 : C ∈ chainG G B) (h3 : ∀ F ∈ chainG G A, F ∈ chainG G B → hgtG G F ≤ hgtG G C) : commG G A B = C := by
  obtain ⟨c1, c2, c3⟩ := g.comm_mem hA hB
  exact g.chain_one hA c1 h1 (Int.le_antisymm (h3 _ c1 c2) (c3 _ h1 h2))
theorem GoodG.comm_symm (g : GoodG G) {A B : List ID} (hA : TipOf G A) (hB : TipOf G B) : commG G A B = commG G B A := by
  obtain ⟨c1, c2, c3⟩ := g.comm_mem hB hA
  exact g.comm_eq hA hB c2 c1 fun F h1 h2 => c3 F h2 h1
theorem GoodG.comm_self (g : GoodG G) {A : List ID} (hA : TipOf G A) : commG G A A = A := g.comm_eq hA hA (g.chain_self hA) (g.chain_self hA) fun F h1 _ => g.chain_low A hA F h1
/-- Who goes down no lower than the other one meets the same. -/
theorem GoodG.comm_down (g : GoodG G) {A B A' : List ID} (hA : TipOf G A) (hB : TipOf G B) (hA' : A' ∈ chainG G A) (hm : commG G A B ∈ chainG G A') : commG G A' B = commG G A B := by
  obtain ⟨c1, c2, c3⟩ := g.comm_mem hA hB
  exact g.comm_eq (g.chain_tip A hA A' hA') hB hm c2 fun F h1 h2 => c3 F (g.chain_trans hA hA' h1) h2
theorem GoodG.at_step (g : GoodG G) {A : List ID} (hA : TipOf G A) {k : Int} (hk : 0 ≤ k) : atG G A k ∈ chainG G A ∧ hgtG G (atG G A k) ≤ k ∧ ∀ F ∈ chainG G A, hgtG G F ≤ k → F ∈ chainG G (atG G A k) := by
  unfold atG
  cases hf : (chainG G A).find? fun T => decide (hgtG G T ≤ k) with
  | none => exact absurd hk (by have := List.find?_eq_none.1 hf _ (g.root_in A hA); rw [g.root_hgt] at this; simpa using this)
  | some C =>
    have h1 := List.find?_some hf
    obtain ⟨-, pre, rest, hs, hpre⟩ := List.find?_eq_some_iff_append.1 hf
    have hm := List.mem_of_find?_eq_some hf
    refine ⟨hm, by simpa using h1, fun F hF hl => ?_⟩
    show F ∈ chainG G C
    obtain ⟨pre', hs'⟩ := g.chain_tail A hA C hm
    have hC := g.chain_tip A hA C hm
    have hd := g.chain_down A hA
    rw [hs'] at hF hd
    rcases List.mem_append.1 hF with hF | hF
    · exfalso
      have h2 := (List.pairwise_append.1 hd).2.2 F hF C (g.chain_self hC)
      have hFA : F ∈ chainG G A := by rw [hs']; exact List.mem_append_left _ hF
      rw [hs] at hFA
      rcases List.mem_append.1 hFA with h3 | h3
      · have := hpre F h3
        simp at this
        omega
      · have hd2 := g.chain_down A hA
        rw [hs] at hd2
        rcases List.mem_cons.1 h3 with rfl | h3
        · omega
        · have := (List.pairwise_cons.1 (List.pairwise_append.1 hd2).2.1).1 F h3
          omega
    · exact hF
theorem GoodG.comm_at (g : GoodG G) {A B : List ID} (hA : TipOf G A) (hB : TipOf G B) : TipOf G (atG G A (hgtG G B)) ∧ commG G (atG G A (hgtG G B)) B = commG G A B ∧ hgtG G (atG G A (hgtG G B)) ≤ hgtG G B := by
  obtain ⟨h1, h2, h3⟩ := g.at_step hA (g.hgt0 hB)
  obtain ⟨c1, c2, -⟩ := g.comm_mem hA hB
  exact ⟨g.chain_tip A hA _ h1, g.comm_down hA hB h1 (h3 _ c1 (g.chain_low B hB _ c2)), h2⟩
theorem GoodG.up_of_ne (g : GoodG G) {A B : List ID} (hA : TipOf G A) (hB : TipOf G B) (he : hgtG G A = hgtG G B) (hne : A ≠ B) : TipOf G (parG G A) ∧ hgtG G (parG G A) < hgtG G A := by
  rcases g.par_or hA with h0 | ⟨h1, h2, -⟩
  · exfalso
    rw [h0, g.root_hgt] at he
    rcases g.par_or hB with h3 | ⟨-, -, h3⟩
    · exact hne (h0.trans h3.symm)
    · omega
  · exact ⟨h1, h2⟩
theorem GoodG.comm_par1 (g : GoodG G) {A B : List ID} (hA : TipOf G A) (hB : TipOf G B) (he : hgtG G B ≤ hgtG G A) (hne : A ≠ B) (hp : TipOf G (parG G A)) : commG G (parG G A) B = commG G A B := by
  obtain ⟨c1, c2, -⟩ := g.comm_mem hA hB
  have hm : parG G A ∈ chainG G A := by rw [g.chain_cons hA hp]; exact List.mem_cons_of_mem _ (g.chain_self hp)
  refine g.comm_down hA hB hm ?_
  rw [g.chain_cons hA hp] at c1
  rcases List.mem_cons.1 c1 with h1 | h1
  · exfalso
    rw [h1] at c2
    have := g.chain_low B hB _ c2
    exact hne (g.chain_one hB c2 (g.chain_self hB) (by omega))
  · exact h1
theorem GoodG.comm_par (g : GoodG G) {A B : List ID} (hA : TipOf G A) (hB : TipOf G B) (he : hgtG G A = hgtG G B) (hne : A ≠ B) : (TipOf G (parG G A) ∧ hgtG G (parG G A) < hgtG G A) ∧ (TipOf G (parG G B) ∧ hgtG G (parG G B) < hgtG G B) ∧ commG G (parG G A) B = commG G A B ∧ commG G (parG G A) (parG G B) = commG G A B := by
  have h1 := g.up_of_ne hA hB he hne
  have h2 := g.up_of_ne hB hA he.symm hne.symm
  have h3 := g.comm_par1 hA hB (by omega) hne h1.1
  refine ⟨h1, h2, h3, ?_⟩
  rw [g.comm_symm h1.1 h2.1, g.comm_par1 hB h1.1 (by omega) (fun e => by rw [← e] at h1; omega) h2.1, ← g.comm_symm h1.1 hB, h3]
theorem nodup_len {α : Type} : ∀ {l m : List α}, l.Nodup → (∀ x ∈ l, x ∈ m) → l.length ≤ m.length := by
  classical
  intro l
  induction l with
  | nil => intro m _ _; simp
  | cons x l ih =>
    intro m hn hs
    rw [List.nodup_cons] at hn
    have hx := hs x List.mem_cons_self
    have h1 := ih (m := m.erase x) hn.2 fun y hy => (List.mem_erase_of_ne (fun e => hn.1 (by rw [← e]; exact hy))).2 (hs y (List.mem_cons_of_mem _ hy))
    rw [List.length_erase_of_mem hx] at h1
    have := List.length_pos_of_mem hx
    rw [List.length_cons]
    omega
/-- A chain is no longer than the dag is great. -/
theorem GoodG.chain_len (g : GoodG G) {T : List ID} (h : TipOf G T) : (chainG G T).length ≤ G.length := by
  have h1 : ((chainG G T).map (headG G)).Nodup := by
    refine List.Pairwise.map _ (fun a b hab e => ?_) (g.chain_down T h)
    have : hgtG G a = hgtG G b := by unfold hgtG; rw [e]
    omega
  have h2 := nodup_len (m := G.map some) h1 fun x hx => by
    obtain ⟨F, hF, rfl⟩ := List.mem_map.1 hx
    obtain ⟨y, hy, hm, -⟩ := (g.chain_tip T h F hF).head
    exact List.mem_map.2 ⟨y, hm, hy.symm⟩
  simpa using h2
open Classical in
/-- What is left: a tipset and all behind it, ahead of another one. -/
noncomputable def aboveG (G : List Hdr) (A C : List ID) : List (List ID) := (chainG G A).takeWhile fun T => decide (T ≠ C)
theorem aboveG_split {A C : List ID} {pre rest : List (List ID)} (hs : pre ++ C :: rest = chainG G A) (hpre : ∀ x ∈ pre, x ≠ C) : aboveG G A C = pre := by
  unfold aboveG
  rw [← hs, List.takeWhile_append_of_pos fun x hx => by simpa using hpre x hx, List.takeWhile_cons_of_neg (by simp), List.append_nil]
theorem aboveG_all {A C : List ID} (hpre : ∀ x ∈ chainG G A, x ≠ C) : aboveG G A C = chainG G A := by
  unfold aboveG
  conv => rhs; rw [← List.append_nil (chainG G A)]
  conv => lhs; rw [← List.append_nil (chainG G A)]
  rw [List.takeWhile_append_of_pos fun x hx => by simpa using hpre x hx, List.takeWhile_nil]
end
end Go.Proofs.YtcohdfkdhdhegaaGreatDoor
