/- coxswainlaw13.DagAdds: whatever the arguments: the call returns true; they read behind it as before. The two tables of digest are as the program's text lays them (the card ties that); no other condition. -/
import Derived.Test.YtcohdfkdhdhegaaGreatDoorPbAA
import Derived.Test.YtcohdfkdhdhegaaGreatDoorPbAB
import Derived.Test.YtcohdfkdhdhegaaGreatDoorPbAC
import Derived.Test.YtcohdfkdhdhegaaGreatDoorPbAD
import Derived.Test.YtcohdfkdhdhegaaGreatDoorPbAE
import Derived.Test.YtcohdfkdhdhegaaGreatDoorPbAF
import Derived.Test.YtcohdfkdhdhegaaGreatDoorPbAG
import Derived.Test.YtcohdfkdhdhegaaGreatDoorPbAH
import Derived.Test.YtcohdfkdhdhegaaGreatDoorPbAI
import Derived.Test.YtcohdfkdhdhegaaGreatDoorPbAJ
import Derived.Test.YtcohdfkdhdhegaaGreatDoorPbAK
import Derived.Test.YtcohdfkdhdhegaaGreatDoorPbAL
import Derived.Test.YtcohdfkdhdhegaaGreatDoorPbAM
import Derived.Test.YtcohdfkdhdhegaaGreatDoorPbAN
import Derived.Test.YtcohdfkdhdhegaaGreatDoorPbAO
import Derived.Test.YtcohdfkdhdhegaaGreatDoorPbAP
import Derived.Test.YtcohdfkdhdhegaaGreatDoorPbAQ
import Derived.Test.YtcohdfkdhdhegaaGreatDoorPbAR
import Derived.Test.YtcohdfkdhdhegaaGreatDoorPbAS
import Derived.Test.YtcohdfkdhdhegaaGreatDoorPbAT
import Derived.Test.YtcohdfkdhdhegaaGreatDoorPbAU
import Derived.Test.YtcohdfkdhdhegaaGreatDoorPbAV
import Derived.Test.YtcohdfkdhdhegaaGreatDoorPbAW
import Derived.Test.YtcohdfkdhdhegaaGreatDoorPbAX
import Derived.Test.YtcohdfkdhdhegaaGreatDoorPbAY
import Derived.Test.YtcohdfkdhdhegaaGreatDoorPbAZ
import Derived.Test.YtcohdfkdhdhegaaGreatDoorPbBA
import Derived.Test.YtcohdfkdhdhegaaGreatDoorPbBB
import Derived.Test.YtcohdfkdhdhegaaGreatDoorPbBC
import Derived.Test.YtcohdfkdhdhegaaGreatDoorPbBD
import Derived.Test.YtcohdfkdhdhegaaGreatDoorPbBJ
import Derived.Test.YtcohdfkdhdhegaaGreatDoorPeAA
import Derived.Test.YtcohdfkdhdhegaaGreatDoorPeAB
import Derived.Test.YtcohdfkdhdhegaaGreatDoorPeAC
import Derived.JoinedOf
import Derived.SevenTiedAt
import Derived.Stop.Joined
import Derived.Test.YtcohdfkdhdhegaaGreatDoorCards
import Derived.Test.YtcohdfkdhdhegaaGreatDoorTie
import Derived.ChangeSame
import Derived.ChangeVars
import Derived.RowKitTokens
import Derived.LaidHandle
namespace Go.Proofs.YtcohdfkdhdhegaaGreatDoor
open Go.RowKit Go.Maps

section
variable {w W W' : World} {p b1 b2 : Nat} {D D' : List LB} {vh vl v' : Value} {hs L : List LRH}
theorem MadeS.half (h : MadeS w W p b1 b2 D vh hs vl L) : MadeH w W p b1 b2 D vh hs vl L := ⟨h.dag, h.fine, h.row, h.hat, h.list, h.lat, h.below⟩
theorem MadeH.app (h : MadeH w W p b1 b2 D vh hs vl L) {x : LRH} (hx : x ∈ hs) (hb : Below W.heap.size W W') (ho : W'.ownsRow W.heap.size 31 8 v' (L.length + 1) (rbE.flat (L ++ [x]))) : MadeH w W' p b1 b2 D vh hs v' (L ++ [x]) :=
  have h1 := h.next hb
  ⟨h1.dag, h1.fine, h1.row, h1.hat, Sl.mono (Sl.of_own (E := rbE) (ys := L ++ [x]) (by rw [List.length_append]; exact ho)) fun k hk => Nat.le_trans h.below.size (own_lt ho k hk).1, fun y hy => by
    rcases List.mem_append.1 hy with hy | hy
    · exact h1.lat y hy
    · rw [List.mem_singleton.1 hy]; exact h1.hat x hx, h1.below⟩
theorem MadeH.chg (h : MadeH w W p b1 b2 D vh hs vl L) (hc : Chg (two b1 b2) W W') (hd : DagAt (fun k => w.heap.size ≤ k ∨ W.heap.size ≤ k) W' p b1 b2 D') (hf : FineD D') : MadeH w W' p b1 b2 D' vh hs vl L :=
  ⟨hd.mono fun k hk => by rcases hk with hk | hk; exact hk; exact Nat.le_trans h.below.size hk, hf, h.row.chg hc h.dag.no_row, fun y hy => Sl.chg (h.hat y hy) hc h.dag.no_row, h.list.chg hc h.dag.no_row, fun y hy => Sl.chg (h.lat y hy) hc h.dag.no_row,
    h.below.trans (hc.below h.below.size fun k hk => by rcases hk with rfl | rfl; exact h.dag.here.2.1; exact h.dag.here.2.2)⟩
theorem Both.len (h : Both D L) : D.length = L.length := by have := congrArg List.length h.same; simpa [hdrs, rhs] using this
end

set_option maxRecDepth 100000 in
set_option maxHeartbeats 4000000 in
theorem adds_any (w : World) (t : Value) (l : List LSD) (ok ok' : Nat → Prop) (hl : Sl sdE ok w t l) (hf : ∀ y ∈ l, y.At ok' w ∧ SeedOk y.s) (ht : Tab w) :
    Calls Tryz.prog 3 #[t] w fun e w' => e = .returned (.bool true) ∧ Below w.heap.size w w' := by
  have HL := Lib.hid hl
  have HF := Lib.hid hf
  have HT := Lib.hid ht
  clear hl hf ht
  obtain ⟨gn, hgn⟩ : ∃ gn, rid rgenH = gn := ⟨_, rfl⟩
  have HGEN : Hid (∀ W, Calls Tryz.prog 15 #[] W fun e w' => e = .returned (.agg (rbc gn rgenL).toArray) ∧ Below W.heap.size W w') := Lib.hid fun W => by rw [← hgn]; exact rgenesis_any W
  have HGN := Lib.hid hgn
  clear hgn
  go_enter Tryz.func3, Tryz.ntmps3
  go_upto_region 5 with (first
    | (go_at_call 13; refine (awake13_any _ HT.out).mono ?_; rintro e w0 ⟨rfl, hb0⟩; have HB0 := Lib.hid hb0; clear hb0)
    | (go_at_call 14; refine (dnew_any w0 (HT.out.below HB0.out)).mono ?_; rintro e w1 ⟨p, b1, b2, D0, rfl, hb1, hd1, hf1, hh1, hl1⟩; have HB1 := Lib.hid (HB0.out.trans (hb1.mono HB0.out.size)); have HD1 : Hid (DagAt (fun k => w.heap.size ≤ k) w1 p b1 b2 D0) := Lib.hid (hd1.mono fun k hk => Nat.le_trans HB0.out.size hk); have HF1 := Lib.hid hf1; have HH1 := Lib.hid hh1; clear hb1 hd1 hf1 hh1 hl1)
    | (go_at_call 15; refine (HGEN.out _).mono ?_; rintro e w2 ⟨rfl, hb2⟩; have HB2 := Lib.hid hb2; clear hb2)
    | (refine wpl_slice1 rfl 33 31 (.tmp 13) rfl (rbc gn rgenL).toArray rfl _ 8 96 Tryz.underlying33 rb_info rbZ_cells rfl (by decide) (by decide) ?_))
  have HBa : Hid (Below w1.heap.size w1 (w2.alloc (.cells (rbc gn rgenL).toArray 31))) := Lib.hid (HB2.out.alloc HB2.out.size _)
  have HROW : Hid (Sl rbE (fun k => w.heap.size ≤ k) (w2.alloc (.cells (rbc gn rgenL).toArray 31)) (.slice (some ⟨w2.heap.size, 0, none⟩) 1 1) [rgenL]) := Lib.hid (by
    refine Sl.mono (Sl.of_block (E := rbE) (ys := [rgenL]) (heap_alloc_new w2 _) (by rw [rbE.flat_one, ← HGN.out]; rfl) rfl (Nat.le_refl _) (by omega)) fun k hk => ?_
    have h1 := HB1.out.size
    have h2 := HB2.out.size
    omega)
  generalize w2.alloc (.cells (rbc gn rgenL).toArray 31) = W2 at HBa HROW ⊢
  generalize w2.heap.size = gl at HROW ⊢
  have HBw : Hid (Below w.heap.size w W2) := Lib.hid (HB1.out.trans (HBa.out.mono HB1.out.size))
  go_upto_region 8 with (go_at_call 16; refine (grown_any W2 t l ok ok' (HL.out.below HBw.out) (fun y hy => ⟨(HF.out y hy).1.below HBw.out, (HF.out y hy).2⟩) 24 (by omega)).mono ?_; rintro e w3 ⟨vh, hs, rfl, hhl, hg3⟩; obtain ⟨Ah, ch, rfl, -⟩ := own_slice hg3.own; have HG3 := Lib.hid hg3; have HGG : Hid (∀ y ∈ hs, GrownH y.h) := Lib.hid hg3.good; clear hg3)
  have HS0 : Hid (MadeS w w3 p b1 b2 D0 (.slice Ah hs.length ch) hs (.slice (some ⟨gl, 0, none⟩) 1 1) [rgenL]) := Lib.hid (by
    have hb3 := HG3.out.below
    have hsz : w.heap.size ≤ W2.heap.size := HBw.out.size
    refine ⟨((HD1.out.below HBa.out).below hb3), HF1.out, Sl.mono HG3.out.sl fun k hk => Nat.le_trans hsz hk, fun y hy => Sl.mono (HG3.out.at_ y hy) fun k hk => Nat.le_trans hsz hk.1, HROW.out.below hb3, fun y hy => ?_, ?_, HBw.out.trans (hb3.mono hsz)⟩
    · rw [List.mem_singleton.1 hy]; exact Sl.nil _ _ _
    · exact ⟨HH1.out, by rw [HH1.out]; exact .start, fun y hy => by rw [List.mem_singleton.1 hy]; exact ⟨rgen_in, rgen_tell⟩, by simp⟩)
  go_loopw [4, 20] (fun c4 c20 W => ∃ (i : Nat) (D : List LB) (L : List LRH), i ≤ hs.length ∧ c20 = .int .i64 (i : Int) ∧ L.length ≤ i + 1 ∧ MadeS w W p b1 b2 D (.slice Ah hs.length ch) hs c4 L) (fun _ c20 _ => hs.length - (intOf c20).toNat)
  case atStart => exact ⟨0, D0, [rgenL], by omega, rfl, by simp, HS0.out⟩
  case round =>
    obtain ⟨i, D, L, hi, rfl, hLl, hS⟩ := hrel
    obtain ⟨A4, c4, rfl, -, -⟩ := hS.list.form
    have HS := Lib.hid hS
    clear hS
    by_cases hih : i < hs.length
    · obtain ⟨x, hx⟩ : ∃ x, hs[i]? = some x := ⟨_, List.getElem?_eq_getElem hih⟩
      have hxm := List.mem_of_getElem? hx
      have HXM := Lib.hid hxm
      have HXG : Hid (GrownH x.h) := Lib.hid (HGG.out x hxm)
      obtain ⟨ce, hce⟩ : ∃ ce, rcheckF (rhs L) x.h = ce := ⟨_, rfl⟩
      have HCE := Lib.hid hce
      have HXA : Hid (x.At (fun _ => True) wr) := Lib.hid (Sl.mono (HS.out.hat x hxm) fun _ _ => trivial)
      obtain ⟨bh, oh, rfl, hbh, -, hcx⟩ := HS.out.row.at_ i x hx
      have HCX := Lib.hid hcx
      have hbx : Below wr.heap.size wr (wr.alloc (.cells x.cells.toArray 29)) := (Below.refl _ _).alloc (Nat.le_refl _) _
      have HSx := Lib.hid (HS.out.next hbx)
      have HXx : Hid (x.At (fun _ => True) (wr.alloc (.cells x.cells.toArray 29))) := Lib.hid (Sl.below HXA.out hbx)
      have HGx : Hid ((wr.alloc (.cells x.cells.toArray 29)).heap[wr.heap.size]? = some (.cells x.cells.toArray 29 (0, 0))) := Lib.hid (heap_alloc_new wr _)
      have HRC : Hid (∀ W, MadeS w W p b1 b2 D (.slice (some ⟨bh, oh, none⟩) hs.length ch) hs (.slice A4 L.length c4) L → x.At (fun _ => True) W → Calls Tryz.prog 17 #[.slice A4 L.length c4, .agg x.cells.toArray] W fun e w' => e = .returned (.int .i64 ce) ∧ Below W.heap.size W w') := Lib.hid fun W h hx => by
        rw [← hce]
        exact rcheckF_any W _ L _ _ h.list (fun y hy => ⟨h.lat y hy, (h.both.inl y hy).2⟩) x hx (grown_ask HXG.out)
      have HDC : Hid (∀ W (y : LH), y.h = hdrOf x.h → MadeS w W p b1 b2 D (.slice (some ⟨bh, oh, none⟩) hs.length ch) hs (.slice A4 L.length c4) L → y.At (fun k => True) W → Calls Tryz.prog 18 #[.pointer (some ⟨p, 0, none⟩), .agg y.cells.toArray] W fun e w' => e = .returned (.int .i64 ce) ∧ Below W.heap.size W w') := Lib.hid fun W y hy h hya => by
        rw [← hce, ← h.both.check HXG.out, ← hy]
        exact dcheck_any W p b1 b2 D _ h.dag h.fine y _ hya (by rw [hy]; exact grown_wide HXG.out) (HT.out.below h.below)
      clear hcx hx hxm hbx hce
      go_upto_region 10 with (first
        | (refine wpl_load rfl 29 (.tmp 22) rfl bh _ rfl x.cells _ HCX.out Tryz.underlying29 rfl rh_size ?_)
        | (refine wpl_store_new rfl 29 (.tmp 6) (.tmp 23) rfl rfl x.cells rfl _ _ rfl (lrhE.one x) rh_size ?_))
      generalize wr.alloc (.cells x.cells.toArray 29) = W1 at HSx HXx HGx ⊢
      generalize wr.heap.size = gx at HGx ⊢
      have hgx : gx < W1.heap.size := (Array.getElem?_eq_some_iff.1 HGx.out).1
      go_upto_region 13 with (first
        | (go_at_call 17; refine (HRC.out _ HSx.out HXx.out).mono ?_; rintro e w5 ⟨rfl, hb5⟩; have HS5 := Lib.hid (HSx.out.next hb5); have HX5 : Hid (x.At (fun _ => True) w5) := Lib.hid (Sl.below HXx.out hb5); have HG5 : Hid (w5.heap[gx]? = some (.cells x.cells.toArray 29 (0, 0))) := Lib.hid ((hb5.block gx (Array.getElem?_eq_some_iff.1 HGx.out).1).trans HGx.out); clear hb5)
        | (go_at_call 19; refine (own_any _ x _ HX5.out (Nat.le_trans HXG.out.tell.parents (by decide))).mono ?_; rintro e w6 ⟨y6, hy, rfl, hya, hb6⟩; have HY6 := Lib.hid hy; have HYA6 : Hid (y6.At (fun _ => True) w6) := Lib.hid (Sl.mono hya fun _ _ => trivial); have HS6 := Lib.hid (HS5.out.next hb6); have HX6 : Hid (x.At (fun _ => True) w6) := Lib.hid (Sl.below HX5.out hb6); have HG6 : Hid (w6.heap[gx]? = some (.cells x.cells.toArray 29 (0, 0))) := Lib.hid ((hb6.block gx (Array.getElem?_eq_some_iff.1 HG5.out).1).trans HG5.out); clear hy hya hb6)
        | (go_at_call 18; refine (HDC.out _ y6 HY6.out HS6.out HYA6.out).mono ?_; rintro e w7 ⟨rfl, hb7⟩; have HS7 := Lib.hid (HS6.out.next hb7); have HX7 : Hid (x.At (fun _ => True) w7) := Lib.hid (Sl.below HX6.out hb7); have HG7 : Hid (w7.heap[gx]? = some (.cells x.cells.toArray 29 (0, 0))) := Lib.hid ((hb7.block gx (Array.getElem?_eq_some_iff.1 HG6.out).1).trans HG6.out); clear hb7)
        | (refine wpl_load rfl 29 (.tmp 6) rfl gx 0 rfl x.cells _ (fun j u hu => by rw [Nat.zero_add]; first | exact cell_block HGx.out (by simpa using hu) | exact cell_block HG5.out (by simpa using hu)) Tryz.underlying29 rfl rh_size ?_))
      have HRA := Lib.hid (raddF_any w7 _ L _ _ HS7.out.list (fun y hy => ⟨HS7.out.lat y hy, (HS7.out.both.inl y hy).2⟩) HS7.out.both.pos (by omega) x HX7.out (grown_ask HXG.out))
      have HDA : Hid (∀ W (y : LH) (vl : Value) (L' : List LRH), y.h = hdrOf x.h → MadeH w W p b1 b2 D (.slice (some ⟨bh, oh, none⟩) hs.length ch) hs vl L' → y.At (fun _ => True) W → Calls Tryz.prog 21 #[.pointer (some ⟨p, 0, none⟩), .agg y.cells.toArray] W fun e w' => e = .returned (.int .i64 ce) ∧ Chg (two b1 b2) W w' ∧ ∃ D', DagAt (fun k => w.heap.size ≤ k ∨ W.heap.size ≤ k) w' p b1 b2 D' ∧ FineD D' ∧ hdrs D' = addG (hdrs D) (hdrOf x.h)) := Lib.hid fun W y vl L' hy h hya => by
        have hd := dadd_any W p b1 b2 D _ h.dag h.fine y _ hya (by rw [hy]; exact grown_wide HXG.out) (HT.out.below h.below) (by have := HS7.out.both.len; omega)
        rw [hy, HS7.out.both.check HXG.out, HCE.out] at hd
        exact hd.mono fun e w' ⟨he, hc, D', h1, h2, h3, _⟩ => ⟨he, hc, D', h1, h2, h3⟩
      by_cases h0 : ce = 0
      · have HR2 : Hid (Calls Tryz.prog 20 #[.slice A4 L.length c4, .agg x.cells.toArray] w7 fun e w' => ∃ A c, e = .returned (.tuple #[.slice A (L.length + 1) c, .int .i64 ce]) ∧ w'.ownsRow w7.heap.size 31 8 (.slice A (L.length + 1) c) (L.length + 1) (rbE.flat (L ++ [x])) ∧ Below w7.heap.size w7 w') := Lib.hid (HRA.out.mono fun e w' ⟨ha, hb⟩ => by
          rcases ha with ⟨h1, -⟩ | ⟨-, v', he, ho⟩
          · exact absurd (HCE.out.trans h0) h1
          · obtain ⟨A, c, rfl, -⟩ := own_slice ho
            exact ⟨A, c, by rw [h0]; exact he, ho, hb⟩)
        have HBM : Hid (∀ D', hdrs D' = addG (hdrs D) (hdrOf x.h) → Both D' (L ++ [x])) := Lib.hid fun D' h => HS7.out.both.more HXG.out h (HCE.out.trans h0)
        clear h0
        go_wp2_with (first
          | (go_at_call 20; refine HR2.out.mono ?_; rintro e w8 ⟨A8, c8, rfl, ho8, hb8⟩; have HH8 := Lib.hid (HS7.out.half.app HXM.out hb8 ho8); have HX8 : Hid (x.At (fun _ => True) w8) := Lib.hid (Sl.below HX7.out hb8); have HG8 : Hid (w8.heap[gx]? = some (.cells x.cells.toArray 29 (0, 0))) := Lib.hid ((hb8.block gx (Array.getElem?_eq_some_iff.1 HG7.out).1).trans HG7.out); clear ho8 hb8)
          | (go_at_call 19; refine (own_any _ x _ HX8.out (Nat.le_trans HXG.out.tell.parents (by decide))).mono ?_; rintro e w9 ⟨y9, hy, rfl, hya, hb9⟩; have HY9 := Lib.hid hy; have HYA9 : Hid (y9.At (fun _ => True) w9) := Lib.hid (Sl.mono hya fun _ _ => trivial); have HH9 := Lib.hid (HH8.out.next hb9); clear hy hya hb9)
          | (go_at_call 21; refine (HDA.out _ y9 _ _ HY9.out HH9.out HYA9.out).mono ?_; rintro e wa ⟨rfl, hca, Da, hda, hfa, hha⟩; have HSa := Lib.hid ((HH9.out.chg hca hda hfa).same (HBM.out Da hha)); have HLN : Hid (Calls Tryz.prog 22 #[.pointer (some ⟨p, 0, none⟩)] wa fun e w' => e = .returned (.int .i64 ((L.length + 1 : Nat) : Int)) ∧ wa = w') := Lib.hid (by have h1 := dlen_any wa p b1 b2 Da _ HSa.out.dag; have h2 := HSa.out.both.len; rw [List.length_append, List.length_singleton] at h2; rwa [h2] at h1); clear hca hda hfa hha)
          | (go_at_call 22; refine HLN.out.mono ?_; rintro e wb ⟨rfl, rfl⟩)
          | (refine wpl_load rfl 29 (.tmp 6) rfl gx 0 rfl x.cells _ (fun j u hu => by rw [Nat.zero_add]; first | exact cell_block HG7.out (by simpa using hu) | exact cell_block HG8.out (by simpa using hu)) Tryz.underlying29 rfl rh_size ?_))
        trace_state
        go_roundw
        case rel => exact ⟨i + 1, Da, L ++ [x], by omega, by go_num, by simp; omega, HSa.out⟩
        case measure => simp [intOf]; omega
      · have HR2 : Hid (Calls Tryz.prog 20 #[.slice A4 L.length c4, .agg x.cells.toArray] w7 fun e w' => e = .returned (.tuple #[.slice A4 L.length c4, .int .i64 ce]) ∧ Below w7.heap.size w7 w') := Lib.hid (HRA.out.mono fun e w' ⟨ha, hb⟩ => by
          rcases ha with ⟨-, he⟩ | ⟨h1, -⟩
          · rw [HCE.out] at he; exact ⟨he, hb⟩
          · exact absurd (HCE.out.symm.trans h1) h0)
        have HBM : Hid (∀ D', hdrs D' = addG (hdrs D) (hdrOf x.h) → Both D' L) := Lib.hid fun D' h => HS7.out.both.keep HXG.out h (fun e => h0 (HCE.out.symm.trans e))
        clear h0
        go_wp2_with (first
          | (go_at_call 20; refine HR2.out.mono ?_; rintro e w8 ⟨rfl, hb8⟩; have HH8 := Lib.hid (HS7.out.half.next hb8); have HX8 : Hid (x.At (fun _ => True) w8) := Lib.hid (Sl.below HX7.out hb8); have HG8 : Hid (w8.heap[gx]? = some (.cells x.cells.toArray 29 (0, 0))) := Lib.hid ((hb8.block gx (Array.getElem?_eq_some_iff.1 HG7.out).1).trans HG7.out); clear hb8)
          | (go_at_call 19; refine (own_any _ x _ HX8.out (Nat.le_trans HXG.out.tell.parents (by decide))).mono ?_; rintro e w9 ⟨y9, hy, rfl, hya, hb9⟩; have HY9 := Lib.hid hy; have HYA9 : Hid (y9.At (fun _ => True) w9) := Lib.hid (Sl.mono hya fun _ _ => trivial); have HH9 := Lib.hid (HH8.out.next hb9); clear hy hya hb9)
          | (go_at_call 21; refine (HDA.out _ y9 _ _ HY9.out HH9.out HYA9.out).mono ?_; rintro e wa ⟨rfl, hca, Da, hda, hfa, hha⟩; have HSa := Lib.hid ((HH9.out.chg hca hda hfa).same (HBM.out Da hha)); have HLN : Hid (Calls Tryz.prog 22 #[.pointer (some ⟨p, 0, none⟩)] wa fun e w' => e = .returned (.int .i64 (L.length : Int)) ∧ wa = w') := Lib.hid (by have h1 := dlen_any wa p b1 b2 Da _ HSa.out.dag; have h2 := HSa.out.both.len; rwa [h2] at h1); clear hca hda hfa hha)
          | (go_at_call 22; refine HLN.out.mono ?_; rintro e wb ⟨rfl, rfl⟩)
          | (refine wpl_load rfl 29 (.tmp 6) rfl gx 0 rfl x.cells _ (fun j u hu => by rw [Nat.zero_add]; first | exact cell_block HG7.out (by simpa using hu) | exact cell_block HG8.out (by simpa using hu)) Tryz.underlying29 rfl rh_size ?_))
        go_roundw
        case rel => exact ⟨i + 1, Da, L, by omega, by go_num, by omega, HSa.out⟩
        case measure => simp [intOf]; omega
    · have hii : i = hs.length := by omega
      subst hii
      have HIS : Hid (Calls Tryz.prog 23 #[.pointer (some ⟨p, 0, none⟩), .slice A4 L.length c4] wr fun e w' => e = .returned (.bool true) ∧ Below wr.heap.size wr w') := Lib.hid (is_any wr p b1 b2 D _ _ HS.out.dag HS.out.fine _ L HS.out.both HS.out.list (by omega) (HT.out.below HS.out.below))
      go_wp2_with (go_at_call 23; refine HIS.out.mono ?_; rintro e w9 ⟨rfl, hb9⟩)
      go_ret
      exact ⟨rfl, HS.out.below.trans (hb9.mono HS.out.below.size)⟩
end Go.Proofs.YtcohdfkdhdhegaaGreatDoor
namespace Go.Proofs.YtcohdfkdhdhegaaGreatDoor.dagAdds
open Go
set_option maxRecDepth 100000
theorem k0 : (fun (_ : Program) (_ : FuncId) (_ : Func) (s : ChangeSpec) (c : OpenClaim) => (c.wf (OpenSpec.ofChange s) : Bool)) Tryz.prog 3 Tryz.f3 Rows.dagAddsSpec Rows.dagAddsRow = true := by kernel_rfl
theorem k1 : (fun (P : Program) (_ : FuncId) (_ : Func) (_ : ChangeSpec) (_ : OpenClaim) => (laidOutB P : Bool)) Tryz.prog 3 Tryz.f3 Rows.dagAddsSpec Rows.dagAddsRow = true := by kernel_rfl
theorem k2 : (fun (P : Program) (_ : FuncId) (_ : Func) (_ : ChangeSpec) (_ : OpenClaim) => (mapsRowed P : Bool)) Tryz.prog 3 Tryz.f3 Rows.dagAddsSpec Rows.dagAddsRow = true := by kernel_rfl
theorem k3 : (fun (P : Program) (_ : FuncId) (fn : Func) (_ : ChangeSpec) (_ : OpenClaim) => (fn.params.all (P.readableRec ·) : Bool)) Tryz.prog 3 Tryz.f3 Rows.dagAddsSpec Rows.dagAddsRow = true := by kernel_rfl
theorem k4 : (fun (P : Program) (_ : FuncId) (_ : Func) (s : ChangeSpec) (c : OpenClaim) => (namedTie P c.named s.vars : Bool)) Tryz.prog 3 Tryz.f3 Rows.dagAddsSpec Rows.dagAddsRow = true := by kernel_rfl
theorem k5 : (fun (_ : Program) (_ : FuncId) (_ : Func) (_ : ChangeSpec) (c : OpenClaim) => ((c.stops == []) : Bool)) Tryz.prog 3 Tryz.f3 Rows.dagAddsSpec Rows.dagAddsRow = true := by kernel_rfl
theorem k6 : (fun (P : Program) (_ : FuncId) (_ : Func) (_ : ChangeSpec) (_ : OpenClaim) => ((P.stops == []) : Bool)) Tryz.prog 3 Tryz.f3 Rows.dagAddsSpec Rows.dagAddsRow = true := by kernel_rfl
theorem k7 : (fun (_ : Program) (_ : FuncId) (_ : Func) (_ : ChangeSpec) (c : OpenClaim) => ((c.knobs == []) : Bool)) Tryz.prog 3 Tryz.f3 Rows.dagAddsSpec Rows.dagAddsRow = true := by kernel_rfl
theorem k8 : (fun (P : Program) (_ : FuncId) (_ : Func) (_ : ChangeSpec) (_ : OpenClaim) => ((P.stopKnobs == []) : Bool)) Tryz.prog 3 Tryz.f3 Rows.dagAddsSpec Rows.dagAddsRow = true := by kernel_rfl
theorem k9 : (fun (P : Program) (f : FuncId) (_ : Func) (_ : ChangeSpec) (c : OpenClaim) => ((c.inPlace == P.inPlace f) : Bool)) Tryz.prog 3 Tryz.f3 Rows.dagAddsSpec Rows.dagAddsRow = true := by kernel_rfl
theorem k10 : (fun (P : Program) (f : FuncId) (_ : Func) (_ : ChangeSpec) (c : OpenClaim) => ((c.unfollowed == P.unfollowed f) : Bool)) Tryz.prog 3 Tryz.f3 Rows.dagAddsSpec Rows.dagAddsRow = true := by kernel_rfl
theorem k11 : (fun (P : Program) (f : FuncId) (_ : Func) (_ : ChangeSpec) (c : OpenClaim) => ((c.recurses == P.recurses f) : Bool)) Tryz.prog 3 Tryz.f3 Rows.dagAddsSpec Rows.dagAddsRow = true := by kernel_rfl
theorem k12 : (fun (P : Program) (f : FuncId) (_ : Func) (_ : ChangeSpec) (c : OpenClaim) => ((c.named == P.varsNamed f) : Bool)) Tryz.prog 3 Tryz.f3 Rows.dagAddsSpec Rows.dagAddsRow = true := by kernel_rfl
theorem k13 : (fun (P : Program) (_ : FuncId) (fn : Func) (s : ChangeSpec) (c : OpenClaim) => ((c.maps == (fn.params.toList ++ s.plain.varTypes P).any (P.mapsRec ·)) : Bool)) Tryz.prog 3 Tryz.f3 Rows.dagAddsSpec Rows.dagAddsRow = true := by kernel_rfl
theorem k14 : (fun (P : Program) (_ : FuncId) (fn : Func) (s : ChangeSpec) (c : OpenClaim) => ((c.ifaces == (fn.params.toList ++ s.plain.varTypes P).any (P.ifacesRec ·)) : Bool)) Tryz.prog 3 Tryz.f3 Rows.dagAddsSpec Rows.dagAddsRow = true := by kernel_rfl
theorem k15 : (fun (P : Program) (_ : FuncId) (fn : Func) (_ : ChangeSpec) (c : OpenClaim) => ((c.mapsOut == P.mapsAmong fn.resultTypes.toList) : Bool)) Tryz.prog 3 Tryz.f3 Rows.dagAddsSpec Rows.dagAddsRow = true := by kernel_rfl
theorem k16 : (fun (P : Program) (_ : FuncId) (fn : Func) (s : ChangeSpec) (c : OpenClaim) => ((c.loops == (fn.params.toList ++ s.plain.varTypes P).any (P.loopsFrom ·)) : Bool)) Tryz.prog 3 Tryz.f3 Rows.dagAddsSpec Rows.dagAddsRow = true := by kernel_rfl
theorem k17 : (fun (P : Program) (_ : FuncId) (fn : Func) (s : ChangeSpec) (c : OpenClaim) => ((c.wideKeys == (fn.params.toList ++ s.plain.varTypes P ++ fn.resultTypes.toList).any (P.wideKeysFrom ·)) : Bool)) Tryz.prog 3 Tryz.f3 Rows.dagAddsSpec Rows.dagAddsRow = true := by kernel_rfl
theorem k18 : (fun (P : Program) (_ : FuncId) (_ : Func) (s : ChangeSpec) (_ : OpenClaim) => (s.vars.all (P.varReadable ·) : Bool)) Tryz.prog 3 Tryz.f3 Rows.dagAddsSpec Rows.dagAddsRow = true := by kernel_rfl
theorem k19 : (fun (P : Program) (_ : FuncId) (fn : Func) (_ : ChangeSpec) (_ : OpenClaim) => (fn.resultTypes.all (fun t => P.readableRec t && decide (t < P.types.size)) : Bool)) Tryz.prog 3 Tryz.f3 Rows.dagAddsSpec Rows.dagAddsRow = true := by kernel_rfl
theorem k20 : (fun (P : Program) (_ : FuncId) (fn : Func) (_ : ChangeSpec) (c : OpenClaim) => ((c.ifacesOut == fn.resultTypes.toList.any (P.ifacesRec ·)) : Bool)) Tryz.prog 3 Tryz.f3 Rows.dagAddsSpec Rows.dagAddsRow = true := by kernel_rfl
theorem k21 : (fun (P : Program) (_ : FuncId) (fn : Func) (_ : ChangeSpec) (c : OpenClaim) => ((c.loopsOut == fn.resultTypes.toList.any (P.loopsFrom ·)) : Bool)) Tryz.prog 3 Tryz.f3 Rows.dagAddsSpec Rows.dagAddsRow = true := by kernel_rfl
theorem k22 : (fun (P : Program) (_ : FuncId) (_ : Func) (_ : ChangeSpec) (c : OpenClaim) => ((c.plainKeys == P.plainKeys) : Bool)) Tryz.prog 3 Tryz.f3 Rows.dagAddsSpec Rows.dagAddsRow = true := by kernel_rfl
theorem k23 : (fun (_ : Program) (_ : FuncId) (_ : Func) (_ : ChangeSpec) (c : OpenClaim) => (c.shortTexts.isNone : Bool)) Tryz.prog 3 Tryz.f3 Rows.dagAddsSpec Rows.dagAddsRow = true := by kernel_rfl
theorem k24 : (fun (P : Program) (_ : FuncId) (_ : Func) (_ : ChangeSpec) (_ : OpenClaim) => (P.stopsHeard : Bool)) Tryz.prog 3 Tryz.f3 Rows.dagAddsSpec Rows.dagAddsRow = true := by kernel_rfl
theorem k25 : (fun (P : Program) (_ : FuncId) (_ : Func) (_ : ChangeSpec) (_ : OpenClaim) => (P.mayEnter : Bool)) Tryz.prog 3 Tryz.f3 Rows.dagAddsSpec Rows.dagAddsRow = true := wds.mayEnter_
theorem k26 : (fun (P : Program) (_ : FuncId) (_ : Func) (_ : ChangeSpec) (c : OpenClaim) => ((c.lifted == P.liftsFinal) : Bool)) Tryz.prog 3 Tryz.f3 Rows.dagAddsSpec Rows.dagAddsRow = true := by show (Rows.dagAddsRow.lifted == Tryz.prog.liftsFinal) = true; rw [wds.liftsFinal_]; kernel_rfl
theorem k27 : (fun (P : Program) (_ : FuncId) (_ : Func) (_ : ChangeSpec) (c : OpenClaim) => ((P.make == some c.make) : Bool)) Tryz.prog 3 Tryz.f3 Rows.dagAddsSpec Rows.dagAddsRow = true := by show (Tryz.prog.make == some Rows.dagAddsRow.make) = true; rw [wds.make_]; kernel_rfl
theorem k28 : (fun (P : Program) (_ : FuncId) (fn : Func) (_ : ChangeSpec) (c : OpenClaim) => ((c.kinds == (if c.domain.isEmpty then [] else fn.params.toList.map fun t => match P.underlying t with | some (.int k) => some k | _ => none)) : Bool)) Tryz.prog 3 Tryz.f3 Rows.dagAddsSpec Rows.dagAddsRow = true := by kernel_rfl
theorem k29 : (fun (_ : Program) (_ : FuncId) (_ : Func) (_ : ChangeSpec) (c : OpenClaim) => ((c.pinned == c.pinnedBy) : Bool)) Tryz.prog 3 Tryz.f3 Rows.dagAddsSpec Rows.dagAddsRow = true := by kernel_rfl
theorem k30 : (fun (P : Program) (_ : FuncId) (fn : Func) (s : ChangeSpec) (c : OpenClaim) => ((c.veiled == (fn.params.toList ++ s.plain.varTypes P ++ fn.resultTypes.toList).any (P.veiledRec ·)) : Bool)) Tryz.prog 3 Tryz.f3 Rows.dagAddsSpec Rows.dagAddsRow = true := by kernel_rfl
theorem k31 : (fun (P : Program) (_ : FuncId) (fn : Func) (s : ChangeSpec) (c : OpenClaim) => (c.veiledFits P fn.params.toList (fn.params.toList ++ s.plain.varTypes P ++ fn.resultTypes.toList) : Bool)) Tryz.prog 3 Tryz.f3 Rows.dagAddsSpec Rows.dagAddsRow = true := by kernel_rfl
theorem both {a b : Bool} (ha : a = true) (hb : b = true) : (a && b) = true := by rw [ha, hb]; rfl
theorem closed : joinedFacts Tryz.pinned.checked.prog 3 Tryz.f3 Rows.dagAddsSpec Rows.dagAddsRow = true := (both (both (both (both (both (both (both (both (both (both (both (both (both (both (both (both (both (both (both (both (both (both (both (both (both (both (both (both (both (both (both k0 k1) k2) k3) k4) k5) k6) k7) k8) k9) k10) k11) k12) k13) k14) k15) k16) k17) k18) k19) k20) k21) k22) k23) k24) k25) k26) k27) k28) k29) k30) k31)
theorem named : Tryz.pinned.checked.prog.funcNamed Rows.dagAddsRow.func = some 3 := by kernel_rfl
theorem inst : Tryz.f3.isInstance Tryz.pinned.checked.prog Rows.dagAddsRow.origin Rows.dagAddsRow.targs := of_decide_eq_true (by kernel_rfl)
theorem wrap : Tryz.f3.isWrapper Tryz.pinned.checked.prog Rows.dagAddsRow.wrapper Rows.dagAddsRow.mainSum := by unfold Func.isWrapper; rw [if_neg (of_decide_eq_false (by kernel_rfl))]; exact ⟨rfl, rfl⟩
theorem wfT : Rows.dagAddsRow.wfByText (OpenSpec.ofChange Rows.dagAddsSpec) = true := by kernel_rfl
theorem mainT : Tryz.pinned.checked.prog.mainIs = some (Rows.dagAddsCard.stood.harness.1, Rows.dagAddsCard.stood.harness.2.toList) := wds.told (by kernel_rfl) (by kernel_rfl)
theorem looksT : true = Tryz.prog.looks [] := by kernel_rfl
theorem goesT : false = Rows.dagAddsRow.goesBy Tryz.pinned.checked.prog := by kernel_rfl
theorem stand0 : Tryz.prog.wantsStandIn 22 = false := by kernel_rfl
end Go.Proofs.YtcohdfkdhdhegaaGreatDoor.dagAdds
namespace Go.Proofs.YtcohdfkdhdhegaaGreatDoor.dagAdds
open Go.ChangeShapes Go.WideShapes Go.ChangeAt Go.RowKit

set_option maxRecDepth 100000 in
theorem lifted (os : Os) (started : os.Started) (H : Type) (enc : TypeId × Value → H) :
    ReturnsInHanded {} Tryz.checked os 3 .any (fun w args => (Rows.dagAddsSpec.pre enc Tryz.prog Tryz.f3 [] false w args ∧ laidMetH Tryz.prog Rows.dagAddsRow.laid w) ∧ sizedMet enc Tryz.prog Tryz.f3 (OpenSpec.ofChange Rows.dagAddsSpec) false w args)
      (Rows.dagAddsSpec.post enc Tryz.prog Tryz.f3 false true false false) := by
  refine returnsInHanded_of_change_and (C := Tryz.checked) (X := fun w _ => laidMetH Tryz.prog Rows.dagAddsRow.laid w) (fun _ _ _ hh h => h.of_heap hh) ownKn started (by kernel_rfl) Tryz.func3
    (ChangeSpec.witness_shaped (enc := enc) (C := Tryz.checked) (os := os) (X := fun w _ => laidMetH Tryz.prog Rows.dagAddsRow.laid w) false (World.doorLaid Tryz.prog 19 os) #[.slice none 0 0] 8 rfl (World.shaped_of_RefB (by kernel_rfl) (by kernel_rfl)) (by kernel_rfl) (by kernel_rfl) (by kernel_rfl) (door_met os _)) ?_
  intro W base args ds gs before hval0 hW _ hsz0 hL _
  have hval : ∀ (j : Nat) t v, Tryz.f3.params[j]? = some t → args[j]? = some v → Value.okWide Tryz.prog W .any base t v := hval0
  have hsz : (DataW.weightsEach Tryz.prog (Tryz.f3.params.toList ++ Rows.dagAddsSpec.plain.varTypes Tryz.prog) (ds ++ gs)).all (· ≤ reachBytes) = true := hsz0
  have hW' := hW
  obtain ⟨p, q, hA0, hV, rfl, hfz, hnd⟩ := hW
  have hA : DataW.TrodAll enc Tryz.prog W 0 (fun _ => true) true Tryz.f3.params.toList args.toList ds p := hA0
  rw [Tryz.params3] at hA hval hsz
  obtain ⟨v0, vs0, d0, ds0, p0, q0, hargs, rfl, rfl, h0, r0⟩ := trodAll_cons hA
  obtain ⟨rfl, rfl, rfl⟩ := trodAll_nil r0
  obtain rfl : args = #[v0] := by cases args; simp_all
  obtain ⟨rfl, rfl⟩ := trodVars_none hV
  have hk0 := hval 0 22 v0 rfl rfl
  obtain ⟨A0, n0, c0, rfl⟩ := okWide_slice Tryz.underlying22 hk0
  have k0 := h0
  have lt0 : ∀ x ∈ p0, x.block < W.heap.size := by obtain ⟨m, hm⟩ := k0; exact DataW.trod_lt m _ _ _ hm
  obtain ⟨fuel0, hf0⟩ := h0
  obtain ⟨l0, hl0, hin0⟩ := open_seeds hf0 fun m hm => of_decide_eq_true (List.all_eq_true.1 hsz m (DataW.weights_mem_each (j := 0) rfl rfl m hm))
  have hT : Tab W := tab_of_laid hL
  clear hA0 hval0 hsz0 hsz
  refine (adds_any W (.slice A0 n0 c0) l0 _ _ (hl0.strong (spot_of_ok Tryz.underlying22 hk0)) (fun x hx => ⟨(hin0 x hx).at_, (hin0 x hx).ok⟩) hT).mono fun e W' ⟨he, bel⟩ => ?_
  subst he
  exact ⟨_, rfl, _, _, _, [], _, [], hW', trodAll_mk1 (shut_bool Tryz.underlying4 _), (trodAll_cons_mk (Below.trod laidOutA (by kernel_rfl) (of_decide_eq_true (by kernel_rfl)) k0 bel lt0) trodAll_mk0), rfl, bel.frame _, fun h => by cases h⟩

/-- The row. -/
theorem over : Rows.DagAddsSaid :=
  OpenClaim.holds_of_wide 3 Tryz.f3 rfl rfl rfl rfl rfl rfl rfl ⟨rfl, rfl, rfl, rfl, rfl⟩ rfl rfl rfl rfl rfl named Tryz.func3 closed inst wrap
    (fun os started H enc _ => lifted os started H enc)

/-- The statement. -/
theorem proved : Rows.DagAddsCardSaid :=
  Claim7.holds_tied_plain_at .later [] [.data, .data] true Rows.dagAddsCard.stood.harness true
    over (fun _ h => by cases h) wfT (fun _ h => by cases h) dagAdds_row_tie rfl ⟨rfl, rfl⟩ mainT rfl
    (fun f fn hf hfn => by
      obtain rfl : f = 3 := Option.some.inj (named.symm.trans hf) |>.symm
      obtain rfl : fn = Tryz.f3 := (Option.some.inj (Tryz.func3.symm.trans hfn)).symm
      exact ⟨looksT, fun j t ht => by
        rw [Tryz.params3] at ht
        rcases j with _ | j
        · obtain rfl : 22 = t := by simpa using ht
          exact stand0
        · simp at ht⟩)
    goesT
#print axioms proved
end Go.Proofs.YtcohdfkdhdhegaaGreatDoor.dagAdds
