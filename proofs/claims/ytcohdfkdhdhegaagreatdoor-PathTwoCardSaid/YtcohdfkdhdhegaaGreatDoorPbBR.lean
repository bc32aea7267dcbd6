/- coxswainlaw14.PathTwo. -/
import Derived.Test.YtcohdfkdhdhegaaGreatDoorPbBF
import Derived.Test.YtcohdfkdhdhegaaGreatDoorPbBI
import Derived.Test.YtcohdfkdhdhegaaGreatDoorPbBK
import Derived.Test.YtcohdfkdhdhegaaGreatDoorPbBL
namespace Go.Proofs.YtcohdfkdhdhegaaGreatDoor
open Go.RowKit Go.Maps

/-- Two tipsets in variables, the ways between them, the document's list. -/
structure TwS (w W : World) (pp p b1 b2 : Nat) (D : List LB) (L : List LRH) (vl : Value) (g0 g1 : Nat) (ta tb : Value) (A B : List ID) (x y : LNS) : Prop where
  path : PathAt (fun _ => True) W pp p b1 b2 D
  lst : Sl rbE (fun _ => True) W vl L
  at_ : ∀ y ∈ L, y.At (fun _ => True) W
  k0 : W.heap[g0]? = some (.cells #[ta] 52 (0, 0))
  k1 : W.heap[g1]? = some (.cells #[tb] 52 (0, 0))
  is0 : TipIs (fun _ => True) W (hdrs D) ta A
  is1 : TipIs (fun _ => True) W (hdrs D) tb B
  xat : x.At (fun _ => True) W
  yat : y.At (fun _ => True) W
  below : Below w.heap.size w W
theorem TwS.next {w W W' : World} {pp p b1 b2 : Nat} {D : List LB} {L : List LRH} {vl : Value} {g0 g1 : Nat} {ta tb : Value} {A B : List ID} {x y : LNS} (h : TwS w W pp p b1 b2 D L vl g0 g1 ta tb A B x y) (hb : Below W.heap.size W W') : TwS w W' pp p b1 b2 D L vl g0 g1 ta tb A B x y :=
  ⟨h.path.below hb, h.lst.below hb, fun y hy => Sl.below (h.at_ y hy) hb, (hb.block _ (Array.getElem?_eq_some_iff.1 h.k0).1).trans h.k0, (hb.block _ (Array.getElem?_eq_some_iff.1 h.k1).1).trans h.k1, h.is0.below hb, h.is1.below hb, Sl.below h.xat hb, Sl.below h.yat hb, h.below.trans (hb.mono h.below.size)⟩
/-- What is compared at the end: rows of tipsets and rows of names. -/
structure TwR (W : World) (D : List LB) (dv uv : Value) (ds us : List (Value × List ID)) (v1 v2 : Value) (xs ys : List LNS) : Prop where
  down : TipsAt (fun _ => True) W (hdrs D) dv ds
  up : TipsAt (fun _ => True) W (hdrs D) uv us
  r1 : Sl nsE (fun _ => True) W v1 xs
  r2 : Sl nsE (fun _ => True) W v2 ys
  a1 : ∀ x ∈ xs, x.At (fun _ => True) W
  a2 : ∀ x ∈ ys, x.At (fun _ => True) W
theorem TwR.next {W W' : World} {D : List LB} {dv uv : Value} {ds us : List (Value × List ID)} {v1 v2 : Value} {xs ys : List LNS} (h : TwR W D dv uv ds us v1 v2 xs ys) (hb : Below W.heap.size W W') : TwR W' D dv uv ds us v1 v2 xs ys :=
  ⟨h.down.below hb, h.up.below hb, h.r1.below hb, h.r2.below hb, fun x hx => Sl.below (h.a1 x hx) hb, fun x hx => Sl.below (h.a2 x hx) hb⟩
theorem set2_new (w : World) (a : Value) : (((w.alloc (.cells #[.slice none 0 0] 52)).alloc (.cells #[.slice none 0 0] 52)).setRow w.heap.size #[a]).heap[w.heap.size + 1]? = some (.cells #[.slice none 0 0] 52 (0, 0)) := by
  have h := heap_alloc_new (w.alloc (.cells #[.slice none 0 0] 52)) (.cells #[.slice none 0 0] 52)
  rw [World.size_alloc] at h
  exact (heap_setRow_ne _ _ _ _ (by omega)).trans h
set_option maxRecDepth 100000 in
set_option maxHeartbeats 8000000 in
theorem two_any (w : World) (t : Value) (l : List LSD) (ok ok' : Nat → Prop) (hl : Sl sdE ok w t l) (hf : ∀ y ∈ l, y.At ok' w ∧ SeedOk y.s) (ht : Tab w) (xi xk : Int) :
    Calls Tryz.prog 11 #[t, .int .i64 xi, .int .i64 xk] w fun e w' => e = .returned (.bool true) ∧ Below w.heap.size w w' := by
  have HL := Lib.hid hl
  have HF := Lib.hid hf
  have HT := Lib.hid ht
  clear hl hf ht
  go_enter Tryz.func11, Tryz.ntmps11
  go_upto_region 3 with (go_at_call 59; refine (awake14_any _ HT.out).mono ?_; rintro e w1 ⟨rfl, hb1⟩; have HB1 := Lib.hid hb1; clear hb1)
  go_upto_region 4 with (go_at_call 43; refine (made_any2 w1 t l ok ok' (HL.out.below HB1.out) (fun y hy => ⟨(HF.out y hy).1.below HB1.out, (HF.out y hy).2⟩) 16 (by decide) (HT.out.below HB1.out)).mono ?_; rintro e w2 ⟨p, b1, b2, D, vh, hs, vl, L, va, all, rfl, hmd, hL, hva, hall, hpos, hlen⟩; obtain ⟨Al, cl, rfl, -, -⟩ := hmd.list.form; obtain ⟨Aa, ca, rfl, -, -⟩ := hva.form; have HD2 := Lib.hid (And.intro (AllAt.mk hmd.dag hmd.fine hmd.both hva hall hpos (by omega)) (And.intro hmd.list hmd.lat)); have HB2 := Lib.hid (HB1.out.trans (hmd.below.mono HB1.out.size)); have HLL := Lib.hid (And.intro hL hmd.both.same); clear hmd hL hva hall hpos hlen)
  have hallp := HD2.out.1.pos
  have halln := HD2.out.1.len
  have hDL : D.length ≤ 1000000 := by have h1 := congrArg List.length HLL.out.2; simp [hdrs, rhs] at h1; have := HLL.out.1; omega
  have HBO := Lib.hid HD2.out.1.both
  have GG := HBO.out.good
  obtain ⟨r1, hr1, q1, u1, j1, hj1, hidx1⟩ := pick_ix2 xi all.length hallp halln
  have HR1 := Lib.hid hr1
  have HX1 := Lib.hid hidx1
  clear hr1 hidx1
  obtain ⟨x, hy1⟩ : ∃ y, all[j1]? = some y := ⟨_, List.getElem?_eq_getElem hj1⟩
  have HYM1 := Lib.hid (List.mem_of_getElem? hy1)
  obtain ⟨A, hT1, hkT1, hnT1⟩ := named_tip HBO.out (HD2.out.1.at_ x HYM1.out).2
  have HN1 : Hid (NamT (hdrs D) x.ns A) := Lib.hid ⟨hT1, hnT1⟩
  have HI1 : Hid (NamedIn L x.ns) := Lib.hid (HD2.out.1.at_ x HYM1.out).2
  have HK1 := Lib.hid hkT1
  obtain ⟨ba, oa, e0, -, -, hcy1⟩ := HD2.out.1.row.at_ j1 x hy1
  cases e0
  have HC1 : Hid (w2.cell? ⟨ba, oa + j1, none⟩ = some x.v) := Lib.hid (by have := hcy1 0 _ rfl; rwa [Nat.add_zero, show nsE.k = 1 from rfl, Nat.mul_one] at this)
  clear hcy1 hy1 hkT1 hnT1
  obtain ⟨r2, hr2, q2, u2, j2, hj2, hidx2⟩ := pick_ix2 xk all.length hallp halln
  have HR2 := Lib.hid hr2
  have HX2 := Lib.hid hidx2
  clear hr2 hidx2
  obtain ⟨y, hy2⟩ : ∃ y, all[j2]? = some y := ⟨_, List.getElem?_eq_getElem hj2⟩
  have HYM2 := Lib.hid (List.mem_of_getElem? hy2)
  obtain ⟨B, hT2, hkT2, hnT2⟩ := named_tip HBO.out (HD2.out.1.at_ y HYM2.out).2
  have HN2 : Hid (NamT (hdrs D) y.ns B) := Lib.hid ⟨hT2, hnT2⟩
  have HI2 : Hid (NamedIn L y.ns) := Lib.hid (HD2.out.1.at_ y HYM2.out).2
  have HK2 := Lib.hid hkT2
  obtain ⟨bb, ob, e0, -, -, hcy2⟩ := HD2.out.1.row.at_ j2 y hy2
  cases e0
  have HC2 : Hid (w2.cell? ⟨ba, oa + j2, none⟩ = some y.v) := Lib.hid (by have := hcy2 0 _ rfl; rwa [Nat.add_zero, show nsE.k = 1 from rfl, Nat.mul_one] at this)
  clear hcy2 hy2 hkT2 hnT2
  go_upto_region 10 with (go_at_call 44; refine (pnew_any w2 p b1 b2 D _ HD2.out.1.dag HD2.out.1.fine HD2.out.1.both.good 8).mono ?_; rintro e w4 ⟨pp, rfl, -, hpa, hb4⟩; have HPA := Lib.hid hpa; have HD4 := Lib.hid (And.intro (HD2.out.1.below hb4) (And.intro (HD2.out.2.1.below hb4) fun y hy => Sl.below (HD2.out.2.2 y hy) hb4)); have HB4 := Lib.hid (HB2.out.trans (hb4.mono HB2.out.size)); have HC4 := Lib.hid ((hb4.cell (cell_lt HC1.out)).trans HC1.out); have HE4 := Lib.hid ((hb4.cell (cell_lt HC2.out)).trans HC2.out); clear hb4 hpa)
  have HOF := Lib.hid fun (W : World) (hb : Below w4.heap.size w4 W) => of_known W p b1 b2 D _ _ (HD4.out.1.dag.below hb) HD4.out.1.fine x (Sl.below (HD4.out.1.at_ x HYM1.out).1 hb) A hT1 HN1.out.ns HK1.out
  have HOG := Lib.hid fun (W : World) (hb : Below w4.heap.size w4 W) => of_known W p b1 b2 D _ _ (HD4.out.1.dag.below hb) HD4.out.1.fine y (Sl.below (HD4.out.1.at_ y HYM2.out).1 hb) B hT2 HN2.out.ns HK2.out
  clear HC1 HC2 HB2 HD2 HLL
  refine st_ (S := (fun W' => Below w4.heap.size w4 W')) 22 (bt 0 22) (by kernel_rfl) rfl (by rfl) (Below.refl _ w4).drew (fun hHeld => ?_)
  refine tk_ 0 (some 39) (bt 1 21) (v := ?_) (a' := ?_) rfl rfl (by kernel_rfl) (fun _ _ _ h => h) (yieldsIf_run rfl ?_) hHeld ?_ ?_
  rotate_left
  · intro w'
    go_simp
    with_reducible rfl
  rotate_left
  · simp only [Act.put, List.setIfInBounds_toArray, List.set_cons_zero, List.set_cons_succ]
    rfl
  refine tk_ 1 (some 40) (bt 2 20) (v := ?_) (a' := ?_) rfl rfl (by kernel_rfl) (fun _ _ _ h => h) (yieldsIf_run rfl ?_) hHeld ?_ ?_
  rotate_left
  · intro w'
    go_simp
    with_reducible rfl
  rotate_left
  · simp only [Act.put, List.setIfInBounds_toArray, List.set_cons_zero, List.set_cons_succ]
    rfl
  refine tk_ 2 (some 41) (bt 3 19) (v := ?_) (a' := ?_) rfl rfl (by kernel_rfl) (fun _ _ _ h => h) (yieldsIf_run rfl ?_) hHeld ?_ ?_
  rotate_left
  · intro w'
    go_simp
    with_reducible rfl
  rotate_left
  · simp only [Act.put, List.setIfInBounds_toArray, List.set_cons_zero, List.set_cons_succ]
    rfl
  refine tk_ 3 (some 42) (bt 4 18) rfl rfl (by kernel_rfl) (fun _ _ _ h => h) (yieldsIf_rem rfl 3 3 (.tmp 40) (.tmp 41) rfl xi all.length r1 rfl rfl (by omega) HR1.out (by constructor <;> omega)) hHeld (a' := ?_) ?_ ?_
  rotate_left
  · simp only [Act.put, List.setIfInBounds_toArray, List.set_cons_zero, List.set_cons_succ]
    rfl
  refine tk_ 4 (some 43) (bt 5 17) (v := ?_) (a' := ?_) rfl rfl (by kernel_rfl) (fun _ _ _ h => h) (yieldsIf_run rfl ?_) hHeld ?_ ?_
  rotate_left
  · intro w'
    go_simp
    with_reducible rfl
  rotate_left
  · simp only [Act.put, List.setIfInBounds_toArray, List.set_cons_zero, List.set_cons_succ]
    rfl
  refine tk_ 5 (some 44) (bt 6 16) rfl rfl (by kernel_rfl) (fun _ _ _ h => h) (yieldsIf_run (v := .int .i64 (r1 + all.length)) rfl fun W' => (show _ = Result.ok (Next.value (.int .i64 (IntKind.i64.wrap (r1 + all.length)))) W' from rfl).trans (by rw [IntWalk.i64_in _ (by omega)])) hHeld (a' := ?_) ?_ ?_
  rotate_left
  · simp only [Act.put, List.setIfInBounds_toArray, List.set_cons_zero, List.set_cons_succ]
    rfl
  refine tk_ 6 (some 45) (bt 7 15) (v := ?_) (a' := ?_) rfl rfl (by kernel_rfl) (fun _ _ _ h => h) (yieldsIf_run rfl ?_) hHeld ?_ ?_
  rotate_left
  · intro w'
    go_simp
    with_reducible rfl
  rotate_left
  · simp only [Act.put, List.setIfInBounds_toArray, List.set_cons_zero, List.set_cons_succ]
    rfl
  refine tk_ 7 (some 46) (bt 8 14) rfl rfl (by kernel_rfl) (fun _ _ _ h => h) (yieldsIf_rem rfl 3 3 (.tmp 44) (.tmp 45) rfl (r1 + all.length) all.length j1 rfl rfl (by omega) HX1.out (by constructor <;> omega)) hHeld (a' := ?_) ?_ ?_
  rotate_left
  · simp only [Act.put, List.setIfInBounds_toArray, List.set_cons_zero, List.set_cons_succ]
    rfl
  refine tk_ 8 (some 47) (bt 9 13) (v := ?_) (a' := ?_) rfl rfl (by kernel_rfl) (fun _ _ _ h => h) (yieldsIf_run rfl ?_) hHeld ?_ ?_
  rotate_left
  · intro w'
    go_simp
    with_reducible rfl
  rotate_left
  · simp only [Act.put, List.setIfInBounds_toArray, List.set_cons_zero, List.set_cons_succ]
    rfl
  refine tk_ 9 (some 48) (bt 10 12) rfl rfl (by kernel_rfl) (fun _ _ _ h => h) (yieldsIf_cell rfl 27 (.tmp 47) rfl ⟨ba, oa + j1, none⟩ rfl x.v _ (fun W' h => (h.cell (cell_lt HC4.out)).trans HC4.out) Tryz.underlying27 rfl) hHeld (a' := ?_) ?_ ?_
  rotate_left
  · simp only [Act.put, List.setIfInBounds_toArray, List.set_cons_zero, List.set_cons_succ]
    rfl
  refine tk_ 10 (some 49) (bt 11 11) (v := ?_) (a' := ?_) rfl rfl (by kernel_rfl) (fun _ _ _ h => h) (yieldsIf_run rfl ?_) hHeld ?_ ?_
  rotate_left
  · intro w'
    go_simp
    with_reducible rfl
  rotate_left
  · simp only [Act.put, List.setIfInBounds_toArray, List.set_cons_zero, List.set_cons_succ]
    rfl
  refine tk_ 11 (some 50) (bt 12 10) (v := ?_) (a' := ?_) rfl rfl (by kernel_rfl) (fun _ _ _ h => h) (yieldsIf_run rfl ?_) hHeld ?_ ?_
  rotate_left
  · intro w'
    go_simp
    with_reducible rfl
  rotate_left
  · simp only [Act.put, List.setIfInBounds_toArray, List.set_cons_zero, List.set_cons_succ]
    rfl
  refine tk_ 12 (some 51) (bt 13 9) (v := ?_) (a' := ?_) rfl rfl (by kernel_rfl) (fun _ _ _ h => h) (yieldsIf_run rfl ?_) hHeld ?_ ?_
  rotate_left
  · intro w'
    go_simp
    with_reducible rfl
  rotate_left
  · simp only [Act.put, List.setIfInBounds_toArray, List.set_cons_zero, List.set_cons_succ]
    rfl
  refine tk_ 13 (some 52) (bt 14 8) rfl rfl (by kernel_rfl) (fun _ _ _ h => h) (yieldsIf_rem rfl 3 3 (.tmp 50) (.tmp 51) rfl xk all.length r2 rfl rfl (by omega) HR2.out (by constructor <;> omega)) hHeld (a' := ?_) ?_ ?_
  rotate_left
  · simp only [Act.put, List.setIfInBounds_toArray, List.set_cons_zero, List.set_cons_succ]
    rfl
  refine tk_ 14 (some 53) (bt 15 7) (v := ?_) (a' := ?_) rfl rfl (by kernel_rfl) (fun _ _ _ h => h) (yieldsIf_run rfl ?_) hHeld ?_ ?_
  rotate_left
  · intro w'
    go_simp
    with_reducible rfl
  rotate_left
  · simp only [Act.put, List.setIfInBounds_toArray, List.set_cons_zero, List.set_cons_succ]
    rfl
  refine tk_ 15 (some 54) (bt 16 6) rfl rfl (by kernel_rfl) (fun _ _ _ h => h) (yieldsIf_run (v := .int .i64 (r2 + all.length)) rfl fun W' => (show _ = Result.ok (Next.value (.int .i64 (IntKind.i64.wrap (r2 + all.length)))) W' from rfl).trans (by rw [IntWalk.i64_in _ (by omega)])) hHeld (a' := ?_) ?_ ?_
  rotate_left
  · simp only [Act.put, List.setIfInBounds_toArray, List.set_cons_zero, List.set_cons_succ]
    rfl
  refine tk_ 16 (some 55) (bt 17 5) (v := ?_) (a' := ?_) rfl rfl (by kernel_rfl) (fun _ _ _ h => h) (yieldsIf_run rfl ?_) hHeld ?_ ?_
  rotate_left
  · intro w'
    go_simp
    with_reducible rfl
  rotate_left
  · simp only [Act.put, List.setIfInBounds_toArray, List.set_cons_zero, List.set_cons_succ]
    rfl
  refine tk_ 17 (some 56) (bt 18 4) rfl rfl (by kernel_rfl) (fun _ _ _ h => h) (yieldsIf_rem rfl 3 3 (.tmp 54) (.tmp 55) rfl (r2 + all.length) all.length j2 rfl rfl (by omega) HX2.out (by constructor <;> omega)) hHeld (a' := ?_) ?_ ?_
  rotate_left
  · simp only [Act.put, List.setIfInBounds_toArray, List.set_cons_zero, List.set_cons_succ]
    rfl
  refine tk_ 18 (some 57) (bt 19 3) (v := ?_) (a' := ?_) rfl rfl (by kernel_rfl) (fun _ _ _ h => h) (yieldsIf_run rfl ?_) hHeld ?_ ?_
  rotate_left
  · intro w'
    go_simp
    with_reducible rfl
  rotate_left
  · simp only [Act.put, List.setIfInBounds_toArray, List.set_cons_zero, List.set_cons_succ]
    rfl
  refine tk_ 19 (some 58) (bt 20 2) rfl rfl (by kernel_rfl) (fun _ _ _ h => h) (yieldsIf_cell rfl 27 (.tmp 57) rfl ⟨ba, oa + j2, none⟩ rfl y.v _ (fun W' h => (h.cell (cell_lt HE4.out)).trans HE4.out) Tryz.underlying27 rfl) hHeld (a' := ?_) ?_ ?_
  rotate_left
  · simp only [Act.put, List.setIfInBounds_toArray, List.set_cons_zero, List.set_cons_succ]
    rfl
  refine tk_ 20 (some 12) (bt 21 1) (v := ?_) (a' := ?_) rfl rfl (by kernel_rfl) (fun _ _ _ h => h) (yieldsIf_run rfl ?_) hHeld ?_ ?_
  rotate_left
  · intro w'
    go_simp
    with_reducible rfl
  rotate_left
  · simp only [Act.put, List.setIfInBounds_toArray, List.set_cons_zero, List.set_cons_succ]
    rfl
  refine tk_ 21 (some 13) (bt 22 0) (v := ?_) (a' := ?_) rfl rfl (by kernel_rfl) (fun _ _ _ h => h) (yieldsIf_run rfl ?_) hHeld ?_ ?_
  rotate_left
  · intro w'
    go_simp
    with_reducible rfl
  rotate_left
  · simp only [Act.put, List.setIfInBounds_toArray, List.set_cons_zero, List.set_cons_succ]
    rfl
  refine wpAnyH_done (by kernel_rfl) ?_ _
  change Exit.then _ _ _ _ _
  have HBD : Hid (Below w4.heap.size w4 w4.drew) := Lib.hid (Below.refl _ w4).drew
  generalize w4.drew = w5 at HBD ⊢
  go_upto_region 12 with (first
    | (go_at_call 46; refine (HOG.out _ HB8.out).mono ?_; rintro e w9 ⟨tb, rfl, hth, hb8⟩; have HTB := Lib.hid (hth.mono (ok' := fun _ => True) fun _ _ => trivial); have HTA := Lib.hid (HTA0.out.below hb8); have HB9 := Lib.hid (HB8.out.trans (hb8.mono HB8.out.size)); clear hb8 hth)
    | (go_at_call 46; refine (HOF.out _ HBD.out).mono ?_; rintro e w8 ⟨ta, rfl, hth, hb8⟩; have HTA0 := Lib.hid (hth.mono (ok' := fun _ => True) fun _ _ => trivial); have HB8 := Lib.hid (HBD.out.trans (hb8.mono HBD.out.size)); clear hb8 hth)
    | (refine wpl_store_row rfl 52 (.tmp 15) _ rfl (w9.heap.size + 1) rfl [tb] rfl _ 52 (set2_new w9 ta) rfl HTB.out.one tip_size ?_)
    | (refine wpl_store_row rfl 52 (.tmp 14) _ rfl w9.heap.size rfl [ta] rfl _ 52 ((heap_alloc_old _ _ (by simp)).trans (heap_alloc_new w9 _)) rfl HTA.out.one tip_size ?_))
  have hb0 : Below w9.heap.size w9 ((((w9.alloc (.cells #[.slice none 0 0] 52)).alloc (.cells #[.slice none 0 0] 52)).setRow w9.heap.size #[ta]).setRow (w9.heap.size + 1) #[tb]) := below_setRow (below_setRow (((Below.refl _ _).alloc (Nat.le_refl _) _).alloc (by simp) _) (Nat.le_refl _) _) (by omega) _
  have HS : Hid (TwS w ((((w9.alloc (.cells #[.slice none 0 0] 52)).alloc (.cells #[.slice none 0 0] 52)).setRow w9.heap.size #[ta]).setRow (w9.heap.size + 1) #[tb]) pp p b1 b2 D L (.slice Al L.length cl) w9.heap.size (w9.heap.size + 1) ta tb A B x y) := Lib.hid (by
    have hbb := HB9.out.trans (hb0.mono HB9.out.size)
    refine ⟨⟨((HPA.out.below hbb).toD), (HPA.out.dag.below hbb).mono fun _ _ => trivial, HPA.out.fine, HPA.out.good⟩, (HD4.out.2.1.below hbb).mono fun _ _ => trivial, fun y hy => (Sl.below (HD4.out.2.2 y hy) hbb).mono fun _ _ => trivial, (heap_setRow_ne _ _ _ _ (by omega)).trans (setRow_heap _ _ _ _ _ _ ((heap_alloc_old _ _ (by simp)).trans (heap_alloc_new w9 _))), setRow_heap _ _ _ _ _ _ ((heap_setRow_ne _ _ _ _ (by omega)).trans (by have := heap_alloc_new (w9.alloc (.cells #[.slice none 0 0] 52)) (.cells #[.slice none 0 0] 52); rw [World.size_alloc] at this; exact this)), HTA.out.below hb0, HTB.out.below hb0, (Sl.below (HD4.out.1.at_ x HYM1.out).1 hbb).mono fun _ _ => trivial, (Sl.below (HD4.out.1.at_ y HYM2.out).1 hbb).mono fun _ _ => trivial, HB4.out.trans (hbb.mono HB4.out.size)⟩)
  clear hb0 HB9 HB8 HTA HTA0 HTB HPA HD4 HB4 HC4 HE4 HOF HOG HBD
  (try simp only [Act.put])
  generalize (((w9.alloc (.cells #[.slice none 0 0] 52)).alloc (.cells #[.slice none 0 0] 52)).setRow w9.heap.size #[ta]).setRow (w9.heap.size + 1) #[tb] = W0 at HS ⊢
  generalize w9.heap.size = g0 at HS ⊢
  have TA := HN1.out.tip
  have TB := HN2.out.tip
  have HCM := Lib.hid (common14_any W0 D L HBO.out (.slice Al L.length cl) _ _ _ HS.out.lst HS.out.at_ x HS.out.xat A HN1.out HI1.out y HS.out.yat B HN2.out HI2.out hDL)
  go_upto_region 13 with (go_at_call 66; refine HCM.out.mono ?_; rintro e w10 ⟨z, rfl, hz, hzn, hzi, hb10⟩; have HZ : Hid (LNS.At (fun _ => True) w10 z) := Lib.hid (Sl.mono hz fun _ _ => trivial); have HZN := Lib.hid hzn; have HZI := Lib.hid hzi; have HS1 := Lib.hid (HS.out.next hb10); clear hz hzn hzi hb10)
  obtain ⟨C, hC⟩ : ∃ C, commG (hdrs D) A B = C := ⟨_, rfl⟩
  have hmem := GG.comm_mem TA TB
  rw [hC] at HZN hmem
  have TC : TipOf (hdrs D) C := GG.chain_tip A TA _ hmem.1
  obtain ⟨d1, hd1⟩ : ∃ d1, descG (hdrs D) A B = d1 := ⟨_, rfl⟩
  obtain ⟨d2, hd2⟩ : ∃ d2, descG (hdrs D) B A = d2 := ⟨_, rfl⟩
  obtain ⟨kc, hkc⟩ : ∃ kc, keyB C = kc := ⟨_, rfl⟩
  have HD1 : Hid (∀ W', Below w10.heap.size w10 W' → Calls Tryz.prog 51 #[.pointer (some ⟨pp, 0, none⟩), tipV ta, tipV tb] W' fun e w' => e = .returned (.bool d1) ∧ Below W'.heap.size W' w') := Lib.hid fun W' hb => by rw [← hd1]; exact descends_any W' pp p b1 b2 D _ _ _ (HS1.out.path.below hb) ta A TA (HS1.out.is0.below hb) tb B TB (HS1.out.is1.below hb)
  have HO1 : Hid (∀ W', Below w10.heap.size w10 W' → Calls Tryz.prog 48 #[.pointer (some ⟨pp, 0, none⟩), tipV ta, tipV tb] W' fun e w' => e = .returned (.bool (d1 || d2)) ∧ Below W'.heap.size W' w') := Lib.hid fun W' hb => by rw [← hd1, ← hd2]; exact onechain_any W' pp p b1 b2 D _ _ _ (HS1.out.path.below hb) ta A TA (HS1.out.is0.below hb) tb B TB (HS1.out.is1.below hb)
  have HO2 : Hid (∀ W', Below w10.heap.size w10 W' → Calls Tryz.prog 48 #[.pointer (some ⟨pp, 0, none⟩), tipV tb, tipV ta] W' fun e w' => e = .returned (.bool (d1 || d2)) ∧ Below W'.heap.size W' w') := Lib.hid fun W' hb => by rw [← hd1, ← hd2, Bool.or_comm]; exact onechain_any W' pp p b1 b2 D _ _ _ (HS1.out.path.below hb) tb B TB (HS1.out.is1.below hb) ta A TA (HS1.out.is0.below hb)
  have HR1 : Hid (∀ W', Below w10.heap.size w10 W' → Calls Tryz.prog 56 #[.slice Al L.length cl, x.v, y.v] W' fun e w' => e = .returned (.bool d1) ∧ Below W'.heap.size W' w') := Lib.hid fun W' hb => by rw [← hd1]; exact descends14_any W' D L HBO.out _ _ _ _ (HS1.out.next hb).lst (HS1.out.next hb).at_ x (HS1.out.next hb).xat A HN1.out HI1.out y (HS1.out.next hb).yat B HN2.out hDL
  have HR2 : Hid (∀ W', Below w10.heap.size w10 W' → Calls Tryz.prog 56 #[.slice Al L.length cl, y.v, x.v] W' fun e w' => e = .returned (.bool d2) ∧ Below W'.heap.size W' w') := Lib.hid fun W' hb => by rw [← hd2]; exact descends14_any W' D L HBO.out _ _ _ _ (HS1.out.next hb).lst (HS1.out.next hb).at_ y (HS1.out.next hb).yat B HN2.out HI2.out x (HS1.out.next hb).xat A HN1.out hDL
  have HC1 : Hid (∀ W', Below w10.heap.size w10 W' → Calls Tryz.prog 64 #[.pointer (some ⟨pp, 0, none⟩), tipV ta, tipV tb] W' fun e w' => ∃ t2, e = .returned (tipV t2) ∧ TipIs (fun _ => True) w' (hdrs D) t2 C ∧ Below W'.heap.size W' w') := Lib.hid fun W' hb => by
    refine (common_any W' pp p b1 b2 D _ _ _ (HS1.out.path.below hb) ta A TA (HS1.out.is0.below hb) tb B TB (HS1.out.is1.below hb)).mono ?_
    rintro e w' ⟨t2, rfl, ht2, hb2⟩
    rw [hC] at ht2
    exact ⟨t2, rfl, ht2.mono fun _ _ => trivial, hb2⟩
  have HC2 : Hid (∀ W', Below w10.heap.size w10 W' → Calls Tryz.prog 64 #[.pointer (some ⟨pp, 0, none⟩), tipV tb, tipV ta] W' fun e w' => ∃ t2, e = .returned (tipV t2) ∧ TipIs (fun _ => True) w' (hdrs D) t2 C ∧ Below W'.heap.size W' w') := Lib.hid fun W' hb => by
    refine (common_any W' pp p b1 b2 D _ _ _ (HS1.out.path.below hb) tb B TB (HS1.out.is1.below hb) ta A TA (HS1.out.is0.below hb)).mono ?_
    rintro e w' ⟨t2, rfl, ht2, hb2⟩
    rw [← GG.comm_symm TA TB, hC] at ht2
    exact ⟨t2, rfl, ht2.mono fun _ _ => trivial, hb2⟩
  have HKC : Hid (∀ (W' : World) (t : Value), TipIs (fun _ => True) W' (hdrs D) t C → Calls Tryz.prog 54 #[tipV t] W' fun e w' => e = .returned (.string kc) ∧ Below W'.heap.size W' w') := Lib.hid fun W' t h => by rw [← hkc]; exact key_is h (.inr TC)
  have HJC : Hid (∀ W', Below w10.heap.size w10 W' → Calls Tryz.prog 26 #[z.v] W' fun e w' => e = .returned (.string kc) ∧ W' = w') := Lib.hid fun W' hb => by rw [← hkc]; exact join_named W' z _ (Sl.below HZ.out hb) HZN.out
  have HBT := Lib.hid fun (W' : World) (hb : Below w10.heap.size w10 W') => between_any W' pp p b1 b2 D _ _ _ (HS1.out.path.below hb) ta A TA (HS1.out.is0.below hb) tb B TB (HS1.out.is1.below hb) hDL
  rw [hC] at HBT
  have HAV := Lib.hid fun (W' : World) (hb : Below w10.heap.size w10 W') => above14_any W' D L HBO.out (.slice Al L.length cl) _ _ _ (HS1.out.next hb).lst (HS1.out.next hb).at_ x (HS1.out.next hb).xat A HN1.out HI1.out z (Sl.below HZ.out hb) C HZN.out hmem.1 hDL
  have HAW := Lib.hid fun (W' : World) (hb : Below w10.heap.size w10 W') => above14_any W' D L HBO.out (.slice Al L.length cl) _ _ _ (HS1.out.next hb).lst (HS1.out.next hb).at_ y (HS1.out.next hb).yat B HN2.out HI2.out z (Sl.below HZ.out hb) C HZN.out hmem.2.1 hDL
  clear hd1 hd2 hkc hmem HCM HS hC
  go_cut [125] from 69 to 125 (fun c125 W' => c125 = .bool false ∧ Below w10.heap.size w10 W')
  case first =>
    cases d1 with
    | true =>
      simp only [Bool.true_or] at HO1 HO2
      refine st_ (S := (fun W' => Below w10.heap.size w10 W')) 57 (bt 0 57) (by kernel_rfl) rfl (by rfl) (Below.refl _ w10).drew (fun hHeld => ?_)
      refine tk_ 0 (some 69) (bt 1 56) (v := ?_) (a' := ?_) rfl rfl (by kernel_rfl) (fun _ _ _ h => h) (yieldsIf_run rfl ?_) hHeld ?_ ?_
      rotate_left
      · intro w'
        go_simp
        with_reducible rfl
      rotate_left
      · simp only [Act.put, List.setIfInBounds_toArray, List.set_cons_zero, List.set_cons_succ]
        rfl
      refine tk_ 1 (some 70) (bt 2 55) rfl rfl (by kernel_rfl) (fun _ _ _ h => h) (yieldsIf_tipb rfl (.tmp 14) rfl g0 rfl ta (fun W' h => (h.block _ (Array.getElem?_eq_some_iff.1 HS1.out.k0).1).trans HS1.out.k0)) hHeld (a' := ?_) ?_ ?_
      rotate_left
      · simp only [Act.put, List.setIfInBounds_toArray, List.set_cons_zero, List.set_cons_succ]
        rfl
      refine tk_ 2 (some 71) (bt 3 54) rfl rfl (by kernel_rfl) (fun _ _ _ h => h) (yieldsIf_tipb rfl (.tmp 15) rfl (g0 + 1) rfl tb (fun W' h => (h.block _ (Array.getElem?_eq_some_iff.1 HS1.out.k1).1).trans HS1.out.k1)) hHeld (a' := ?_) ?_ ?_
      rotate_left
      · simp only [Act.put, List.setIfInBounds_toArray, List.set_cons_zero, List.set_cons_succ]
        rfl
      refine tk_ 4 (some 73) #[true, true, true, false, true, false, false, false, false, false, false, false, false, false, false, false, false, false, false, false, false, false, false, false, false, false, false, false, false, false, false, false, false, false, false, false, false, false, false, false, false, false, false, false, false, false, false, false, false, false, false, false, false, false, false, false, false] (v := ?_) (a' := ?_) rfl rfl (by kernel_rfl) (fun _ _ _ h => h) (yieldsIf_run rfl ?_) hHeld ?_ ?_
      rotate_left
      · intro w'
        go_simp
        with_reducible rfl
      rotate_left
      · simp only [Act.put, List.setIfInBounds_toArray, List.set_cons_zero, List.set_cons_succ]
        rfl
      refine tk_ 5 (some 74) #[true, true, true, false, true, true, false, false, false, false, false, false, false, false, false, false, false, false, false, false, false, false, false, false, false, false, false, false, false, false, false, false, false, false, false, false, false, false, false, false, false, false, false, false, false, false, false, false, false, false, false, false, false, false, false, false, false] (v := ?_) (a' := ?_) rfl rfl (by kernel_rfl) (fun _ _ _ h => h) (yieldsIf_run rfl ?_) hHeld ?_ ?_
      rotate_left
      · intro w'
        go_simp
        with_reducible rfl
      rotate_left
      · simp only [Act.put, List.setIfInBounds_toArray, List.set_cons_zero, List.set_cons_succ]
        rfl
      refine tk_ 6 (some 75) #[true, true, true, false, true, true, true, false, false, false, false, false, false, false, false, false, false, false, false, false, false, false, false, false, false, false, false, false, false, false, false, false, false, false, false, false, false, false, false, false, false, false, false, false, false, false, false, false, false, false, false, false, false, false, false, false, false] (v := ?_) (a' := ?_) rfl rfl (by kernel_rfl) (fun _ _ _ h => h) (yieldsIf_run rfl ?_) hHeld ?_ ?_
      rotate_left
      · intro w'
        go_simp
        with_reducible rfl
      rotate_left
      · simp only [Act.put, List.setIfInBounds_toArray, List.set_cons_zero, List.set_cons_succ]
        rfl
      refine call_ 3 (some 72) (bt 7 50) rfl rfl (by kernel_rfl) rfl 51 _ (by kernel_rfl) (HD1.out _ hHeld) ?_
      rintro e v3 ⟨rfl, hb3⟩
      have HB103 := Lib.hid (hHeld.trans (hb3.mono hHeld.size))
      refine ⟨_, rfl, HB103.out, fun hHeld => ⟨?_, ?_, ?_⟩⟩
      rotate_left
      · simp only [Act.put, List.setIfInBounds_toArray, List.set_cons_zero, List.set_cons_succ]
        rfl
      refine call_ 7 (some 76) (bt 8 49) rfl rfl (by kernel_rfl) rfl 56 _ (by kernel_rfl) (HR1.out _ hHeld) ?_
      rintro e v7 ⟨rfl, hb7⟩
      have HB107 := Lib.hid (hHeld.trans (hb7.mono hHeld.size))
      refine ⟨_, rfl, HB107.out, fun hHeld => ⟨?_, ?_, ?_⟩⟩
      rotate_left
      · simp only [Act.put, List.setIfInBounds_toArray, List.set_cons_zero, List.set_cons_succ]
        rfl
      refine tk_ 8 (some 77) (bt 9 48) (v := ?_) (a' := ?_) rfl rfl (by kernel_rfl) (fun _ _ _ h => h) (yieldsIf_run rfl ?_) hHeld ?_ ?_
      rotate_left
      · intro w'
        go_simp
        with_reducible rfl
      rotate_left
      · simp only [Act.put, List.setIfInBounds_toArray, List.set_cons_zero, List.set_cons_succ]
        rfl
      refine tk_ 9 (some 78) (bt 10 47) (v := ?_) (a' := ?_) rfl rfl (by kernel_rfl) (fun _ _ _ h => h) (yieldsIf_run rfl ?_) hHeld ?_ ?_
      rotate_left
      · intro w'
        go_simp
        with_reducible rfl
      rotate_left
      · simp only [Act.put, List.setIfInBounds_toArray, List.set_cons_zero, List.set_cons_succ]
        rfl
      refine tk_ 10 (some 79) (bt 11 46) (v := ?_) (a' := ?_) rfl rfl (by kernel_rfl) (fun _ _ _ h => h) (yieldsIf_run rfl ?_) hHeld ?_ ?_
      rotate_left
      · intro w'
        go_simp
        with_reducible rfl
      rotate_left
      · simp only [Act.put, List.setIfInBounds_toArray, List.set_cons_zero, List.set_cons_succ]
        rfl
      refine tk_ 11 (some 80) (bt 12 45) rfl rfl (by kernel_rfl) (fun _ _ _ h => h) (yieldsIf_tipb rfl (.tmp 14) rfl g0 rfl ta (fun W' h => (h.block _ (Array.getElem?_eq_some_iff.1 HS1.out.k0).1).trans HS1.out.k0)) hHeld (a' := ?_) ?_ ?_
      rotate_left
      · simp only [Act.put, List.setIfInBounds_toArray, List.set_cons_zero, List.set_cons_succ]
        rfl
      refine tk_ 12 (some 81) (bt 13 44) rfl rfl (by kernel_rfl) (fun _ _ _ h => h) (yieldsIf_tipb rfl (.tmp 15) rfl (g0 + 1) rfl tb (fun W' h => (h.block _ (Array.getElem?_eq_some_iff.1 HS1.out.k1).1).trans HS1.out.k1)) hHeld (a' := ?_) ?_ ?_
      rotate_left
      · simp only [Act.put, List.setIfInBounds_toArray, List.set_cons_zero, List.set_cons_succ]
        rfl
      refine tk_ 14 (some 83) #[true, true, true, true, true, true, true, true, true, true, true, true, true, false, true, false, false, false, false, false, false, false, false, false, false, false, false, false, false, false, false, false, false, false, false, false, false, false, false, false, false, false, false, false, false, false, false, false, false, false, false, false, false, false, false, false, false] (v := ?_) (a' := ?_) rfl rfl (by kernel_rfl) (fun _ _ _ h => h) (yieldsIf_run rfl ?_) hHeld ?_ ?_
      rotate_left
      · intro w'
        go_simp
        with_reducible rfl
      rotate_left
      · simp only [Act.put, List.setIfInBounds_toArray, List.set_cons_zero, List.set_cons_succ]
        rfl
      refine tk_ 15 (some 84) #[true, true, true, true, true, true, true, true, true, true, true, true, true, false, true, true, false, false, false, false, false, false, false, false, false, false, false, false, false, false, false, false, false, false, false, false, false, false, false, false, false, false, false, false, false, false, false, false, false, false, false, false, false, false, false, false, false] (v := ?_) (a' := ?_) rfl rfl (by kernel_rfl) (fun _ _ _ h => h) (yieldsIf_run rfl ?_) hHeld ?_ ?_
      rotate_left
      · intro w'
        go_simp
        with_reducible rfl
      rotate_left
      · simp only [Act.put, List.setIfInBounds_toArray, List.set_cons_zero, List.set_cons_succ]
        rfl
      refine tk_ 16 (some 85) #[true, true, true, true, true, true, true, true, true, true, true, true, true, false, true, true, true, false, false, false, false, false, false, false, false, false, false, false, false, false, false, false, false, false, false, false, false, false, false, false, false, false, false, false, false, false, false, false, false, false, false, false, false, false, false, false, false] (v := ?_) (a' := ?_) rfl rfl (by kernel_rfl) (fun _ _ _ h => h) (yieldsIf_run rfl ?_) hHeld ?_ ?_
      rotate_left
      · intro w'
        go_simp
        with_reducible rfl
      rotate_left
      · simp only [Act.put, List.setIfInBounds_toArray, List.set_cons_zero, List.set_cons_succ]
        rfl
      refine call_ 13 (some 82) (bt 17 40) rfl rfl (by kernel_rfl) rfl 48 _ (by kernel_rfl) (HO1.out _ hHeld) ?_
      rintro e v13 ⟨rfl, hb13⟩
      have HB113 := Lib.hid (hHeld.trans (hb13.mono hHeld.size))
      refine ⟨_, rfl, HB113.out, fun hHeld => ⟨?_, ?_, ?_⟩⟩
      rotate_left
      · simp only [Act.put, List.setIfInBounds_toArray, List.set_cons_zero, List.set_cons_succ]
        rfl
      refine call_ 17 (some 86) (bt 18 39) rfl rfl (by kernel_rfl) rfl 56 _ (by kernel_rfl) (HR1.out _ hHeld) ?_
      rintro e v17 ⟨rfl, hb17⟩
      have HB117 := Lib.hid (hHeld.trans (hb17.mono hHeld.size))
      refine ⟨_, rfl, HB117.out, fun hHeld => ⟨?_, ?_, ?_⟩⟩
      rotate_left
      · simp only [Act.put, List.setIfInBounds_toArray, List.set_cons_zero, List.set_cons_succ]
        rfl
      refine tk_ 18 (some 87) (bt 19 38) (v := ?_) (a' := ?_) rfl rfl (by kernel_rfl) (fun _ _ _ h => h) (yieldsIf_run rfl ?_) hHeld ?_ ?_
      rotate_left
      · intro w'
        go_simp
        with_reducible rfl
      rotate_left
      · simp only [Act.put, List.setIfInBounds_toArray, List.set_cons_zero, List.set_cons_succ]
        rfl
      refine tk_ 19 (some 88) (bt 20 37) rfl rfl (by kernel_rfl) (fun _ _ _ h => h) (yieldsIf_off rfl) hHeld (a' := ?_) ?_ ?_
      rotate_left
      · simp only [Act.put, List.setIfInBounds_toArray, List.set_cons_zero, List.set_cons_succ]
        rfl
      refine tk_ 20 (some 89) (bt 21 36) rfl rfl (by kernel_rfl) (fun _ _ _ h => h) (yieldsIf_off rfl) hHeld (a' := ?_) ?_ ?_
      rotate_left
      · simp only [Act.put, List.setIfInBounds_toArray, List.set_cons_zero, List.set_cons_succ]
        rfl
      refine tk_ 21 (some 90) (bt 22 35) rfl rfl (by kernel_rfl) (fun _ _ _ h => h) (yieldsIf_off rfl) hHeld (a' := ?_) ?_ ?_
      rotate_left
      · simp only [Act.put, List.setIfInBounds_toArray, List.set_cons_zero, List.set_cons_succ]
        rfl
      refine tk_ 22 (some 91) (bt 23 34) rfl rfl (by kernel_rfl) (fun _ _ _ h => h) (yieldsIf_off rfl) hHeld (a' := ?_) ?_ ?_
      rotate_left
      · simp only [Act.put, List.setIfInBounds_toArray, List.set_cons_zero, List.set_cons_succ]
        rfl
      refine tk_ 23 (some 92) (bt 24 33) (v := ?_) (a' := ?_) rfl rfl (by kernel_rfl) (fun _ _ _ h => h) (yieldsIf_run rfl ?_) hHeld ?_ ?_
      rotate_left
      · intro w'
        go_simp
        with_reducible rfl
      rotate_left
      · simp only [Act.put, List.setIfInBounds_toArray, List.set_cons_zero, List.set_cons_succ]
        rfl
      refine tk_ 24 (some 93) (bt 25 32) (v := ?_) (a' := ?_) rfl rfl (by kernel_rfl) (fun _ _ _ h => h) (yieldsIf_run rfl ?_) hHeld ?_ ?_
      rotate_left
      · intro w'
        go_simp
        with_reducible rfl
      rotate_left
      · simp only [Act.put, List.setIfInBounds_toArray, List.set_cons_zero, List.set_cons_succ]
        rfl
      refine tk_ 25 (some 94) (bt 26 31) (v := ?_) (a' := ?_) rfl rfl (by kernel_rfl) (fun _ _ _ h => h) (yieldsIf_run rfl ?_) hHeld ?_ ?_
      rotate_left
      · intro w'
        go_simp
        with_reducible rfl
      rotate_left
      · simp only [Act.put, List.setIfInBounds_toArray, List.set_cons_zero, List.set_cons_succ]
        rfl
      refine tk_ 26 (some 95) (bt 27 30) (v := ?_) (a' := ?_) rfl rfl (by kernel_rfl) (fun _ _ _ h => h) (yieldsIf_run rfl ?_) hHeld ?_ ?_
      rotate_left
      · intro w'
        go_simp
        with_reducible rfl
      rotate_left
      · simp only [Act.put, List.setIfInBounds_toArray, List.set_cons_zero, List.set_cons_succ]
        rfl
      refine tk_ 27 (some 96) (bt 28 29) (v := ?_) (a' := ?_) rfl rfl (by kernel_rfl) (fun _ _ _ h => h) (yieldsIf_run rfl ?_) hHeld ?_ ?_
      rotate_left
      · intro w'
        go_simp
        with_reducible rfl
      rotate_left
      · simp only [Act.put, List.setIfInBounds_toArray, List.set_cons_zero, List.set_cons_succ]
        rfl
      refine tk_ 28 (some 97) (bt 29 28) rfl rfl (by kernel_rfl) (fun _ _ _ h => h) (yieldsIf_tipb rfl (.tmp 15) rfl (g0 + 1) rfl tb (fun W' h => (h.block _ (Array.getElem?_eq_some_iff.1 HS1.out.k1).1).trans HS1.out.k1)) hHeld (a' := ?_) ?_ ?_
      rotate_left
      · simp only [Act.put, List.setIfInBounds_toArray, List.set_cons_zero, List.set_cons_succ]
        rfl
      refine tk_ 29 (some 98) (bt 30 27) rfl rfl (by kernel_rfl) (fun _ _ _ h => h) (yieldsIf_tipb rfl (.tmp 14) rfl g0 rfl ta (fun W' h => (h.block _ (Array.getElem?_eq_some_iff.1 HS1.out.k0).1).trans HS1.out.k0)) hHeld (a' := ?_) ?_ ?_
      rotate_left
      · simp only [Act.put, List.setIfInBounds_toArray, List.set_cons_zero, List.set_cons_succ]
        rfl
      refine tk_ 31 (some 100) #[true, true, true, true, true, true, true, true, true, true, true, true, true, true, true, true, true, true, true, true, true, true, true, true, true, true, true, true, true, true, false, true, false, false, false, false, false, false, false, false, false, false, false, false, false, false, false, false, false, false, false, false, false, false, false, false, false] (v := ?_) (a' := ?_) rfl rfl (by kernel_rfl) (fun _ _ _ h => h) (yieldsIf_run rfl ?_) hHeld ?_ ?_
      rotate_left
      · intro w'
        go_simp
        with_reducible rfl
      rotate_left
      · simp only [Act.put, List.setIfInBounds_toArray, List.set_cons_zero, List.set_cons_succ]
        rfl
      refine tk_ 32 (some 101) #[true, true, true, true, true, true, true, true, true, true, true, true, true, true, true, true, true, true, true, true, true, true, true, true, true, true, true, true, true, true, false, true, true, false, false, false, false, false, false, false, false, false, false, false, false, false, false, false, false, false, false, false, false, false, false, false, false] rfl rfl (by kernel_rfl) (fun _ _ _ h => h) (yieldsIf_tipb rfl (.tmp 14) rfl g0 rfl ta (fun W' h => (h.block _ (Array.getElem?_eq_some_iff.1 HS1.out.k0).1).trans HS1.out.k0)) hHeld (a' := ?_) ?_ ?_
      rotate_left
      · simp only [Act.put, List.setIfInBounds_toArray, List.set_cons_zero, List.set_cons_succ]
        rfl
      refine tk_ 33 (some 102) #[true, true, true, true, true, true, true, true, true, true, true, true, true, true, true, true, true, true, true, true, true, true, true, true, true, true, true, true, true, true, false, true, true, true, false, false, false, false, false, false, false, false, false, false, false, false, false, false, false, false, false, false, false, false, false, false, false] rfl rfl (by kernel_rfl) (fun _ _ _ h => h) (yieldsIf_tipb rfl (.tmp 15) rfl (g0 + 1) rfl tb (fun W' h => (h.block _ (Array.getElem?_eq_some_iff.1 HS1.out.k1).1).trans HS1.out.k1)) hHeld (a' := ?_) ?_ ?_
      rotate_left
      · simp only [Act.put, List.setIfInBounds_toArray, List.set_cons_zero, List.set_cons_succ]
        rfl
      refine call_ 30 (some 99) (bt 34 23) rfl rfl (by kernel_rfl) rfl 48 _ (by kernel_rfl) (HO2.out _ hHeld) ?_
      rintro e v30 ⟨rfl, hb30⟩
      have HB130 := Lib.hid (hHeld.trans (hb30.mono hHeld.size))
      refine ⟨_, rfl, HB130.out, fun hHeld => ⟨?_, ?_, ?_⟩⟩
      rotate_left
      · simp only [Act.put, List.setIfInBounds_toArray, List.set_cons_zero, List.set_cons_succ]
        rfl
      refine call_ 34 (some 103) (bt 35 22) rfl rfl (by kernel_rfl) rfl 48 _ (by kernel_rfl) (HO1.out _ hHeld) ?_
      rintro e v34 ⟨rfl, hb34⟩
      have HB134 := Lib.hid (hHeld.trans (hb34.mono hHeld.size))
      refine ⟨_, rfl, HB134.out, fun hHeld => ⟨?_, ?_, ?_⟩⟩
      rotate_left
      · simp only [Act.put, List.setIfInBounds_toArray, List.set_cons_zero, List.set_cons_succ]
        rfl
      refine tk_ 35 (some 104) (bt 36 21) (v := ?_) (a' := ?_) rfl rfl (by kernel_rfl) (fun _ _ _ h => h) (yieldsIf_run rfl ?_) hHeld ?_ ?_
      rotate_left
      · intro w'
        go_simp
        with_reducible rfl
      rotate_left
      · simp only [Act.put, List.setIfInBounds_toArray, List.set_cons_zero, List.set_cons_succ]
        rfl
      refine tk_ 36 (some 105) (bt 37 20) (v := ?_) (a' := ?_) rfl rfl (by kernel_rfl) (fun _ _ _ h => h) (yieldsIf_run rfl ?_) hHeld ?_ ?_
      rotate_left
      · intro w'
        go_simp
        with_reducible rfl
      rotate_left
      · simp only [Act.put, List.setIfInBounds_toArray, List.set_cons_zero, List.set_cons_succ]
        rfl
      refine tk_ 37 (some 106) (bt 38 19) (v := ?_) (a' := ?_) rfl rfl (by kernel_rfl) (fun _ _ _ h => h) (yieldsIf_run rfl ?_) hHeld ?_ ?_
      rotate_left
      · intro w'
        go_simp
        with_reducible rfl
      rotate_left
      · simp only [Act.put, List.setIfInBounds_toArray, List.set_cons_zero, List.set_cons_succ]
        rfl
      refine tk_ 38 (some 107) (bt 39 18) (v := ?_) (a' := ?_) rfl rfl (by kernel_rfl) (fun _ _ _ h => h) (yieldsIf_run rfl ?_) hHeld ?_ ?_
      rotate_left
      · intro w'
        go_simp
        with_reducible rfl
      rotate_left
      · simp only [Act.put, List.setIfInBounds_toArray, List.set_cons_zero, List.set_cons_succ]
        rfl
      refine tk_ 39 (some 108) (bt 40 17) rfl rfl (by kernel_rfl) (fun _ _ _ h => h) (yieldsIf_tipb rfl (.tmp 14) rfl g0 rfl ta (fun W' h => (h.block _ (Array.getElem?_eq_some_iff.1 HS1.out.k0).1).trans HS1.out.k0)) hHeld (a' := ?_) ?_ ?_
      rotate_left
      · simp only [Act.put, List.setIfInBounds_toArray, List.set_cons_zero, List.set_cons_succ]
        rfl
      refine tk_ 40 (some 109) (bt 41 16) rfl rfl (by kernel_rfl) (fun _ _ _ h => h) (yieldsIf_tipb rfl (.tmp 15) rfl (g0 + 1) rfl tb (fun W' h => (h.block _ (Array.getElem?_eq_some_iff.1 HS1.out.k1).1).trans HS1.out.k1)) hHeld (a' := ?_) ?_ ?_
      rotate_left
      · simp only [Act.put, List.setIfInBounds_toArray, List.set_cons_zero, List.set_cons_succ]
        rfl
      refine tk_ 43 (some 112) #[true, true, true, true, true, true, true, true, true, true, true, true, true, true, true, true, true, true, true, true, true, true, true, true, true, true, true, true, true, true, true, true, true, true, true, true, true, true, true, true, true, false, false, true, false, false, false, false, false, false, false, false, false, false, false, false, false] (v := ?_) (a' := ?_) rfl rfl (by kernel_rfl) (fun _ _ _ h => h) (yieldsIf_run rfl ?_) hHeld ?_ ?_
      rotate_left
      · intro w'
        go_simp
        with_reducible rfl
      rotate_left
      · simp only [Act.put, List.setIfInBounds_toArray, List.set_cons_zero, List.set_cons_succ]
        rfl
      refine call_ 41 (some 110) #[true, true, true, true, true, true, true, true, true, true, true, true, true, true, true, true, true, true, true, true, true, true, true, true, true, true, true, true, true, true, true, true, true, true, true, true, true, true, true, true, true, true, false, true, false, false, false, false, false, false, false, false, false, false, false, false, false] rfl rfl (by kernel_rfl) rfl 64 _ (by kernel_rfl) (HC1.out _ hHeld) ?_
      rintro e v41 ⟨t41, rfl, ht41, hb41⟩
      have HB141 := Lib.hid (hHeld.trans (hb41.mono hHeld.size))
      have HT41 := Lib.hid ht41
      refine ⟨_, rfl, HB141.out, fun hHeld => ⟨?_, ?_, ?_⟩⟩
      rotate_left
      · simp only [Act.put, List.setIfInBounds_toArray, List.set_cons_zero, List.set_cons_succ]
        rfl
      refine call_ 42 (some 111) (bt 44 13) rfl rfl (by kernel_rfl) rfl 54 _ (by kernel_rfl) (HKC.out _ _ HT41.out) ?_
      rintro e v42 ⟨rfl, hb42⟩
      have HB142 := Lib.hid (hHeld.trans (hb42.mono hHeld.size))
      refine ⟨_, rfl, HB142.out, fun hHeld => ⟨?_, ?_, ?_⟩⟩
      rotate_left
      · simp only [Act.put, List.setIfInBounds_toArray, List.set_cons_zero, List.set_cons_succ]
        rfl
      refine call_ 44 (some 113) (bt 45 12) rfl rfl (by kernel_rfl) rfl 26 _ (by kernel_rfl) (HJC.out _ hHeld) ?_
      rintro e v44 ⟨rfl, rfl⟩
      refine ⟨_, rfl, hHeld, fun hHeld => ⟨?_, ?_, ?_⟩⟩
      rotate_left
      · simp only [Act.put, List.setIfInBounds_toArray, List.set_cons_zero, List.set_cons_succ]
        rfl
      refine tk_ 45 (some 114) (bt 46 11) (v := ?_) (a' := ?_) rfl rfl (by kernel_rfl) (fun _ _ _ h => h) (yieldsIf_run rfl ?_) hHeld ?_ ?_
      rotate_left
      · intro w'
        go_simp
        with_reducible rfl
      rotate_left
      · simp only [Act.put, List.setIfInBounds_toArray, List.set_cons_zero, List.set_cons_succ]
        rfl
      refine tk_ 46 (some 115) (bt 47 10) (v := ?_) (a' := ?_) rfl rfl (by kernel_rfl) (fun _ _ _ h => h) (yieldsIf_run rfl ?_) hHeld ?_ ?_
      rotate_left
      · intro w'
        go_simp
        with_reducible rfl
      rotate_left
      · simp only [Act.put, List.setIfInBounds_toArray, List.set_cons_zero, List.set_cons_succ]
        rfl
      refine tk_ 47 (some 116) (bt 48 9) (v := ?_) (a' := ?_) rfl rfl (by kernel_rfl) (fun _ _ _ h => h) (yieldsIf_run rfl ?_) hHeld ?_ ?_
      rotate_left
      · intro w'
        go_simp
        with_reducible rfl
      rotate_left
      · simp only [Act.put, List.setIfInBounds_toArray, List.set_cons_zero, List.set_cons_succ]
        rfl
      refine tk_ 48 (some 117) (bt 49 8) (v := ?_) (a' := ?_) rfl rfl (by kernel_rfl) (fun _ _ _ h => h) (yieldsIf_run rfl ?_) hHeld ?_ ?_
      rotate_left
      · intro w'
        go_simp
        with_reducible rfl
      rotate_left
      · simp only [Act.put, List.setIfInBounds_toArray, List.set_cons_zero, List.set_cons_succ]
        rfl
      refine tk_ 49 (some 118) (bt 50 7) rfl rfl (by kernel_rfl) (fun _ _ _ h => h) (yieldsIf_tipb rfl (.tmp 15) rfl (g0 + 1) rfl tb (fun W' h => (h.block _ (Array.getElem?_eq_some_iff.1 HS1.out.k1).1).trans HS1.out.k1)) hHeld (a' := ?_) ?_ ?_
      rotate_left
      · simp only [Act.put, List.setIfInBounds_toArray, List.set_cons_zero, List.set_cons_succ]
        rfl
      refine tk_ 50 (some 119) (bt 51 6) rfl rfl (by kernel_rfl) (fun _ _ _ h => h) (yieldsIf_tipb rfl (.tmp 14) rfl g0 rfl ta (fun W' h => (h.block _ (Array.getElem?_eq_some_iff.1 HS1.out.k0).1).trans HS1.out.k0)) hHeld (a' := ?_) ?_ ?_
      rotate_left
      · simp only [Act.put, List.setIfInBounds_toArray, List.set_cons_zero, List.set_cons_succ]
        rfl
      refine tk_ 53 (some 122) #[true, true, true, true, true, true, true, true, true, true, true, true, true, true, true, true, true, true, true, true, true, true, true, true, true, true, true, true, true, true, true, true, true, true, true, true, true, true, true, true, true, true, true, true, true, true, true, true, true, true, true, false, false, true, false, false, false] (v := ?_) (a' := ?_) rfl rfl (by kernel_rfl) (fun _ _ _ h => h) (yieldsIf_run rfl ?_) hHeld ?_ ?_
      rotate_left
      · intro w'
        go_simp
        with_reducible rfl
      rotate_left
      · simp only [Act.put, List.setIfInBounds_toArray, List.set_cons_zero, List.set_cons_succ]
        rfl
      refine call_ 51 (some 120) #[true, true, true, true, true, true, true, true, true, true, true, true, true, true, true, true, true, true, true, true, true, true, true, true, true, true, true, true, true, true, true, true, true, true, true, true, true, true, true, true, true, true, true, true, true, true, true, true, true, true, true, true, false, true, false, false, false] rfl rfl (by kernel_rfl) rfl 64 _ (by kernel_rfl) (HC2.out _ hHeld) ?_
      rintro e v51 ⟨t51, rfl, ht51, hb51⟩
      have HB151 := Lib.hid (hHeld.trans (hb51.mono hHeld.size))
      have HT51 := Lib.hid ht51
      refine ⟨_, rfl, HB151.out, fun hHeld => ⟨?_, ?_, ?_⟩⟩
      rotate_left
      · simp only [Act.put, List.setIfInBounds_toArray, List.set_cons_zero, List.set_cons_succ]
        rfl
      refine call_ 52 (some 121) (bt 54 3) rfl rfl (by kernel_rfl) rfl 54 _ (by kernel_rfl) (HKC.out _ _ HT51.out) ?_
      rintro e v52 ⟨rfl, hb52⟩
      have HB152 := Lib.hid (hHeld.trans (hb52.mono hHeld.size))
      refine ⟨_, rfl, HB152.out, fun hHeld => ⟨?_, ?_, ?_⟩⟩
      rotate_left
      · simp only [Act.put, List.setIfInBounds_toArray, List.set_cons_zero, List.set_cons_succ]
        rfl
      refine call_ 54 (some 123) (bt 55 2) rfl rfl (by kernel_rfl) rfl 26 _ (by kernel_rfl) (HJC.out _ hHeld) ?_
      rintro e v54 ⟨rfl, rfl⟩
      refine ⟨_, rfl, hHeld, fun hHeld => ⟨?_, ?_, ?_⟩⟩
      rotate_left
      · simp only [Act.put, List.setIfInBounds_toArray, List.set_cons_zero, List.set_cons_succ]
        rfl
      refine tk_ 55 (some 124) (bt 56 1) (v := ?_) (a' := ?_) rfl rfl (by kernel_rfl) (fun _ _ _ h => h) (yieldsIf_run rfl ?_) hHeld ?_ ?_
      rotate_left
      · intro w'
        go_simp
        with_reducible rfl
      rotate_left
      · simp only [Act.put, List.setIfInBounds_toArray, List.set_cons_zero, List.set_cons_succ]
        rfl
      refine tk_ 56 (some 125) (bt 57 0) (v := ?_) (a' := ?_) rfl rfl (by kernel_rfl) (fun _ _ _ h => h) (yieldsIf_run rfl ?_) hHeld ?_ ?_
      rotate_left
      · intro w'
        go_simp
        with_reducible rfl
      rotate_left
      · simp only [Act.put, List.setIfInBounds_toArray, List.set_cons_zero, List.set_cons_succ]
        rfl
      refine wpAnyH_done (by kernel_rfl) ?_ _
      change Exit.then _ _ _ _ _
      go_wp2
      go_meet
      case rel => exact ⟨rfl, HB152.out⟩
    | false =>
      simp only [Bool.false_or] at HO1 HO2
      cases d2 with
      | true =>
        refine st_ (S := (fun W' => Below w10.heap.size w10 W')) 57 (bt 0 57) (by kernel_rfl) rfl (by rfl) (Below.refl _ w10).drew (fun hHeld => ?_)
        refine tk_ 0 (some 69) (bt 1 56) (v := ?_) (a' := ?_) rfl rfl (by kernel_rfl) (fun _ _ _ h => h) (yieldsIf_run rfl ?_) hHeld ?_ ?_
        rotate_left
        · intro w'
          go_simp
          with_reducible rfl
        rotate_left
        · simp only [Act.put, List.setIfInBounds_toArray, List.set_cons_zero, List.set_cons_succ]
          rfl
        refine tk_ 1 (some 70) (bt 2 55) rfl rfl (by kernel_rfl) (fun _ _ _ h => h) (yieldsIf_tipb rfl (.tmp 14) rfl g0 rfl ta (fun W' h => (h.block _ (Array.getElem?_eq_some_iff.1 HS1.out.k0).1).trans HS1.out.k0)) hHeld (a' := ?_) ?_ ?_
        rotate_left
        · simp only [Act.put, List.setIfInBounds_toArray, List.set_cons_zero, List.set_cons_succ]
          rfl
        refine tk_ 2 (some 71) (bt 3 54) rfl rfl (by kernel_rfl) (fun _ _ _ h => h) (yieldsIf_tipb rfl (.tmp 15) rfl (g0 + 1) rfl tb (fun W' h => (h.block _ (Array.getElem?_eq_some_iff.1 HS1.out.k1).1).trans HS1.out.k1)) hHeld (a' := ?_) ?_ ?_
        rotate_left
        · simp only [Act.put, List.setIfInBounds_toArray, List.set_cons_zero, List.set_cons_succ]
          rfl
        refine tk_ 4 (some 73) #[true, true, true, false, true, false, false, false, false, false, false, false, false, false, false, false, false, false, false, false, false, false, false, false, false, false, false, false, false, false, false, false, false, false, false, false, false, false, false, false, false, false, false, false, false, false, false, false, false, false, false, false, false, false, false, false, false] (v := ?_) (a' := ?_) rfl rfl (by kernel_rfl) (fun _ _ _ h => h) (yieldsIf_run rfl ?_) hHeld ?_ ?_
        rotate_left
        · intro w'
          go_simp
          with_reducible rfl
        rotate_left
        · simp only [Act.put, List.setIfInBounds_toArray, List.set_cons_zero, List.set_cons_succ]
          rfl
        refine tk_ 5 (some 74) #[true, true, true, false, true, true, false, false, false, false, false, false, false, false, false, false, false, false, false, false, false, false, false, false, false, false, false, false, false, false, false, false, false, false, false, false, false, false, false, false, false, false, false, false, false, false, false, false, false, false, false, false, false, false, false, false, false] (v := ?_) (a' := ?_) rfl rfl (by kernel_rfl) (fun _ _ _ h => h) (yieldsIf_run rfl ?_) hHeld ?_ ?_
        rotate_left
        · intro w'
          go_simp
          with_reducible rfl
        rotate_left
        · simp only [Act.put, List.setIfInBounds_toArray, List.set_cons_zero, List.set_cons_succ]
          rfl
        refine tk_ 6 (some 75) #[true, true, true, false, true, true, true, false, false, false, false, false, false, false, false, false, false, false, false, false, false, false, false, false, false, false, false, false, false, false, false, false, false, false, false, false, false, false, false, false, false, false, false, false, false, false, false, false, false, false, false, false, false, false, false, false, false] (v := ?_) (a' := ?_) rfl rfl (by kernel_rfl) (fun _ _ _ h => h) (yieldsIf_run rfl ?_) hHeld ?_ ?_
        rotate_left
        · intro w'
          go_simp
          with_reducible rfl
        rotate_left
        · simp only [Act.put, List.setIfInBounds_toArray, List.set_cons_zero, List.set_cons_succ]
          rfl
        refine call_ 3 (some 72) (bt 7 50) rfl rfl (by kernel_rfl) rfl 51 _ (by kernel_rfl) (HD1.out _ hHeld) ?_
        rintro e v3 ⟨rfl, hb3⟩
        have HB103 := Lib.hid (hHeld.trans (hb3.mono hHeld.size))
        refine ⟨_, rfl, HB103.out, fun hHeld => ⟨?_, ?_, ?_⟩⟩
        rotate_left
        · simp only [Act.put, List.setIfInBounds_toArray, List.set_cons_zero, List.set_cons_succ]
          rfl
        refine call_ 7 (some 76) (bt 8 49) rfl rfl (by kernel_rfl) rfl 56 _ (by kernel_rfl) (HR1.out _ hHeld) ?_
        rintro e v7 ⟨rfl, hb7⟩
        have HB107 := Lib.hid (hHeld.trans (hb7.mono hHeld.size))
        refine ⟨_, rfl, HB107.out, fun hHeld => ⟨?_, ?_, ?_⟩⟩
        rotate_left
        · simp only [Act.put, List.setIfInBounds_toArray, List.set_cons_zero, List.set_cons_succ]
          rfl
        refine tk_ 8 (some 77) (bt 9 48) (v := ?_) (a' := ?_) rfl rfl (by kernel_rfl) (fun _ _ _ h => h) (yieldsIf_run rfl ?_) hHeld ?_ ?_
        rotate_left
        · intro w'
          go_simp
          with_reducible rfl
        rotate_left
        · simp only [Act.put, List.setIfInBounds_toArray, List.set_cons_zero, List.set_cons_succ]
          rfl
        refine tk_ 9 (some 78) (bt 10 47) (v := ?_) (a' := ?_) rfl rfl (by kernel_rfl) (fun _ _ _ h => h) (yieldsIf_run rfl ?_) hHeld ?_ ?_
        rotate_left
        · intro w'
          go_simp
          with_reducible rfl
        rotate_left
        · simp only [Act.put, List.setIfInBounds_toArray, List.set_cons_zero, List.set_cons_succ]
          rfl
        refine tk_ 10 (some 79) (bt 11 46) (v := ?_) (a' := ?_) rfl rfl (by kernel_rfl) (fun _ _ _ h => h) (yieldsIf_run rfl ?_) hHeld ?_ ?_
        rotate_left
        · intro w'
          go_simp
          with_reducible rfl
        rotate_left
        · simp only [Act.put, List.setIfInBounds_toArray, List.set_cons_zero, List.set_cons_succ]
          rfl
        refine tk_ 11 (some 80) (bt 12 45) rfl rfl (by kernel_rfl) (fun _ _ _ h => h) (yieldsIf_tipb rfl (.tmp 14) rfl g0 rfl ta (fun W' h => (h.block _ (Array.getElem?_eq_some_iff.1 HS1.out.k0).1).trans HS1.out.k0)) hHeld (a' := ?_) ?_ ?_
        rotate_left
        · simp only [Act.put, List.setIfInBounds_toArray, List.set_cons_zero, List.set_cons_succ]
          rfl
        refine tk_ 12 (some 81) (bt 13 44) rfl rfl (by kernel_rfl) (fun _ _ _ h => h) (yieldsIf_tipb rfl (.tmp 15) rfl (g0 + 1) rfl tb (fun W' h => (h.block _ (Array.getElem?_eq_some_iff.1 HS1.out.k1).1).trans HS1.out.k1)) hHeld (a' := ?_) ?_ ?_
        rotate_left
        · simp only [Act.put, List.setIfInBounds_toArray, List.set_cons_zero, List.set_cons_succ]
          rfl
        refine tk_ 14 (some 83) #[true, true, true, true, true, true, true, true, true, true, true, true, true, false, true, false, false, false, false, false, false, false, false, false, false, false, false, false, false, false, false, false, false, false, false, false, false, false, false, false, false, false, false, false, false, false, false, false, false, false, false, false, false, false, false, false, false] (v := ?_) (a' := ?_) rfl rfl (by kernel_rfl) (fun _ _ _ h => h) (yieldsIf_run rfl ?_) hHeld ?_ ?_
        rotate_left
        · intro w'
          go_simp
          with_reducible rfl
        rotate_left
        · simp only [Act.put, List.setIfInBounds_toArray, List.set_cons_zero, List.set_cons_succ]
          rfl
        refine tk_ 15 (some 84) #[true, true, true, true, true, true, true, true, true, true, true, true, true, false, true, true, false, false, false, false, false, false, false, false, false, false, false, false, false, false, false, false, false, false, false, false, false, false, false, false, false, false, false, false, false, false, false, false, false, false, false, false, false, false, false, false, false] (v := ?_) (a' := ?_) rfl rfl (by kernel_rfl) (fun _ _ _ h => h) (yieldsIf_run rfl ?_) hHeld ?_ ?_
        rotate_left
        · intro w'
          go_simp
          with_reducible rfl
        rotate_left
        · simp only [Act.put, List.setIfInBounds_toArray, List.set_cons_zero, List.set_cons_succ]
          rfl
        refine tk_ 16 (some 85) #[true, true, true, true, true, true, true, true, true, true, true, true, true, false, true, true, true, false, false, false, false, false, false, false, false, false, false, false, false, false, false, false, false, false, false, false, false, false, false, false, false, false, false, false, false, false, false, false, false, false, false, false, false, false, false, false, false] (v := ?_) (a' := ?_) rfl rfl (by kernel_rfl) (fun _ _ _ h => h) (yieldsIf_run rfl ?_) hHeld ?_ ?_
        rotate_left
        · intro w'
          go_simp
          with_reducible rfl
        rotate_left
        · simp only [Act.put, List.setIfInBounds_toArray, List.set_cons_zero, List.set_cons_succ]
          rfl
        refine call_ 13 (some 82) (bt 17 40) rfl rfl (by kernel_rfl) rfl 48 _ (by kernel_rfl) (HO1.out _ hHeld) ?_
        rintro e v13 ⟨rfl, hb13⟩
        have HB113 := Lib.hid (hHeld.trans (hb13.mono hHeld.size))
        refine ⟨_, rfl, HB113.out, fun hHeld => ⟨?_, ?_, ?_⟩⟩
        rotate_left
        · simp only [Act.put, List.setIfInBounds_toArray, List.set_cons_zero, List.set_cons_succ]
          rfl
        refine call_ 17 (some 86) (bt 18 39) rfl rfl (by kernel_rfl) rfl 56 _ (by kernel_rfl) (HR1.out _ hHeld) ?_
        rintro e v17 ⟨rfl, hb17⟩
        have HB117 := Lib.hid (hHeld.trans (hb17.mono hHeld.size))
        refine ⟨_, rfl, HB117.out, fun hHeld => ⟨?_, ?_, ?_⟩⟩
        rotate_left
        · simp only [Act.put, List.setIfInBounds_toArray, List.set_cons_zero, List.set_cons_succ]
          rfl
        refine tk_ 18 (some 87) (bt 19 38) (v := ?_) (a' := ?_) rfl rfl (by kernel_rfl) (fun _ _ _ h => h) (yieldsIf_run rfl ?_) hHeld ?_ ?_
        rotate_left
        · intro w'
          go_simp
          with_reducible rfl
        rotate_left
        · simp only [Act.put, List.setIfInBounds_toArray, List.set_cons_zero, List.set_cons_succ]
          rfl
        refine tk_ 19 (some 88) (bt 20 37) (v := ?_) (a' := ?_) rfl rfl (by kernel_rfl) (fun _ _ _ h => h) (yieldsIf_run rfl ?_) hHeld ?_ ?_
        rotate_left
        · intro w'
          go_simp
          with_reducible rfl
        rotate_left
        · simp only [Act.put, List.setIfInBounds_toArray, List.set_cons_zero, List.set_cons_succ]
          rfl
        refine tk_ 20 (some 89) (bt 21 36) (v := ?_) (a' := ?_) rfl rfl (by kernel_rfl) (fun _ _ _ h => h) (yieldsIf_run rfl ?_) hHeld ?_ ?_
        rotate_left
        · intro w'
          go_simp
          with_reducible rfl
        rotate_left
        · simp only [Act.put, List.setIfInBounds_toArray, List.set_cons_zero, List.set_cons_succ]
          rfl
        refine tk_ 21 (some 90) (bt 22 35) (v := ?_) (a' := ?_) rfl rfl (by kernel_rfl) (fun _ _ _ h => h) (yieldsIf_run rfl ?_) hHeld ?_ ?_
        rotate_left
        · intro w'
          go_simp
          with_reducible rfl
        rotate_left
        · simp only [Act.put, List.setIfInBounds_toArray, List.set_cons_zero, List.set_cons_succ]
          rfl
        refine call_ 22 (some 91) (bt 23 34) rfl rfl (by kernel_rfl) rfl 56 _ (by kernel_rfl) (HR2.out _ hHeld) ?_
        rintro e v22 ⟨rfl, hb22⟩
        have HB122 := Lib.hid (hHeld.trans (hb22.mono hHeld.size))
        refine ⟨_, rfl, HB122.out, fun hHeld => ⟨?_, ?_, ?_⟩⟩
        rotate_left
        · simp only [Act.put, List.setIfInBounds_toArray, List.set_cons_zero, List.set_cons_succ]
          rfl
        refine tk_ 23 (some 92) (bt 24 33) (v := ?_) (a' := ?_) rfl rfl (by kernel_rfl) (fun _ _ _ h => h) (yieldsIf_run rfl ?_) hHeld ?_ ?_
        rotate_left
        · intro w'
          go_simp
          with_reducible rfl
        rotate_left
        · simp only [Act.put, List.setIfInBounds_toArray, List.set_cons_zero, List.set_cons_succ]
          rfl
        refine tk_ 24 (some 93) (bt 25 32) (v := ?_) (a' := ?_) rfl rfl (by kernel_rfl) (fun _ _ _ h => h) (yieldsIf_run rfl ?_) hHeld ?_ ?_
        rotate_left
        · intro w'
          go_simp
          with_reducible rfl
        rotate_left
        · simp only [Act.put, List.setIfInBounds_toArray, List.set_cons_zero, List.set_cons_succ]
          rfl
        refine tk_ 25 (some 94) (bt 26 31) (v := ?_) (a' := ?_) rfl rfl (by kernel_rfl) (fun _ _ _ h => h) (yieldsIf_run rfl ?_) hHeld ?_ ?_
        rotate_left
        · intro w'
          go_simp
          with_reducible rfl
        rotate_left
        · simp only [Act.put, List.setIfInBounds_toArray, List.set_cons_zero, List.set_cons_succ]
          rfl
        refine tk_ 26 (some 95) (bt 27 30) (v := ?_) (a' := ?_) rfl rfl (by kernel_rfl) (fun _ _ _ h => h) (yieldsIf_run rfl ?_) hHeld ?_ ?_
        rotate_left
        · intro w'
          go_simp
          with_reducible rfl
        rotate_left
        · simp only [Act.put, List.setIfInBounds_toArray, List.set_cons_zero, List.set_cons_succ]
          rfl
        refine tk_ 27 (some 96) (bt 28 29) (v := ?_) (a' := ?_) rfl rfl (by kernel_rfl) (fun _ _ _ h => h) (yieldsIf_run rfl ?_) hHeld ?_ ?_
        rotate_left
        · intro w'
          go_simp
          with_reducible rfl
        rotate_left
        · simp only [Act.put, List.setIfInBounds_toArray, List.set_cons_zero, List.set_cons_succ]
          rfl
        refine tk_ 28 (some 97) (bt 29 28) rfl rfl (by kernel_rfl) (fun _ _ _ h => h) (yieldsIf_tipb rfl (.tmp 15) rfl (g0 + 1) rfl tb (fun W' h => (h.block _ (Array.getElem?_eq_some_iff.1 HS1.out.k1).1).trans HS1.out.k1)) hHeld (a' := ?_) ?_ ?_
        rotate_left
        · simp only [Act.put, List.setIfInBounds_toArray, List.set_cons_zero, List.set_cons_succ]
          rfl
        refine tk_ 29 (some 98) (bt 30 27) rfl rfl (by kernel_rfl) (fun _ _ _ h => h) (yieldsIf_tipb rfl (.tmp 14) rfl g0 rfl ta (fun W' h => (h.block _ (Array.getElem?_eq_some_iff.1 HS1.out.k0).1).trans HS1.out.k0)) hHeld (a' := ?_) ?_ ?_
        rotate_left
        · simp only [Act.put, List.setIfInBounds_toArray, List.set_cons_zero, List.set_cons_succ]
          rfl
        refine tk_ 31 (some 100) #[true, true, true, true, true, true, true, true, true, true, true, true, true, true, true, true, true, true, true, true, true, true, true, true, true, true, true, true, true, true, false, true, false, false, false, false, false, false, false, false, false, false, false, false, false, false, false, false, false, false, false, false, false, false, false, false, false] (v := ?_) (a' := ?_) rfl rfl (by kernel_rfl) (fun _ _ _ h => h) (yieldsIf_run rfl ?_) hHeld ?_ ?_
        rotate_left
        · intro w'
          go_simp
          with_reducible rfl
        rotate_left
        · simp only [Act.put, List.setIfInBounds_toArray, List.set_cons_zero, List.set_cons_succ]
          rfl
        refine tk_ 32 (some 101) #[true, true, true, true, true, true, true, true, true, true, true, true, true, true, true, true, true, true, true, true, true, true, true, true, true, true, true, true, true, true, false, true, true, false, false, false, false, false, false, false, false, false, false, false, false, false, false, false, false, false, false, false, false, false, false, false, false] rfl rfl (by kernel_rfl) (fun _ _ _ h => h) (yieldsIf_tipb rfl (.tmp 14) rfl g0 rfl ta (fun W' h => (h.block _ (Array.getElem?_eq_some_iff.1 HS1.out.k0).1).trans HS1.out.k0)) hHeld (a' := ?_) ?_ ?_
        rotate_left
        · simp only [Act.put, List.setIfInBounds_toArray, List.set_cons_zero, List.set_cons_succ]
          rfl
        refine tk_ 33 (some 102) #[true, true, true, true, true, true, true, true, true, true, true, true, true, true, true, true, true, true, true, true, true, true, true, true, true, true, true, true, true, true, false, true, true, true, false, false, false, false, false, false, false, false, false, false, false, false, false, false, false, false, false, false, false, false, false, false, false] rfl rfl (by kernel_rfl) (fun _ _ _ h => h) (yieldsIf_tipb rfl (.tmp 15) rfl (g0 + 1) rfl tb (fun W' h => (h.block _ (Array.getElem?_eq_some_iff.1 HS1.out.k1).1).trans HS1.out.k1)) hHeld (a' := ?_) ?_ ?_
        rotate_left
        · simp only [Act.put, List.setIfInBounds_toArray, List.set_cons_zero, List.set_cons_succ]
          rfl
        refine call_ 30 (some 99) (bt 34 23) rfl rfl (by kernel_rfl) rfl 48 _ (by kernel_rfl) (HO2.out _ hHeld) ?_
        rintro e v30 ⟨rfl, hb30⟩
        have HB130 := Lib.hid (hHeld.trans (hb30.mono hHeld.size))
        refine ⟨_, rfl, HB130.out, fun hHeld => ⟨?_, ?_, ?_⟩⟩
        rotate_left
        · simp only [Act.put, List.setIfInBounds_toArray, List.set_cons_zero, List.set_cons_succ]
          rfl
        refine call_ 34 (some 103) (bt 35 22) rfl rfl (by kernel_rfl) rfl 48 _ (by kernel_rfl) (HO1.out _ hHeld) ?_
        rintro e v34 ⟨rfl, hb34⟩
        have HB134 := Lib.hid (hHeld.trans (hb34.mono hHeld.size))
        refine ⟨_, rfl, HB134.out, fun hHeld => ⟨?_, ?_, ?_⟩⟩
        rotate_left
        · simp only [Act.put, List.setIfInBounds_toArray, List.set_cons_zero, List.set_cons_succ]
          rfl
        refine tk_ 35 (some 104) (bt 36 21) (v := ?_) (a' := ?_) rfl rfl (by kernel_rfl) (fun _ _ _ h => h) (yieldsIf_run rfl ?_) hHeld ?_ ?_
        rotate_left
        · intro w'
          go_simp
          with_reducible rfl
        rotate_left
        · simp only [Act.put, List.setIfInBounds_toArray, List.set_cons_zero, List.set_cons_succ]
          rfl
        refine tk_ 36 (some 105) (bt 37 20) (v := ?_) (a' := ?_) rfl rfl (by kernel_rfl) (fun _ _ _ h => h) (yieldsIf_run rfl ?_) hHeld ?_ ?_
        rotate_left
        · intro w'
          go_simp
          with_reducible rfl
        rotate_left
        · simp only [Act.put, List.setIfInBounds_toArray, List.set_cons_zero, List.set_cons_succ]
          rfl
        refine tk_ 37 (some 106) (bt 38 19) (v := ?_) (a' := ?_) rfl rfl (by kernel_rfl) (fun _ _ _ h => h) (yieldsIf_run rfl ?_) hHeld ?_ ?_
        rotate_left
        · intro w'
          go_simp
          with_reducible rfl
        rotate_left
        · simp only [Act.put, List.setIfInBounds_toArray, List.set_cons_zero, List.set_cons_succ]
          rfl
        refine tk_ 38 (some 107) (bt 39 18) (v := ?_) (a' := ?_) rfl rfl (by kernel_rfl) (fun _ _ _ h => h) (yieldsIf_run rfl ?_) hHeld ?_ ?_
        rotate_left
        · intro w'
          go_simp
          with_reducible rfl
        rotate_left
        · simp only [Act.put, List.setIfInBounds_toArray, List.set_cons_zero, List.set_cons_succ]
          rfl
        refine tk_ 39 (some 108) (bt 40 17) rfl rfl (by kernel_rfl) (fun _ _ _ h => h) (yieldsIf_tipb rfl (.tmp 14) rfl g0 rfl ta (fun W' h => (h.block _ (Array.getElem?_eq_some_iff.1 HS1.out.k0).1).trans HS1.out.k0)) hHeld (a' := ?_) ?_ ?_
        rotate_left
        · simp only [Act.put, List.setIfInBounds_toArray, List.set_cons_zero, List.set_cons_succ]
          rfl
        refine tk_ 40 (some 109) (bt 41 16) rfl rfl (by kernel_rfl) (fun _ _ _ h => h) (yieldsIf_tipb rfl (.tmp 15) rfl (g0 + 1) rfl tb (fun W' h => (h.block _ (Array.getElem?_eq_some_iff.1 HS1.out.k1).1).trans HS1.out.k1)) hHeld (a' := ?_) ?_ ?_
        rotate_left
        · simp only [Act.put, List.setIfInBounds_toArray, List.set_cons_zero, List.set_cons_succ]
          rfl
        refine tk_ 43 (some 112) #[true, true, true, true, true, true, true, true, true, true, true, true, true, true, true, true, true, true, true, true, true, true, true, true, true, true, true, true, true, true, true, true, true, true, true, true, true, true, true, true, true, false, false, true, false, false, false, false, false, false, false, false, false, false, false, false, false] (v := ?_) (a' := ?_) rfl rfl (by kernel_rfl) (fun _ _ _ h => h) (yieldsIf_run rfl ?_) hHeld ?_ ?_
        rotate_left
        · intro w'
          go_simp
          with_reducible rfl
        rotate_left
        · simp only [Act.put, List.setIfInBounds_toArray, List.set_cons_zero, List.set_cons_succ]
          rfl
        refine call_ 41 (some 110) #[true, true, true, true, true, true, true, true, true, true, true, true, true, true, true, true, true, true, true, true, true, true, true, true, true, true, true, true, true, true, true, true, true, true, true, true, true, true, true, true, true, true, false, true, false, false, false, false, false, false, false, false, false, false, false, false, false] rfl rfl (by kernel_rfl) rfl 64 _ (by kernel_rfl) (HC1.out _ hHeld) ?_
        rintro e v41 ⟨t41, rfl, ht41, hb41⟩
        have HB141 := Lib.hid (hHeld.trans (hb41.mono hHeld.size))
        have HT41 := Lib.hid ht41
        refine ⟨_, rfl, HB141.out, fun hHeld => ⟨?_, ?_, ?_⟩⟩
        rotate_left
        · simp only [Act.put, List.setIfInBounds_toArray, List.set_cons_zero, List.set_cons_succ]
          rfl
        refine call_ 42 (some 111) (bt 44 13) rfl rfl (by kernel_rfl) rfl 54 _ (by kernel_rfl) (HKC.out _ _ HT41.out) ?_
        rintro e v42 ⟨rfl, hb42⟩
        have HB142 := Lib.hid (hHeld.trans (hb42.mono hHeld.size))
        refine ⟨_, rfl, HB142.out, fun hHeld => ⟨?_, ?_, ?_⟩⟩
        rotate_left
        · simp only [Act.put, List.setIfInBounds_toArray, List.set_cons_zero, List.set_cons_succ]
          rfl
        refine call_ 44 (some 113) (bt 45 12) rfl rfl (by kernel_rfl) rfl 26 _ (by kernel_rfl) (HJC.out _ hHeld) ?_
        rintro e v44 ⟨rfl, rfl⟩
        refine ⟨_, rfl, hHeld, fun hHeld => ⟨?_, ?_, ?_⟩⟩
        rotate_left
        · simp only [Act.put, List.setIfInBounds_toArray, List.set_cons_zero, List.set_cons_succ]
          rfl
        refine tk_ 45 (some 114) (bt 46 11) (v := ?_) (a' := ?_) rfl rfl (by kernel_rfl) (fun _ _ _ h => h) (yieldsIf_run rfl ?_) hHeld ?_ ?_
        rotate_left
        · intro w'
          go_simp
          with_reducible rfl
        rotate_left
        · simp only [Act.put, List.setIfInBounds_toArray, List.set_cons_zero, List.set_cons_succ]
          rfl
        refine tk_ 46 (some 115) (bt 47 10) (v := ?_) (a' := ?_) rfl rfl (by kernel_rfl) (fun _ _ _ h => h) (yieldsIf_run rfl ?_) hHeld ?_ ?_
        rotate_left
        · intro w'
          go_simp
          with_reducible rfl
        rotate_left
        · simp only [Act.put, List.setIfInBounds_toArray, List.set_cons_zero, List.set_cons_succ]
          rfl
        refine tk_ 47 (some 116) (bt 48 9) (v := ?_) (a' := ?_) rfl rfl (by kernel_rfl) (fun _ _ _ h => h) (yieldsIf_run rfl ?_) hHeld ?_ ?_
        rotate_left
        · intro w'
          go_simp
          with_reducible rfl
        rotate_left
        · simp only [Act.put, List.setIfInBounds_toArray, List.set_cons_zero, List.set_cons_succ]
          rfl
        refine tk_ 48 (some 117) (bt 49 8) (v := ?_) (a' := ?_) rfl rfl (by kernel_rfl) (fun _ _ _ h => h) (yieldsIf_run rfl ?_) hHeld ?_ ?_
        rotate_left
        · intro w'
          go_simp
          with_reducible rfl
        rotate_left
        · simp only [Act.put, List.setIfInBounds_toArray, List.set_cons_zero, List.set_cons_succ]
          rfl
        refine tk_ 49 (some 118) (bt 50 7) rfl rfl (by kernel_rfl) (fun _ _ _ h => h) (yieldsIf_tipb rfl (.tmp 15) rfl (g0 + 1) rfl tb (fun W' h => (h.block _ (Array.getElem?_eq_some_iff.1 HS1.out.k1).1).trans HS1.out.k1)) hHeld (a' := ?_) ?_ ?_
        rotate_left
        · simp only [Act.put, List.setIfInBounds_toArray, List.set_cons_zero, List.set_cons_succ]
          rfl
        refine tk_ 50 (some 119) (bt 51 6) rfl rfl (by kernel_rfl) (fun _ _ _ h => h) (yieldsIf_tipb rfl (.tmp 14) rfl g0 rfl ta (fun W' h => (h.block _ (Array.getElem?_eq_some_iff.1 HS1.out.k0).1).trans HS1.out.k0)) hHeld (a' := ?_) ?_ ?_
        rotate_left
        · simp only [Act.put, List.setIfInBounds_toArray, List.set_cons_zero, List.set_cons_succ]
          rfl
        refine tk_ 53 (some 122) #[true, true, true, true, true, true, true, true, true, true, true, true, true, true, true, true, true, true, true, true, true, true, true, true, true, true, true, true, true, true, true, true, true, true, true, true, true, true, true, true, true, true, true, true, true, true, true, true, true, true, true, false, false, true, false, false, false] (v := ?_) (a' := ?_) rfl rfl (by kernel_rfl) (fun _ _ _ h => h) (yieldsIf_run rfl ?_) hHeld ?_ ?_
        rotate_left
        · intro w'
          go_simp
          with_reducible rfl
        rotate_left
        · simp only [Act.put, List.setIfInBounds_toArray, List.set_cons_zero, List.set_cons_succ]
          rfl
        refine call_ 51 (some 120) #[true, true, true, true, true, true, true, true, true, true, true, true, true, true, true, true, true, true, true, true, true, true, true, true, true, true, true, true, true, true, true, true, true, true, true, true, true, true, true, true, true, true, true, true, true, true, true, true, true, true, true, true, false, true, false, false, false] rfl rfl (by kernel_rfl) rfl 64 _ (by kernel_rfl) (HC2.out _ hHeld) ?_
        rintro e v51 ⟨t51, rfl, ht51, hb51⟩
        have HB151 := Lib.hid (hHeld.trans (hb51.mono hHeld.size))
        have HT51 := Lib.hid ht51
        refine ⟨_, rfl, HB151.out, fun hHeld => ⟨?_, ?_, ?_⟩⟩
        rotate_left
        · simp only [Act.put, List.setIfInBounds_toArray, List.set_cons_zero, List.set_cons_succ]
          rfl
        refine call_ 52 (some 121) (bt 54 3) rfl rfl (by kernel_rfl) rfl 54 _ (by kernel_rfl) (HKC.out _ _ HT51.out) ?_
        rintro e v52 ⟨rfl, hb52⟩
        have HB152 := Lib.hid (hHeld.trans (hb52.mono hHeld.size))
        refine ⟨_, rfl, HB152.out, fun hHeld => ⟨?_, ?_, ?_⟩⟩
        rotate_left
        · simp only [Act.put, List.setIfInBounds_toArray, List.set_cons_zero, List.set_cons_succ]
          rfl
        refine call_ 54 (some 123) (bt 55 2) rfl rfl (by kernel_rfl) rfl 26 _ (by kernel_rfl) (HJC.out _ hHeld) ?_
        rintro e v54 ⟨rfl, rfl⟩
        refine ⟨_, rfl, hHeld, fun hHeld => ⟨?_, ?_, ?_⟩⟩
        rotate_left
        · simp only [Act.put, List.setIfInBounds_toArray, List.set_cons_zero, List.set_cons_succ]
          rfl
        refine tk_ 55 (some 124) (bt 56 1) (v := ?_) (a' := ?_) rfl rfl (by kernel_rfl) (fun _ _ _ h => h) (yieldsIf_run rfl ?_) hHeld ?_ ?_
        rotate_left
        · intro w'
          go_simp
          with_reducible rfl
        rotate_left
        · simp only [Act.put, List.setIfInBounds_toArray, List.set_cons_zero, List.set_cons_succ]
          rfl
        refine tk_ 56 (some 125) (bt 57 0) (v := ?_) (a' := ?_) rfl rfl (by kernel_rfl) (fun _ _ _ h => h) (yieldsIf_run rfl ?_) hHeld ?_ ?_
        rotate_left
        · intro w'
          go_simp
          with_reducible rfl
        rotate_left
        · simp only [Act.put, List.setIfInBounds_toArray, List.set_cons_zero, List.set_cons_succ]
          rfl
        refine wpAnyH_done (by kernel_rfl) ?_ _
        change Exit.then _ _ _ _ _
        go_wp2
        go_meet
        case rel => exact ⟨rfl, HB152.out⟩
      | false =>
        refine st_ (S := (fun W' => Below w10.heap.size w10 W')) 57 (bt 0 57) (by kernel_rfl) rfl (by rfl) (Below.refl _ w10).drew (fun hHeld => ?_)
        refine tk_ 0 (some 69) (bt 1 56) (v := ?_) (a' := ?_) rfl rfl (by kernel_rfl) (fun _ _ _ h => h) (yieldsIf_run rfl ?_) hHeld ?_ ?_
        rotate_left
        · intro w'
          go_simp
          with_reducible rfl
        rotate_left
        · simp only [Act.put, List.setIfInBounds_toArray, List.set_cons_zero, List.set_cons_succ]
          rfl
        refine tk_ 1 (some 70) (bt 2 55) rfl rfl (by kernel_rfl) (fun _ _ _ h => h) (yieldsIf_tipb rfl (.tmp 14) rfl g0 rfl ta (fun W' h => (h.block _ (Array.getElem?_eq_some_iff.1 HS1.out.k0).1).trans HS1.out.k0)) hHeld (a' := ?_) ?_ ?_
        rotate_left
        · simp only [Act.put, List.setIfInBounds_toArray, List.set_cons_zero, List.set_cons_succ]
          rfl
        refine tk_ 2 (some 71) (bt 3 54) rfl rfl (by kernel_rfl) (fun _ _ _ h => h) (yieldsIf_tipb rfl (.tmp 15) rfl (g0 + 1) rfl tb (fun W' h => (h.block _ (Array.getElem?_eq_some_iff.1 HS1.out.k1).1).trans HS1.out.k1)) hHeld (a' := ?_) ?_ ?_
        rotate_left
        · simp only [Act.put, List.setIfInBounds_toArray, List.set_cons_zero, List.set_cons_succ]
          rfl
        refine tk_ 4 (some 73) #[true, true, true, false, true, false, false, false, false, false, false, false, false, false, false, false, false, false, false, false, false, false, false, false, false, false, false, false, false, false, false, false, false, false, false, false, false, false, false, false, false, false, false, false, false, false, false, false, false, false, false, false, false, false, false, false, false] (v := ?_) (a' := ?_) rfl rfl (by kernel_rfl) (fun _ _ _ h => h) (yieldsIf_run rfl ?_) hHeld ?_ ?_
        rotate_left
        · intro w'
          go_simp
          with_reducible rfl
        rotate_left
        · simp only [Act.put, List.setIfInBounds_toArray, List.set_cons_zero, List.set_cons_succ]
          rfl
        refine tk_ 5 (some 74) #[true, true, true, false, true, true, false, false, false, false, false, false, false, false, false, false, false, false, false, false, false, false, false, false, false, false, false, false, false, false, false, false, false, false, false, false, false, false, false, false, false, false, false, false, false, false, false, false, false, false, false, false, false, false, false, false, false] (v := ?_) (a' := ?_) rfl rfl (by kernel_rfl) (fun _ _ _ h => h) (yieldsIf_run rfl ?_) hHeld ?_ ?_
        rotate_left
        · intro w'
          go_simp
          with_reducible rfl
        rotate_left
        · simp only [Act.put, List.setIfInBounds_toArray, List.set_cons_zero, List.set_cons_succ]
          rfl
        refine tk_ 6 (some 75) #[true, true, true, false, true, true, true, false, false, false, false, false, false, false, false, false, false, false, false, false, false, false, false, false, false, false, false, false, false, false, false, false, false, false, false, false, false, false, false, false, false, false, false, false, false, false, false, false, false, false, false, false, false, false, false, false, false] (v := ?_) (a' := ?_) rfl rfl (by kernel_rfl) (fun _ _ _ h => h) (yieldsIf_run rfl ?_) hHeld ?_ ?_
        rotate_left
        · intro w'
          go_simp
          with_reducible rfl
        rotate_left
        · simp only [Act.put, List.setIfInBounds_toArray, List.set_cons_zero, List.set_cons_succ]
          rfl
        refine call_ 3 (some 72) (bt 7 50) rfl rfl (by kernel_rfl) rfl 51 _ (by kernel_rfl) (HD1.out _ hHeld) ?_
        rintro e v3 ⟨rfl, hb3⟩
        have HB103 := Lib.hid (hHeld.trans (hb3.mono hHeld.size))
        refine ⟨_, rfl, HB103.out, fun hHeld => ⟨?_, ?_, ?_⟩⟩
        rotate_left
        · simp only [Act.put, List.setIfInBounds_toArray, List.set_cons_zero, List.set_cons_succ]
          rfl
        refine call_ 7 (some 76) (bt 8 49) rfl rfl (by kernel_rfl) rfl 56 _ (by kernel_rfl) (HR1.out _ hHeld) ?_
        rintro e v7 ⟨rfl, hb7⟩
        have HB107 := Lib.hid (hHeld.trans (hb7.mono hHeld.size))
        refine ⟨_, rfl, HB107.out, fun hHeld => ⟨?_, ?_, ?_⟩⟩
        rotate_left
        · simp only [Act.put, List.setIfInBounds_toArray, List.set_cons_zero, List.set_cons_succ]
          rfl
        refine tk_ 8 (some 77) (bt 9 48) (v := ?_) (a' := ?_) rfl rfl (by kernel_rfl) (fun _ _ _ h => h) (yieldsIf_run rfl ?_) hHeld ?_ ?_
        rotate_left
        · intro w'
          go_simp
          with_reducible rfl
        rotate_left
        · simp only [Act.put, List.setIfInBounds_toArray, List.set_cons_zero, List.set_cons_succ]
          rfl
        refine tk_ 9 (some 78) (bt 10 47) (v := ?_) (a' := ?_) rfl rfl (by kernel_rfl) (fun _ _ _ h => h) (yieldsIf_run rfl ?_) hHeld ?_ ?_
        rotate_left
        · intro w'
          go_simp
          with_reducible rfl
        rotate_left
        · simp only [Act.put, List.setIfInBounds_toArray, List.set_cons_zero, List.set_cons_succ]
          rfl
        refine tk_ 10 (some 79) (bt 11 46) (v := ?_) (a' := ?_) rfl rfl (by kernel_rfl) (fun _ _ _ h => h) (yieldsIf_run rfl ?_) hHeld ?_ ?_
        rotate_left
        · intro w'
          go_simp
          with_reducible rfl
        rotate_left
        · simp only [Act.put, List.setIfInBounds_toArray, List.set_cons_zero, List.set_cons_succ]
          rfl
        refine tk_ 11 (some 80) (bt 12 45) rfl rfl (by kernel_rfl) (fun _ _ _ h => h) (yieldsIf_tipb rfl (.tmp 14) rfl g0 rfl ta (fun W' h => (h.block _ (Array.getElem?_eq_some_iff.1 HS1.out.k0).1).trans HS1.out.k0)) hHeld (a' := ?_) ?_ ?_
        rotate_left
        · simp only [Act.put, List.setIfInBounds_toArray, List.set_cons_zero, List.set_cons_succ]
          rfl
        refine tk_ 12 (some 81) (bt 13 44) rfl rfl (by kernel_rfl) (fun _ _ _ h => h) (yieldsIf_tipb rfl (.tmp 15) rfl (g0 + 1) rfl tb (fun W' h => (h.block _ (Array.getElem?_eq_some_iff.1 HS1.out.k1).1).trans HS1.out.k1)) hHeld (a' := ?_) ?_ ?_
        rotate_left
        · simp only [Act.put, List.setIfInBounds_toArray, List.set_cons_zero, List.set_cons_succ]
          rfl
        refine tk_ 14 (some 83) #[true, true, true, true, true, true, true, true, true, true, true, true, true, false, true, false, false, false, false, false, false, false, false, false, false, false, false, false, false, false, false, false, false, false, false, false, false, false, false, false, false, false, false, false, false, false, false, false, false, false, false, false, false, false, false, false, false] (v := ?_) (a' := ?_) rfl rfl (by kernel_rfl) (fun _ _ _ h => h) (yieldsIf_run rfl ?_) hHeld ?_ ?_
        rotate_left
        · intro w'
          go_simp
          with_reducible rfl
        rotate_left
        · simp only [Act.put, List.setIfInBounds_toArray, List.set_cons_zero, List.set_cons_succ]
          rfl
        refine tk_ 15 (some 84) #[true, true, true, true, true, true, true, true, true, true, true, true, true, false, true, true, false, false, false, false, false, false, false, false, false, false, false, false, false, false, false, false, false, false, false, false, false, false, false, false, false, false, false, false, false, false, false, false, false, false, false, false, false, false, false, false, false] (v := ?_) (a' := ?_) rfl rfl (by kernel_rfl) (fun _ _ _ h => h) (yieldsIf_run rfl ?_) hHeld ?_ ?_
        rotate_left
        · intro w'
          go_simp
          with_reducible rfl
        rotate_left
        · simp only [Act.put, List.setIfInBounds_toArray, List.set_cons_zero, List.set_cons_succ]
          rfl
        refine tk_ 16 (some 85) #[true, true, true, true, true, true, true, true, true, true, true, true, true, false, true, true, true, false, false, false, false, false, false, false, false, false, false, false, false, false, false, false, false, false, false, false, false, false, false, false, false, false, false, false, false, false, false, false, false, false, false, false, false, false, false, false, false] (v := ?_) (a' := ?_) rfl rfl (by kernel_rfl) (fun _ _ _ h => h) (yieldsIf_run rfl ?_) hHeld ?_ ?_
        rotate_left
        · intro w'
          go_simp
          with_reducible rfl
        rotate_left
        · simp only [Act.put, List.setIfInBounds_toArray, List.set_cons_zero, List.set_cons_succ]
          rfl
        refine call_ 13 (some 82) (bt 17 40) rfl rfl (by kernel_rfl) rfl 48 _ (by kernel_rfl) (HO1.out _ hHeld) ?_
        rintro e v13 ⟨rfl, hb13⟩
        have HB113 := Lib.hid (hHeld.trans (hb13.mono hHeld.size))
        refine ⟨_, rfl, HB113.out, fun hHeld => ⟨?_, ?_, ?_⟩⟩
        rotate_left
        · simp only [Act.put, List.setIfInBounds_toArray, List.set_cons_zero, List.set_cons_succ]
          rfl
        refine call_ 17 (some 86) (bt 18 39) rfl rfl (by kernel_rfl) rfl 56 _ (by kernel_rfl) (HR1.out _ hHeld) ?_
        rintro e v17 ⟨rfl, hb17⟩
        have HB117 := Lib.hid (hHeld.trans (hb17.mono hHeld.size))
        refine ⟨_, rfl, HB117.out, fun hHeld => ⟨?_, ?_, ?_⟩⟩
        rotate_left
        · simp only [Act.put, List.setIfInBounds_toArray, List.set_cons_zero, List.set_cons_succ]
          rfl
        refine tk_ 18 (some 87) (bt 19 38) (v := ?_) (a' := ?_) rfl rfl (by kernel_rfl) (fun _ _ _ h => h) (yieldsIf_run rfl ?_) hHeld ?_ ?_
        rotate_left
        · intro w'
          go_simp
          with_reducible rfl
        rotate_left
        · simp only [Act.put, List.setIfInBounds_toArray, List.set_cons_zero, List.set_cons_succ]
          rfl
        refine tk_ 19 (some 88) (bt 20 37) (v := ?_) (a' := ?_) rfl rfl (by kernel_rfl) (fun _ _ _ h => h) (yieldsIf_run rfl ?_) hHeld ?_ ?_
        rotate_left
        · intro w'
          go_simp
          with_reducible rfl
        rotate_left
        · simp only [Act.put, List.setIfInBounds_toArray, List.set_cons_zero, List.set_cons_succ]
          rfl
        refine tk_ 20 (some 89) (bt 21 36) (v := ?_) (a' := ?_) rfl rfl (by kernel_rfl) (fun _ _ _ h => h) (yieldsIf_run rfl ?_) hHeld ?_ ?_
        rotate_left
        · intro w'
          go_simp
          with_reducible rfl
        rotate_left
        · simp only [Act.put, List.setIfInBounds_toArray, List.set_cons_zero, List.set_cons_succ]
          rfl
        refine tk_ 21 (some 90) (bt 22 35) (v := ?_) (a' := ?_) rfl rfl (by kernel_rfl) (fun _ _ _ h => h) (yieldsIf_run rfl ?_) hHeld ?_ ?_
        rotate_left
        · intro w'
          go_simp
          with_reducible rfl
        rotate_left
        · simp only [Act.put, List.setIfInBounds_toArray, List.set_cons_zero, List.set_cons_succ]
          rfl
        refine call_ 22 (some 91) (bt 23 34) rfl rfl (by kernel_rfl) rfl 56 _ (by kernel_rfl) (HR2.out _ hHeld) ?_
        rintro e v22 ⟨rfl, hb22⟩
        have HB122 := Lib.hid (hHeld.trans (hb22.mono hHeld.size))
        refine ⟨_, rfl, HB122.out, fun hHeld => ⟨?_, ?_, ?_⟩⟩
        rotate_left
        · simp only [Act.put, List.setIfInBounds_toArray, List.set_cons_zero, List.set_cons_succ]
          rfl
        refine tk_ 23 (some 92) (bt 24 33) (v := ?_) (a' := ?_) rfl rfl (by kernel_rfl) (fun _ _ _ h => h) (yieldsIf_run rfl ?_) hHeld ?_ ?_
        rotate_left
        · intro w'
          go_simp
          with_reducible rfl
        rotate_left
        · simp only [Act.put, List.setIfInBounds_toArray, List.set_cons_zero, List.set_cons_succ]
          rfl
        refine tk_ 24 (some 93) (bt 25 32) (v := ?_) (a' := ?_) rfl rfl (by kernel_rfl) (fun _ _ _ h => h) (yieldsIf_run rfl ?_) hHeld ?_ ?_
        rotate_left
        · intro w'
          go_simp
          with_reducible rfl
        rotate_left
        · simp only [Act.put, List.setIfInBounds_toArray, List.set_cons_zero, List.set_cons_succ]
          rfl
        refine tk_ 25 (some 94) (bt 26 31) (v := ?_) (a' := ?_) rfl rfl (by kernel_rfl) (fun _ _ _ h => h) (yieldsIf_run rfl ?_) hHeld ?_ ?_
        rotate_left
        · intro w'
          go_simp
          with_reducible rfl
        rotate_left
        · simp only [Act.put, List.setIfInBounds_toArray, List.set_cons_zero, List.set_cons_succ]
          rfl
        refine tk_ 26 (some 95) (bt 27 30) (v := ?_) (a' := ?_) rfl rfl (by kernel_rfl) (fun _ _ _ h => h) (yieldsIf_run rfl ?_) hHeld ?_ ?_
        rotate_left
        · intro w'
          go_simp
          with_reducible rfl
        rotate_left
        · simp only [Act.put, List.setIfInBounds_toArray, List.set_cons_zero, List.set_cons_succ]
          rfl
        refine tk_ 27 (some 96) (bt 28 29) (v := ?_) (a' := ?_) rfl rfl (by kernel_rfl) (fun _ _ _ h => h) (yieldsIf_run rfl ?_) hHeld ?_ ?_
        rotate_left
        · intro w'
          go_simp
          with_reducible rfl
        rotate_left
        · simp only [Act.put, List.setIfInBounds_toArray, List.set_cons_zero, List.set_cons_succ]
          rfl
        refine tk_ 28 (some 97) (bt 29 28) rfl rfl (by kernel_rfl) (fun _ _ _ h => h) (yieldsIf_tipb rfl (.tmp 15) rfl (g0 + 1) rfl tb (fun W' h => (h.block _ (Array.getElem?_eq_some_iff.1 HS1.out.k1).1).trans HS1.out.k1)) hHeld (a' := ?_) ?_ ?_
        rotate_left
        · simp only [Act.put, List.setIfInBounds_toArray, List.set_cons_zero, List.set_cons_succ]
          rfl
        refine tk_ 29 (some 98) (bt 30 27) rfl rfl (by kernel_rfl) (fun _ _ _ h => h) (yieldsIf_tipb rfl (.tmp 14) rfl g0 rfl ta (fun W' h => (h.block _ (Array.getElem?_eq_some_iff.1 HS1.out.k0).1).trans HS1.out.k0)) hHeld (a' := ?_) ?_ ?_
        rotate_left
        · simp only [Act.put, List.setIfInBounds_toArray, List.set_cons_zero, List.set_cons_succ]
          rfl
        refine tk_ 31 (some 100) #[true, true, true, true, true, true, true, true, true, true, true, true, true, true, true, true, true, true, true, true, true, true, true, true, true, true, true, true, true, true, false, true, false, false, false, false, false, false, false, false, false, false, false, false, false, false, false, false, false, false, false, false, false, false, false, false, false] (v := ?_) (a' := ?_) rfl rfl (by kernel_rfl) (fun _ _ _ h => h) (yieldsIf_run rfl ?_) hHeld ?_ ?_
        rotate_left
        · intro w'
          go_simp
          with_reducible rfl
        rotate_left
        · simp only [Act.put, List.setIfInBounds_toArray, List.set_cons_zero, List.set_cons_succ]
          rfl
        refine tk_ 32 (some 101) #[true, true, true, true, true, true, true, true, true, true, true, true, true, true, true, true, true, true, true, true, true, true, true, true, true, true, true, true, true, true, false, true, true, false, false, false, false, false, false, false, false, false, false, false, false, false, false, false, false, false, false, false, false, false, false, false, false] rfl rfl (by kernel_rfl) (fun _ _ _ h => h) (yieldsIf_tipb rfl (.tmp 14) rfl g0 rfl ta (fun W' h => (h.block _ (Array.getElem?_eq_some_iff.1 HS1.out.k0).1).trans HS1.out.k0)) hHeld (a' := ?_) ?_ ?_
        rotate_left
        · simp only [Act.put, List.setIfInBounds_toArray, List.set_cons_zero, List.set_cons_succ]
          rfl
        refine tk_ 33 (some 102) #[true, true, true, true, true, true, true, true, true, true, true, true, true, true, true, true, true, true, true, true, true, true, true, true, true, true, true, true, true, true, false, true, true, true, false, false, false, false, false, false, false, false, false, false, false, false, false, false, false, false, false, false, false, false, false, false, false] rfl rfl (by kernel_rfl) (fun _ _ _ h => h) (yieldsIf_tipb rfl (.tmp 15) rfl (g0 + 1) rfl tb (fun W' h => (h.block _ (Array.getElem?_eq_some_iff.1 HS1.out.k1).1).trans HS1.out.k1)) hHeld (a' := ?_) ?_ ?_
        rotate_left
        · simp only [Act.put, List.setIfInBounds_toArray, List.set_cons_zero, List.set_cons_succ]
          rfl
        refine call_ 30 (some 99) (bt 34 23) rfl rfl (by kernel_rfl) rfl 48 _ (by kernel_rfl) (HO2.out _ hHeld) ?_
        rintro e v30 ⟨rfl, hb30⟩
        have HB130 := Lib.hid (hHeld.trans (hb30.mono hHeld.size))
        refine ⟨_, rfl, HB130.out, fun hHeld => ⟨?_, ?_, ?_⟩⟩
        rotate_left
        · simp only [Act.put, List.setIfInBounds_toArray, List.set_cons_zero, List.set_cons_succ]
          rfl
        refine call_ 34 (some 103) (bt 35 22) rfl rfl (by kernel_rfl) rfl 48 _ (by kernel_rfl) (HO1.out _ hHeld) ?_
        rintro e v34 ⟨rfl, hb34⟩
        have HB134 := Lib.hid (hHeld.trans (hb34.mono hHeld.size))
        refine ⟨_, rfl, HB134.out, fun hHeld => ⟨?_, ?_, ?_⟩⟩
        rotate_left
        · simp only [Act.put, List.setIfInBounds_toArray, List.set_cons_zero, List.set_cons_succ]
          rfl
        refine tk_ 35 (some 104) (bt 36 21) (v := ?_) (a' := ?_) rfl rfl (by kernel_rfl) (fun _ _ _ h => h) (yieldsIf_run rfl ?_) hHeld ?_ ?_
        rotate_left
        · intro w'
          go_simp
          with_reducible rfl
        rotate_left
        · simp only [Act.put, List.setIfInBounds_toArray, List.set_cons_zero, List.set_cons_succ]
          rfl
        refine tk_ 36 (some 105) (bt 37 20) (v := ?_) (a' := ?_) rfl rfl (by kernel_rfl) (fun _ _ _ h => h) (yieldsIf_run rfl ?_) hHeld ?_ ?_
        rotate_left
        · intro w'
          go_simp
          with_reducible rfl
        rotate_left
        · simp only [Act.put, List.setIfInBounds_toArray, List.set_cons_zero, List.set_cons_succ]
          rfl
        refine tk_ 37 (some 106) (bt 38 19) (v := ?_) (a' := ?_) rfl rfl (by kernel_rfl) (fun _ _ _ h => h) (yieldsIf_run rfl ?_) hHeld ?_ ?_
        rotate_left
        · intro w'
          go_simp
          with_reducible rfl
        rotate_left
        · simp only [Act.put, List.setIfInBounds_toArray, List.set_cons_zero, List.set_cons_succ]
          rfl
        refine tk_ 38 (some 107) (bt 39 18) (v := ?_) (a' := ?_) rfl rfl (by kernel_rfl) (fun _ _ _ h => h) (yieldsIf_run rfl ?_) hHeld ?_ ?_
        rotate_left
        · intro w'
          go_simp
          with_reducible rfl
        rotate_left
        · simp only [Act.put, List.setIfInBounds_toArray, List.set_cons_zero, List.set_cons_succ]
          rfl
        refine tk_ 39 (some 108) (bt 40 17) rfl rfl (by kernel_rfl) (fun _ _ _ h => h) (yieldsIf_tipb rfl (.tmp 14) rfl g0 rfl ta (fun W' h => (h.block _ (Array.getElem?_eq_some_iff.1 HS1.out.k0).1).trans HS1.out.k0)) hHeld (a' := ?_) ?_ ?_
        rotate_left
        · simp only [Act.put, List.setIfInBounds_toArray, List.set_cons_zero, List.set_cons_succ]
          rfl
        refine tk_ 40 (some 109) (bt 41 16) rfl rfl (by kernel_rfl) (fun _ _ _ h => h) (yieldsIf_tipb rfl (.tmp 15) rfl (g0 + 1) rfl tb (fun W' h => (h.block _ (Array.getElem?_eq_some_iff.1 HS1.out.k1).1).trans HS1.out.k1)) hHeld (a' := ?_) ?_ ?_
        rotate_left
        · simp only [Act.put, List.setIfInBounds_toArray, List.set_cons_zero, List.set_cons_succ]
          rfl
        refine tk_ 43 (some 112) #[true, true, true, true, true, true, true, true, true, true, true, true, true, true, true, true, true, true, true, true, true, true, true, true, true, true, true, true, true, true, true, true, true, true, true, true, true, true, true, true, true, false, false, true, false, false, false, false, false, false, false, false, false, false, false, false, false] (v := ?_) (a' := ?_) rfl rfl (by kernel_rfl) (fun _ _ _ h => h) (yieldsIf_run rfl ?_) hHeld ?_ ?_
        rotate_left
        · intro w'
          go_simp
          with_reducible rfl
        rotate_left
        · simp only [Act.put, List.setIfInBounds_toArray, List.set_cons_zero, List.set_cons_succ]
          rfl
        refine call_ 41 (some 110) #[true, true, true, true, true, true, true, true, true, true, true, true, true, true, true, true, true, true, true, true, true, true, true, true, true, true, true, true, true, true, true, true, true, true, true, true, true, true, true, true, true, true, false, true, false, false, false, false, false, false, false, false, false, false, false, false, false] rfl rfl (by kernel_rfl) rfl 64 _ (by kernel_rfl) (HC1.out _ hHeld) ?_
        rintro e v41 ⟨t41, rfl, ht41, hb41⟩
        have HB141 := Lib.hid (hHeld.trans (hb41.mono hHeld.size))
        have HT41 := Lib.hid ht41
        refine ⟨_, rfl, HB141.out, fun hHeld => ⟨?_, ?_, ?_⟩⟩
        rotate_left
        · simp only [Act.put, List.setIfInBounds_toArray, List.set_cons_zero, List.set_cons_succ]
          rfl
        refine call_ 42 (some 111) (bt 44 13) rfl rfl (by kernel_rfl) rfl 54 _ (by kernel_rfl) (HKC.out _ _ HT41.out) ?_
        rintro e v42 ⟨rfl, hb42⟩
        have HB142 := Lib.hid (hHeld.trans (hb42.mono hHeld.size))
        refine ⟨_, rfl, HB142.out, fun hHeld => ⟨?_, ?_, ?_⟩⟩
        rotate_left
        · simp only [Act.put, List.setIfInBounds_toArray, List.set_cons_zero, List.set_cons_succ]
          rfl
        refine call_ 44 (some 113) (bt 45 12) rfl rfl (by kernel_rfl) rfl 26 _ (by kernel_rfl) (HJC.out _ hHeld) ?_
        rintro e v44 ⟨rfl, rfl⟩
        refine ⟨_, rfl, hHeld, fun hHeld => ⟨?_, ?_, ?_⟩⟩
        rotate_left
        · simp only [Act.put, List.setIfInBounds_toArray, List.set_cons_zero, List.set_cons_succ]
          rfl
        refine tk_ 45 (some 114) (bt 46 11) (v := ?_) (a' := ?_) rfl rfl (by kernel_rfl) (fun _ _ _ h => h) (yieldsIf_run rfl ?_) hHeld ?_ ?_
        rotate_left
        · intro w'
          go_simp
          with_reducible rfl
        rotate_left
        · simp only [Act.put, List.setIfInBounds_toArray, List.set_cons_zero, List.set_cons_succ]
          rfl
        refine tk_ 46 (some 115) (bt 47 10) (v := ?_) (a' := ?_) rfl rfl (by kernel_rfl) (fun _ _ _ h => h) (yieldsIf_run rfl ?_) hHeld ?_ ?_
        rotate_left
        · intro w'
          go_simp
          with_reducible rfl
        rotate_left
        · simp only [Act.put, List.setIfInBounds_toArray, List.set_cons_zero, List.set_cons_succ]
          rfl
        refine tk_ 47 (some 116) (bt 48 9) (v := ?_) (a' := ?_) rfl rfl (by kernel_rfl) (fun _ _ _ h => h) (yieldsIf_run rfl ?_) hHeld ?_ ?_
        rotate_left
        · intro w'
          go_simp
          with_reducible rfl
        rotate_left
        · simp only [Act.put, List.setIfInBounds_toArray, List.set_cons_zero, List.set_cons_succ]
          rfl
        refine tk_ 48 (some 117) (bt 49 8) (v := ?_) (a' := ?_) rfl rfl (by kernel_rfl) (fun _ _ _ h => h) (yieldsIf_run rfl ?_) hHeld ?_ ?_
        rotate_left
        · intro w'
          go_simp
          with_reducible rfl
        rotate_left
        · simp only [Act.put, List.setIfInBounds_toArray, List.set_cons_zero, List.set_cons_succ]
          rfl
        refine tk_ 49 (some 118) (bt 50 7) rfl rfl (by kernel_rfl) (fun _ _ _ h => h) (yieldsIf_tipb rfl (.tmp 15) rfl (g0 + 1) rfl tb (fun W' h => (h.block _ (Array.getElem?_eq_some_iff.1 HS1.out.k1).1).trans HS1.out.k1)) hHeld (a' := ?_) ?_ ?_
        rotate_left
        · simp only [Act.put, List.setIfInBounds_toArray, List.set_cons_zero, List.set_cons_succ]
          rfl
        refine tk_ 50 (some 119) (bt 51 6) rfl rfl (by kernel_rfl) (fun _ _ _ h => h) (yieldsIf_tipb rfl (.tmp 14) rfl g0 rfl ta (fun W' h => (h.block _ (Array.getElem?_eq_some_iff.1 HS1.out.k0).1).trans HS1.out.k0)) hHeld (a' := ?_) ?_ ?_
        rotate_left
        · simp only [Act.put, List.setIfInBounds_toArray, List.set_cons_zero, List.set_cons_succ]
          rfl
        refine tk_ 53 (some 122) #[true, true, true, true, true, true, true, true, true, true, true, true, true, true, true, true, true, true, true, true, true, true, true, true, true, true, true, true, true, true, true, true, true, true, true, true, true, true, true, true, true, true, true, true, true, true, true, true, true, true, true, false, false, true, false, false, false] (v := ?_) (a' := ?_) rfl rfl (by kernel_rfl) (fun _ _ _ h => h) (yieldsIf_run rfl ?_) hHeld ?_ ?_
        rotate_left
        · intro w'
          go_simp
          with_reducible rfl
        rotate_left
        · simp only [Act.put, List.setIfInBounds_toArray, List.set_cons_zero, List.set_cons_succ]
          rfl
        refine call_ 51 (some 120) #[true, true, true, true, true, true, true, true, true, true, true, true, true, true, true, true, true, true, true, true, true, true, true, true, true, true, true, true, true, true, true, true, true, true, true, true, true, true, true, true, true, true, true, true, true, true, true, true, true, true, true, true, false, true, false, false, false] rfl rfl (by kernel_rfl) rfl 64 _ (by kernel_rfl) (HC2.out _ hHeld) ?_
        rintro e v51 ⟨t51, rfl, ht51, hb51⟩
        have HB151 := Lib.hid (hHeld.trans (hb51.mono hHeld.size))
        have HT51 := Lib.hid ht51
        refine ⟨_, rfl, HB151.out, fun hHeld => ⟨?_, ?_, ?_⟩⟩
        rotate_left
        · simp only [Act.put, List.setIfInBounds_toArray, List.set_cons_zero, List.set_cons_succ]
          rfl
        refine call_ 52 (some 121) (bt 54 3) rfl rfl (by kernel_rfl) rfl 54 _ (by kernel_rfl) (HKC.out _ _ HT51.out) ?_
        rintro e v52 ⟨rfl, hb52⟩
        have HB152 := Lib.hid (hHeld.trans (hb52.mono hHeld.size))
        refine ⟨_, rfl, HB152.out, fun hHeld => ⟨?_, ?_, ?_⟩⟩
        rotate_left
        · simp only [Act.put, List.setIfInBounds_toArray, List.set_cons_zero, List.set_cons_succ]
          rfl
        refine call_ 54 (some 123) (bt 55 2) rfl rfl (by kernel_rfl) rfl 26 _ (by kernel_rfl) (HJC.out _ hHeld) ?_
        rintro e v54 ⟨rfl, rfl⟩
        refine ⟨_, rfl, hHeld, fun hHeld => ⟨?_, ?_, ?_⟩⟩
        rotate_left
        · simp only [Act.put, List.setIfInBounds_toArray, List.set_cons_zero, List.set_cons_succ]
          rfl
        refine tk_ 55 (some 124) (bt 56 1) (v := ?_) (a' := ?_) rfl rfl (by kernel_rfl) (fun _ _ _ h => h) (yieldsIf_run rfl ?_) hHeld ?_ ?_
        rotate_left
        · intro w'
          go_simp
          with_reducible rfl
        rotate_left
        · simp only [Act.put, List.setIfInBounds_toArray, List.set_cons_zero, List.set_cons_succ]
          rfl
        refine tk_ 56 (some 125) (bt 57 0) (v := ?_) (a' := ?_) rfl rfl (by kernel_rfl) (fun _ _ _ h => h) (yieldsIf_run rfl ?_) hHeld ?_ ?_
        rotate_left
        · intro w'
          go_simp
          with_reducible rfl
        rotate_left
        · simp only [Act.put, List.setIfInBounds_toArray, List.set_cons_zero, List.set_cons_succ]
          rfl
        refine wpAnyH_done (by kernel_rfl) ?_ _
        change Exit.then _ _ _ _ _
        go_wp2
        go_meet
        case rel => exact ⟨rfl, HB152.out⟩
  case rest =>
  rename World => W11
  obtain ⟨rfl, hcut⟩ := hcut
  have HB11 := Lib.hid hcut
  clear hcut
  go_upto_region 17 with (first
    | (refine wpl_tip rfl _ rfl _ rfl _ ((HB11.out.block _ (Array.getElem?_eq_some_iff.1 HS1.out.k0).1).trans HS1.out.k0) ?_)
    | (refine wpl_tip rfl _ rfl _ rfl _ ((HB11.out.block _ (Array.getElem?_eq_some_iff.1 HS1.out.k1).1).trans HS1.out.k1) ?_)
    | (go_at_call 62; go_loud (refine (HBT.out _ HB11.out).mono ?_); rintro e w12 ⟨dv, uv, ds, us, rfl, hd, hu, hde, hue, hb⟩; obtain ⟨Ad, cd, rfl, -, -⟩ := hd.row.form; obtain ⟨Au, cu, rfl, -, -⟩ := hu.row.form; have HDU := Lib.hid (And.intro (hd.mono (ok' := fun _ => True) fun _ _ => trivial) (hu.mono (ok' := fun _ => True) fun _ _ => trivial)); have HDE := Lib.hid (And.intro hde hue); have HB12 := Lib.hid (HB11.out.trans (hb.mono HB11.out.size)); clear hd hu hde hue hb)
    | (go_at_call 67; refine (HAW.out _ HB13.out).mono ?_; rintro e w14 ⟨v2, rfl, ys, hys, hm2⟩; obtain ⟨Ay, cy, rfl, -⟩ := own_slice hys.own; have HYS := Lib.hid hys; have HM2 := Lib.hid hm2; clear hys hm2)
    | (go_at_call 67; refine (HAV.out _ HB12.out).mono ?_; rintro e w13 ⟨v1, rfl, xs, hxs, hm1⟩; obtain ⟨Ax, cx, rfl, -⟩ := own_slice hxs.own; have HXS := Lib.hid hxs; have HM1 := Lib.hid hm1; have HB13 := Lib.hid (HB12.out.trans (hxs.below.mono HB12.out.size)); clear hxs hm1))
  have HR : Hid (TwR w14 D (.slice Ad ds.length cd) (.slice Au us.length cu) ds us (.slice Ax xs.length cx) (.slice Ay ys.length cy) xs ys) := Lib.hid (by
    have h3 := HXS.out.below
    have h4 := HYS.out.below
    exact ⟨(HDU.out.1.below h3).below h4, (HDU.out.2.below h3).below h4, Sl.mono (Sl.below (Sl.of_own (E := nsE) HXS.out.own) h4) fun _ _ => trivial, Sl.mono (Sl.of_own (E := nsE) HYS.out.own) fun _ _ => trivial, fun x hx => Sl.mono (Sl.below (HXS.out.at_ x hx) h4) fun _ _ => trivial, fun x hx => Sl.mono (HYS.out.at_ x hx) fun _ _ => trivial⟩)
  have HBE : Hid (Below w.heap.size w w14) := Lib.hid (HS1.out.below.trans ((HB13.out.trans (HYS.out.below.mono HB13.out.size)).mono HS1.out.below.size))
  have hl1 : ds.length = xs.length := by have h1 := congrArg List.length HDE.out.1; have h2 := congrArg List.length HM1.out; simp at h1 h2; omega
  have hl2 : us.length = ys.length := by have h1 := congrArg List.length HDE.out.2; have h2 := congrArg List.length HM2.out; simp at h1 h2; omega
  have hsm : us.length ≤ 1000000 := by
    have h1 := congrArg List.length HDE.out.2
    have h2 := (above_all GG (C := C) TB).1
    simp at h1
    have h3 : (hdrs D).length = D.length := by simp [hdrs]
    omega
  have hsd : ds.length ≤ 1000000 := by
    have h1 := congrArg List.length HDE.out.1
    have h2 := (above_all GG (C := C) TA).1
    simp at h1
    have h3 : (hdrs D).length = D.length := by simp [hdrs]
    omega
  have HTY : Hid (∀ E ∈ aboveG (hdrs D) A C, TipOf (hdrs D) E) := Lib.hid (above_all GG TA).2
  have HTU : Hid (∀ E ∈ aboveG (hdrs D) B C, TipOf (hdrs D) E) := Lib.hid (above_all GG TB).2
  clear HXS HYS HDU HB11 HB12 HB13 HBT HAV HAW HS1 HZ HZN HZI HD1 HO1 HO2 HR1 HR2 HC1 HC2 HKC HJC
  go_wp2
  go_loopw [21, 155] (fun _ c155 W => ∃ i : Nat, i ≤ ds.length ∧ c155 = .int .i64 (i : Int) ∧ Below w14.heap.size w14 W) (fun _ c155 _ => ds.length - (intOf c155).toNat)
  case atStart => exact ⟨0, by omega, rfl, Below.refl _ _⟩
  case round =>
    obtain ⟨i, hi, rfl, hbi⟩ := hrel
    have HBI := Lib.hid hbi
    clear hbi
    by_cases hil : i < ds.length
    · have hil2 : i < xs.length := by omega
      obtain ⟨dx, hdx⟩ : ∃ dx, ds[i]? = some dx := ⟨_, List.getElem?_eq_getElem hil⟩
      obtain ⟨nx, hnx⟩ : ∃ nx, xs[i]? = some nx := ⟨_, List.getElem?_eq_getElem hil2⟩
      obtain ⟨E, hE, hnE⟩ := map_nth HM1.out hnx
      have hdE : dx.2 = E := by
        have h1 : (ds.map Prod.snd)[i]? = some dx.2 := by rw [List.getElem?_map, hdx]; rfl
        rw [HDE.out.1, hE] at h1
        exact (Option.some.inj h1).symm
      have hTE := HTY.out E (List.mem_of_getElem? hE)
      have HDX := Lib.hid (HR.out.down.is dx (List.mem_of_getElem? hdx)).1
      have HNX := Lib.hid (HR.out.a1 nx (List.mem_of_getElem? hnx))
      have HNE : Hid (NamT (hdrs D) nx.ns E) := Lib.hid ⟨hTE, hnE⟩
      rw [hdE] at HDX
      obtain ⟨bd, od, rfl, -, -, hcd⟩ := HR.out.down.row.at_ i dx hdx
      obtain ⟨bn, on, rfl, -, -, hcn⟩ := HR.out.r1.at_ i nx hnx
      have HCD : Hid (w14.cell? ⟨bd, od + i, none⟩ = some dx.1) := Lib.hid (by have := hcd 0 _ rfl; rw [if_pos (HDX.out.one dx.1 (by simp))] at this; simpa [show tpE.k = 1 from rfl] using this)
      have HCN : Hid (w14.cell? ⟨bn, on + i, none⟩ = some nx.v) := Lib.hid (by have := hcn 0 _ rfl; rwa [Nat.add_zero, show nsE.k = 1 from rfl, Nat.mul_one] at this)
      obtain ⟨ke, hke⟩ : ∃ ke, keyB E = ke := ⟨_, rfl⟩
      have HKE : Hid (∀ W', Below w14.heap.size w14 W' → Calls Tryz.prog 54 #[tipV dx.1] W' fun e w' => e = .returned (.string ke) ∧ Below W'.heap.size W' w') := Lib.hid fun W' hb => by rw [← hke]; exact key_is (HDX.out.below hb) (.inr hTE)
      have HJE : Hid (∀ W', Below w14.heap.size w14 W' → Calls Tryz.prog 26 #[nx.v] W' fun e w' => e = .returned (.string ke) ∧ W' = w') := Lib.hid fun W' hb => by rw [← hke]; exact join_named W' nx _ (Sl.below HNX.out hb) HNE.out
      clear hdx hnx hE hnE hdE hTE hcd hcn hke
      go_upto_region 22 with fail
      refine st_ (S := (fun W' => Below w14.heap.size w14 W')) 11 (bt 0 11) (by kernel_rfl) rfl (by rfl) (HBI.out.drew) (fun hHeld => ?_)
      refine tk_ 0 (some 158) (bt 1 10) (v := ?_) (a' := ?_) rfl rfl (by kernel_rfl) (fun _ _ _ h => h) (yieldsIf_run rfl ?_) hHeld ?_ ?_
      rotate_left
      · intro w'
        go_simp
        with_reducible rfl
      rotate_left
      · simp only [Act.put, List.setIfInBounds_toArray, List.set_cons_zero, List.set_cons_succ]
        rfl
      refine tk_ 1 (some 159) (bt 2 9) (v := ?_) (a' := ?_) rfl rfl (by kernel_rfl) (fun _ _ _ h => h) (yieldsIf_run rfl ?_) hHeld ?_ ?_
      rotate_left
      · intro w'
        go_simp
        with_reducible rfl
      rotate_left
      · simp only [Act.put, List.setIfInBounds_toArray, List.set_cons_zero, List.set_cons_succ]
        rfl
      refine tk_ 2 (some 160) (bt 3 8) (v := ?_) (a' := ?_) rfl rfl (by kernel_rfl) (fun _ _ _ h => h) (yieldsIf_run rfl ?_) hHeld ?_ ?_
      rotate_left
      · intro w'
        go_simp
        with_reducible rfl
      rotate_left
      · simp only [Act.put, List.setIfInBounds_toArray, List.set_cons_zero, List.set_cons_succ]
        rfl
      refine tk_ 3 (some 161) (bt 4 7) rfl rfl (by kernel_rfl) (fun _ _ _ h => h) (yieldsIf_load rfl 52 (.tmp 160) rfl bd (od + i) rfl [dx.1] _ (fun W' h j u hu => by cases j with | zero => injection hu with hu; subst hu; exact (h.cell (cell_lt HCD.out)).trans HCD.out | succ j => cases hu) Tryz.underlying52 rfl tip_size) hHeld (a' := ?_) ?_ ?_
      rotate_left
      · simp only [Act.put, List.setIfInBounds_toArray, List.set_cons_zero, List.set_cons_succ]
        rfl
      refine tk_ 5 (some 163) #[true, true, true, true, false, true, false, false, false, false, false] (v := ?_) (a' := ?_) rfl rfl (by kernel_rfl) (fun _ _ _ h => h) (yieldsIf_run rfl ?_) hHeld ?_ ?_
      rotate_left
      · intro w'
        go_simp
        with_reducible rfl
      rotate_left
      · simp only [Act.put, List.setIfInBounds_toArray, List.set_cons_zero, List.set_cons_succ]
        rfl
      refine tk_ 6 (some 164) #[true, true, true, true, false, true, true, false, false, false, false] (v := ?_) (a' := ?_) rfl rfl (by kernel_rfl) (fun _ _ _ h => h) (yieldsIf_run rfl ?_) hHeld ?_ ?_
      rotate_left
      · intro w'
        go_simp
        with_reducible rfl
      rotate_left
      · simp only [Act.put, List.setIfInBounds_toArray, List.set_cons_zero, List.set_cons_succ]
        rfl
      refine tk_ 7 (some 165) #[true, true, true, true, false, true, true, true, false, false, false] (v := ?_) (a' := ?_) rfl rfl (by kernel_rfl) (fun _ _ _ h => h) (yieldsIf_run rfl ?_) hHeld ?_ ?_
      rotate_left
      · intro w'
        go_simp
        with_reducible rfl
      rotate_left
      · simp only [Act.put, List.setIfInBounds_toArray, List.set_cons_zero, List.set_cons_succ]
        rfl
      refine tk_ 8 (some 166) #[true, true, true, true, false, true, true, true, true, false, false] rfl rfl (by kernel_rfl) (fun _ _ _ h => h) (yieldsIf_cell rfl 27 (.tmp 165) rfl ⟨bn, on + i, none⟩ rfl nx.v _ (fun W' h => (h.cell (cell_lt HCN.out)).trans HCN.out) Tryz.underlying27 rfl) hHeld (a' := ?_) ?_ ?_
      rotate_left
      · simp only [Act.put, List.setIfInBounds_toArray, List.set_cons_zero, List.set_cons_succ]
        rfl
      refine call_ 4 (some 162) (bt 9 2) rfl rfl (by kernel_rfl) rfl 54 _ (by kernel_rfl) (HKE.out _ hHeld) ?_
      rintro e w15 ⟨rfl, hb15⟩
      have HB15 := Lib.hid (hHeld.trans (hb15.mono hHeld.size))
      refine ⟨_, rfl, HB15.out, fun hHeld => ⟨?_, ?_, ?_⟩⟩
      rotate_left
      · simp only [Act.put, List.setIfInBounds_toArray, List.set_cons_zero, List.set_cons_succ]
        rfl
      refine call_ 9 (some 167) (bt 10 1) rfl rfl (by kernel_rfl) rfl 26 _ (by kernel_rfl) (HJE.out _ hHeld) ?_
      rintro e w16 ⟨rfl, rfl⟩
      refine ⟨_, rfl, hHeld, fun hHeld => ⟨?_, ?_, ?_⟩⟩
      rotate_left
      · simp only [Act.put, List.setIfInBounds_toArray, List.set_cons_zero, List.set_cons_succ]
        rfl
      refine tk_ 10 (some 168) (bt 11 0) (v := ?_) (a' := ?_) rfl rfl (by kernel_rfl) (fun _ _ _ h => h) (yieldsIf_run rfl ?_) hHeld ?_ ?_
      rotate_left
      · intro w'
        go_simp
        with_reducible rfl
      rotate_left
      · simp only [Act.put, List.setIfInBounds_toArray, List.set_cons_zero, List.set_cons_succ]
        rfl
      refine wpAnyH_done (by kernel_rfl) ?_ _
      change Exit.then _ _ _ _ _
      go_wp2
      go_roundw
      case rel => exact ⟨i + 1, by omega, by go_num, HB15.out⟩
      case measure => simp [intOf]; omega
    · have hie : i = ds.length := by omega
      subst hie
      go_wp2
      go_loopw [22, 172] (fun _ c172 W => ∃ i : Nat, i ≤ us.length ∧ c172 = .int .i64 (i : Int) ∧ Below w14.heap.size w14 W) (fun _ c172 _ => us.length - (intOf c172).toNat)
      case atStart => exact ⟨0, by omega, rfl, HBI.out⟩
      case round =>
        obtain ⟨i, hi, rfl, hbi⟩ := hrel
        have HBJ := Lib.hid hbi
        clear hbi HBI
        by_cases hil : i < us.length
        · have hil2 : i < ys.length := by omega
          obtain ⟨m, hm⟩ : ∃ m, us.length - 1 - i = m := ⟨_, rfl⟩
          have hml : m < us.length := by omega
          have hmi : (ys.length : Int) - 1 - i = m := by omega
          have hml2 : m < ys.length := by omega
          obtain ⟨ux, hux⟩ : ∃ ux, us[m]? = some ux := ⟨_, List.getElem?_eq_getElem hml⟩
          obtain ⟨ny, hny⟩ : ∃ ny, ys[i]? = some ny := ⟨_, List.getElem?_eq_getElem hil2⟩
          obtain ⟨E, hE, hnE⟩ := map_nth HM2.out hny
          have hdE : ux.2 = E := by
            have h1 : (us.map Prod.snd)[m]? = some ux.2 := by rw [List.getElem?_map, hux]; rfl
            have h2 : us.length = (aboveG (hdrs D) B C).length := by have := congrArg List.length HDE.out.2; simpa using this
            rw [HDE.out.2, List.getElem?_reverse (by omega), show (aboveG (hdrs D) B C).length - 1 - m = i by omega, hE] at h1
            exact (Option.some.inj h1).symm
          have hTE := HTU.out E (List.mem_of_getElem? hE)
          have HDX := Lib.hid (HR.out.up.is ux (List.mem_of_getElem? hux)).1
          have HNX := Lib.hid (HR.out.a2 ny (List.mem_of_getElem? hny))
          have HNE : Hid (NamT (hdrs D) ny.ns E) := Lib.hid ⟨hTE, hnE⟩
          rw [hdE] at HDX
          obtain ⟨bd, od, rfl, -, -, hcd⟩ := HR.out.up.row.at_ m ux hux
          obtain ⟨bn, on, rfl, -, -, hcn⟩ := HR.out.r2.at_ i ny hny
          have HCD : Hid (w14.cell? ⟨bd, od + m, none⟩ = some ux.1) := Lib.hid (by have := hcd 0 _ rfl; rw [if_pos (HDX.out.one ux.1 (by simp))] at this; simpa [show tpE.k = 1 from rfl] using this)
          have HCN : Hid (w14.cell? ⟨bn, on + i, none⟩ = some ny.v) := Lib.hid (by have := hcn 0 _ rfl; rwa [Nat.add_zero, show nsE.k = 1 from rfl, Nat.mul_one] at this)
          obtain ⟨ke, hke⟩ : ∃ ke, keyB E = ke := ⟨_, rfl⟩
          have HKE : Hid (∀ W', Below w14.heap.size w14 W' → Calls Tryz.prog 54 #[tipV ux.1] W' fun e w' => e = .returned (.string ke) ∧ Below W'.heap.size W' w') := Lib.hid fun W' hb => by rw [← hke]; exact key_is (HDX.out.below hb) (.inr hTE)
          have HJE : Hid (∀ W', Below w14.heap.size w14 W' → Calls Tryz.prog 26 #[ny.v] W' fun e w' => e = .returned (.string ke) ∧ W' = w') := Lib.hid fun W' hb => by rw [← hke]; exact join_named W' ny _ (Sl.below HNX.out hb) HNE.out
          clear hux hny hE hnE hdE hTE hcd hcn hke
          go_upto_region 28 with fail
          refine st_ (S := (fun W' => Below w14.heap.size w14 W')) 15 (bt 0 15) (by kernel_rfl) rfl (by rfl) (HBJ.out.drew) (fun hHeld => ?_)
          refine tk_ 0 (some 175) (bt 1 14) (v := ?_) (a' := ?_) rfl rfl (by kernel_rfl) (fun _ _ _ h => h) (yieldsIf_run rfl ?_) hHeld ?_ ?_
          rotate_left
          · intro w'
            go_simp
            with_reducible rfl
          rotate_left
          · simp only [Act.put, List.setIfInBounds_toArray, List.set_cons_zero, List.set_cons_succ]
            rfl
          refine tk_ 1 (some 176) (bt 2 13) (v := ?_) (a' := ?_) rfl rfl (by kernel_rfl) (fun _ _ _ h => h) (yieldsIf_run rfl ?_) hHeld ?_ ?_
          rotate_left
          · intro w'
            go_simp
            with_reducible rfl
          rotate_left
          · simp only [Act.put, List.setIfInBounds_toArray, List.set_cons_zero, List.set_cons_succ]
            rfl
          refine tk_ 2 (some 177) (bt 3 12) (v := ?_) (a' := ?_) rfl rfl (by kernel_rfl) (fun _ _ _ h => h) (yieldsIf_run rfl ?_) hHeld ?_ ?_
          rotate_left
          · intro w'
            go_simp
            with_reducible rfl
          rotate_left
          · simp only [Act.put, List.setIfInBounds_toArray, List.set_cons_zero, List.set_cons_succ]
            rfl
          refine tk_ 3 (some 178) (bt 4 11) rfl rfl (by kernel_rfl) (fun _ _ _ h => h) (yieldsIf_run (v := .int .i64 ((ys.length : Int) - 1)) rfl fun W' => by go_simp; exact IntWalk.i64_in _ (by constructor <;> omega)) hHeld (a' := ?_) ?_ ?_
          rotate_left
          · simp only [Act.put, List.setIfInBounds_toArray, List.set_cons_zero, List.set_cons_succ]
            rfl
          refine tk_ 4 (some 179) (bt 5 10) (v := ?_) (a' := ?_) rfl rfl (by kernel_rfl) (fun _ _ _ h => h) (yieldsIf_run rfl ?_) hHeld ?_ ?_
          rotate_left
          · intro w'
            go_simp
            with_reducible rfl
          rotate_left
          · simp only [Act.put, List.setIfInBounds_toArray, List.set_cons_zero, List.set_cons_succ]
            rfl
          refine tk_ 5 (some 180) (bt 6 9) rfl rfl (by kernel_rfl) (fun _ _ _ h => h) (yieldsIf_of rfl fun W' _ => exec_sub 3 3 (.tmp 178) (.tmp 179) rfl ((ys.length : Int) - 1) i (m : Int) rfl rfl hmi (by constructor <;> omega)) hHeld (a' := ?_) ?_ ?_
          rotate_left
          · simp only [Act.put, List.setIfInBounds_toArray, List.set_cons_zero, List.set_cons_succ]
            rfl
          refine tk_ 6 (some 181) (bt 7 8) (v := ?_) (a' := ?_) rfl rfl (by kernel_rfl) (fun _ _ _ h => h) (yieldsIf_run rfl ?_) hHeld ?_ ?_
          rotate_left
          · intro w'
            go_simp
            with_reducible rfl
          rotate_left
          · simp only [Act.put, List.setIfInBounds_toArray, List.set_cons_zero, List.set_cons_succ]
            rfl
          refine tk_ 7 (some 182) (bt 8 7) rfl rfl (by kernel_rfl) (fun _ _ _ h => h) (yieldsIf_load rfl 52 (.tmp 181) rfl bd (od + m) rfl [ux.1] _ (fun W' h j u hu => by cases j with | zero => injection hu with hu; subst hu; exact (h.cell (cell_lt HCD.out)).trans HCD.out | succ j => cases hu) Tryz.underlying52 rfl tip_size) hHeld (a' := ?_) ?_ ?_
          rotate_left
          · simp only [Act.put, List.setIfInBounds_toArray, List.set_cons_zero, List.set_cons_succ]
            rfl
          refine tk_ 9 (some 184) #[true, true, true, true, true, true, true, true, false, true, false, false, false, false, false] (v := ?_) (a' := ?_) rfl rfl (by kernel_rfl) (fun _ _ _ h => h) (yieldsIf_run rfl ?_) hHeld ?_ ?_
          rotate_left
          · intro w'
            go_simp
            with_reducible rfl
          rotate_left
          · simp only [Act.put, List.setIfInBounds_toArray, List.set_cons_zero, List.set_cons_succ]
            rfl
          refine tk_ 10 (some 185) #[true, true, true, true, true, true, true, true, false, true, true, false, false, false, false] (v := ?_) (a' := ?_) rfl rfl (by kernel_rfl) (fun _ _ _ h => h) (yieldsIf_run rfl ?_) hHeld ?_ ?_
          rotate_left
          · intro w'
            go_simp
            with_reducible rfl
          rotate_left
          · simp only [Act.put, List.setIfInBounds_toArray, List.set_cons_zero, List.set_cons_succ]
            rfl
          refine tk_ 11 (some 186) #[true, true, true, true, true, true, true, true, false, true, true, true, false, false, false] (v := ?_) (a' := ?_) rfl rfl (by kernel_rfl) (fun _ _ _ h => h) (yieldsIf_run rfl ?_) hHeld ?_ ?_
          rotate_left
          · intro w'
            go_simp
            with_reducible rfl
          rotate_left
          · simp only [Act.put, List.setIfInBounds_toArray, List.set_cons_zero, List.set_cons_succ]
            rfl
          refine tk_ 12 (some 187) #[true, true, true, true, true, true, true, true, false, true, true, true, true, false, false] rfl rfl (by kernel_rfl) (fun _ _ _ h => h) (yieldsIf_cell rfl 27 (.tmp 186) rfl ⟨bn, on + i, none⟩ rfl ny.v _ (fun W' h => (h.cell (cell_lt HCN.out)).trans HCN.out) Tryz.underlying27 rfl) hHeld (a' := ?_) ?_ ?_
          rotate_left
          · simp only [Act.put, List.setIfInBounds_toArray, List.set_cons_zero, List.set_cons_succ]
            rfl
          refine call_ 8 (some 183) (bt 13 2) rfl rfl (by kernel_rfl) rfl 54 _ (by kernel_rfl) (HKE.out _ hHeld) ?_
          rintro e w15 ⟨rfl, hb15⟩
          have HB15 := Lib.hid (hHeld.trans (hb15.mono hHeld.size))
          refine ⟨_, rfl, HB15.out, fun hHeld => ⟨?_, ?_, ?_⟩⟩
          rotate_left
          · simp only [Act.put, List.setIfInBounds_toArray, List.set_cons_zero, List.set_cons_succ]
            rfl
          refine call_ 13 (some 188) (bt 14 1) rfl rfl (by kernel_rfl) rfl 26 _ (by kernel_rfl) (HJE.out _ hHeld) ?_
          rintro e w16 ⟨rfl, rfl⟩
          refine ⟨_, rfl, hHeld, fun hHeld => ⟨?_, ?_, ?_⟩⟩
          rotate_left
          · simp only [Act.put, List.setIfInBounds_toArray, List.set_cons_zero, List.set_cons_succ]
            rfl
          refine tk_ 14 (some 189) (bt 15 0) (v := ?_) (a' := ?_) rfl rfl (by kernel_rfl) (fun _ _ _ h => h) (yieldsIf_run rfl ?_) hHeld ?_ ?_
          rotate_left
          · intro w'
            go_simp
            with_reducible rfl
          rotate_left
          · simp only [Act.put, List.setIfInBounds_toArray, List.set_cons_zero, List.set_cons_succ]
            rfl
          refine wpAnyH_done (by kernel_rfl) ?_ _
          change Exit.then _ _ _ _ _
          go_wp2
          go_roundw
          case rel => exact ⟨i + 1, by omega, by go_num, HB15.out⟩
          case measure => simp [intOf]; omega
        · have hie : i = us.length := by omega
          subst hie
          go_wp2
          go_ret
          exact ⟨rfl, HBE.out.trans (HBJ.out.mono HBE.out.size)⟩
end Go.Proofs.YtcohdfkdhdhegaaGreatDoor
