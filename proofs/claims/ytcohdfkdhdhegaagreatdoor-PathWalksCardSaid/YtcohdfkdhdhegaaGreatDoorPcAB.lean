/- coxswainlaw14.PathWalks. -/
import Derived.Test.YtcohdfkdhdhegaaGreatDoorPbAA
import Derived.Test.YtcohdfkdhdhegaaGreatDoorPbAB
import Derived.Test.YtcohdfkdhdhegaaGreatDoorPbAC
import Derived.Test.YtcohdfkdhdhegaaGreatDoorPbAD
import Derived.Test.YtcohdfkdhdhegaaGreatDoorPbAE
import Derived.Test.YtcohdfkdhdhegaaGreatDoorPbAF
import Derived.Test.YtcohdfkdhdhegaaGreatDoorPbAG
import Derived.Test.YtcohdfkdhdhegaaGreatDoorPbAH
import Derived.Test.YtcohdfkdhdhegaaGreatDoorPbAI
import Derived.Test.YtcohdfkdhdhegaaGreatDoorPbAJ
import Derived.Test.YtcohdfkdhdhegaaGreatDoorPbAK
import Derived.Test.YtcohdfkdhdhegaaGreatDoorPbAL
import Derived.Test.YtcohdfkdhdhegaaGreatDoorPbAM
import Derived.Test.YtcohdfkdhdhegaaGreatDoorPbAN
import Derived.Test.YtcohdfkdhdhegaaGreatDoorPbAO
import Derived.Test.YtcohdfkdhdhegaaGreatDoorPbAP
import Derived.Test.YtcohdfkdhdhegaaGreatDoorPbAQ
import Derived.Test.YtcohdfkdhdhegaaGreatDoorPbAR
import Derived.Test.YtcohdfkdhdhegaaGreatDoorPbAS
import Derived.Test.YtcohdfkdhdhegaaGreatDoorPbAT
import Derived.Test.YtcohdfkdhdhegaaGreatDoorPbAU
import Derived.Test.YtcohdfkdhdhegaaGreatDoorPbAV
import Derived.Test.YtcohdfkdhdhegaaGreatDoorPbAW
import Derived.Test.YtcohdfkdhdhegaaGreatDoorPbAX
import Derived.Test.YtcohdfkdhdhegaaGreatDoorPbAY
import Derived.Test.YtcohdfkdhdhegaaGreatDoorPbAZ
import Derived.Test.YtcohdfkdhdhegaaGreatDoorPbBA
import Derived.Test.YtcohdfkdhdhegaaGreatDoorPbBB
import Derived.Test.YtcohdfkdhdhegaaGreatDoorPbBC
import Derived.Test.YtcohdfkdhdhegaaGreatDoorPbBD
import Derived.Test.YtcohdfkdhdhegaaGreatDoorPbBE
import Derived.Test.YtcohdfkdhdhegaaGreatDoorPbBF
import Derived.Test.YtcohdfkdhdhegaaGreatDoorPbBG
import Derived.Test.YtcohdfkdhdhegaaGreatDoorPbBH
import Derived.Test.YtcohdfkdhdhegaaGreatDoorPbBI
import Derived.Test.YtcohdfkdhdhegaaGreatDoorPbBJ
import Derived.Test.YtcohdfkdhdhegaaGreatDoorPbBK
import Derived.Test.YtcohdfkdhdhegaaGreatDoorPbBL
import Derived.Test.YtcohdfkdhdhegaaGreatDoorPbBN
import Derived.Test.YtcohdfkdhdhegaaGreatDoorPcAA
namespace Go.Proofs.YtcohdfkdhdhegaaGreatDoor
open Go.RowKit Go.Maps

/-- A tipset that is known by its names. -/
def tipD (G : List Hdr) (T : List ID) (x : Value) : FP := FP.ex fun z : Value => (FP.pure (x = tipV z)).and (FP.tip G z T)
theorem tipD_iff {G : List Hdr} {T : List ID} {x : Value} {ok : Nat → Prop} {w : World} : (tipD G T x).K ok w ↔ ∃ z : Value, x = tipV z ∧ TipIs ok w G z T := Iff.rfl
def wk10B : List BoxE := [⟨24, 26, 52, #[.slice none 0 0], [11], fun vs => aggC (vs 11)⟩, ⟨25, 27, 52, #[.slice none 0 0], [23], fun vs => aggC (vs 23)⟩]
def wk10R (G : List Hdr) (A B : List ID) : List RowE := [(11, [], fun vs => tipD G A (vs 11)), (23, [], fun vs => tipD G B (vs 23))]
theorem GoodG.above_cut {G : List Hdr} (g : GoodG G) {A C : List ID} (hA : TipOf G A) (h : C ∈ chainG G A) : ∃ rest, chainG G A = aboveG G A C ++ C :: rest := by
  obtain ⟨pre, rest, hs⟩ := List.append_of_mem h
  refine ⟨rest, ?_⟩
  rw [aboveG_split hs.symm fun x hx e => ?_]
  · exact hs
  · have hd := g.chain_down A hA
    rw [hs] at hd
    have := (List.pairwise_append.1 hd).2.2 x hx C List.mem_cons_self
    rw [e] at this
    omega
/-- Two tipsets, rows of tipsets, and where the walk is, in a variable. -/
structure WkS (w W : World) (pp p b1 b2 : Nat) (D : List LB) (g0 g1 gx : Nat) (ta tb : Value) (A B : List ID) (dv uv : Value) (ds us : List (Value × List ID)) (av : Value) (E : List ID) : Prop where
  path : PathAt (fun k => k ≠ gx) W pp p b1 b2 D
  ppx : pp ≠ gx
  k0 : W.heap[g0]? = some (.cells #[ta] 52 (0, 0))
  k1 : W.heap[g1]? = some (.cells #[tb] 52 (0, 0))
  n0 : g0 ≠ gx
  n1 : g1 ≠ gx
  is0 : TipIs (fun k => k ≠ gx) W (hdrs D) ta A
  is1 : TipIs (fun k => k ≠ gx) W (hdrs D) tb B
  dn : TipsAt (fun k => k ≠ gx) W (hdrs D) dv ds
  up : TipsAt (fun k => k ≠ gx) W (hdrs D) uv us
  at_ : W.heap[gx]? = some (.cells #[av] 52 (0, 0))
  is : TipIs (fun k => k ≠ gx) W (hdrs D) av E
  glo : w.heap.size ≤ gx
  below : Below w.heap.size w W
section
variable {w W W' : World} {pp p b1 b2 : Nat} {D : List LB} {g0 g1 gx : Nat} {ta tb : Value} {A B : List ID} {dv uv : Value} {ds us : List (Value × List ID)} {av av' : Value} {E E' : List ID}
theorem WkS.next (h : WkS w W pp p b1 b2 D g0 g1 gx ta tb A B dv uv ds us av E) (hb : Below W.heap.size W W') : WkS w W' pp p b1 b2 D g0 g1 gx ta tb A B dv uv ds us av E :=
  ⟨h.path.below hb, h.ppx, (hb.block _ (Array.getElem?_eq_some_iff.1 h.k0).1).trans h.k0, (hb.block _ (Array.getElem?_eq_some_iff.1 h.k1).1).trans h.k1, h.n0, h.n1, h.is0.below hb, h.is1.below hb, h.dn.below hb, h.up.below hb, (hb.block _ (Array.getElem?_eq_some_iff.1 h.at_).1).trans h.at_, h.is.below hb, h.glo, h.below.trans (hb.mono h.below.size)⟩
theorem WkS.set (h : WkS w W pp p b1 b2 D g0 g1 gx ta tb A B dv uv ds us av E) (hi : TipIs (fun k => k ≠ gx) W (hdrs D) av' E') : WkS w (W.setRow gx #[av']) pp p b1 b2 D g0 g1 gx ta tb A B dv uv ds us av' E' := by
  have hf : Fr (fun k => k ≠ gx) W (W.setRow gx #[av']) := ⟨by simp, fun _ hk _ => heap_setRow_ne _ _ _ _ hk⟩
  exact ⟨h.path.fr hf h.ppx, h.ppx, (heap_setRow_ne _ _ _ _ h.n0).trans h.k0, (heap_setRow_ne _ _ _ _ h.n1).trans h.k1, h.n0, h.n1, h.is0.fr hf, h.is1.fr hf, h.dn.fr hf, h.up.fr hf, setRow_heap _ _ _ _ _ _ h.at_, hi.fr hf, h.glo, below_setRow h.below h.glo _⟩
end

set_option maxRecDepth 100000 in
set_option maxHeartbeats 8000000 in
theorem walks_any (w : World) (t : Value) (l : List LSD) (ok ok' : Nat → Prop) (hl : Sl sdE ok w t l) (hf : ∀ y ∈ l, y.At ok' w ∧ SeedOk y.s) (ht : Tab w) (xi xk : Int) :
    Calls Tryz.prog 9 #[t, .int .i64 xi, .int .i64 xk] w fun e w' => e = .returned (.bool true) ∧ Below w.heap.size w w' := by
  have HL := Lib.hid hl
  have HF := Lib.hid hf
  have HT := Lib.hid ht
  clear hl hf ht
  go_enter Tryz.func9, Tryz.ntmps9
  go_upto_region 3 with (go_at_call 59; refine (awake14_any _ HT.out).mono ?_; rintro e w1 ⟨rfl, hb1⟩; have HB1 := Lib.hid hb1; clear hb1)
  go_upto_region 4 with (go_at_call 43; refine (made_any2 w1 t l ok ok' (HL.out.below HB1.out) (fun y hy => ⟨(HF.out y hy).1.below HB1.out, (HF.out y hy).2⟩) 16 (by decide) (HT.out.below HB1.out)).mono ?_; rintro e w2 ⟨p, b1, b2, D, vh, hs, vl, L, va, all, rfl, hmd, hL, hva, hall, hpos, hlen⟩; obtain ⟨Al, cl, rfl, -, -⟩ := hmd.list.form; obtain ⟨Aa, ca, rfl, -, -⟩ := hva.form; have HD2 := Lib.hid (And.intro (AllAt.mk hmd.dag hmd.fine hmd.both hva hall hpos (by omega)) (And.intro hmd.list hmd.lat)); have HB2 := Lib.hid (HB1.out.trans (hmd.below.mono HB1.out.size)); have HLL := Lib.hid (And.intro hL hmd.both.same); clear hmd hL hva hall hpos hlen)
  have hallp := HD2.out.1.pos
  have halln := HD2.out.1.len
  have hDL : D.length ≤ 1000000 := by have h1 := congrArg List.length HLL.out.2; simp [hdrs, rhs] at h1; have := HLL.out.1; omega
  have HBO := Lib.hid HD2.out.1.both
  have GG := HBO.out.good
  obtain ⟨r1, hr1, q1, u1, j1, hj1, hidx1⟩ := pick_ix2 xi all.length hallp halln
  have HR1 := Lib.hid hr1
  have HX1 := Lib.hid hidx1
  clear hr1 hidx1
  obtain ⟨x, hy1⟩ : ∃ y, all[j1]? = some y := ⟨_, List.getElem?_eq_getElem hj1⟩
  have HYM1 := Lib.hid (List.mem_of_getElem? hy1)
  obtain ⟨A, hT1, hkT1, hnT1⟩ := named_tip HBO.out (HD2.out.1.at_ x HYM1.out).2
  have HN1 : Hid (NamT (hdrs D) x.ns A) := Lib.hid ⟨hT1, hnT1⟩
  have HI1 : Hid (NamedIn L x.ns) := Lib.hid (HD2.out.1.at_ x HYM1.out).2
  have HK1 := Lib.hid hkT1
  obtain ⟨ba, oa, e0, -, -, hcy1⟩ := HD2.out.1.row.at_ j1 x hy1
  cases e0
  have HC1 : Hid (w2.cell? ⟨ba, oa + j1, none⟩ = some x.v) := Lib.hid (by have := hcy1 0 _ rfl; rwa [Nat.add_zero, show nsE.k = 1 from rfl, Nat.mul_one] at this)
  clear hcy1 hy1 hkT1 hnT1
  obtain ⟨r2, hr2, q2, u2, j2, hj2, hidx2⟩ := pick_ix2 xk all.length hallp halln
  have HR2 := Lib.hid hr2
  have HX2 := Lib.hid hidx2
  clear hr2 hidx2
  obtain ⟨y, hy2⟩ : ∃ y, all[j2]? = some y := ⟨_, List.getElem?_eq_getElem hj2⟩
  have HYM2 := Lib.hid (List.mem_of_getElem? hy2)
  obtain ⟨B, hT2, hkT2, hnT2⟩ := named_tip HBO.out (HD2.out.1.at_ y HYM2.out).2
  have HN2 : Hid (NamT (hdrs D) y.ns B) := Lib.hid ⟨hT2, hnT2⟩
  have HI2 : Hid (NamedIn L y.ns) := Lib.hid (HD2.out.1.at_ y HYM2.out).2
  have HK2 := Lib.hid hkT2
  obtain ⟨bb, ob, e0, -, -, hcy2⟩ := HD2.out.1.row.at_ j2 y hy2
  cases e0
  have HC2 : Hid (w2.cell? ⟨ba, oa + j2, none⟩ = some y.v) := Lib.hid (by have := hcy2 0 _ rfl; rwa [Nat.add_zero, show nsE.k = 1 from rfl, Nat.mul_one] at this)
  clear hcy2 hy2 hkT2 hnT2
  have hlt0 : 0 < all.length := hallp
  go_upto_region 10 with (go_at_call 44; refine (pnew_any w2 p b1 b2 D _ HD2.out.1.dag HD2.out.1.fine HD2.out.1.both.good 8).mono ?_; rintro e w4 ⟨pp, rfl, -, hpa, hb4⟩; have HPA := Lib.hid hpa; have HD4 := Lib.hid (HD2.out.1.below hb4); have HB4 := Lib.hid (HB2.out.trans (hb4.mono HB2.out.size)); have HC4 := Lib.hid ((hb4.cell (cell_lt HC1.out)).trans HC1.out); have HE4 := Lib.hid ((hb4.cell (cell_lt HC2.out)).trans HC2.out); clear hb4 hpa)
  have TA := HN1.out.tip
  have TB := HN2.out.tip
  have HOF : Hid (∀ (W : World), Below w4.heap.size w4 W → Calls Tryz.prog 46 #[.pointer (some ⟨p, 0, none⟩), x.v] W fun e w' => ∃ v, e = .returned v ∧ Below W.heap.size W w' ∧ (tipD (hdrs D) A v).K (fun k => k < w4.heap.size ∨ W.heap.size ≤ k) w') := Lib.hid fun W hb => by
    refine (of_known W p b1 b2 D _ _ (HD4.out.dag.old.below hb) HD4.out.fine x (Sl.below (HD4.out.at_ x HYM1.out).1 hb) A hT1 HN1.out.ns HK1.out).mono ?_
    rintro e w' ⟨tv, rfl, hth, hb8⟩
    exact ⟨_, rfl, hb8, tipD_iff.2 ⟨tv, rfl, hth.mono fun k hk => by rcases hk with hk | hk; exact .inr hk; exact .inl hk.2⟩⟩
  have HOG : Hid (∀ (W : World), Below w4.heap.size w4 W → Calls Tryz.prog 46 #[.pointer (some ⟨p, 0, none⟩), y.v] W fun e w' => ∃ v, e = .returned v ∧ Below W.heap.size W w' ∧ (tipD (hdrs D) B v).K (fun k => k < w4.heap.size ∨ W.heap.size ≤ k) w') := Lib.hid fun W hb => by
    refine (of_known W p b1 b2 D _ _ (HD4.out.dag.old.below hb) HD4.out.fine y (Sl.below (HD4.out.at_ y HYM2.out).1 hb) B hT2 HN2.out.ns HK2.out).mono ?_
    rintro e w' ⟨tv, rfl, hth, hb8⟩
    exact ⟨_, rfl, hb8, tipD_iff.2 ⟨tv, rfl, hth.mono fun k hk => by rcases hk with hk | hk; exact .inr hk; exact .inl hk.2⟩⟩
  clear HC1 HC2 HB2 HD2 HLL
  go_cut [12, 13] from 41 to 64 (fun c12 c13 W => ∃ (g0 g1 : Nat) (ta tb : Value), c12 = .pointer (some ⟨g0, 0, none⟩) ∧ c13 = .pointer (some ⟨g1, 0, none⟩) ∧ Below w4.heap.size w4 W ∧ (W.heap[g0]? = some (.cells #[ta] 52 (0, 0)) ∧ W.heap[g1]? = some (.cells #[tb] 52 (0, 0))) ∧ TipIs (fun _ => True) W (hdrs D) ta A ∧ TipIs (fun _ => True) W (hdrs D) tb B)
  case first =>
    refine st_ (S := (fun W' => Below w4.heap.size w4 W')) 28 (bt 0 28) (by kernel_rfl) rfl (by rfl) (Below.refl _ w4).drew (fun hHeld => ?_)
    refine tk_ 0 (some 41) (bt 1 27) (v := ?_) (a' := ?_) rfl rfl (by kernel_rfl) (fun _ _ _ h => h) (yieldsIf_run rfl ?_) hHeld ?_ ?_
    rotate_left
    · intro w'
      go_simp
      with_reducible rfl
    rotate_left
    · simp only [Act.put, List.setIfInBounds_toArray, List.set_cons_zero, List.set_cons_succ]
      rfl
    refine tk_ 1 (some 42) (bt 2 26) (v := ?_) (a' := ?_) rfl rfl (by kernel_rfl) (fun _ _ _ h => h) (yieldsIf_run rfl ?_) hHeld ?_ ?_
    rotate_left
    · intro w'
      go_simp
      with_reducible rfl
    rotate_left
    · simp only [Act.put, List.setIfInBounds_toArray, List.set_cons_zero, List.set_cons_succ]
      rfl
    refine tk_ 2 (some 43) (bt 3 25) (v := ?_) (a' := ?_) rfl rfl (by kernel_rfl) (fun _ _ _ h => h) (yieldsIf_run rfl ?_) hHeld ?_ ?_
    rotate_left
    · intro w'
      go_simp
      with_reducible rfl
    rotate_left
    · simp only [Act.put, List.setIfInBounds_toArray, List.set_cons_zero, List.set_cons_succ]
      rfl
    refine tk_ 3 (some 44) (bt 4 24) (v := ?_) (a' := ?_) rfl rfl (by kernel_rfl) (fun _ _ _ h => h) (yieldsIf_run rfl ?_) hHeld ?_ ?_
    rotate_left
    · intro w'
      go_simp
      with_reducible rfl
    rotate_left
    · simp only [Act.put, List.setIfInBounds_toArray, List.set_cons_zero, List.set_cons_succ]
      rfl
    refine tk_ 4 (some 45) (bt 5 23) rfl rfl (by kernel_rfl) (fun _ _ _ h => h) (yieldsIf_rem rfl 3 3 (.tmp 43) (.tmp 44) rfl xi all.length r1 rfl rfl (by omega) HR1.out (by constructor <;> omega)) hHeld (a' := ?_) ?_ ?_
    rotate_left
    · simp only [Act.put, List.setIfInBounds_toArray, List.set_cons_zero, List.set_cons_succ]
      rfl
    refine tk_ 5 (some 46) (bt 6 22) (v := ?_) (a' := ?_) rfl rfl (by kernel_rfl) (fun _ _ _ h => h) (yieldsIf_run rfl ?_) hHeld ?_ ?_
    rotate_left
    · intro w'
      go_simp
      with_reducible rfl
    rotate_left
    · simp only [Act.put, List.setIfInBounds_toArray, List.set_cons_zero, List.set_cons_succ]
      rfl
    refine tk_ 6 (some 47) (bt 7 21) rfl rfl (by kernel_rfl) (fun _ _ _ h => h) (yieldsIf_run (v := .int .i64 (r1 + all.length)) rfl fun W' => (show _ = Result.ok (Next.value (.int .i64 (IntKind.i64.wrap (r1 + all.length)))) W' from rfl).trans (by rw [IntWalk.i64_in _ (by omega)])) hHeld (a' := ?_) ?_ ?_
    rotate_left
    · simp only [Act.put, List.setIfInBounds_toArray, List.set_cons_zero, List.set_cons_succ]
      rfl
    refine tk_ 7 (some 48) (bt 8 20) (v := ?_) (a' := ?_) rfl rfl (by kernel_rfl) (fun _ _ _ h => h) (yieldsIf_run rfl ?_) hHeld ?_ ?_
    rotate_left
    · intro w'
      go_simp
      with_reducible rfl
    rotate_left
    · simp only [Act.put, List.setIfInBounds_toArray, List.set_cons_zero, List.set_cons_succ]
      rfl
    refine tk_ 8 (some 49) (bt 9 19) rfl rfl (by kernel_rfl) (fun _ _ _ h => h) (yieldsIf_rem rfl 3 3 (.tmp 47) (.tmp 48) rfl (r1 + all.length) all.length j1 rfl rfl (by omega) HX1.out (by constructor <;> omega)) hHeld (a' := ?_) ?_ ?_
    rotate_left
    · simp only [Act.put, List.setIfInBounds_toArray, List.set_cons_zero, List.set_cons_succ]
      rfl
    refine tk_ 9 (some 50) (bt 10 18) (v := ?_) (a' := ?_) rfl rfl (by kernel_rfl) (fun _ _ _ h => h) (yieldsIf_run rfl ?_) hHeld ?_ ?_
    rotate_left
    · intro w'
      go_simp
      with_reducible rfl
    rotate_left
    · simp only [Act.put, List.setIfInBounds_toArray, List.set_cons_zero, List.set_cons_succ]
      rfl
    refine tk_ 10 (some 51) (bt 11 17) rfl rfl (by kernel_rfl) (fun _ _ _ h => h) (yieldsIf_cell rfl 27 (.tmp 50) rfl ⟨ba, oa + j1, none⟩ rfl x.v _ (fun W' h => (h.cell (cell_lt HC4.out)).trans HC4.out) Tryz.underlying27 rfl) hHeld (a' := ?_) ?_ ?_
    rotate_left
    · simp only [Act.put, List.setIfInBounds_toArray, List.set_cons_zero, List.set_cons_succ]
      rfl
    refine tk_ 12 (some 53) #[true, true, true, true, true, true, true, true, true, true, true, false, true, false, false, false, false, false, false, false, false, false, false, false, false, false, false, false] (v := ?_) (a' := ?_) rfl rfl (by kernel_rfl) (fun _ _ _ h => h) (yieldsIf_run rfl ?_) hHeld ?_ ?_
    rotate_left
    · intro w'
      go_simp
      with_reducible rfl
    rotate_left
    · simp only [Act.put, List.setIfInBounds_toArray, List.set_cons_zero, List.set_cons_succ]
      rfl
    refine tk_ 13 (some 54) #[true, true, true, true, true, true, true, true, true, true, true, false, true, true, false, false, false, false, false, false, false, false, false, false, false, false, false, false] (v := ?_) (a' := ?_) rfl rfl (by kernel_rfl) (fun _ _ _ h => h) (yieldsIf_run rfl ?_) hHeld ?_ ?_
    rotate_left
    · intro w'
      go_simp
      with_reducible rfl
    rotate_left
    · simp only [Act.put, List.setIfInBounds_toArray, List.set_cons_zero, List.set_cons_succ]
      rfl
    refine tk_ 14 (some 55) #[true, true, true, true, true, true, true, true, true, true, true, false, true, true, true, false, false, false, false, false, false, false, false, false, false, false, false, false] (v := ?_) (a' := ?_) rfl rfl (by kernel_rfl) (fun _ _ _ h => h) (yieldsIf_run rfl ?_) hHeld ?_ ?_
    rotate_left
    · intro w'
      go_simp
      with_reducible rfl
    rotate_left
    · simp only [Act.put, List.setIfInBounds_toArray, List.set_cons_zero, List.set_cons_succ]
      rfl
    refine tk_ 15 (some 56) #[true, true, true, true, true, true, true, true, true, true, true, false, true, true, true, true, false, false, false, false, false, false, false, false, false, false, false, false] (v := ?_) (a' := ?_) rfl rfl (by kernel_rfl) (fun _ _ _ h => h) (yieldsIf_run rfl ?_) hHeld ?_ ?_
    rotate_left
    · intro w'
      go_simp
      with_reducible rfl
    rotate_left
    · simp only [Act.put, List.setIfInBounds_toArray, List.set_cons_zero, List.set_cons_succ]
      rfl
    refine tk_ 16 (some 57) #[true, true, true, true, true, true, true, true, true, true, true, false, true, true, true, true, true, false, false, false, false, false, false, false, false, false, false, false] rfl rfl (by kernel_rfl) (fun _ _ _ h => h) (yieldsIf_rem rfl 3 3 (.tmp 55) (.tmp 56) rfl xk all.length r2 rfl rfl (by omega) HR2.out (by constructor <;> omega)) hHeld (a' := ?_) ?_ ?_
    rotate_left
    · simp only [Act.put, List.setIfInBounds_toArray, List.set_cons_zero, List.set_cons_succ]
      rfl
    refine tk_ 17 (some 58) #[true, true, true, true, true, true, true, true, true, true, true, false, true, true, true, true, true, true, false, false, false, false, false, false, false, false, false, false] (v := ?_) (a' := ?_) rfl rfl (by kernel_rfl) (fun _ _ _ h => h) (yieldsIf_run rfl ?_) hHeld ?_ ?_
    rotate_left
    · intro w'
      go_simp
      with_reducible rfl
    rotate_left
    · simp only [Act.put, List.setIfInBounds_toArray, List.set_cons_zero, List.set_cons_succ]
      rfl
    refine tk_ 18 (some 59) #[true, true, true, true, true, true, true, true, true, true, true, false, true, true, true, true, true, true, true, false, false, false, false, false, false, false, false, false] rfl rfl (by kernel_rfl) (fun _ _ _ h => h) (yieldsIf_run (v := .int .i64 (r2 + all.length)) rfl fun W' => (show _ = Result.ok (Next.value (.int .i64 (IntKind.i64.wrap (r2 + all.length)))) W' from rfl).trans (by rw [IntWalk.i64_in _ (by omega)])) hHeld (a' := ?_) ?_ ?_
    rotate_left
    · simp only [Act.put, List.setIfInBounds_toArray, List.set_cons_zero, List.set_cons_succ]
      rfl
    refine tk_ 19 (some 60) #[true, true, true, true, true, true, true, true, true, true, true, false, true, true, true, true, true, true, true, true, false, false, false, false, false, false, false, false] (v := ?_) (a' := ?_) rfl rfl (by kernel_rfl) (fun _ _ _ h => h) (yieldsIf_run rfl ?_) hHeld ?_ ?_
    rotate_left
    · intro w'
      go_simp
      with_reducible rfl
    rotate_left
    · simp only [Act.put, List.setIfInBounds_toArray, List.set_cons_zero, List.set_cons_succ]
      rfl
    refine tk_ 20 (some 61) #[true, true, true, true, true, true, true, true, true, true, true, false, true, true, true, true, true, true, true, true, true, false, false, false, false, false, false, false] rfl rfl (by kernel_rfl) (fun _ _ _ h => h) (yieldsIf_rem rfl 3 3 (.tmp 59) (.tmp 60) rfl (r2 + all.length) all.length j2 rfl rfl (by omega) HX2.out (by constructor <;> omega)) hHeld (a' := ?_) ?_ ?_
    rotate_left
    · simp only [Act.put, List.setIfInBounds_toArray, List.set_cons_zero, List.set_cons_succ]
      rfl
    refine tk_ 21 (some 62) #[true, true, true, true, true, true, true, true, true, true, true, false, true, true, true, true, true, true, true, true, true, true, false, false, false, false, false, false] (v := ?_) (a' := ?_) rfl rfl (by kernel_rfl) (fun _ _ _ h => h) (yieldsIf_run rfl ?_) hHeld ?_ ?_
    rotate_left
    · intro w'
      go_simp
      with_reducible rfl
    rotate_left
    · simp only [Act.put, List.setIfInBounds_toArray, List.set_cons_zero, List.set_cons_succ]
      rfl
    refine tk_ 22 (some 63) #[true, true, true, true, true, true, true, true, true, true, true, false, true, true, true, true, true, true, true, true, true, true, true, false, false, false, false, false] rfl rfl (by kernel_rfl) (fun _ _ _ h => h) (yieldsIf_cell rfl 27 (.tmp 62) rfl ⟨ba, oa + j2, none⟩ rfl y.v _ (fun W' h => (h.cell (cell_lt HE4.out)).trans HE4.out) Tryz.underlying27 rfl) hHeld (a' := ?_) ?_ ?_
    rotate_left
    · simp only [Act.put, List.setIfInBounds_toArray, List.set_cons_zero, List.set_cons_succ]
      rfl
    refine boxes2_ [(52, 11), (64, 23), (12, 24), (13, 25)] (wk10R (hdrs D) A B) wk10B w4 6 ⟨by kernel_rfl, ?_, ?_⟩ (by decide) rfl (by kernel_rfl) (by kernel_rfl) hHeld (fun _ h => h) ?_ ?_
    · intro r hr i v vs h1 _
      simp only [wk10R, List.mem_cons, List.not_mem_nil, or_false] at hr
      rcases hr with rfl | rfl <;> simp only [upd_ne (Ne.symm h1)]
    · intro q hq i v vs h
      simp only [wk10B, List.mem_cons, List.not_mem_nil, or_false] at hq
      rcases hq with rfl | rfl <;> (have h2 := fun e => h (List.mem_singleton.2 e); simp only [upd_ne (Ne.symm h2)])
    · intro HX i hi
      have hi' : i ∈ [11, 23, 24, 25, 26, 27] := hi
      simp only [List.mem_cons, List.not_mem_nil, or_false] at hi'
      rcases hi' with rfl | rfl | rfl | rfl | rfl | rfl
      · refine stepB_call 11 rfl HX (by decide) (by kernel_rfl) (by kernel_rfl) rfl 46 (fun _ => #[.pointer (some ⟨p, 0, none⟩), x.v]) (fun vs w => by kernel_rfl) fun ls vs W hu hI => ?_
        refine (HOF.out W hI.below).mono ?_
        rintro e w' ⟨v, rfl, hb, hk⟩
        exact ⟨v, rfl, hb, (show (tipD (hdrs D) A v).K _ w' from FP.mono _ (fun k hk => hk.imp (okB_low hI) id) hk)⟩
      · refine stepB_call 23 rfl HX (by decide) (by kernel_rfl) (by kernel_rfl) rfl 46 (fun _ => #[.pointer (some ⟨p, 0, none⟩), y.v]) (fun vs w => by kernel_rfl) fun ls vs W hu hI => ?_
        refine (HOG.out W hI.below).mono ?_
        rintro e w' ⟨v, rfl, hb, hk⟩
        exact ⟨v, rfl, hb, (show (tipD (hdrs D) B v).K _ w' from FP.mono _ (fun k hk => hk.imp (okB_low hI) id) hk)⟩
      · exact stepB_alloc 24 _ rfl HX (by decide) (by kernel_rfl) (List.mem_cons_self) rfl rfl (fun a w => by kernel_rfl)
      · exact stepB_alloc 25 _ rfl HX (by decide) (by kernel_rfl) (List.mem_cons_of_mem _ List.mem_cons_self) rfl rfl (fun a w => by kernel_rfl)
      · refine stepB_store 26 _ rfl HX (by decide) (by kernel_rfl) (List.mem_cons_self) rfl rfl rfl fun ls vs W g hu hI hg hh => ?_
        obtain ⟨z, h3, h4⟩ := tipD_iff.1 (hI.r 11 (hu 11 (by kernel_rfl)))
        show _ = Result.ok Next.skip (W.setRow g (aggC (vs 11)))
        rw [h3]
        exact exec_store 52 (.tmp 12) (.tmp 52) rfl g 0 hg _ h3 (run_storeVar_block W g 52 52 [z] #[.slice none 0 0] hh rfl h4.one tip_size)
      · refine stepB_store 27 _ rfl HX (by decide) (by kernel_rfl) (List.mem_cons_of_mem _ List.mem_cons_self) rfl rfl rfl fun ls vs W g hu hI hg hh => ?_
        obtain ⟨z, h3, h4⟩ := tipD_iff.1 (hI.r 23 (hu 23 (by kernel_rfl)))
        show _ = Result.ok Next.skip (W.setRow g (aggC (vs 23)))
        rw [h3]
        exact exec_store 52 (.tmp 13) (.tmp 64) rfl g 0 hg _ h3 (run_storeVar_block W g 52 52 [z] #[.slice none 0 0] hh rfl h4.one tip_size)
    · intro vs W hI
      obtain ⟨z0, e0, hi0⟩ := tipD_iff.1 (hI.r 11 rfl)
      obtain ⟨z1, e1, hi1⟩ := tipD_iff.1 (hI.r 23 rfl)
      obtain ⟨g0, hg0, -, hk0⟩ := hI.box ⟨24, 26, _, _, _, _⟩ List.mem_cons_self rfl
      obtain ⟨g1, hg1, -, hk1⟩ := hI.box ⟨25, 27, _, _, _, _⟩ (List.mem_cons_of_mem _ List.mem_cons_self) rfl
      have c0 : W.heap[g0]? = some (.cells (aggC (vs 11)) 52 (0, 0)) := hk0
      have c1 : W.heap[g1]? = some (.cells (aggC (vs 23)) 52 (0, 0)) := hk1
      rw [e0] at c0
      rw [e1] at c1
      have HFL : Hid (Below w4.heap.size w4 W ∧ (W.heap[g0]? = some (.cells #[z0] 52 (0, 0)) ∧ W.heap[g1]? = some (.cells #[z1] 52 (0, 0))) ∧ TipIs (fun _ => True) W (hdrs D) z0 A ∧ TipIs (fun _ => True) W (hdrs D) z1 B) := Lib.hid ⟨hI.below, ⟨c0, c1⟩, hi0.mono fun _ _ => trivial, hi1.mono fun _ _ => trivial⟩
      clear hI hk0 hk1 hi0 hi1 e0 e1 c0 c1
      simp only [putL, Act.put, List.setIfInBounds_toArray, List.set_cons_zero, List.set_cons_succ]
      change Exit.then _ _ _ _ _
      go_wp2
      go_meet
      case rel => exact ⟨g0, g1, _, _, by first | rfl | exact hg0, by first | rfl | exact hg1, HFL.out⟩
  case rest =>
  obtain ⟨g0, g1, ta, tb, rfl, rfl, hb5, ⟨hk0, hk1⟩, hta, htb⟩ := hcut
  rename World => W5
  have HB5 := Lib.hid hb5
  have HK0 := Lib.hid hk0
  have HK1b := Lib.hid hk1
  have HTA := Lib.hid hta
  have HTB := Lib.hid htb
  clear hb5 hk0 hk1 hta htb
  have HP5 := Lib.hid (HPA.out.below HB5.out)
  obtain ⟨C, hC⟩ : ∃ C, commG (hdrs D) A B = C := ⟨_, rfl⟩
  have hmem := GG.comm_mem TA TB
  rw [hC] at hmem
  have TC : TipOf (hdrs D) C := GG.chain_tip A TA _ hmem.1
  obtain ⟨restA, hcA⟩ := GG.above_cut TA hmem.1
  obtain ⟨restB, hcB⟩ := GG.above_cut TB hmem.2.1
  have HCA := Lib.hid hcA
  have HCB := Lib.hid hcB
  have HBT := Lib.hid (between_any W5 pp p b1 b2 D _ _ _ HP5.out ta A TA HTA.out tb B TB HTB.out hDL)
  rw [hC] at HBT
  go_upto_region 12 with (first
    | (refine wpl_tip rfl _ rfl _ rfl _ HK0.out ?_)
    | (refine wpl_tip rfl _ rfl _ rfl _ HK1b.out ?_)
    | (go_at_call 62; refine HBT.out.mono ?_; rintro e w6 ⟨dv, uv, ds, us, rfl, hd, hu, hde, hue, hb⟩; obtain ⟨Ad, cd, rfl, -, -⟩ := hd.row.form; obtain ⟨Au, cu, rfl, -, -⟩ := hu.row.form; have HDU := Lib.hid (And.intro (hd.mono (ok' := fun _ => True) fun _ _ => trivial) (hu.mono (ok' := fun _ => True) fun _ _ => trivial)); have HDE := Lib.hid (And.intro hde hue); have HB6 := Lib.hid hb; clear hd hu hde hue hb))
  have HK6 : Hid (w6.heap[g0]? = some (.cells #[ta] 52 (0, 0)) ∧ w6.heap[g1]? = some (.cells #[tb] 52 (0, 0))) := Lib.hid ⟨(HB6.out.block _ (Array.getElem?_eq_some_iff.1 HK0.out).1).trans HK0.out, (HB6.out.block _ (Array.getElem?_eq_some_iff.1 HK1b.out).1).trans HK1b.out⟩
  have hsd : ds.length = (aboveG (hdrs D) A C).length := by have := congrArg List.length HDE.out.1; simpa using this
  have hsu : us.length = (aboveG (hdrs D) B C).length := by have := congrArg List.length HDE.out.2; simpa using this
  have hmd : ds.length ≤ 1000000 := by have h2 := (above_all GG (C := C) TA).1; have h3 : (hdrs D).length = D.length := (by simp [hdrs]); omega
  have hmu : us.length ≤ 1000000 := by have h2 := (above_all GG (C := C) TB).1; have h3 : (hdrs D).length = D.length := (by simp [hdrs]); omega
  have HSD := Lib.hid hsd
  have HSU := Lib.hid hsu
  clear hsd hsu
  go_upto_region 13 with (first
    | (refine wpl_tip rfl _ rfl _ rfl _ HK6.out.1 ?_)
    | (refine wpl_store_new rfl 52 (.tmp 16) (.tmp 72) rfl rfl [ta] rfl _ _ rfl HTA.out.one tip_size ?_))
  have hb7 : Below w6.heap.size w6 (w6.alloc (.cells #[ta] 52)) := (Below.refl _ _).alloc (Nat.le_refl _) _
  have HS0 : Hid (WkS w (w6.alloc (.cells #[ta] 52)) pp p b1 b2 D g0 g1 w6.heap.size ta tb A B (.slice Ad ds.length cd) (.slice Au us.length cu) ds us ta A) := Lib.hid (by
    have hl : ∀ k, k < w6.heap.size → k ≠ w6.heap.size := fun k hk => by omega
    have hp6 := HP5.out.below HB6.out
    refine ⟨(hp6.old.mono fun k hk => hl k hk.2).below hb7, by have := cell_lt hp6.toD; omega, (hb7.block _ (Array.getElem?_eq_some_iff.1 HK6.out.1).1).trans HK6.out.1, (hb7.block _ (Array.getElem?_eq_some_iff.1 HK6.out.2).1).trans HK6.out.2, hl _ (Array.getElem?_eq_some_iff.1 HK6.out.1).1, hl _ (Array.getElem?_eq_some_iff.1 HK6.out.2).1, ((HTA.out.below HB6.out).old.mono fun k hk => hl k hk.2).below hb7, ((HTB.out.below HB6.out).old.mono fun k hk => hl k hk.2).below hb7, (HDU.out.1.old.mono fun k hk => hl k hk.2).below hb7, (HDU.out.2.old.mono fun k hk => hl k hk.2).below hb7, heap_alloc_new w6 _, ((HTA.out.below HB6.out).old.mono fun k hk => hl k hk.2).below hb7, ?_, ?_⟩
    · exact Nat.le_trans HB4.out.size (Nat.le_trans HB5.out.size HB6.out.size)
    · exact HB4.out.trans ((HB5.out.trans ((HB6.out.trans (hb7.mono HB6.out.size)).mono HB5.out.size)).mono HB4.out.size))
  clear hb7 HB6 HDU HK6 HTA HTB HK0 HK1b HP5 HB5 HB4 HPA HD4 HC4 HE4 HOF HOG HBT
  (try simp only [Act.put])
  generalize w6.alloc (.cells #[ta] 52) = W7 at HS0 ⊢
  generalize w6.heap.size = gx at HS0 ⊢
  go_wp2
  go_loopw [75] (fun c75 W => ∃ (i : Nat) (E : List ID) (av : Value), i ≤ ds.length ∧ c75 = .int .i64 (i : Int) ∧ (chainG (hdrs D) A)[i]? = some E ∧ WkS w W pp p b1 b2 D g0 g1 gx ta tb A B (.slice Ad ds.length cd) (.slice Au us.length cu) ds us av E) (fun c75 _ => ds.length - (intOf c75).toNat)
  case atStart => exact ⟨0, A, ta, by omega, rfl, by rw [GG.chain_step TA]; rfl, HS0.out⟩
  case round =>
    obtain ⟨i, E, av, hi, rfl, hE, hS⟩ := hrel
    have HS := Lib.hid hS
    have TE : TipOf (hdrs D) E := GG.chain_tip A TA E (List.mem_of_getElem? hE)
    clear hS HS0
    by_cases hil : i < ds.length
    · have hsd := HSD.out
      obtain ⟨dx, hdx⟩ : ∃ dx, ds[i]? = some dx := ⟨_, List.getElem?_eq_getElem hil⟩
      obtain ⟨U, hU⟩ : ∃ U, (chainG (hdrs D) A)[i + 1]? = some U := ⟨_, List.getElem?_eq_getElem (by rw [HCA.out]; simp; omega)⟩
      have hdE : dx.2 = E := by
        have h1 : (ds.map Prod.snd)[i]? = some dx.2 := by rw [List.getElem?_map, hdx]; rfl
        rw [HDE.out.1] at h1
        rw [HCA.out, List.getElem?_append_left (by omega), h1] at hE
        exact Option.some.inj hE
      obtain ⟨hUp, hUl⟩ := GG.chain_succ i A E U TA hE hU
      have TU : TipOf (hdrs D) U := GG.chain_tip A TA U (List.mem_of_getElem? hU)
      have HU := Lib.hid hU
      have HDX := Lib.hid (HS.out.dn.is dx (List.mem_of_getElem? hdx)).1
      rw [hdE] at HDX
      obtain ⟨bd, od, e, -, -, hcd⟩ := HS.out.dn.row.at_ i dx hdx
      cases e
      have HCD : Hid (wr.cell? ⟨bd, od + i, none⟩ = some dx.1) := Lib.hid (by have := hcd 0 _ rfl; rw [if_pos (HDX.out.one dx.1 (by simp))] at this; simpa [show tpE.k = 1 from rfl] using this)
      clear hcd hdx hdE hE hU hsd
      go_upto_region 16 with (first
        | (refine wpl_load rfl 52 (.tmp 77) rfl bd (od + i) rfl [dx.1] _ (fun j u hu => by cases j with | zero => injection hu with hu; subst hu; exact HCD.out | succ j => cases hu) Tryz.underlying52 rfl tip_size ?_)
        | (refine wpl_store_new rfl 52 (.tmp 18) (.tmp 78) rfl rfl [dx.1] rfl _ _ rfl HDX.out.one tip_size ?_))
      have hb8 : Below wr.heap.size wr (wr.alloc (.cells #[dx.1] 52)) := (Below.refl _ _).alloc (Nat.le_refl _) _
      have HX8 : Hid (WkS w (wr.alloc (.cells #[dx.1] 52)) pp p b1 b2 D g0 g1 gx ta tb A B (.slice (some ⟨bd, od, none⟩) ds.length cd) (.slice Au us.length cu) ds us av E ∧ (wr.alloc (.cells #[dx.1] 52)).heap[wr.heap.size]? = some (.cells #[dx.1] 52 (0, 0)) ∧ TipIs (fun k => k ≠ gx) (wr.alloc (.cells #[dx.1] 52)) (hdrs D) dx.1 E) := Lib.hid ⟨HS.out.next hb8, heap_alloc_new wr _, HDX.out.below hb8⟩
      clear hb8 HCD HDX HS
      (try simp only [Act.put])
      generalize wr.alloc (.cells #[dx.1] 52) = W8 at HX8 ⊢
      generalize wr.heap.size = gt at HX8 ⊢
      have HPR := Lib.hid (parent_any W8 pp p b1 b2 D _ _ HX8.out.1.path.toD HX8.out.1.path.dag HX8.out.1.path.fine GG dx.1 E TE HX8.out.2.2)
      rw [← hUp, show (!U.isEmpty) = true from by cases U with | nil => exact absurd rfl TU.ne | cons _ _ => rfl] at HPR
      go_upto_region 17 with (first
        | (refine wpl_tip rfl _ rfl _ rfl _ HX8.out.2.1 ?_)
        | (go_at_call 63; refine HPR.out.mono ?_; rintro e w9 ⟨t2, rfl, ht2, hb⟩; have HT2 := Lib.hid ht2; have HB9 := Lib.hid hb; clear ht2 hb)
        | (refine wpl_store_new rfl 52 (.tmp 19) (.tmp 83) rfl rfl [t2] rfl _ _ rfl HT2.out.one tip_size ?_))
      have hb9 : Below W8.heap.size W8 (w9.alloc (.cells #[t2] 52)) := HB9.out.alloc HB9.out.size _
      have hb10 : Below w9.heap.size w9 (w9.alloc (.cells #[t2] 52)) := (Below.refl _ _).alloc (Nat.le_refl _) _
      have hgl : gx < W8.heap.size := (Array.getElem?_eq_some_iff.1 HX8.out.1.at_).1
      have HX9 : Hid (WkS w (w9.alloc (.cells #[t2] 52)) pp p b1 b2 D g0 g1 gx ta tb A B (.slice (some ⟨bd, od, none⟩) ds.length cd) (.slice Au us.length cu) ds us av E ∧ ((w9.alloc (.cells #[t2] 52)).heap[gt]? = some (.cells #[dx.1] 52 (0, 0)) ∧ TipIs (fun k => k ≠ gx) (w9.alloc (.cells #[t2] 52)) (hdrs D) dx.1 E) ∧ (w9.alloc (.cells #[t2] 52)).heap[w9.heap.size]? = some (.cells #[t2] 52 (0, 0)) ∧ TipIs (fun k => k ≠ gx) (w9.alloc (.cells #[t2] 52)) (hdrs D) t2 U) := Lib.hid ⟨HX8.out.1.next hb9, ⟨(hb9.block _ (Array.getElem?_eq_some_iff.1 HX8.out.2.1).1).trans HX8.out.2.1, HX8.out.2.2.below hb9⟩, heap_alloc_new w9 _, (HT2.out.below hb10).mono fun k hk => hk.elim (fun h e => by omega) id⟩
      clear hb9 hb10 HB9 HT2 HX8 HPR
      (try simp only [Act.put])
      generalize w9.alloc (.cells #[t2] 52) = W9 at HX9 ⊢
      generalize w9.heap.size = gu at HX9 ⊢
      obtain ⟨ke, hke⟩ : ∃ ke, keyB E = ke := ⟨_, rfl⟩
      obtain ⟨he, hhe⟩ : ∃ he, hgtG (hdrs D) E = he := ⟨_, rfl⟩
      obtain ⟨hu, hhu⟩ : ∃ hu, hgtG (hdrs D) U = hu := ⟨_, rfl⟩
      have HKE : Hid (∀ (W' : World) (t : Value) (ok : Nat → Prop), TipIs ok W' (hdrs D) t E → Calls Tryz.prog 54 #[tipV t] W' fun e w' => e = .returned (.string ke) ∧ Below W'.heap.size W' w') := Lib.hid fun W' t ok h => by rw [← hke]; exact key_is h (.inr TE)
      have HHE : Hid (∀ (W' : World) (t : Value) (ok : Nat → Prop), TipIs ok W' (hdrs D) t E → Calls Tryz.prog 41 #[tipV t] W' fun e w' => e = .returned (.int .i64 he) ∧ Below W'.heap.size W' w') := Lib.hid fun W' t ok h => by rw [← hhe]; exact height_is h TE
      have HHU : Hid (∀ (W' : World) (t : Value) (ok : Nat → Prop), TipIs ok W' (hdrs D) t U → Calls Tryz.prog 41 #[tipV t] W' fun e w' => e = .returned (.int .i64 hu) ∧ Below W'.heap.size W' w') := Lib.hid fun W' t ok h => by rw [← hhu]; exact height_is h TU
      rw [hhe, hhu] at hUl
      clear hke hhe hhu
      go_upto_region 17 with fail
      refine st_ (S := (fun W' => Below W9.heap.size W9 W')) 16 (bt 0 16) (by kernel_rfl) rfl (by rfl) (Below.refl _ W9).drew (fun hHeld => ?_)
      refine tk_ 0 (some 85) (bt 1 15) rfl rfl (by kernel_rfl) (fun _ _ _ h => h) (yieldsIf_tipb rfl (.tmp 18) rfl gt rfl dx.1 (fun W' h => (h.block _ (Array.getElem?_eq_some_iff.1 HX9.out.2.1.1).1).trans HX9.out.2.1.1)) hHeld (a' := ?_) ?_ ?_
      rotate_left
      · simp only [Act.put, List.setIfInBounds_toArray, List.set_cons_zero, List.set_cons_succ]
        rfl
      refine tk_ 2 (some 87) #[true, false, true, false, false, false, false, false, false, false, false, false, false, false, false, false] rfl rfl (by kernel_rfl) (fun _ _ _ h => h) (yieldsIf_tipb rfl (.tmp 16) rfl gx rfl av (fun W' h => (h.block _ (Array.getElem?_eq_some_iff.1 HX9.out.1.at_).1).trans HX9.out.1.at_)) hHeld (a' := ?_) ?_ ?_
      rotate_left
      · simp only [Act.put, List.setIfInBounds_toArray, List.set_cons_zero, List.set_cons_succ]
        rfl
      refine call_ 1 (some 86) (bt 3 13) rfl rfl (by kernel_rfl) rfl 54 _ (by kernel_rfl) (HKE.out _ _ _ (HX9.out.2.1.2.below hHeld)) ?_
      rintro e v1 ⟨rfl, hb1⟩
      have HB101 := Lib.hid (hHeld.trans (hb1.mono hHeld.size))
      refine ⟨_, rfl, HB101.out, fun hHeld => ⟨?_, ?_, ?_⟩⟩
      rotate_left
      · simp only [Act.put, List.setIfInBounds_toArray, List.set_cons_zero, List.set_cons_succ]
        rfl
      refine call_ 3 (some 88) (bt 4 12) rfl rfl (by kernel_rfl) rfl 54 _ (by kernel_rfl) (HKE.out _ _ _ (HX9.out.1.is.below hHeld)) ?_
      rintro e v3 ⟨rfl, hb3⟩
      have HB103 := Lib.hid (hHeld.trans (hb3.mono hHeld.size))
      refine ⟨_, rfl, HB103.out, fun hHeld => ⟨?_, ?_, ?_⟩⟩
      rotate_left
      · simp only [Act.put, List.setIfInBounds_toArray, List.set_cons_zero, List.set_cons_succ]
        rfl
      refine tk_ 4 (some 89) (bt 5 11) (v := ?_) (a' := ?_) rfl rfl (by kernel_rfl) (fun _ _ _ h => h) (yieldsIf_run rfl ?_) hHeld ?_ ?_
      rotate_left
      · intro w'
        go_simp
        with_reducible rfl
      rotate_left
      · simp only [Act.put, List.setIfInBounds_toArray, List.set_cons_zero, List.set_cons_succ]
        rfl
      refine tk_ 5 (some 90) (bt 6 10) (v := ?_) (a' := ?_) rfl rfl (by kernel_rfl) (fun _ _ _ h => h) (yieldsIf_run rfl ?_) hHeld ?_ ?_
      rotate_left
      · intro w'
        go_simp
        with_reducible rfl
      rotate_left
      · simp only [Act.put, List.setIfInBounds_toArray, List.set_cons_zero, List.set_cons_succ]
        rfl
      refine tk_ 6 (some 91) (bt 7 9) (v := ?_) (a' := ?_) rfl rfl (by kernel_rfl) (fun _ _ _ h => h) (yieldsIf_run rfl ?_) hHeld ?_ ?_
      rotate_left
      · intro w'
        go_simp
        with_reducible rfl
      rotate_left
      · simp only [Act.put, List.setIfInBounds_toArray, List.set_cons_zero, List.set_cons_succ]
        rfl
      refine tk_ 7 (some 92) (bt 8 8) (v := ?_) (a' := ?_) rfl rfl (by kernel_rfl) (fun _ _ _ h => h) (yieldsIf_run rfl ?_) hHeld ?_ ?_
      rotate_left
      · intro w'
        go_simp
        with_reducible rfl
      rotate_left
      · simp only [Act.put, List.setIfInBounds_toArray, List.set_cons_zero, List.set_cons_succ]
        rfl
      refine tk_ 8 (some 93) (bt 9 7) (v := ?_) (a' := ?_) rfl rfl (by kernel_rfl) (fun _ _ _ h => h) (yieldsIf_run rfl ?_) hHeld ?_ ?_
      rotate_left
      · intro w'
        go_simp
        with_reducible rfl
      rotate_left
      · simp only [Act.put, List.setIfInBounds_toArray, List.set_cons_zero, List.set_cons_succ]
        rfl
      refine tk_ 9 (some 94) (bt 10 6) (v := ?_) (a' := ?_) rfl rfl (by kernel_rfl) (fun _ _ _ h => h) (yieldsIf_run rfl ?_) hHeld ?_ ?_
      rotate_left
      · intro w'
        go_simp
        with_reducible rfl
      rotate_left
      · simp only [Act.put, List.setIfInBounds_toArray, List.set_cons_zero, List.set_cons_succ]
        rfl
      refine tk_ 10 (some 95) (bt 11 5) rfl rfl (by kernel_rfl) (fun _ _ _ h => h) (yieldsIf_tipb rfl (.tmp 19) rfl gu rfl t2 (fun W' h => (h.block _ (Array.getElem?_eq_some_iff.1 HX9.out.2.2.1).1).trans HX9.out.2.2.1)) hHeld (a' := ?_) ?_ ?_
      rotate_left
      · simp only [Act.put, List.setIfInBounds_toArray, List.set_cons_zero, List.set_cons_succ]
        rfl
      refine tk_ 12 (some 97) #[true, true, true, true, true, true, true, true, true, true, true, false, true, false, false, false] rfl rfl (by kernel_rfl) (fun _ _ _ h => h) (yieldsIf_tipb rfl (.tmp 18) rfl gt rfl dx.1 (fun W' h => (h.block _ (Array.getElem?_eq_some_iff.1 HX9.out.2.1.1).1).trans HX9.out.2.1.1)) hHeld (a' := ?_) ?_ ?_
      rotate_left
      · simp only [Act.put, List.setIfInBounds_toArray, List.set_cons_zero, List.set_cons_succ]
        rfl
      refine call_ 11 (some 96) (bt 13 3) rfl rfl (by kernel_rfl) rfl 41 _ (by kernel_rfl) (HHU.out _ _ _ (HX9.out.2.2.2.below hHeld)) ?_
      rintro e v11 ⟨rfl, hb11⟩
      have HB111 := Lib.hid (hHeld.trans (hb11.mono hHeld.size))
      refine ⟨_, rfl, HB111.out, fun hHeld => ⟨?_, ?_, ?_⟩⟩
      rotate_left
      · simp only [Act.put, List.setIfInBounds_toArray, List.set_cons_zero, List.set_cons_succ]
        rfl
      refine call_ 13 (some 98) (bt 14 2) rfl rfl (by kernel_rfl) rfl 41 _ (by kernel_rfl) (HHE.out _ _ _ (HX9.out.2.1.2.below hHeld)) ?_
      rintro e v13 ⟨rfl, hb13⟩
      have HB113 := Lib.hid (hHeld.trans (hb13.mono hHeld.size))
      refine ⟨_, rfl, HB113.out, fun hHeld => ⟨?_, ?_, ?_⟩⟩
      rotate_left
      · simp only [Act.put, List.setIfInBounds_toArray, List.set_cons_zero, List.set_cons_succ]
        rfl
      refine tk_ 14 (some 99) (bt 15 1) rfl rfl (by kernel_rfl) (fun _ _ _ h => h) (yieldsIf_run (v := .bool false) rfl fun W' => by go_simp <;> omega) hHeld (a' := ?_) ?_ ?_
      rotate_left
      · simp only [Act.put, List.setIfInBounds_toArray, List.set_cons_zero, List.set_cons_succ]
        rfl
      refine tk_ 15 (some 100) (bt 16 0) (v := ?_) (a' := ?_) rfl rfl (by kernel_rfl) (fun _ _ _ h => h) (yieldsIf_run rfl ?_) hHeld ?_ ?_
      rotate_left
      · intro w'
        go_simp
        with_reducible rfl
      rotate_left
      · simp only [Act.put, List.setIfInBounds_toArray, List.set_cons_zero, List.set_cons_succ]
        rfl
      refine wpAnyH_done (by kernel_rfl) ?_ _
      change Exit.then _ _ _ _ _
      have HX13 : Hid (WkS w v13 pp p b1 b2 D g0 g1 gx ta tb A B (.slice (some ⟨bd, od, none⟩) ds.length cd) (.slice Au us.length cu) ds us av E ∧ v13.heap[gu]? = some (.cells #[t2] 52 (0, 0)) ∧ TipIs (fun k => k ≠ gx) v13 (hdrs D) t2 U) := Lib.hid ⟨HX9.out.1.next HB113.out, (HB113.out.block _ (Array.getElem?_eq_some_iff.1 HX9.out.2.2.1).1).trans HX9.out.2.2.1, HX9.out.2.2.2.below HB113.out⟩
      clear HX9
      go_wp2_with (first
        | (refine wpl_tip rfl _ rfl _ rfl _ HX13.out.2.1 ?_)
        | (refine wpl_store_row rfl 52 (.tmp 16) (.tmp 101) rfl gx rfl [t2] rfl _ 52 HX13.out.1.at_ rfl HX13.out.2.2.one tip_size ?_))
      go_roundw
      case rel => exact ⟨i + 1, U, t2, by omega, by go_num, HU.out, HX13.out.1.set HX13.out.2.2⟩
      case measure => simp [intOf]; omega
    · have hie : i = ds.length := by omega
      subst hie
      have hEC : E = C := by
        rw [HCA.out, HSD.out, List.getElem?_append_right (Nat.le_refl _), Nat.sub_self] at hE
        exact (Option.some.inj hE).symm
      subst hEC
      obtain ⟨kc, hkc⟩ : ∃ kc, keyB E = kc := ⟨_, rfl⟩
      have HKC : Hid (∀ (W' : World) (t : Value) (ok : Nat → Prop), TipIs ok W' (hdrs D) t E → Calls Tryz.prog 54 #[tipV t] W' fun e w' => e = .returned (.string kc) ∧ Below W'.heap.size W' w') := Lib.hid fun W' t ok h => by rw [← hkc]; exact key_is h (.inr TE)
      have HCO : Hid (∀ W', Below wr.heap.size wr W' → Calls Tryz.prog 64 #[.pointer (some ⟨pp, 0, none⟩), tipV ta, tipV tb] W' fun e w' => ∃ t2, e = .returned (tipV t2) ∧ TipIs (fun _ => True) w' (hdrs D) t2 E ∧ Below W'.heap.size W' w') := Lib.hid fun W' hb => by
        refine (common_any W' pp p b1 b2 D _ _ _ (HS.out.path.below hb) ta A TA (HS.out.is0.below hb) tb B TB (HS.out.is1.below hb)).mono ?_
        rintro e w' ⟨t2, rfl, ht2, hb2⟩
        rw [hC] at ht2
        exact ⟨t2, rfl, ht2.mono fun _ _ => trivial, hb2⟩
      clear hkc hE
      go_upto_region 21 with fail
      refine st_ (S := (fun W' => Below wr.heap.size wr W')) 8 (bt 0 8) (by kernel_rfl) rfl (by rfl) (Below.refl _ wr).drew (fun hHeld => ?_)
      refine tk_ 0 (some 103) (bt 1 7) rfl rfl (by kernel_rfl) (fun _ _ _ h => h) (yieldsIf_tipb rfl (.tmp 16) rfl gx rfl av (fun W' h => (h.block _ (Array.getElem?_eq_some_iff.1 HS.out.at_).1).trans HS.out.at_)) hHeld (a' := ?_) ?_ ?_
      rotate_left
      · simp only [Act.put, List.setIfInBounds_toArray, List.set_cons_zero, List.set_cons_succ]
        rfl
      refine tk_ 2 (some 105) #[true, false, true, false, false, false, false, false] (v := ?_) (a' := ?_) rfl rfl (by kernel_rfl) (fun _ _ _ h => h) (yieldsIf_run rfl ?_) hHeld ?_ ?_
      rotate_left
      · intro w'
        go_simp
        with_reducible rfl
      rotate_left
      · simp only [Act.put, List.setIfInBounds_toArray, List.set_cons_zero, List.set_cons_succ]
        rfl
      refine tk_ 3 (some 106) #[true, false, true, true, false, false, false, false] rfl rfl (by kernel_rfl) (fun _ _ _ h => h) (yieldsIf_tipb rfl (.tmp 12) rfl g0 rfl ta (fun W' h => (h.block _ (Array.getElem?_eq_some_iff.1 HS.out.k0).1).trans HS.out.k0)) hHeld (a' := ?_) ?_ ?_
      rotate_left
      · simp only [Act.put, List.setIfInBounds_toArray, List.set_cons_zero, List.set_cons_succ]
        rfl
      refine tk_ 4 (some 107) #[true, false, true, true, true, false, false, false] rfl rfl (by kernel_rfl) (fun _ _ _ h => h) (yieldsIf_tipb rfl (.tmp 13) rfl g1 rfl tb (fun W' h => (h.block _ (Array.getElem?_eq_some_iff.1 HS.out.k1).1).trans HS.out.k1)) hHeld (a' := ?_) ?_ ?_
      rotate_left
      · simp only [Act.put, List.setIfInBounds_toArray, List.set_cons_zero, List.set_cons_succ]
        rfl
      refine call_ 1 (some 104) (bt 5 3) rfl rfl (by kernel_rfl) rfl 54 _ (by kernel_rfl) (HKC.out _ _ _ (HS.out.is.below hHeld)) ?_
      rintro e v1 ⟨rfl, hb1⟩
      have HB101 := Lib.hid (hHeld.trans (hb1.mono hHeld.size))
      refine ⟨_, rfl, HB101.out, fun hHeld => ⟨?_, ?_, ?_⟩⟩
      rotate_left
      · simp only [Act.put, List.setIfInBounds_toArray, List.set_cons_zero, List.set_cons_succ]
        rfl
      refine call_ 5 (some 108) (bt 6 2) rfl rfl (by kernel_rfl) rfl 64 _ (by kernel_rfl) (HCO.out _ hHeld) ?_
      rintro e v5 ⟨t5, rfl, ht5, hb5⟩
      have HB105 := Lib.hid (hHeld.trans (hb5.mono hHeld.size))
      have HT5 := Lib.hid ht5
      refine ⟨_, rfl, HB105.out, fun hHeld => ⟨?_, ?_, ?_⟩⟩
      rotate_left
      · simp only [Act.put, List.setIfInBounds_toArray, List.set_cons_zero, List.set_cons_succ]
        rfl
      refine call_ 6 (some 109) (bt 7 1) rfl rfl (by kernel_rfl) rfl 54 _ (by kernel_rfl) (HKC.out _ _ _ HT5.out) ?_
      rintro e v6 ⟨rfl, hb6⟩
      have HB106 := Lib.hid (hHeld.trans (hb6.mono hHeld.size))
      refine ⟨_, rfl, HB106.out, fun hHeld => ⟨?_, ?_, ?_⟩⟩
      rotate_left
      · simp only [Act.put, List.setIfInBounds_toArray, List.set_cons_zero, List.set_cons_succ]
        rfl
      refine tk_ 7 (some 110) (bt 8 0) (v := ?_) (a' := ?_) rfl rfl (by kernel_rfl) (fun _ _ _ h => h) (yieldsIf_run rfl ?_) hHeld ?_ ?_
      rotate_left
      · intro w'
        go_simp
        with_reducible rfl
      rotate_left
      · simp only [Act.put, List.setIfInBounds_toArray, List.set_cons_zero, List.set_cons_succ]
        rfl
      refine wpAnyH_done (by kernel_rfl) ?_ _
      change Exit.then _ _ _ _ _
      have HS6 := Lib.hid (HS.out.next HB106.out)
      clear HS HKC HCO HT5
      go_wp2
      go_loopw [113] (fun c113 W => ∃ (i : Nat) (F : List ID) (av : Value), i ≤ us.length ∧ c113 = .int .i64 (i : Int) ∧ (chainG (hdrs D) B)[us.length - i]? = some F ∧ WkS w W pp p b1 b2 D g0 g1 gx ta tb A B (.slice Ad ds.length cd) (.slice Au us.length cu) ds us av F) (fun c113 _ => us.length - (intOf c113).toNat)
      case atStart => exact ⟨0, E, av, by omega, rfl, by rw [Nat.sub_zero, HCB.out, HSU.out, List.getElem?_append_right (Nat.le_refl _), Nat.sub_self]; rfl, HS6.out⟩
      case round =>
        obtain ⟨i, U, av, hi, rfl, hU, hS⟩ := hrel
        have HS := Lib.hid hS
        have TU : TipOf (hdrs D) U := GG.chain_tip B TB U (List.mem_of_getElem? hU)
        clear hS HS6
        by_cases hil : i < us.length
        · have hsu := HSU.out
          obtain ⟨m, hm⟩ : ∃ m, us.length - 1 - i = m := ⟨_, rfl⟩
          obtain ⟨ux, hux⟩ : ∃ ux, us[i]? = some ux := ⟨_, List.getElem?_eq_getElem hil⟩
          have hml : m < (aboveG (hdrs D) B E).length := by omega
          obtain ⟨F, hF⟩ : ∃ F, (chainG (hdrs D) B)[m]? = some F := ⟨_, List.getElem?_eq_getElem (by rw [HCB.out]; simp; omega)⟩
          have huF : ux.2 = F := by
            have h1 : (us.map Prod.snd)[i]? = some ux.2 := by rw [List.getElem?_map, hux]; rfl
            rw [HDE.out.2, List.getElem?_reverse (by omega), show (aboveG (hdrs D) B E).length - 1 - i = m by omega] at h1
            rw [HCB.out, List.getElem?_append_left (by omega), h1] at hF
            exact Option.some.inj hF
          obtain ⟨hUp, hUl⟩ := GG.chain_succ m B F U TB hF (by rw [show m + 1 = us.length - i by omega]; exact hU)
          have TF : TipOf (hdrs D) F := GG.chain_tip B TB F (List.mem_of_getElem? hF)
          have HF := Lib.hid hF
          have HDX := Lib.hid (HS.out.up.is ux (List.mem_of_getElem? hux)).1
          rw [huF] at HDX
          obtain ⟨be, oe, e, -, -, hcd⟩ := HS.out.up.row.at_ i ux hux
          cases e
          have HCD : Hid (wr.cell? ⟨be, oe + i, none⟩ = some ux.1) := Lib.hid (by have := hcd 0 _ rfl; rw [if_pos (HDX.out.one ux.1 (by simp))] at this; simpa [show tpE.k = 1 from rfl] using this)
          clear hcd hux huF hF hU hsu
          go_upto_region 26 with (first
            | (refine wpl_load rfl 52 (.tmp 115) rfl be (oe + i) rfl [ux.1] _ (fun j u hu => by cases j with | zero => injection hu with hu; subst hu; exact HCD.out | succ j => cases hu) Tryz.underlying52 rfl tip_size ?_)
            | (refine wpl_store_new rfl 52 (.tmp 22) (.tmp 116) rfl rfl [ux.1] rfl _ _ rfl HDX.out.one tip_size ?_))
          have hb8 : Below wr.heap.size wr (wr.alloc (.cells #[ux.1] 52)) := (Below.refl _ _).alloc (Nat.le_refl _) _
          have HX8 : Hid (WkS w (wr.alloc (.cells #[ux.1] 52)) pp p b1 b2 D g0 g1 gx ta tb A B (.slice Ad ds.length cd) (.slice (some ⟨be, oe, none⟩) us.length cu) ds us av U ∧ (wr.alloc (.cells #[ux.1] 52)).heap[wr.heap.size]? = some (.cells #[ux.1] 52 (0, 0)) ∧ TipIs (fun k => k ≠ gx) (wr.alloc (.cells #[ux.1] 52)) (hdrs D) ux.1 F) := Lib.hid ⟨HS.out.next hb8, heap_alloc_new wr _, HDX.out.below hb8⟩
          clear hb8 HCD HDX HS
          (try simp only [Act.put])
          generalize wr.alloc (.cells #[ux.1] 52) = W8 at HX8 ⊢
          generalize wr.heap.size = gt at HX8 ⊢
          have HPR := Lib.hid (parent_any W8 pp p b1 b2 D _ _ HX8.out.1.path.toD HX8.out.1.path.dag HX8.out.1.path.fine GG ux.1 F TF HX8.out.2.2)
          rw [← hUp, show (!U.isEmpty) = true from by cases U with | nil => exact absurd rfl TU.ne | cons _ _ => rfl] at HPR
          go_upto_region 27 with (first
            | (refine wpl_tip rfl _ rfl _ rfl _ HX8.out.2.1 ?_)
            | (go_at_call 63; refine HPR.out.mono ?_; rintro e w9 ⟨t2, rfl, ht2, hb⟩; have HT2 := Lib.hid ht2; have HB9 := Lib.hid hb; clear ht2 hb)
            | (refine wpl_store_new rfl 52 (.tmp 23) (.tmp 121) rfl rfl [t2] rfl _ _ rfl HT2.out.one tip_size ?_))
          have hb9 : Below W8.heap.size W8 (w9.alloc (.cells #[t2] 52)) := HB9.out.alloc HB9.out.size _
          have hb10 : Below w9.heap.size w9 (w9.alloc (.cells #[t2] 52)) := (Below.refl _ _).alloc (Nat.le_refl _) _
          have hgl : gx < W8.heap.size := (Array.getElem?_eq_some_iff.1 HX8.out.1.at_).1
          have HX9 : Hid (WkS w (w9.alloc (.cells #[t2] 52)) pp p b1 b2 D g0 g1 gx ta tb A B (.slice Ad ds.length cd) (.slice (some ⟨be, oe, none⟩) us.length cu) ds us av U ∧ ((w9.alloc (.cells #[t2] 52)).heap[gt]? = some (.cells #[ux.1] 52 (0, 0)) ∧ TipIs (fun k => k ≠ gx) (w9.alloc (.cells #[t2] 52)) (hdrs D) ux.1 F) ∧ (w9.alloc (.cells #[t2] 52)).heap[w9.heap.size]? = some (.cells #[t2] 52 (0, 0)) ∧ TipIs (fun k => k ≠ gx) (w9.alloc (.cells #[t2] 52)) (hdrs D) t2 U) := Lib.hid ⟨HX8.out.1.next hb9, ⟨(hb9.block _ (Array.getElem?_eq_some_iff.1 HX8.out.2.1).1).trans HX8.out.2.1, HX8.out.2.2.below hb9⟩, heap_alloc_new w9 _, (HT2.out.below hb10).mono fun k hk => hk.elim (fun h e => by omega) id⟩
          clear hb9 hb10 HB9 HT2 HX8 HPR
          (try simp only [Act.put])
          generalize w9.alloc (.cells #[t2] 52) = W9 at HX9 ⊢
          generalize w9.heap.size = gu at HX9 ⊢
          obtain ⟨ke, hke⟩ : ∃ ke, keyB U = ke := ⟨_, rfl⟩
          obtain ⟨he, hhe⟩ : ∃ he, hgtG (hdrs D) U = he := ⟨_, rfl⟩
          obtain ⟨hu, hhu⟩ : ∃ hu, hgtG (hdrs D) F = hu := ⟨_, rfl⟩
          have HKE : Hid (∀ (W' : World) (t : Value) (ok : Nat → Prop), TipIs ok W' (hdrs D) t U → Calls Tryz.prog 54 #[tipV t] W' fun e w' => e = .returned (.string ke) ∧ Below W'.heap.size W' w') := Lib.hid fun W' t ok h => by rw [← hke]; exact key_is h (.inr TU)
          have HHE : Hid (∀ (W' : World) (t : Value) (ok : Nat → Prop), TipIs ok W' (hdrs D) t U → Calls Tryz.prog 41 #[tipV t] W' fun e w' => e = .returned (.int .i64 he) ∧ Below W'.heap.size W' w') := Lib.hid fun W' t ok h => by rw [← hhe]; exact height_is h TU
          have HHU : Hid (∀ (W' : World) (t : Value) (ok : Nat → Prop), TipIs ok W' (hdrs D) t F → Calls Tryz.prog 41 #[tipV t] W' fun e w' => e = .returned (.int .i64 hu) ∧ Below W'.heap.size W' w') := Lib.hid fun W' t ok h => by rw [← hhu]; exact height_is h TF
          rw [hhe, hhu] at hUl
          clear hke hhe hhu
          go_upto_region 27 with fail
          refine st_ (S := (fun W' => Below W9.heap.size W9 W')) 16 (bt 0 16) (by kernel_rfl) rfl (by rfl) (Below.refl _ W9).drew (fun hHeld => ?_)
          refine tk_ 0 (some 123) (bt 1 15) (v := ?_) (a' := ?_) rfl rfl (by kernel_rfl) (fun _ _ _ h => h) (yieldsIf_run rfl ?_) hHeld ?_ ?_
          rotate_left
          · intro w'
            go_simp
            with_reducible rfl
          rotate_left
          · simp only [Act.put, List.setIfInBounds_toArray, List.set_cons_zero, List.set_cons_succ]
            rfl
          refine tk_ 1 (some 124) (bt 2 14) (v := ?_) (a' := ?_) rfl rfl (by kernel_rfl) (fun _ _ _ h => h) (yieldsIf_run rfl ?_) hHeld ?_ ?_
          rotate_left
          · intro w'
            go_simp
            with_reducible rfl
          rotate_left
          · simp only [Act.put, List.setIfInBounds_toArray, List.set_cons_zero, List.set_cons_succ]
            rfl
          refine tk_ 2 (some 125) (bt 3 13) (v := ?_) (a' := ?_) rfl rfl (by kernel_rfl) (fun _ _ _ h => h) (yieldsIf_run rfl ?_) hHeld ?_ ?_
          rotate_left
          · intro w'
            go_simp
            with_reducible rfl
          rotate_left
          · simp only [Act.put, List.setIfInBounds_toArray, List.set_cons_zero, List.set_cons_succ]
            rfl
          refine tk_ 3 (some 126) (bt 4 12) rfl rfl (by kernel_rfl) (fun _ _ _ h => h) (yieldsIf_tipb rfl (.tmp 23) rfl gu rfl t2 (fun W' h => (h.block _ (Array.getElem?_eq_some_iff.1 HX9.out.2.2.1).1).trans HX9.out.2.2.1)) hHeld (a' := ?_) ?_ ?_
          rotate_left
          · simp only [Act.put, List.setIfInBounds_toArray, List.set_cons_zero, List.set_cons_succ]
            rfl
          refine tk_ 5 (some 128) #[true, true, true, true, false, true, false, false, false, false, false, false, false, false, false, false] rfl rfl (by kernel_rfl) (fun _ _ _ h => h) (yieldsIf_tipb rfl (.tmp 16) rfl gx rfl av (fun W' h => (h.block _ (Array.getElem?_eq_some_iff.1 HX9.out.1.at_).1).trans HX9.out.1.at_)) hHeld (a' := ?_) ?_ ?_
          rotate_left
          · simp only [Act.put, List.setIfInBounds_toArray, List.set_cons_zero, List.set_cons_succ]
            rfl
          refine call_ 4 (some 127) (bt 6 10) rfl rfl (by kernel_rfl) rfl 54 _ (by kernel_rfl) (HKE.out _ _ _ (HX9.out.2.2.2.below hHeld)) ?_
          rintro e v4 ⟨rfl, hb4⟩
          have HB104 := Lib.hid (hHeld.trans (hb4.mono hHeld.size))
          refine ⟨_, rfl, HB104.out, fun hHeld => ⟨?_, ?_, ?_⟩⟩
          rotate_left
          · simp only [Act.put, List.setIfInBounds_toArray, List.set_cons_zero, List.set_cons_succ]
            rfl
          refine call_ 6 (some 129) (bt 7 9) rfl rfl (by kernel_rfl) rfl 54 _ (by kernel_rfl) (HKE.out _ _ _ (HX9.out.1.is.below hHeld)) ?_
          rintro e v6 ⟨rfl, hb6⟩
          have HB106 := Lib.hid (hHeld.trans (hb6.mono hHeld.size))
          refine ⟨_, rfl, HB106.out, fun hHeld => ⟨?_, ?_, ?_⟩⟩
          rotate_left
          · simp only [Act.put, List.setIfInBounds_toArray, List.set_cons_zero, List.set_cons_succ]
            rfl
          refine tk_ 7 (some 130) (bt 8 8) (v := ?_) (a' := ?_) rfl rfl (by kernel_rfl) (fun _ _ _ h => h) (yieldsIf_run rfl ?_) hHeld ?_ ?_
          rotate_left
          · intro w'
            go_simp
            with_reducible rfl
          rotate_left
          · simp only [Act.put, List.setIfInBounds_toArray, List.set_cons_zero, List.set_cons_succ]
            rfl
          refine tk_ 8 (some 131) (bt 9 7) (v := ?_) (a' := ?_) rfl rfl (by kernel_rfl) (fun _ _ _ h => h) (yieldsIf_run rfl ?_) hHeld ?_ ?_
          rotate_left
          · intro w'
            go_simp
            with_reducible rfl
          rotate_left
          · simp only [Act.put, List.setIfInBounds_toArray, List.set_cons_zero, List.set_cons_succ]
            rfl
          refine tk_ 9 (some 132) (bt 10 6) (v := ?_) (a' := ?_) rfl rfl (by kernel_rfl) (fun _ _ _ h => h) (yieldsIf_run rfl ?_) hHeld ?_ ?_
          rotate_left
          · intro w'
            go_simp
            with_reducible rfl
          rotate_left
          · simp only [Act.put, List.setIfInBounds_toArray, List.set_cons_zero, List.set_cons_succ]
            rfl
          refine tk_ 10 (some 133) (bt 11 5) rfl rfl (by kernel_rfl) (fun _ _ _ h => h) (yieldsIf_tipb rfl (.tmp 22) rfl gt rfl ux.1 (fun W' h => (h.block _ (Array.getElem?_eq_some_iff.1 HX9.out.2.1.1).1).trans HX9.out.2.1.1)) hHeld (a' := ?_) ?_ ?_
          rotate_left
          · simp only [Act.put, List.setIfInBounds_toArray, List.set_cons_zero, List.set_cons_succ]
            rfl
          refine tk_ 12 (some 135) #[true, true, true, true, true, true, true, true, true, true, true, false, true, false, false, false] rfl rfl (by kernel_rfl) (fun _ _ _ h => h) (yieldsIf_tipb rfl (.tmp 16) rfl gx rfl av (fun W' h => (h.block _ (Array.getElem?_eq_some_iff.1 HX9.out.1.at_).1).trans HX9.out.1.at_)) hHeld (a' := ?_) ?_ ?_
          rotate_left
          · simp only [Act.put, List.setIfInBounds_toArray, List.set_cons_zero, List.set_cons_succ]
            rfl
          refine call_ 11 (some 134) (bt 13 3) rfl rfl (by kernel_rfl) rfl 41 _ (by kernel_rfl) (HHU.out _ _ _ (HX9.out.2.1.2.below hHeld)) ?_
          rintro e v11 ⟨rfl, hb11⟩
          have HB111 := Lib.hid (hHeld.trans (hb11.mono hHeld.size))
          refine ⟨_, rfl, HB111.out, fun hHeld => ⟨?_, ?_, ?_⟩⟩
          rotate_left
          · simp only [Act.put, List.setIfInBounds_toArray, List.set_cons_zero, List.set_cons_succ]
            rfl
          refine call_ 13 (some 136) (bt 14 2) rfl rfl (by kernel_rfl) rfl 41 _ (by kernel_rfl) (HHE.out _ _ _ (HX9.out.1.is.below hHeld)) ?_
          rintro e v13 ⟨rfl, hb13⟩
          have HB113 := Lib.hid (hHeld.trans (hb13.mono hHeld.size))
          refine ⟨_, rfl, HB113.out, fun hHeld => ⟨?_, ?_, ?_⟩⟩
          rotate_left
          · simp only [Act.put, List.setIfInBounds_toArray, List.set_cons_zero, List.set_cons_succ]
            rfl
          refine tk_ 14 (some 137) (bt 15 1) rfl rfl (by kernel_rfl) (fun _ _ _ h => h) (yieldsIf_run (v := .bool false) rfl fun W' => by go_simp <;> omega) hHeld (a' := ?_) ?_ ?_
          rotate_left
          · simp only [Act.put, List.setIfInBounds_toArray, List.set_cons_zero, List.set_cons_succ]
            rfl
          refine tk_ 15 (some 138) (bt 16 0) (v := ?_) (a' := ?_) rfl rfl (by kernel_rfl) (fun _ _ _ h => h) (yieldsIf_run rfl ?_) hHeld ?_ ?_
          rotate_left
          · intro w'
            go_simp
            with_reducible rfl
          rotate_left
          · simp only [Act.put, List.setIfInBounds_toArray, List.set_cons_zero, List.set_cons_succ]
            rfl
          refine wpAnyH_done (by kernel_rfl) ?_ _
          change Exit.then _ _ _ _ _
          have HX13 : Hid (WkS w v13 pp p b1 b2 D g0 g1 gx ta tb A B (.slice Ad ds.length cd) (.slice (some ⟨be, oe, none⟩) us.length cu) ds us av U ∧ v13.heap[gt]? = some (.cells #[ux.1] 52 (0, 0)) ∧ TipIs (fun k => k ≠ gx) v13 (hdrs D) ux.1 F) := Lib.hid ⟨HX9.out.1.next HB113.out, (HB113.out.block _ (Array.getElem?_eq_some_iff.1 HX9.out.2.1.1).1).trans HX9.out.2.1.1, HX9.out.2.1.2.below HB113.out⟩
          clear HX9
          go_wp2_with (first
            | (refine wpl_tip rfl _ rfl _ rfl _ HX13.out.2.1 ?_)
            | (refine wpl_store_row rfl 52 (.tmp 16) (.tmp 139) rfl gx rfl [ux.1] rfl _ 52 HX13.out.1.at_ rfl HX13.out.2.2.one tip_size ?_))
          go_roundw
          case rel => exact ⟨i + 1, F, ux.1, by omega, by go_num, by rw [show us.length - (i + 1) = m by omega]; exact HF.out, HX13.out.1.set HX13.out.2.2⟩
          case measure => simp [intOf]; omega
        · have hie : i = us.length := by omega
          subst hie
          have hUB : U = B := by
            rw [Nat.sub_self, GG.chain_step TB] at hU
            exact (Option.some.inj hU).symm
          subst hUB
          obtain ⟨kb, hkb⟩ : ∃ kb, keyB U = kb := ⟨_, rfl⟩
          have HKB : Hid (∀ (W' : World) (t : Value) (ok : Nat → Prop), TipIs ok W' (hdrs D) t U → Calls Tryz.prog 54 #[tipV t] W' fun e w' => e = .returned (.string kb) ∧ Below W'.heap.size W' w') := Lib.hid fun W' t ok h => by rw [← hkb]; exact key_is h (.inr TU)
          have hqb : (kb.toList == kb.toList) = true := by rw [str_beq]; exact decide_eq_true rfl
          clear hkb hU
          go_upto_region 31 with fail
          refine st_ (S := (fun W' => Below wr.heap.size wr W')) 6 (bt 0 6) (by kernel_rfl) rfl (by rfl) (Below.refl _ wr).drew (fun hHeld => ?_)
          refine tk_ 0 (some 141) (bt 1 5) rfl rfl (by kernel_rfl) (fun _ _ _ h => h) (yieldsIf_tipb rfl (.tmp 16) rfl gx rfl av (fun W' h => (h.block _ (Array.getElem?_eq_some_iff.1 HS.out.at_).1).trans HS.out.at_)) hHeld (a' := ?_) ?_ ?_
          rotate_left
          · simp only [Act.put, List.setIfInBounds_toArray, List.set_cons_zero, List.set_cons_succ]
            rfl
          refine tk_ 2 (some 143) #[true, false, true, false, false, false] rfl rfl (by kernel_rfl) (fun _ _ _ h => h) (yieldsIf_tipb rfl (.tmp 13) rfl g1 rfl tb (fun W' h => (h.block _ (Array.getElem?_eq_some_iff.1 HS.out.k1).1).trans HS.out.k1)) hHeld (a' := ?_) ?_ ?_
          rotate_left
          · simp only [Act.put, List.setIfInBounds_toArray, List.set_cons_zero, List.set_cons_succ]
            rfl
          refine call_ 1 (some 142) (bt 3 3) rfl rfl (by kernel_rfl) rfl 54 _ (by kernel_rfl) (HKB.out _ _ _ (HS.out.is.below hHeld)) ?_
          rintro e v1 ⟨rfl, hb1⟩
          have HB101 := Lib.hid (hHeld.trans (hb1.mono hHeld.size))
          refine ⟨_, rfl, HB101.out, fun hHeld => ⟨?_, ?_, ?_⟩⟩
          rotate_left
          · simp only [Act.put, List.setIfInBounds_toArray, List.set_cons_zero, List.set_cons_succ]
            rfl
          refine call_ 3 (some 144) (bt 4 2) rfl rfl (by kernel_rfl) rfl 54 _ (by kernel_rfl) (HKB.out _ _ _ (HS.out.is1.below hHeld)) ?_
          rintro e v3 ⟨rfl, hb3⟩
          have HB103 := Lib.hid (hHeld.trans (hb3.mono hHeld.size))
          refine ⟨_, rfl, HB103.out, fun hHeld => ⟨?_, ?_, ?_⟩⟩
          rotate_left
          · simp only [Act.put, List.setIfInBounds_toArray, List.set_cons_zero, List.set_cons_succ]
            rfl
          refine tk_ 4 (some 145) (bt 5 1) (v := ?_) (a' := ?_) rfl rfl (by kernel_rfl) (fun _ _ _ h => h) (yieldsIf_run rfl ?_) hHeld ?_ ?_
          rotate_left
          · intro w'
            go_simp
            with_reducible rfl
          rotate_left
          · simp only [Act.put, List.setIfInBounds_toArray, List.set_cons_zero, List.set_cons_succ]
            rfl
          refine tk_ 5 (some 6) (bt 6 0) (v := ?_) (a' := ?_) rfl rfl (by kernel_rfl) (fun _ _ _ h => h) (yieldsIf_run rfl ?_) hHeld ?_ ?_
          rotate_left
          · intro w'
            go_simp
            with_reducible rfl
          rotate_left
          · simp only [Act.put, List.setIfInBounds_toArray, List.set_cons_zero, List.set_cons_succ]
            rfl
          refine wpAnyH_done (by kernel_rfl) ?_ _
          change Exit.then _ _ _ _ _
          go_wp2
          go_ret
          exact ⟨rfl, HS.out.below.trans (HB103.out.mono HS.out.below.size)⟩
end Go.Proofs.YtcohdfkdhdhegaaGreatDoor
