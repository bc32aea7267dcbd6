/- coxswainref13.Check, Add. -/
import Derived.Test.YtcohdfkdhdhegaaGreatDoorPbAZ
import Derived.Test.YtcohdfkdhdhegaaGreatDoorPbBA
namespace Go.Proofs.YtcohdfkdhdhegaaGreatDoor
open Go.RowKit

section
variable {L : List RH} {h : RH} {p : List RH}
theorem rcheckF_1 (e : rcheck5 h ≠ 0) : rcheckF L h = rcheck5 h := by unfold rcheckF; rw [if_pos e]
theorem rcheckF_9 (e : rcheck5 h = 0) (hh : rhas L (rid h).1 = true) : rcheckF L h = 9 := by unfold rcheckF; rw [if_neg (by simp [e]), if_pos hh]
theorem rcheckF_7 (e : rcheck5 h = 0) (hh : rhas L (rid h).1 = false) (hp : rheads L h.parents = none) : rcheckF L h = 7 := by
  unfold rcheckF; rw [if_neg (by simp [e]), if_neg (by simp [hh]), hp]
theorem rcheckF_10 (e : rcheck5 h = 0) (hh : rhas L (rid h).1 = false) (hp : rheads L h.parents = some p) (h8 : rcheck8 p ≠ 0) : rcheckF L h = 10 := by
  unfold rcheckF; rw [if_neg (by simp [e]), if_neg (by simp [hh]), hp]; simp only [h8, ne_eq, not_false_eq_true, if_true]
theorem rcheckF_11 (e : rcheck5 h = 0) (hh : rhas L (rid h).1 = false) (hp : rheads L h.parents = some p) (h8 : rcheck8 p = 0) (ht : rheight p ≥ h.height) : rcheckF L h = 11 := by
  unfold rcheckF; rw [if_neg (by simp [e]), if_neg (by simp [hh]), hp]; simp only [h8, ne_eq, not_true_eq_false, if_false]; rw [if_pos ht]
theorem rcheckF_0 (e : rcheck5 h = 0) (hh : rhas L (rid h).1 = false) (hp : rheads L h.parents = some p) (h8 : rcheck8 p = 0) (ht : ¬ rheight p ≥ h.height) : rcheckF L h = 0 := by
  unfold rcheckF; rw [if_neg (by simp [e]), if_neg (by simp [hh]), hp]; simp only [h8, ne_eq, not_true_eq_false, if_false]; rw [if_neg ht]
end
/-- What lies while a header is looked at. -/
structure RcS (w W : World) (v : Value) (L : List LRH) (ok okx : Nat → Prop) (x : LRH) : Prop where
  box : W.heap[w.heap.size]? = some (.cells x.cells.toArray 29 (0, 0))
  at_ : x.At okx W
  row : Sl rbE ok W v L
  all : ∀ y ∈ L, y.At ok W
  below : Below w.heap.size w W
theorem RcS.next {w W W' : World} {v : Value} {L : List LRH} {ok okx : Nat → Prop} {x : LRH} (h : RcS w W v L ok okx x) (hb : Below W.heap.size W W') : RcS w W' v L ok okx x where
  box := (hb.block _ (Array.getElem?_eq_some_iff.1 h.box).1).trans h.box
  at_ := Sl.below h.at_ hb
  row := h.row.below hb
  all := fun y hy => Sl.below (h.all y hy) hb
  below := h.below.trans (hb.mono h.below.size)
theorem RcS.load {w W : World} {v : Value} {L : List LRH} {ok okx : Nat → Prop} {x : LRH} (h : RcS w W v L ok okx x) : ∀ j u, x.cells[j]? = some u → W.cell? ⟨w.heap.size, 0 + j, none⟩ = some u := fun j u hu => by
  rw [Nat.zero_add]; exact cell_block h.box (by simpa using hu)
theorem RcS.start {w : World} {v : Value} {L : List LRH} {ok okx : Nat → Prop} {x : LRH} (hl : Sl rbE ok w v L) (hL : ∀ y ∈ L, y.At ok w) (hx : x.At okx w) : RcS w (w.alloc (.cells x.cells.toArray 29)) v L ok okx x :=
  have hb : Below w.heap.size w (w.alloc (.cells x.cells.toArray 29)) := (Below.refl _ w).alloc (Nat.le_refl _) _
  ⟨heap_alloc_new w _, Sl.below hx hb, hl.below hb, fun y hy => Sl.below (hL y hy) hb, hb⟩
/-- What a header is that the reference is asked for. -/
structure AskH (h : RH) : Prop where
  tell : TellH h
  p0 : 0 ≤ h.power

set_option maxRecDepth 100000 in
set_option maxHeartbeats 4000000 in
theorem rcheckF_any (w : World) (v : Value) (L : List LRH) (ok okx : Nat → Prop) (hl : Sl rbE ok w v L) (hL : ∀ y ∈ L, y.At ok w ∧ TellH y.h) (x : LRH) (hx : x.At okx w) (hok : AskH x.h) :
    Calls Tryz.prog 17 #[v, .agg x.cells.toArray] w fun e w' => e = .returned (.int .i64 (rcheckF (rhs L) x.h)) ∧ Below w.heap.size w w' := by
  have HS0 : Hid (RcS w (w.alloc (.cells x.cells.toArray 29)) v L ok okx x) := Lib.hid (RcS.start hl (fun y hy => (hL y hy).1) hx)
  have HT : Hid (∀ y ∈ L, TellH y.h) := Lib.hid fun y hy => (hL y hy).2
  obtain ⟨e5, he5⟩ : ∃ e, rcheck5 x.h = e := ⟨_, rfl⟩
  obtain ⟨n, hn⟩ : ∃ n, rid x.h = n := ⟨_, rfl⟩
  have H5 : Hid (∀ W, x.At okx W → Calls Tryz.prog 87 #[.agg x.cells.toArray] W fun e w' => e = .returned (.int .i64 e5) ∧ Below W.heap.size W w') := Lib.hid fun W h => by
    rw [← he5]
    exact rcheck5_any W x okx h (Nat.le_trans hok.tell.parents (by decide)) (Nat.le_trans hok.tell.ticket (by decide)) hok.p0
  have HI : Hid (∀ W, x.At okx W → Calls Tryz.prog 89 #[.agg x.cells.toArray] W fun e w' => e = .returned (.string n.1) ∧ Below W.heap.size W w') := Lib.hid fun W h => by
    rw [← hn]
    exact rid_any W x okx h hok.tell
  have HE5 := Lib.hid he5
  have HN := Lib.hid hn
  have hpl : x.h.parents.length ≤ 1000 := Nat.le_trans hok.tell.parents (by decide)
  clear hl hL hx he5 hn hok
  go_enter Tryz.func17, Tryz.ntmps17
  go_upto_region 1 with fail
  change Code.wp _ _ _ _ (w.alloc (.cells x.cells.toArray 29))
  generalize w.alloc (.cells x.cells.toArray 29) = W0 at HS0 ⊢
  go_upto_region 2 with (first
    | (refine wpl_load rfl 29 (.tmp 3) rfl w.heap.size 0 rfl x.cells _ HS0.out.load Tryz.underlying29 rfl rh_size ?_)
    | (go_at_call 87; refine (H5.out _ HS0.out.at_).mono ?_; rintro e w1 ⟨rfl, hb1⟩; have HS1 := Lib.hid (HS0.out.next hb1); clear hb1))
  by_cases h5 : e5 = 0
  · have E5 := HE5.out
    rw [h5] at E5
    subst h5
    rcases hh : rhas (rhs L) n.1 with _ | _
    · have HHH : Hid (rhas (rhs L) (rid x.h).1 = false) := Lib.hid (by rw [HN.out]; exact hh)
      have HF : Hid (∀ W, Sl rbE ok W v L → Calls Tryz.prog 88 #[v, .string n.1] W fun e w' => e = .returned (.int .i64 (-1)) ∧ Below W.heap.size W w') := Lib.hid fun W h => (rfind_any W v L ok h n.1).mono fun e w' ⟨k, he, hk, hb⟩ => by
        rcases hk with ⟨rfl, -⟩ | ⟨i, y, -, -, -, h2⟩
        · exact ⟨he, hb⟩
        · rw [hh] at h2; cases h2
      clear hh
      go_upto_region 6 with (first
        | (refine wpl_load rfl 29 (.tmp 3) rfl w.heap.size 0 rfl x.cells _ HS1.out.load Tryz.underlying29 rfl rh_size ?_)
        | (go_at_call 89; refine (HI.out _ HS1.out.at_).mono ?_; rintro e w2 ⟨rfl, hb2⟩; have HS2 := Lib.hid (HS1.out.next hb2); clear hb2)
        | (go_at_call 88; refine (HF.out _ HS2.out.row).mono ?_; rintro e w3 ⟨rfl, hb3⟩; have HS3 := Lib.hid (HS2.out.next hb3); clear hb3))
      obtain ⟨ph, hph⟩ : ∃ ps, x.h.parents = ps := ⟨_, rfl⟩
      have hc5 : w3.cell? ⟨w.heap.size, 5, none⟩ = some x.v := cell_block HS3.out.box rfl
      rcases hp : rheads (rhs L) x.h.parents with _ | p
      · have HV : Hid (rcheckF (rhs L) x.h = 7) := Lib.hid (rcheckF_7 E5 HHH.out hp)
        have HH : Hid (∀ W, Sl rbE ok W v L → x.At okx W → Calls Tryz.prog 27 #[v, x.v] W fun e w' => e = .returned (.tuple #[.slice none 0 0, .bool false]) ∧ Below W.heap.size W w') := Lib.hid fun W h h2 => (rheads_any W v L ok h x.v x.h.parents okx h2 hpl).mono fun e w' ⟨hb, hc⟩ => by
          rcases hc with ⟨-, he⟩ | ⟨u, ys, h3, -⟩
          · exact ⟨he, hb⟩
          · rw [hp] at h3; cases h3
        clear hp hph
        go_wp2_with (go_at_call 27; refine (HH.out _ HS3.out.row HS3.out.at_).mono ?_; rintro e w4 ⟨rfl, hb4⟩; have HS4 := Lib.hid (HS3.out.next hb4); clear hb4)
        go_ret
        exact ⟨by rw [HV.out]; rfl, HS4.out.below⟩
      · obtain ⟨hri, hl1, hl5, -, -⟩ := rcheck_parts E5
        have HH : Hid (∀ W, Sl rbE ok W v L → x.At okx W → Calls Tryz.prog 27 #[v, x.v] W fun e w' => ∃ u ys, p = rhs ys ∧ (∀ y ∈ ys, y ∈ L) ∧ ys.length = x.h.parents.length ∧ e = .returned (.tuple #[u, .bool true]) ∧ w'.ownsRow W.heap.size 29 7 u ys.length (lrhE.flat ys) ∧ Below W.heap.size W w') := Lib.hid fun W h h2 => (rheads_any W v L ok h x.v x.h.parents okx h2 hpl).mono fun e w' ⟨hb, hc⟩ => by
          rcases hc with ⟨h3, -⟩ | ⟨u, ys, h3, h4, h5, h6, h7⟩
          · rw [hp] at h3; cases h3
          · rw [hp] at h3
            injection h3 with h3
            exact ⟨u, ys, h3, h4, h5, h6, h7, hb⟩
        have HP := Lib.hid hp
        clear hp hph hri
        go_upto_region 9 with (go_at_call 27; refine (HH.out _ HS3.out.row HS3.out.at_).mono ?_; rintro e w4 ⟨u, ys, hpy, hmem, hyl, rfl, ho4, hb4⟩; obtain ⟨Au, cu, rfl, -⟩ := own_slice ho4; have HPY := Lib.hid hpy; have HMEM := Lib.hid hmem; have HO4 := Lib.hid ho4; have HS4 := Lib.hid (HS3.out.next hb4); have HYL := Lib.hid hyl; clear hpy hmem ho4 hb4 hyl)
        obtain ⟨e8, he8⟩ : ∃ e, rcheck8 p = e := ⟨_, rfl⟩
        have H8 : Hid (Calls Tryz.prog 28 #[.slice Au ys.length cu] w4 fun e w' => e = .returned (.int .i64 e8) ∧ Below w4.heap.size w4 w') := Lib.hid (by
          rw [← he8, HPY.out]
          exact rcheck8_any w4 _ ys _ ok (Sl.of_own (E := lrhE) HO4.out) (fun y hy => ⟨HS4.out.all y (HMEM.out y hy), HT.out y (HMEM.out y hy)⟩) (by have := HYL.out; omega))
        by_cases h8 : e8 = 0
        · subst h8
          obtain ⟨y0, hy0⟩ : ∃ y0, ys[0]? = some y0 := ⟨_, List.getElem?_eq_getElem (by have := HYL.out; omega)⟩
          have hrh : rheight p = y0.h.height := by
            rw [HPY.out]
            cases ys with
            | nil => cases hy0
            | cons a l => injection hy0 with e; rw [← e]; rfl
          have HOU : Hid (Sl lrhE (fun k => k < w4.heap.size) w4 (.slice Au ys.length cu) ys) := Lib.hid ((Sl.of_own (E := lrhE) HO4.out).old.mono fun k hk => hk.2)
          go_upto_region 11 with (go_at_call 28; refine H8.out.mono ?_; rintro e w5 ⟨rfl, hb5⟩; have HS5 := Lib.hid (HS4.out.next hb5); have HOW := Lib.hid (HOU.out.below hb5); clear hb5)
          obtain ⟨b0, o0, rfl, -, -, hc0⟩ := HOW.out.at_ 0 y0 hy0
          obtain ⟨yh, hyh⟩ : ∃ m, y0.h.height = m := ⟨_, rfl⟩
          obtain ⟨xh, hxh⟩ : ∃ m, x.h.height = m := ⟨_, rfl⟩
          have hcy : w5.cell? ⟨b0, o0, none⟩ = some (.int .i64 yh) := by have := hc0 0 _ rfl; simp only [Nat.zero_mul, Nat.add_zero] at this; rw [this, ← hyh]
          have hcx : w5.cell? ⟨w.heap.size, 0, none⟩ = some (.int .i64 xh) := by rw [← hxh]; exact cell_block HS5.out.box rfl
          have HCC := Lib.hid (And.intro hcy hcx)
          obtain ⟨g, hg⟩ : ∃ g, decide (xh ≤ yh) = g := ⟨_, rfl⟩
          have HG := Lib.hid hg
          have hyl0 : 0 < ys.length := by have := HYL.out; omega
          have HXH := Lib.hid (And.intro hxh (hrh.trans hyh))
          clear hc0 hcy hcx hg hy0 hyh hxh hrh
          refine st_ (S := (fun W' => W' = w5.drew)) 7 (bt 0 7) (by kernel_rfl) rfl (by rfl) rfl (fun hHeld => ?_)
          refine tk_ 0 (some 30) (bt 1 6) (v := ?_) (a' := ?_) rfl rfl (by kernel_rfl) (fun _ _ _ h => h) (yieldsIf_run rfl ?_) hHeld ?_ ?_
          rotate_left
          · intro w'
            go_simp
            with_reducible rfl
          rotate_left
          · simp only [Act.put, List.setIfInBounds_toArray, List.set_cons_zero, List.set_cons_succ]
            rfl
          refine tk_ 1 (some 31) (bt 2 5) (v := ?_) (a' := ?_) rfl rfl (by kernel_rfl) (fun _ _ _ h => h) (yieldsIf_run rfl ?_) hHeld ?_ ?_
          rotate_left
          · intro w'
            go_simp
            with_reducible rfl
          rotate_left
          · simp only [Act.put, List.setIfInBounds_toArray, List.set_cons_zero, List.set_cons_succ]
            rfl
          refine tk_ 2 (some 32) (bt 3 4) (v := ?_) (a' := ?_) rfl rfl (by kernel_rfl) (fun _ _ _ h => h) (yieldsIf_run rfl ?_) hHeld ?_ ?_
          rotate_left
          · intro w'
            go_simp
            with_reducible rfl
          rotate_left
          · simp only [Act.put, List.setIfInBounds_toArray, List.set_cons_zero, List.set_cons_succ]
            rfl
          refine tk_ 3 (some 33) (bt 4 3) rfl rfl (by kernel_rfl) (fun _ _ _ h => h) (yieldsIf_cell rfl 3 (.tmp 32) rfl ⟨b0, o0, none⟩ rfl (.int .i64 yh) _ (fun W' h => by rw [h]; exact HCC.out.1) Tryz.underlying3 rfl) hHeld (a' := ?_) ?_ ?_
          rotate_left
          · simp only [Act.put, List.setIfInBounds_toArray, List.set_cons_zero, List.set_cons_succ]
            rfl
          refine tk_ 4 (some 34) (bt 5 2) (v := ?_) (a' := ?_) rfl rfl (by kernel_rfl) (fun _ _ _ h => h) (yieldsIf_run rfl ?_) hHeld ?_ ?_
          rotate_left
          · intro w'
            go_simp
            with_reducible rfl
          rotate_left
          · simp only [Act.put, List.setIfInBounds_toArray, List.set_cons_zero, List.set_cons_succ]
            rfl
          refine tk_ 5 (some 35) (bt 6 1) rfl rfl (by kernel_rfl) (fun _ _ _ h => h) (yieldsIf_cell rfl 3 (.tmp 34) rfl ⟨w.heap.size, 0, none⟩ rfl (.int .i64 xh) _ (fun W' h => by rw [h]; exact HCC.out.2) Tryz.underlying3 rfl) hHeld (a' := ?_) ?_ ?_
          rotate_left
          · simp only [Act.put, List.setIfInBounds_toArray, List.set_cons_zero, List.set_cons_succ]
            rfl
          refine tk_ 6 (some 36) (bt 7 0) rfl rfl (by kernel_rfl) (fun _ _ _ h => h) (yieldsIf_run (v := .bool g) rfl fun W' => (show _ = Result.ok (Next.value (.bool (decide (xh ≤ yh)))) W' from rfl).trans (by rw [HG.out])) hHeld (a' := ?_) ?_ ?_
          rotate_left
          · simp only [Act.put, List.setIfInBounds_toArray, List.set_cons_zero, List.set_cons_succ]
            rfl
          refine wpAnyH_done (by kernel_rfl) ?_ _
          change Exit.then _ _ _ _ _
          cases g
          · have hv : rcheckF (rhs L) x.h = 0 := rcheckF_0 E5 HHH.out HP.out he8 (by rw [HXH.out.1, HXH.out.2]; exact of_decide_eq_false HG.out)
            have HV := Lib.hid hv
            clear hv
            go_wp2
            go_ret
            exact ⟨by rw [HV.out]; rfl, HS5.out.below.drew⟩
          · have hv : rcheckF (rhs L) x.h = 11 := rcheckF_11 E5 HHH.out HP.out he8 (by rw [HXH.out.1, HXH.out.2]; exact of_decide_eq_true HG.out)
            have HV := Lib.hid hv
            clear hv
            go_wp2
            go_ret
            exact ⟨by rw [HV.out]; rfl, HS5.out.below.drew⟩
        · have hne2 : (e8 != 0) = true := by simpa using h8
          have hne : (e8 == 0) = false := by simpa using h8
          have hv : rcheckF (rhs L) x.h = 10 := rcheckF_10 E5 HHH.out HP.out (by rw [he8]; exact h8)
          have HV := Lib.hid hv
          clear hv
          go_wp2_with (go_at_call 28; refine H8.out.mono ?_; rintro e w5 ⟨rfl, hb5⟩; have HS5 := Lib.hid (HS4.out.next hb5); clear hb5)
          go_ret
          exact ⟨by rw [HV.out]; rfl, HS5.out.below⟩
    · have HF : Hid (∀ W, Sl rbE ok W v L → Calls Tryz.prog 88 #[v, .string n.1] W fun e w' => ∃ i : Nat, e = .returned (.int .i64 (i : Int)) ∧ Below W.heap.size W w') := Lib.hid fun W h => (rfind_any W v L ok h n.1).mono fun e w' ⟨k, he, hk, hb⟩ => by
        rcases hk with ⟨-, h2⟩ | ⟨i, y, rfl, -, -, h2⟩
        · rw [hh] at h2; cases h2
        · exact ⟨i, he, hb⟩
      have HV : Hid (rcheckF (rhs L) x.h = 9) := Lib.hid (rcheckF_9 E5 (by rw [HN.out]; exact hh))
      clear hh
      go_wp2_with (first
        | (refine wpl_load rfl 29 (.tmp 3) rfl w.heap.size 0 rfl x.cells _ HS1.out.load Tryz.underlying29 rfl rh_size ?_)
        | (go_at_call 89; refine (HI.out _ HS1.out.at_).mono ?_; rintro e w2 ⟨rfl, hb2⟩; have HS2 := Lib.hid (HS1.out.next hb2); clear hb2)
        | (go_at_call 88; refine (HF.out _ HS2.out.row).mono ?_; rintro e w3 ⟨i, rfl, hb3⟩; have HS3 := Lib.hid (HS2.out.next hb3); have hi0 : (0 : Int) ≤ (i : Int) := Int.natCast_nonneg i; clear hb3))
      go_ret
      exact ⟨by rw [HV.out]; rfl, HS3.out.below⟩
  · have hne : (e5 == 0) = false := by simpa using h5
    have hne2 : (e5 != 0) = true := by simpa using h5
    have hv : rcheckF (rhs L) x.h = e5 := by rw [rcheckF_1 (by rw [HE5.out]; exact h5), HE5.out]
    have HV := Lib.hid hv
    clear hv
    go_wp2
    go_ret
    exact ⟨by rw [HV.out]; rfl, HS1.out.below⟩

theorem rb_info : (Tryz.prog.info? 31).map (fun i => (i.zero, i.size, i.bytes)) = some (some (.agg zRB), 8, 96) := by kernel_rfl
theorem rbZ_cells : (Value.agg zRB).cells.size = 8 := rfl
/-- One header more comes in, or none. -/
def AddedR (w w' : World) (e : Ending) (v : Value) (L : List LRH) (x : LRH) : Prop :=
  (rcheckF (rhs L) x.h ≠ 0 ∧ e = .returned (.tuple #[v, .int .i64 (rcheckF (rhs L) x.h)])) ∨
  (rcheckF (rhs L) x.h = 0 ∧ ∃ v', e = .returned (.tuple #[v', .int .i64 0]) ∧ w'.ownsRow w.heap.size 31 8 v' (L.length + 1) (rbE.flat (L ++ [x])))
set_option maxRecDepth 100000 in
set_option maxHeartbeats 4000000 in
theorem raddF_any (w : World) (v : Value) (L : List LRH) (ok okx : Nat → Prop) (hl : Sl rbE ok w v L) (hL : ∀ y ∈ L, y.At ok w ∧ TellH y.h) (hL0 : 0 < L.length) (hL1 : L.length ≤ 1000) (x : LRH) (hx : x.At okx w) (hok : AskH x.h) :
    Calls Tryz.prog 20 #[v, .agg x.cells.toArray] w fun e w' => AddedR w w' e v L x ∧ Below w.heap.size w w' := by
  have HS0 : Hid (RcS w (w.alloc (.cells x.cells.toArray 29)) v L ok okx x) := Lib.hid (RcS.start hl (fun y hy => (hL y hy).1) hx)
  obtain ⟨V, hV⟩ : ∃ V, rcheckF (rhs L) x.h = V := ⟨_, rfl⟩
  have HC : Hid (∀ W, Sl rbE ok W v L → (∀ y ∈ L, y.At ok W) → x.At okx W → Calls Tryz.prog 17 #[v, .agg x.cells.toArray] W fun e w' => e = .returned (.int .i64 V) ∧ Below W.heap.size W w') := Lib.hid fun W h h2 h3 => by
    rw [← hV]
    exact rcheckF_any W v L ok okx h (fun y hy => ⟨h2 y hy, (hL y hy).2⟩) x h3 hok
  obtain ⟨n, hn⟩ : ∃ n, rid x.h = n := ⟨_, rfl⟩
  have HM : Hid (∀ W, x.At okx W → Calls Tryz.prog 85 #[.agg x.cells.toArray] W fun e w' => e = .returned (.agg (rbc n x).toArray) ∧ Below W.heap.size W w') := Lib.hid fun W h => by rw [← hn]; exact rmake_any W x okx h hok.tell
  have HN := Lib.hid hn
  unfold AddedR
  rw [hV]
  clear hl hL hx hok hn hV
  go_enter Tryz.func20, Tryz.ntmps20
  go_upto_region 1 with fail
  change Code.wp _ _ _ _ (w.alloc (.cells x.cells.toArray 29))
  generalize w.alloc (.cells x.cells.toArray 29) = W0 at HS0 ⊢
  go_upto_region 2 with (first
    | (refine wpl_load rfl 29 (.tmp 3) rfl w.heap.size 0 rfl x.cells _ HS0.out.load Tryz.underlying29 rfl rh_size ?_)
    | (go_at_call 17; refine (HC.out _ HS0.out.row HS0.out.all HS0.out.at_).mono ?_; rintro e w1 ⟨rfl, hb1⟩; have HS1 := Lib.hid (HS0.out.next hb1); clear hb1))
  by_cases h0 : V = 0
  · subst h0
    go_upto_region 4 with fail
    obtain ⟨A, c, rfl, hc, hm⟩ := HS1.out.row.form
    obtain ⟨y0, hy0⟩ : ∃ y0, L[0]? = some y0 := ⟨_, List.getElem?_eq_getElem hL0⟩
    obtain ⟨bl, ol, rfl, -, -, -⟩ := HS1.out.row.at_ 0 y0 hy0
    have hb0 : Below w1.heap.size w1 (w1.drew.alloc (.cells #[] 31)) := (Below.refl _ w1).drew.alloc (Nat.le_refl _) _
    have HSD := Lib.hid (HS1.out.next (Below.refl _ w1).drew)
    have HSE := Lib.hid (HS1.out.next hb0)
    have HLC : Hid (∀ j u, (rbE.flat L)[j]? = some u → (w1.drew.alloc (.cells #[] 31)).cell? ⟨bl, ol + j, none⟩ = some u) := Lib.hid (by
      obtain ⟨A', n', c', he, h1, h2, h3, h4, h5⟩ := HSE.out.row
      injection he with e1 e2 e3
      subst e1
      subst e2
      obtain ⟨b', o', hA, -, -, hcell⟩ := h5 hL0
      injection hA with hA
      injection hA with e4 e5
      subst e4
      subst e5
      exact hcell)
    have hbw : Below w.heap.size w (w1.drew.alloc (.cells #[] 31)) := HSE.out.below
    have HB0 := Lib.hid hb0
    clear hbw hb0 hy0
    refine stD_ (S := (fun W' => RcS w W' (.slice (some ⟨bl, ol, none⟩) L.length c) L ok okx x)) [8] 9 (bt 0 9) (by kernel_rfl) rfl (by rfl) HSD.out (fun hHeld => ?_)
    refine tkD_ 1 (some 15) #[false, true, false, false, false, false, false, false, false] (v := ?_) (a' := ?_) rfl rfl (by kernel_rfl) (fun _ _ _ h => h) (yieldsIf_run rfl ?_) hHeld ?_ ?_
    rotate_left
    · intro w'
      go_simp
      with_reducible rfl
    rotate_left
    · simp only [Act.put, List.setIfInBounds_toArray, List.set_cons_zero, List.set_cons_succ]
      rfl
    refine tkD_ 3 (some 17) #[false, true, false, true, false, false, false, false, false] rfl rfl (by kernel_rfl) (fun _ _ _ h => h) (yieldsIf_load rfl 29 (.tmp 3) rfl w.heap.size 0 rfl x.cells _ (fun W' h => h.load) Tryz.underlying29 rfl rh_size) hHeld (a' := ?_) ?_ ?_
    rotate_left
    · simp only [Act.put, List.setIfInBounds_toArray, List.set_cons_zero, List.set_cons_succ]
      rfl
    have hHeld := HSE.out
    refine valD_ 0 (some 14) #[true, true, false, true, false, false, false, false, false] rfl rfl (by kernel_rfl) rfl ((.slice (some ⟨w1.heap.size, 0, none⟩) 0 0)) ((w1.drew.alloc (.cells #[] 31))) (by kernel_rfl) (fun _ => hHeld) (a' := ?_) ?_ ?_
    rotate_left
    · simp only [Act.put, List.setIfInBounds_toArray, List.set_cons_zero, List.set_cons_succ]
      rfl
    refine stepD_ 2 (some 16) (bt 4 5) rfl rfl (by kernel_rfl) rfl (exec_appS w1.heap.size (.tmp 14) (.tmp 15) 33 31 _ 8 96 rfl Tryz.underlying33 rb_info rbZ_cells (by decide) (by decide) (.slice (some ⟨w1.heap.size, 0, none⟩) 0 0) 0 [] rfl bl ol L.length c rfl (rbE.flat L) (by rw [rbE.flat_length]; rfl) HLC.out (rbE.flat_one_cell _) (own_empty w1.drew w1.heap.size _ 8 (Nat.le_refl _)) HB0.out.size (by omega)) ?_
    rintro v2 w2 ⟨ho2, hg2, hat2⟩
    have HO2 := Lib.hid ho2
    have hB2 : Below w1.heap.size w1 w2 := ((Below.refl _ w1).drew.alloc (Nat.le_refl _) (.cells #[] 31)).grown hg2 ((Below.refl _ w1).drew.alloc (Nat.le_refl _) (.cells #[] 31)).size (fun k hk => by injection hk with hk; exact Nat.le_of_eq hk)
    have HR2 : Hid (RcS w w2 (.slice (some ⟨bl, ol, none⟩) L.length c) L ok okx x) := Lib.hid (HS1.out.next hB2)
    have hHeld := HR2.out
    refine ⟨(fun _ => hHeld), ?_, ?_, ?_⟩
    rotate_left
    · simp only [Act.put, List.setIfInBounds_toArray, List.set_cons_zero, List.set_cons_succ]
      rfl
    refine callD_ 4 (some 18) (bt 5 4) rfl rfl (by kernel_rfl) rfl 85 _ (by kernel_rfl) (HM.out _ hHeld.at_) ?_
    rintro e w3 ⟨rfl, hb3⟩
    have HO3 := Lib.hid (own_below HO2.out hb3)
    have HR3 := Lib.hid (hHeld.next hb3)
    have HB3 := Lib.hid (hB2.trans (hb3.mono hB2.size))
    refine ⟨_, rfl, HR3.out, fun hHeld => ⟨?_, ?_, ?_⟩⟩
    rotate_left
    · simp only [Act.put, List.setIfInBounds_toArray, List.set_cons_zero, List.set_cons_succ]
      rfl
    have hHeld := HR3.out.next ((Below.refl _ _).alloc (Nat.le_refl _) (.cells (rbc n x).toArray 31))
    refine valD_ 5 (some 19) (bt 6 3) rfl rfl (by kernel_rfl) rfl ((.slice (some ⟨w3.heap.size, 0, none⟩) 1 1)) ((w3.alloc (.cells (rbc n x).toArray 31))) (exec_slice1 33 31 (.tmp 18) rfl (rbc n x).toArray rfl _ 8 96 Tryz.underlying33 rb_info rbZ_cells rfl (by decide) (by decide)) (fun _ => hHeld) (a' := ?_) ?_ ?_
    rotate_left
    · simp only [Act.put, List.setIfInBounds_toArray, List.set_cons_zero, List.set_cons_succ]
      rfl
    refine stepD_ 6 (some 20) (bt 7 2) rfl rfl (by kernel_rfl) rfl (exec_app1 (W := w3) (rbc n x).toArray w1.heap.size (.tmp 16) (.tmp 19) 33 31 _ 8 96 rfl Tryz.underlying33 rb_info rbZ_cells (by decide) (by decide) v2 (0 + L.length) _ rfl rfl rfl (rbc_one n x) HO3.out HB3.out.size (by omega)) ?_
    rintro v4 w4 ⟨ho4, hg4, hat4⟩
    have HB4 := Lib.hid (below_grown_own HB3.out HO3.out (Nat.le_refl _) HB3.out.size hg4)
    have HR4 := Lib.hid (HS1.out.next HB4.out)
    have hHeld := HR4.out
    refine ⟨(fun _ => hHeld), ?_, ?_, ?_⟩
    rotate_left
    · simp only [Act.put, List.setIfInBounds_toArray, List.set_cons_zero, List.set_cons_succ]
      rfl
    have hHeld := HR4.out
    refine valD_ 7 (some 4) (bt 8 1) rfl rfl (by kernel_rfl) rfl (v4) (w4) (rfl) (fun _ => hHeld) (a' := ?_) ?_ ?_
    rotate_left
    · simp only [Act.put, List.setIfInBounds_toArray, List.set_cons_zero, List.set_cons_succ]
      rfl
    refine valD_ 8 (some 5) (bt 9 0) rfl rfl (by kernel_rfl) rfl ((.int .i64 0)) (w4) (rfl) (fun h => absurd (by decide) h) (a' := ?_) ?_ ?_
    rotate_left
    · simp only [Act.put, List.setIfInBounds_toArray, List.set_cons_zero, List.set_cons_succ]
      rfl
    refine doneD_ (by kernel_rfl) ?_ _
    have ho0 : w4.ownsRow w1.heap.size 31 8 v4 (L.length + 1) (rbE.flat (L ++ [x])) := by
      have h := ho4
      rw [Nat.zero_add, List.nil_append] at h
      rw [rbE.flat_append, rbE.flat_one]
      show w4.ownsRow _ _ 8 v4 _ (rbE.flat L ++ rbc (rid x.h) x)
      rw [HN.out]
      exact h
    have ho := own_lower ho0 HS1.out.below.size
    have HQ := Lib.hid (And.intro ho HR4.out.below)
    clear ho ho0 ho4 hg4 hat4
    change Exit.then _ _ _ _ _
    go_wp2
    (try simp only [Exit.inBlock, Exit.then])
    first
      | refine ⟨rfl, .tuple #[v4, .int .i64 0], by kernel_rfl, .inr ⟨rfl, v4, rfl, HQ.out.1⟩, HQ.out.2⟩
      | refine ⟨rfl, .tuple #[v4, .int .i64 0], by kernel_rfl, ⟨v4, rfl, HQ.out.1⟩, HQ.out.2⟩
  · have hne : (V == 0) = false := by simpa using h0
    have hne2 : (V != 0) = true := by simpa using h0
    go_wp2
    (try simp only [Exit.inBlock, Exit.then])
    refine ⟨rfl, .tuple #[v, .int .i64 V], by kernel_rfl, .inl ⟨h0, rfl⟩, HS1.out.below⟩
end Go.Proofs.YtcohdfkdhdhegaaGreatDoor
