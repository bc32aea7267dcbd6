/- header.rise: do names? -/
import Derived.Test.YthpcedficlhanaaGreatDoorId
import Derived.StillTailTactics
import Derived.IntWalk
namespace Go.Proofs.YthpcedficlhanaaGreatDoor
open Go.RowKit

theorem id_size : (Tryz.prog.info? 34).map (·.size) = some 32 := by kernel_rfl
/-- Each name is less than the one behind it. -/
def riseB : List ID → Bool
  | x :: y :: l => decide (cmpI x y < 0) && riseB (y :: l)
  | _ => true
theorem riseB_iff (l : List ID) : riseB l = true ↔ ∀ i x y, l[i]? = some x → l[i + 1]? = some y → cmpI x y < 0 := by
  induction l with
  | nil => simp [riseB]
  | cons x l ih =>
    cases l with
    | nil => simp [riseB]
    | cons y l =>
      simp only [riseB, Bool.and_eq_true, decide_eq_true_eq, ih]
      constructor
      · rintro ⟨h0, h⟩ i a b ha hb
        cases i with
        | zero => simp at ha hb; subst ha; subst hb; exact h0
        | succ i => exact h i a b (by simpa using ha) (by simpa using hb)
      · intro h
        exact ⟨h 0 x y rfl rfl, fun i a b ha hb => h (i + 1) a b (by simpa using ha) (by simpa using hb)⟩

set_option maxRecDepth 100000 in
set_option maxHeartbeats 1000000 in
theorem rise_any (w : World) (v : Value) (l : List ID) (ok : Nat → Prop) (hl : Sl idE ok w v l) :
    Calls Tryz.prog 127 #[v] w fun e w' => e = .returned (.bool (riseB l)) ∧ Below w.heap.size w w' := by
  have HL := Lib.hid hl
  obtain ⟨A, c, rfl, hc, hm⟩ := hl.form
  clear hl
  go_enter Tryz.func127, Tryz.ntmps127
  go_wp2
  go_loopw [3] (fun ci wr => ∃ i : Nat, 1 ≤ i ∧ i ≤ max 1 l.length ∧ ci = .int .i64 i ∧ (∀ j x y, j + 1 < i → l[j]? = some x → l[j + 1]? = some y → cmpI x y < 0) ∧ Below w.heap.size w wr) (fun ci _ => max 1 l.length - (intOf ci).toNat)
  case atStart => exact ⟨1, by omega, by omega, rfl, fun j x y hj => by omega, Below.refl _ _⟩
  case round =>
    obtain ⟨i, h1, hi, rfl, hr, hB⟩ := hrel
    have HR := Lib.hid hr; clear hr
    by_cases hlt : i < l.length
    · obtain ⟨x, hx⟩ : ∃ x, l[i - 1]? = some x := ⟨_, List.getElem?_eq_getElem (by omega)⟩
      obtain ⟨y, hy⟩ : ∃ y, l[i]? = some y := ⟨_, List.getElem?_eq_getElem hlt⟩
      have hS := HL.out.below hB
      obtain ⟨b, off, rfl, hb, -, hcx⟩ := hS.at_ (i - 1) x hx
      obtain ⟨b', off', he, -, -, hcy⟩ := hS.at_ i y hy
      injection he with he
      injection he with e1 e2
      subst e1; subst e2
      obtain ⟨p, ep⟩ : ∃ p, i - 1 = p := ⟨_, rfl⟩
      rw [ep] at hcx
      have hw : IntKind.i64.wrap ((i : Int) - 1) = (p : Int) := by rw [IntWalk.i64_in _ (by omega)]; omega
      have hpl : p < l.length := by omega
      clear hS
      have HEP := Lib.hid ep; clear ep
      have HX := Lib.hid hcx; clear hcx
      have HY := Lib.hid hcy; clear hcy
      go_wp2
      refine wp_region_still_tail 9 (by kernel_rfl) (by kernel_rfl) ?_
      simp only [List.take_succ_cons, List.take_zero, List.drop_succ_cons, List.drop_zero]
      repeat (first
        | (refine still_load rfl 34 (.tmp 13) rfl b _ rfl (idc x) _ HX.out Tryz.underlying34 rfl (by rw [idc_length]; exact id_size) ?_)
        | (refine still_load rfl 34 (.tmp 17) rfl b _ rfl (idc y) _ HY.out Tryz.underlying34 rfl (by rw [idc_length]; exact id_size) ?_)
        | still_step)
      refine wpStill_nil ?_
      change wpList _ _ _ _ _ wr.drew
      have hBd : Below w.heap.size w wr.drew := hB.drew
      generalize wr.drew = wd at hBd
      go_wp2_with (go_at_call 114; refine (headerCompare_any _ x y).mono ?_; rintro e w2 ⟨rfl, hm2⟩; have hB2 := hBd.trans (hm2.below.mono hBd.size))
      · have hc0 : 0 ≤ cmpI x y := by assumption
        have hf : riseB l = false := by
          rw [Bool.eq_false_iff]
          intro ht
          have := (riseB_iff l).1 ht p x y (by rw [← HEP.out]; exact hx) (by rw [show p + 1 = i by have := HEP.out; omega]; exact hy)
          omega
        go_ret
        exact ⟨by rw [hf]; rfl, hB2⟩
      · have hc0 : cmpI x y < 0 := by assumption
        go_roundw
        case rel =>
          refine ⟨i + 1, by omega, by omega, by go_num, fun j a b hj ha hb => ?_, hB2⟩
          by_cases hjp : j = p
          · rw [hjp] at ha hb
            have e1 : x = a := by rw [HEP.out, ha] at hx; exact (Option.some.inj hx).symm
            have e2 : y = b := by rw [show p + 1 = i by have := HEP.out; omega, hy] at hb; exact Option.some.inj hb
            rw [← e1, ← e2]; exact hc0
          · exact HR.out j a b (by have := HEP.out; omega) ha hb
        case measure => simp [intOf]; omega
    · have ht : riseB l = true := (riseB_iff l).2 fun j a b ha hb => HR.out j a b (by have := (List.getElem?_eq_some_iff.1 hb).1; omega) ha hb
      go_wp2
      go_ret
      exact ⟨by rw [ht]; rfl, hB⟩
end Go.Proofs.YthpcedficlhanaaGreatDoor
