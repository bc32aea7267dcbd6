/- The order of names; a list of names, sorted. No program in sight. -/
import Derived.Test.YthpcedficlhanaaGreatDoorId
namespace Go.Proofs.YthpcedficlhanaaGreatDoor
open Go.RowKit Go.Sort

theorem cb_self (a : List UInt8) : Lib.compareBytes a a = 0 := by
  induction a with
  | nil => rfl
  | cons x a ih => simp [Lib.compareBytes, ih]
theorem cb_swap (a b : List UInt8) : Lib.compareBytes b a = - Lib.compareBytes a b := by
  induction a generalizing b with
  | nil => cases b <;> simp [Lib.compareBytes]
  | cons x a ih =>
    cases b with
    | nil => simp [Lib.compareBytes]
    | cons y b =>
      simp only [Lib.compareBytes]
      by_cases h1 : x < y
      · have h2 : ¬ y < x := UInt8.lt_asymm h1
        simp [h1, h2]
      · by_cases h2 : y < x
        · simp [h1, h2]
        · simp [h1, h2, ih]
theorem cb_zero (a b : List UInt8) (h : Lib.compareBytes a b = 0) : a = b := by
  induction a generalizing b with
  | nil => cases b <;> simp [Lib.compareBytes] at h ⊢
  | cons x a ih =>
    cases b with
    | nil => simp [Lib.compareBytes] at h
    | cons y b =>
      simp only [Lib.compareBytes] at h
      by_cases h1 : x < y
      · simp [h1] at h
      · by_cases h2 : y < x
        · simp [h1, h2] at h
        · simp only [h1, h2, if_false] at h
          have : x = y := UInt8.le_antisymm (UInt8.not_lt.1 h2) (UInt8.not_lt.1 h1)
          rw [this, ih b h]
theorem cb_trans (a b c : List UInt8) (h : Lib.compareBytes a b ≤ 0) (h' : Lib.compareBytes b c ≤ 0) : Lib.compareBytes a c ≤ 0 := by
  induction a generalizing b c with
  | nil => cases c <;> simp [Lib.compareBytes]
  | cons x a ih =>
    cases b with
    | nil => simp [Lib.compareBytes] at h
    | cons y b =>
      cases c with
      | nil => simp [Lib.compareBytes] at h'
      | cons z c =>
        simp only [Lib.compareBytes] at h h' ⊢
        by_cases h1 : x < y
        · by_cases h2 : y < z
          · simp [UInt8.lt_trans h1 h2]
          · by_cases h3 : z < y
            · simp [h2, h3] at h'
            · have : y = z := UInt8.le_antisymm (UInt8.not_lt.1 h3) (UInt8.not_lt.1 h2)
              subst this
              simp [h1]
        · by_cases h2 : y < x
          · simp [h1, h2] at h
          · have : x = y := UInt8.le_antisymm (UInt8.not_lt.1 h2) (UInt8.not_lt.1 h1)
            subst this
            by_cases h3 : x < z
            · simp [h3]
            · by_cases h4 : z < x
              · simp [h3, h4] at h'
              · simp only [h1, h3, h4, if_false] at h h' ⊢
                exact ih b c h h'

theorem cmpI_self (x : ID) : cmpI x x = 0 := cb_self _
theorem cmpI_swap (x y : ID) : cmpI y x = - cmpI x y := cb_swap _ _
theorem cmpI_zero (x y : ID) (h : cmpI x y = 0) : x = y := by
  have h2 : x.1.data = y.1.data := Array.toList_inj.1 (cb_zero _ _ h)
  exact Subtype.ext (by cases hx : x.1; cases hy : y.1; simp_all)
theorem cmpI_trans (x y z : ID) (h : cmpI x y ≤ 0) (h' : cmpI y z ≤ 0) : cmpI x z ≤ 0 := cb_trans _ _ _ h h'
theorem cmpI_lt_trans (x y z : ID) (h : cmpI x y < 0) (h' : cmpI y z ≤ 0) : cmpI x z < 0 := by
  have h1 := cmpI_trans x y z (by omega) h'
  rcases Int.lt_or_eq_of_le h1 with h2 | h2
  · exact h2
  · have := cmpI_zero x z h2
    subst this
    have := cmpI_swap x y
    omega
theorem swo_cmpI : SWO (ltOf cmpI) where
  irrefl x := by simp [ltOf, cmpI_self]
  trans x y z h h' := by
    simp only [ltOf, decide_eq_true_eq] at *
    exact cmpI_lt_trans x y z h (by omega)
  ntrans x y z h h' := by
    simp only [ltOf, decide_eq_false_iff_not] at *
    have h1 := cmpI_swap x y
    have h2 := cmpI_swap y z
    have h3 := cmpI_swap x z
    have := cmpI_trans z y x (by omega) (by omega)
    omega

def insI (x : ID) : List ID → List ID
  | [] => [x]
  | y :: l => if cmpI x y ≤ 0 then x :: y :: l else y :: insI x l
/-- Names, rising. -/
def sortI : List ID → List ID
  | [] => []
  | x :: l => insI x (sortI l)
theorem insI_perm (x : ID) (l : List ID) : (insI x l).Perm (x :: l) := by
  induction l with
  | nil => exact List.Perm.refl _
  | cons y l ih =>
    simp only [insI]
    split
    · exact List.Perm.refl _
    · exact (List.Perm.cons y ih).trans (List.Perm.swap x y l)
theorem sortI_perm (l : List ID) : (sortI l).Perm l := by
  induction l with
  | nil => exact List.Perm.refl _
  | cons x l ih => exact (insI_perm x _).trans (List.Perm.cons x ih)
theorem insI_rises (x : ID) (l : List ID) (h : l.Pairwise fun a b => cmpI a b ≤ 0) : (insI x l).Pairwise fun a b => cmpI a b ≤ 0 := by
  induction l with
  | nil => simp [insI]
  | cons y l ih =>
    simp only [insI]
    rw [List.pairwise_cons] at h
    split
    · rename_i hxy
      rw [List.pairwise_cons]
      refine ⟨fun a ha => ?_, List.pairwise_cons.2 h⟩
      rcases List.mem_cons.1 ha with rfl | ha
      · exact hxy
      · exact cmpI_trans x y a hxy (h.1 a ha)
    · rename_i hxy
      rw [List.pairwise_cons]
      refine ⟨fun a ha => ?_, ih h.2⟩
      have ha' := (insI_perm x l).subset ha
      rcases List.mem_cons.1 ha' with rfl | ha'
      · have := cmpI_swap a y; omega
      · exact h.1 a ha'
theorem sortI_rises (l : List ID) : (sortI l).Pairwise fun a b => cmpI a b ≤ 0 := by
  induction l with
  | nil => simp [sortI]
  | cons x l ih => exact insI_rises x _ ih

theorem risen_pairwise {β : Type} {cf : β → β → Int} {l : List β} (h : Risen cf l) : l.Pairwise fun a b => ¬ cf b a < 0 := by
  rw [List.pairwise_iff_getElem]
  intro i j hi hj hij
  exact h i j _ _ hij (List.getElem?_eq_getElem hi) (List.getElem?_eq_getElem hj)

theorem sortI_only {l zs : List ID} (hp : zs.Perm l) (hr : zs.Pairwise fun a b => cmpI a b ≤ 0) : zs = sortI l :=
  List.Perm.eq_of_pairwise (le := fun a b => cmpI a b ≤ 0) (fun a b _ _ h h' => cmpI_zero a b (by have := cmpI_swap a b; omega)) hr (sortI_rises l) (hp.trans (sortI_perm l).symm)
theorem sortI_risen {l zs : List ID} (hp : zs.Perm l) (hr : Risen cmpI zs) : zs = sortI l :=
  sortI_only hp ((risen_pairwise hr).imp fun {a b} h => by have := cmpI_swap a b; omega)
theorem sortI_of_perm {l m : List ID} (h : l.Perm m) : sortI l = sortI m := sortI_only ((sortI_perm l).trans h) (sortI_rises l)

end Go.Proofs.YthpcedficlhanaaGreatDoor
