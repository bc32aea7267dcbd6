/- order.Shuffle: what it comes to, and its walk. -/
import Derived.Test.YthpcedficlhanaaVoc
import Derived.Test.YthpcedficlhanaaOrdB
namespace Go.Proofs.Ythpcedficlhanaa
open Go.RowKit

/-- A slice of ints that is read. -/
def Ints (w : World) (v : Value) (ps : List Int) : Prop :=
  ∃ A n c, v = .slice A n c ∧ ps.length = n ∧ n ≤ 9223372036854775807 ∧
    (0 < n → ∃ b off, A = some ⟨b, off, none⟩ ∧ b < w.heap.size ∧ ∀ j u, ps[j]? = some u → w.cell? ⟨b, off + j, none⟩ = some (.int .i64 u))

theorem Ints.below {w w' : World} {v : Value} {ps : List Int} (h : Ints w v ps) (hb : Below w.heap.size w w') : Ints w' v ps := by
  obtain ⟨A, n, c, hv, hl, hn, hc⟩ := h
  refine ⟨A, n, c, hv, hl, hn, fun h0 => ?_⟩
  obtain ⟨b, off, hA, hlt, hcell⟩ := hc h0
  exact ⟨b, off, hA, Nat.lt_of_lt_of_le hlt hb.size, fun j u hu => (hb.cell (p := ⟨b, off + j, none⟩) hlt).trans (hcell j u hu)⟩

/-- One of them. -/
theorem Ints.at_ {w : World} {A : Option Addr} {n c : Nat} {ps : List Int} (h : Ints w (.slice A n c) ps) (i : Nat) (hi : i < n) : ∃ b off, A = some ⟨b, off, none⟩ ∧ w.cell? ⟨b, off + i, none⟩ = some (.int .i64 (ps.getD i 0)) := by
  obtain ⟨A', n', c', he, hl, -, hc⟩ := h
  injection he with he1 he2 he3
  subst he1; subst he2
  obtain ⟨b, off, hA, -, hcell⟩ := hc (by omega)
  exact ⟨b, off, hA, hcell i _ (by rw [List.getD_eq_getElem?_getD, List.getElem?_eq_getElem (by omega)]; rfl)⟩

theorem Ints.nil (w : World) : Ints w (.slice none 0 0) [] := ⟨none, 0, 0, rfl, rfl, by omega, fun h => absurd h (by omega)⟩

theorem Ints.cut {w : World} {A : Option Addr} {n c m : Nat} {ps : List Int} (h : Ints w (.slice A n c) ps) (hm : m ≤ n) : Ints w (.slice A m c) (ps.take m) := by
  obtain ⟨A', n', c', he, hl, hn, hc⟩ := h
  injection he with he1 he2 he3
  subst he1; subst he2; subst he3
  refine ⟨A, m, c, rfl, by rw [List.length_take]; omega, by omega, fun h0 => ?_⟩
  obtain ⟨b, off, hA, hlt, hcell⟩ := hc (by omega)
  refine ⟨b, off, hA, hlt, fun j u hu => hcell j u ?_⟩
  rw [List.getElem?_take] at hu
  split at hu
  · exact hu
  · cases hu

def shufK (ps : List Int) (i m : Nat) : Nat := if i < ps.length then (placeZ (ps.getD i 0) m).toNat else 0
/-- What is left, and what is out, behind i rounds. -/
def shufSt (xs : List Value) (ps : List Int) : Nat → List Value × List Value
  | 0 => (xs, [])
  | i + 1 => ((shufSt xs ps i).1.eraseIdx (shufK ps i (shufSt xs ps i).1.length), (shufSt xs ps i).2 ++ ((shufSt xs ps i).1[shufK ps i (shufSt xs ps i).1.length]?).toList)
def shuf (xs : List Value) (ps : List Int) : List Value := (shufSt xs ps xs.length).2

theorem shufK_lt (ps : List Int) (i m : Nat) (h : 0 < m) : shufK ps i m < m := by
  unfold shufK
  split
  · have := placeZ_range (ps.getD i 0) m (by omega)
    omega
  · exact h

theorem shufSt_len (xs : List Value) (ps : List Int) : ∀ i, i ≤ xs.length → (shufSt xs ps i).1.length = xs.length - i ∧ (shufSt xs ps i).2.length = i := by
  intro i
  induction i with
  | zero => intro _; exact ⟨rfl, rfl⟩
  | succ i ih =>
    intro h
    obtain ⟨h1, h2⟩ := ih (by omega)
    have hk := shufK_lt ps i (shufSt xs ps i).1.length (by omega)
    refine ⟨?_, ?_⟩
    · simp only [shufSt]; rw [List.length_eraseIdx_of_lt hk]; omega
    · simp only [shufSt]; rw [List.getElem?_eq_getElem hk]; simp [h2]

theorem shufSt_mem (xs : List Value) (ps : List Int) : ∀ i u, (u ∈ (shufSt xs ps i).1 → u ∈ xs) ∧ (u ∈ (shufSt xs ps i).2 → u ∈ xs) := by
  intro i
  induction i with
  | zero => intro u; exact ⟨fun h => h, fun h => by cases h⟩
  | succ i ih =>
    intro u
    refine ⟨fun h => (ih u).1 (List.mem_of_mem_eraseIdx h), fun h => ?_⟩
    simp only [shufSt, List.mem_append] at h
    rcases h with h | h
    · exact (ih u).2 h
    · have h' : (shufSt xs ps i).1[shufK ps i (shufSt xs ps i).1.length]? = some u := by simpa using h
      exact (ih u).1 (List.mem_of_getElem? h')

theorem shufSt_perm (xs : List Value) (ps : List Int) : ∀ i, i ≤ xs.length → ((shufSt xs ps i).2 ++ (shufSt xs ps i).1).Perm xs := by
  intro i
  induction i with
  | zero => intro _; exact List.Perm.refl _
  | succ i ih =>
    intro h
    have hl := (shufSt_len xs ps i (by omega)).1
    have hk := shufK_lt ps i (shufSt xs ps i).1.length (by omega)
    refine List.Perm.trans ?_ (ih (by omega))
    simp only [shufSt]
    rw [List.getElem?_eq_getElem hk, List.append_assoc]
    refine List.Perm.append_left _ ?_
    rw [List.eraseIdx_eq_take_drop_succ]
    refine List.Perm.trans (List.perm_middle (l₁ := (shufSt xs ps i).1.take (shufK ps i (shufSt xs ps i).1.length)) (a := (shufSt xs ps i).1[shufK ps i (shufSt xs ps i).1.length])).symm ?_
    rw [← List.drop_eq_getElem_cons hk, List.take_append_drop]

theorem shuf_perm (xs : List Value) (ps : List Int) : (shuf xs ps).Perm xs := by
  have h := shufSt_perm xs ps xs.length (Nat.le_refl _)
  have h0 : (shufSt xs ps xs.length).1 = [] := List.eq_nil_of_length_eq_zero (by rw [(shufSt_len xs ps _ (Nat.le_refl _)).1]; omega)
  rw [h0, List.append_nil] at h
  exact h

theorem shuf_nil (xs : List Value) : shuf xs [] = xs := by
  have : ∀ i, i ≤ xs.length → shufSt xs [] i = (xs.drop i, xs.take i) := by
    intro i
    induction i with
    | zero => intro _; simp [shufSt]
    | succ i ih =>
      intro h
      have hi : i < xs.length := by omega
      simp only [shufSt, ih (by omega)]
      have : shufK [] i (xs.drop i).length = 0 := by simp [shufK]
      rw [this]
      refine Prod.ext ?_ ?_
      · simp [List.eraseIdx_zero]
      · simp only [List.getElem?_drop, Nat.add_zero, List.getElem?_eq_getElem hi, Option.toList_some]
        rw [List.take_add_one, List.getElem?_eq_getElem hi]; rfl
  simp [shuf, this xs.length (Nat.le_refl _)]
end Go.Proofs.Ythpcedficlhanaa
