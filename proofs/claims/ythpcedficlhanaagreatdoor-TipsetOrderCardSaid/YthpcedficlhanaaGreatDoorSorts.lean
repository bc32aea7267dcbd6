/- coxswainref05.Sort: texts, rising, each once. -/
import Derived.Test.YthpcedficlhanaaGreatDoorBlocks
namespace Go.Proofs.YthpcedficlhanaaGreatDoor
open Go.RowKit

theorem bl_cmp (a b : List UInt8) : Op.bytesLess a b = decide (Lib.compareBytes a b < 0) := by
  induction a generalizing b with
  | nil => cases b <;> simp [Op.bytesLess, Lib.compareBytes]
  | cons x a ih =>
    cases b with
    | nil => simp [Op.bytesLess, Lib.compareBytes]
    | cons y b =>
      simp only [Op.bytesLess, Lib.compareBytes, ih]
      by_cases h1 : x < y
      · simp [h1]
      · by_cases h2 : y < x
        · have hne : ¬ x = y := fun e => by subst e; exact h1 h2
          simp [h1, h2, hne]
        · have he : x = y := UInt8.le_antisymm (UInt8.not_lt.1 h2) (UInt8.not_lt.1 h1)
          subst he
          simp [h1]
def ltS (s t : ByteArray) : Bool := Op.bytesLess s.toList t.toList
def leS (s t : ByteArray) : Bool := Op.bytesLess s.toList t.toList || s.toList == t.toList
theorem ltS_irrefl (s : ByteArray) : ltS s s = false := by rw [ltS, bl_cmp, cb_self]; rfl
theorem ltS_le {s t : ByteArray} (h : leS s t = false) : ltS s t = false := by
  rw [leS, Bool.or_eq_false_iff] at h
  exact h.1
theorem ltS_total {s t : ByteArray} (h : leS s t = false) : ltS t s = true := by
  rw [leS, Bool.or_eq_false_iff, bl_cmp] at h
  rw [ltS, bl_cmp]
  obtain ⟨h1, h2⟩ := h
  have h3 := cb_swap s.toList t.toList
  have h4 : ¬ Lib.compareBytes s.toList t.toList < 0 := by simpa using h1
  have h5 : Lib.compareBytes s.toList t.toList ≠ 0 := fun e => by have := cb_zero _ _ e; simp [this] at h2
  simp only [decide_eq_true_eq]
  omega
theorem ltS_trans {s t u : ByteArray} (h : ltS s t = true) (h' : ltS t u = true) : ltS s u = true := by
  rw [ltS, bl_cmp, decide_eq_true_eq] at *
  have h1 := cb_trans _ _ _ (Int.le_of_lt h) (Int.le_of_lt h')
  rcases Int.lt_or_eq_of_le h1 with h2 | h2
  · exact h2
  · have h3 := cb_zero _ _ h2
    rw [h3] at h
    have := cb_swap t.toList u.toList
    omega

/-- A text is put in its place, if it isn't there. -/
def insT (s : ByteArray) : List ByteArray → List ByteArray
  | [] => [s]
  | t :: r => if leS s t then (if ltS s t then s :: t :: r else t :: r) else t :: insT s r
/-- One round of the inner loop. -/
def stepT (s : ByteArray) (x : Bool × List ByteArray) (t : ByteArray) : Bool × List ByteArray := (x.1 || leS s t, (if !x.1 && ltS s t then x.2 ++ [s] else x.2) ++ [t])
theorem fold_done (s : ByteArray) (l n : List ByteArray) : l.foldl (stepT s) (true, n) = (true, n ++ l) := by
  induction l generalizing n with
  | nil => simp
  | cons t l ih => rw [List.foldl_cons]; simp only [stepT, Bool.true_or, Bool.not_true, Bool.false_and, Bool.false_eq_true, if_false]; rw [ih]; simp
def lastT (s : ByteArray) (x : Bool × List ByteArray) : List ByteArray := if x.1 then x.2 else x.2 ++ [s]
theorem fold_ins (s : ByteArray) (l n : List ByteArray) : lastT s (l.foldl (stepT s) (false, n)) = n ++ insT s l := by
  induction l generalizing n with
  | nil => simp [lastT, insT]
  | cons t l ih =>
    rw [List.foldl_cons]
    rcases hle : leS s t with _ | _
    · have hlt := ltS_le hle
      simp only [stepT, hle, hlt, Bool.or_false, Bool.not_false, Bool.and_false, Bool.false_eq_true, if_false]
      rw [ih, insT, hle]
      simp
    · rcases hlt : ltS s t with _ | _
      · simp only [stepT, hle, hlt, Bool.or_true, Bool.not_false, Bool.and_false, Bool.false_eq_true, if_false]
        rw [fold_done, insT, hle, hlt]
        simp [lastT]
      · simp only [stepT, hle, hlt, Bool.or_true, Bool.not_false, Bool.and_true, if_true]
        rw [fold_done, insT, hle, hlt]
        simp [lastT]
def sortT (l : List ByteArray) : List ByteArray := l.foldl (fun o s => insT s o) []
theorem insT_mem (s : ByteArray) (l : List ByteArray) : ∀ x ∈ insT s l, x = s ∨ x ∈ l := by
  induction l with
  | nil => simp [insT]
  | cons t l ih =>
    intro x hx
    rw [insT] at hx
    split at hx
    · split at hx
      · simp only [List.mem_cons] at hx ⊢; exact hx
      · exact .inr hx
    · rcases List.mem_cons.1 hx with rfl | hx
      · exact .inr List.mem_cons_self
      · rcases ih x hx with h | h
        · exact .inl h
        · exact .inr (List.mem_cons_of_mem _ h)
theorem insT_length (s : ByteArray) (l : List ByteArray) : (insT s l).length ≤ l.length + 1 := by
  induction l with
  | nil => simp [insT]
  | cons t l ih =>
    rw [insT]
    split
    · split <;> simp
    · simp; omega
theorem insT_rises (s : ByteArray) (l : List ByteArray) (h : l.Pairwise fun a b => ltS a b = true) : (insT s l).Pairwise fun a b => ltS a b = true := by
  induction l with
  | nil => simp [insT]
  | cons t l ih =>
    have h1 := List.pairwise_cons.1 h
    rw [insT]
    split
    · split
      · rename_i hle hlt
        refine List.pairwise_cons.2 ⟨fun x hx => ?_, h⟩
        rcases List.mem_cons.1 hx with rfl | hx
        · exact hlt
        · exact ltS_trans hlt (h1.1 x hx)
      · exact h
    · rename_i hle
      have hle : leS s t = false := by simpa using hle
      refine List.pairwise_cons.2 ⟨fun x hx => ?_, ih h1.2⟩
      rcases insT_mem s l x hx with rfl | hx
      · exact ltS_total hle
      · exact h1.1 x hx
theorem sort_all (l : List ByteArray) : ∀ o : List ByteArray, (o.Pairwise fun a b => ltS a b = true) → ((l.foldl (fun o s => insT s o) o).Pairwise fun a b => ltS a b = true) ∧ (∀ x ∈ l.foldl (fun o s => insT s o) o, x ∈ o ∨ x ∈ l) ∧ (l.foldl (fun o s => insT s o) o).length ≤ o.length + l.length := by
  induction l with
  | nil => intro o h; exact ⟨h, fun x hx => .inl hx, by simp⟩
  | cons s l ih =>
    intro o h
    obtain ⟨h1, h2, h3⟩ := ih (insT s o) (insT_rises s o h)
    refine ⟨h1, fun x hx => ?_, ?_⟩
    · rcases h2 x hx with hx | hx
      · rcases insT_mem s o x hx with rfl | hx
        · exact .inr List.mem_cons_self
        · exact .inl hx
      · exact .inr (List.mem_cons_of_mem _ hx)
    · have := insT_length s o
      simp only [List.foldl_cons, List.length_cons]
      omega
theorem sortT_rises (l : List ByteArray) : (sortT l).Pairwise fun a b => ltS a b = true := (sort_all l [] List.Pairwise.nil).1
theorem sortT_mem (l : List ByteArray) : ∀ x ∈ sortT l, x ∈ l := fun x hx => ((sort_all l [] List.Pairwise.nil).2.1 x hx).elim (fun h => by cases h) id
theorem sortT_length (l : List ByteArray) : (sortT l).length ≤ l.length := by have := (sort_all l [] List.Pairwise.nil).2.2; simpa [sortT] using this
theorem sortT_nodup (l : List ByteArray) : (sortT l).Nodup := (sortT_rises l).imp fun {a b} h e => by subst e; rw [ltS_irrefl] at h; cases h
theorem sortT_snoc (l : List ByteArray) (s : ByteArray) : sortT (l ++ [s]) = insT s (sortT l) := by simp [sortT]
end Go.Proofs.YthpcedficlhanaaGreatDoor
