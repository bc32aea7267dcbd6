/- slices.Clone and slices.Delete over commands: a list of one-cell values in a row of the call's own. -/
import Derived.Test.YthpcedficlhanaaOrdLay
import Derived.Test.YthpcedficlhanaaOrdA
import Derived.Lib.OwnBridge
import Derived.Deep.Draws
namespace Go.Proofs.Ythpcedficlhanaa
open Go.RowKit Go.Lib Go.Sort

/-- A value, as one of one cell. -/
def oc (v : Value) : Value := if v.oneCell' then v else .nilIface
theorem oc_one : OneCell oc := by intro v; unfold oc; split <;> simp_all [Value.oneCell']
theorem oc_of {v : Value} (h : v.oneCell' = true) : oc v = v := by simp [oc, h]
theorem map_oc {l : List Value} (h : ∀ u ∈ l, u.oneCell' = true) : l.map oc = l := by
  induction l with
  | nil => rfl
  | cons a l ih => simp [oc_of (h a (by simp)), ih (fun u hu => h u (by simp [hu]))]

theorem cmd_info : (Try.prog.info? 29).map (fun i => (i.zero, i.size, i.bytes)) = some (some .nilIface, 1, 16) := by kernel_rfl
theorem cmd_zero (w : World) : (zeroValue 29).run Try.prog w = .ok .nilIface w := by kernel_rfl

/-- A slice of commands that is read: its one-cell values. -/
def Cmds (w : World) (v : Value) (xs : List Value) : Prop :=
  ∃ A n c, v = .slice A n c ∧ xs.length = n ∧ n ≤ 1000000 ∧ (∀ u ∈ xs, u.oneCell' = true) ∧
    (A = none → n = 0) ∧ (∀ a, A = some a → a.spot = none ∧ a.block < w.heap.size) ∧
    ∀ a, A = some a → ∀ j u, xs[j]? = some u → w.cell? ⟨a.block, a.off + j, none⟩ = some u

theorem clone_any (v : Value) (xs : List Value) (w : World) (h : Cmds w v xs) :
    Calls Try.prog 14 #[v] w fun e w' => ∃ v', e = .returned v' ∧ w'.ownsRow w.heap.size 29 1 v' xs.length xs ∧ Below w.heap.size w w' := by
  obtain ⟨A, n, c, rfl, hl, hn, h1, h0, hb, hc⟩ := h
  obtain ⟨i0, hi, hz0, hz1, hz2⟩ := info_parts cmd_info
  rcases A with _ | a
  · have hn0 : n = 0 := h0 rfl
    subst hn0
    have hx : xs = [] := List.eq_nil_of_length_eq_zero hl
    subst hx
    refine (AnyE.slices_Clone_nil clone_lay 0 c w).mono ?_
    rintro e w' ⟨rfl, rfl⟩
    exact ⟨_, rfl, World.ownsRow_nil _ _ _ _, Below.refl _ _⟩
  · obtain ⟨hs, hlt⟩ := hb a rfl
    have ha : a = ⟨a.block, a.off, none⟩ := by cases a; simp_all
    rw [ha]
    refine (AnyE.slices_Clone clone_lay i0 .nilIface 1 16 hi hz0 hz1 hz2 rfl (by decide) Try.sizeOf29 a.block a.off n c xs w (by omega) (by unfold maxLen; omega) (by omega) (fun j u hj => hc a rfl j u hj) h1).mono ?_
    rintro e w' ⟨v', rfl, hown, _, hbel⟩
    subst hl
    exact ⟨v', rfl, hown, hbel⟩

theorem delete_own (base : Nat) (v : Value) (xs : List Value) (i : Nat) (w : World) (h : w.ownsRow base 29 1 v xs.length xs) (h1 : ∀ u ∈ xs, u.oneCell' = true) (hi : i < xs.length) :
    Calls Try.prog 16 #[v, .int .i64 i, .int .i64 ((i : Int) + 1)] w fun e w' => ∃ v', e = .returned v' ∧ w'.ownsRow base 29 1 v' (xs.length - 1) (xs.eraseIdx i) ∧ w.grownBy w' v.ownBlock ∧ v'.ownBlock = v.ownBlock := by
  obtain ⟨i0, hinf, hz0, hz1, hz2⟩ := info_parts cmd_info
  have h' : w.ownsRow base 29 1 v xs.length (xs.map oc) := by rw [map_oc h1]; exact h
  have hv : v ≠ .slice none 0 0 := by
    rintro rfl
    rcases h.2 with ⟨_, e0⟩ | ⟨g, cap, cur, e0, _⟩
    · omega
    · cases e0
  obtain ⟨g, cap, rfl, hb, hg, hn, hm, hl, hH⟩ := holds_of_ownsRow h' hv
  have hsz : xs.toArray.size = xs.length := by simp
  have hd := AnyE.slices_Delete delete_lay oc oc_one .nilIface cmd_zero i0 hinf hz1 g 0 cap i (i + 1) xs.toArray w hH (by rw [hsz]; exact hn) (by simpa [maxLen] using hm) (by omega) (by rw [hsz]; omega)
  rw [hsz] at hd
  refine Calls.mono hd ?_
  rintro e w' ⟨rfl, q, rfl⟩
  have hlen : (xs.take i ++ xs.drop (i + 1) ++ List.replicate (i + 1 - i) Value.nilIface).length = xs.length := by simp; omega
  have ho := ownsRow_putRow (q := q) (k := xs.length - 1) h' hlen (by omega)
  refine ⟨_, rfl, ?_, ?_, rfl⟩
  · have e1 : ((xs.take i ++ xs.drop (i + 1) ++ List.replicate (i + 1 - i) Value.nilIface).take (xs.length - 1)).map oc = xs.eraseIdx i := by
      rw [List.take_append_of_le_length (by simp; omega), List.take_of_length_le (by simp; omega), ← List.eraseIdx_eq_take_drop_succ]
      exact map_oc fun u hu => h1 u (List.mem_of_mem_eraseIdx hu)
    rw [e1] at ho
    have e2 : xs.length - (i + 1 - i) = xs.length - 1 := by omega
    rw [e2]
    exact ho
  · refine ⟨rfl, rfl, rfl, by simp [putRow, mapBlock, Sort.ahead], fun k hk hne => ?_⟩
    have hgk : g ≠ k := by
      rintro rfl
      exact hne rfl
    simp [putRow, mapBlock, Sort.ahead, Array.getElem?_modify, hgk]
end Go.Proofs.Ythpcedficlhanaa
