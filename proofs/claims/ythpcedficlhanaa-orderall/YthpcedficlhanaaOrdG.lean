/- OrderAll: the law's walk. -/
import Derived.Test.YthpcedficlhanaaOrdF
import Derived.Lib.MinMax
namespace Go.Proofs.Ythpcedficlhanaa
open Go.RowKit

def clks (n : Nat) : List Value := (List.range n).map fun k : Nat => clk (k : Int)
theorem clks_one (n : Nat) : ∀ u ∈ clks n, u.oneCell' = true := by
  intro u hu
  simp only [clks, List.mem_map] at hu
  obtain ⟨k, _, rfl⟩ := hu
  rfl
theorem clks_length (n : Nat) : (clks n).length = n := by simp [clks]
theorem clks_succ (n : Nat) : clks (n + 1) = clks n ++ [clk n] := by simp [clks, List.range_succ]

def unint : Value → Nat
  | .int _ k => k.toNat
  | _ => 0
def unclk : Value → Nat
  | .iface _ (.agg cs) => unint (cs.getD 0 .nilIface)
  | _ => 0
theorem unclk_clk (k : Nat) : unclk (clk k) = k := by simp [unclk, unint, clk]

/-- What is shuffled are clocks of the same numbers. -/
theorem shuf_ids (N : Nat) (ps : List Int) : ∃ ids : List Nat, ids.Perm (List.range N) ∧ shuf (clks N) ps = ids.map fun k => clk (k : Nat) := by
  refine ⟨(shuf (clks N) ps).map unclk, ?_, ?_⟩
  · have h := (shuf_perm (clks N) ps).map unclk
    have e : (clks N).map unclk = List.range N := by
      simp only [clks, List.map_map]
      conv => rhs; rw [← List.map_id (List.range N)]
      exact List.map_congr_left fun k _ => unclk_clk k
    rwa [e] at h
  · rw [List.map_map]
    conv => lhs; rw [← List.map_id (shuf (clks N) ps)]
    refine List.map_congr_left fun u hu => ?_
    have : u ∈ clks N := (shuf_perm (clks N) ps).mem_iff.1 hu
    simp only [clks, List.mem_map] at this
    obtain ⟨k, _, rfl⟩ := this
    simp [unclk_clk]

/-- How often each number came among the first j. -/
def cnt (N : Nat) (ids : List Nat) (j : Nat) : List Int := (List.range N).map fun k => ((ids.take j).count k : Int)
theorem cnt_length (N : Nat) (ids : List Nat) (j : Nat) : (cnt N ids j).length = N := by simp [cnt]
theorem cnt_zero (N : Nat) (ids : List Nat) : cnt N ids 0 = List.replicate N 0 := by
  simp [cnt, List.map_const']
theorem cnt_get (N : Nat) (ids : List Nat) (j k : Nat) (h : k < N) : (cnt N ids j).getD k 0 = ((ids.take j).count k : Int) := by
  simp [cnt, List.getD_eq_getElem?_getD, h]
theorem cnt_step (N : Nat) (ids : List Nat) (j q : Nat) (h : ids[j]? = some q) : cnt N ids (j + 1) = (cnt N ids j).set q ((cnt N ids j).getD q 0 + 1) := by
  apply List.ext_getElem?
  intro k
  have hj : j < ids.length := (List.getElem?_eq_some_iff.1 h).1
  have ht : ids.take (j + 1) = ids.take j ++ [q] := by rw [List.take_add_one, h]; rfl
  by_cases hk : k < N
  · rw [List.getElem?_set]
    by_cases hq : q = k
    · subst hq
      rw [if_pos rfl, if_pos (by rw [cnt_length]; exact hk), cnt_get N ids j q hk]
      simp [cnt, hk, ht]
    · rw [if_neg hq]
      simp [cnt, hk, ht, List.count_cons, hq]
  · rw [List.getElem?_eq_none (by rw [cnt_length]; omega), List.getElem?_eq_none (by rw [List.length_set, cnt_length]; omega)]
theorem cnt_all (N : Nat) (ids : List Nat) (h : ids.Perm (List.range N)) : cnt N ids N = List.replicate N 1 := by
  have hl : ids.length = N := by rw [h.length_eq]; simp
  apply List.ext_getElem?
  intro k
  by_cases hk : k < N
  · have : (ids.take N).count k = 1 := by
      rw [List.take_of_length_le (by omega), h.count_eq, List.count_range, if_pos hk]
    simp [cnt, hk, this]
  · simp [cnt, hk]

theorem cnt_le (N : Nat) (ids : List Nat) (j q : Nat) (h : j ≤ 1000) : 0 ≤ (cnt N ids j).getD q 0 ∧ (cnt N ids j).getD q 0 ≤ 1000 := by
  by_cases hq : q < N
  · rw [cnt_get _ _ _ _ hq]
    have h1 := List.count_le_length (a := q) (l := ids.take j)
    have h2 := List.length_take_le j ids
    omega
  · rw [List.getD_eq_getElem?_getD, List.getElem?_eq_none (by rw [cnt_length]; omega)]
    simp
end Go.Proofs.Ythpcedficlhanaa
