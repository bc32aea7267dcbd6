/- Which blocks are a tipset, in plain words. No program in sight. -/
import Derived.Test.YthpcedficlhanaaGreatDoorFits
namespace Go.Proofs.YthpcedficlhanaaGreatDoor

/-- How many of the first i have a miner. -/
def minerC (zs : List LB) (i : Nat) (m : Int) : Nat := ((zs.take i).filter fun b => decide (b.x.h.miner = m)).length
theorem minerC_zero (zs : List LB) (m : Int) : minerC zs 0 m = 0 := rfl
theorem minerC_le (zs : List LB) (i : Nat) (m : Int) : minerC zs i m ≤ i := by
  unfold minerC
  exact Nat.le_trans (List.length_filter_le _ _) (List.length_take_le _ _)
theorem minerC_succ (zs : List LB) (i : Nat) (x : LB) (hx : zs[i]? = some x) (m : Int) : minerC zs (i + 1) m = if m = x.x.h.miner then minerC zs i m + 1 else minerC zs i m := by
  unfold minerC
  rw [List.take_add_one, hx, List.filter_append]
  by_cases h : m = x.x.h.miner
  · subst h; simp
  · rw [if_neg h]; simp; exact fun e => h (Eq.symm e)
def fits? (a b : Option LB) : Bool := match a, b with | some a, some b => fitsB a b | _, _ => false
/-- The first i are good. -/
def goodN (zs : List LB) : Nat → Bool
  | 0 => decide (0 < zs.length)
  | i + 1 => goodN zs i && (match zs[i]? with | some x => decide (minerC zs (i + 1) x.x.h.miner = 1) | none => false) && (decide (i = 0) || fits? zs[i - 1]? zs[i]?)
theorem goodN_off {zs : List LB} {i : Nat} (h : goodN zs i = false) : goodN zs (i + 1) = false := by simp [goodN, h]
theorem goodN_twice {zs : List LB} {i : Nat} {x : LB} (hx : zs[i]? = some x) (h : minerC zs (i + 1) x.x.h.miner ≠ 1) : goodN zs (i + 1) = false := by simp [goodN, hx, h]
theorem goodN_first {zs : List LB} {x : LB} (hg : goodN zs 0 = true) (hx : zs[0]? = some x) (h : minerC zs (0 + 1) x.x.h.miner = 1) : goodN zs (0 + 1) = true := by
  rw [goodN, hg, hx]
  simp only [Bool.true_and, decide_true, Bool.true_or, Bool.and_true, decide_eq_true_eq]
  exact h
theorem goodN_next {zs : List LB} {p : Nat} {x y : LB} (hg : goodN zs (p + 1) = true) (hx : zs[p + 1]? = some x) (hy : zs[p]? = some y) (h : minerC zs (p + 1 + 1) x.x.h.miner = 1) : goodN zs (p + 1 + 1) = fitsB y x := by
  rw [goodN, hg, hx]
  simp [h, hy, fits?]
def goodB (zs : List LB) : Bool := goodN zs zs.length
end Go.Proofs.YthpcedficlhanaaGreatDoor
