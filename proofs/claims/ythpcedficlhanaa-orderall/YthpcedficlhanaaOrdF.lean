/- awake: the fixed fact holds. -/
import Derived.Test.YthpcedficlhanaaOrdE
import Derived.BigQuiet
import Derived.Deep.QuietTactic
namespace Go.Proofs.Ythpcedficlhanaa
open Go.RowKit

def clk (n : Int) : Value := .iface 26 (.agg #[.int .i64 n])
theorem clk_one (n : Int) : (clk n).oneCell' = true := rfl

theorem shuf_awake : shuf [clk 1, clk 2, clk 3] [2, 0] = [clk 3, clk 1, clk 2] := by
  have p2 : placeZ 2 3 = 2 := by decide
  have p0 : placeZ 0 2 = 0 := by decide
  simp [shuf, shufSt, shufK, p2, p0]

theorem eq_clk1 (w : World) : (binOp .eql 29 (.iface 26 (.agg #[.int .i64 1])) (.iface 26 (.agg #[.int .i64 1]))).run Try.prog w = .ok (.bool true) w := by kernel_rfl
theorem eq_clk2 (w : World) : (binOp .eql 29 (.iface 26 (.agg #[.int .i64 2])) (.iface 26 (.agg #[.int .i64 2]))).run Try.prog w = .ok (.bool true) w := by kernel_rfl
theorem eq_clk3 (w : World) : (binOp .eql 29 (.iface 26 (.agg #[.int .i64 3])) (.iface 26 (.agg #[.int .i64 3]))).run Try.prog w = .ok (.bool true) w := by kernel_rfl

theorem Cmds.of_block {W : World} {g : Nat} {cs : Array Value} {T : TypeId} {fr : Nat × Nat} {c n : Nat} (h : W.heap[g]? = some (.cells cs T fr)) (h1 : ∀ u ∈ cs.toList, u.oneCell' = true) (hn : cs.size ≤ 1000000) (hc : cs.size = n) : Cmds W (.slice (some ⟨g, 0, none⟩) n c) cs.toList := by
  refine ⟨_, _, _, rfl, by simpa using hc, by omega, h1, (fun h => by cases h), fun a ha => ?_, fun a ha j u hu => ?_⟩
  · injection ha with ha; subst ha; exact ⟨rfl, (Array.getElem?_eq_some_iff.1 h).1⟩
  · injection ha with ha; subst ha
    rw [Array.getElem?_toList] at hu
    simp [World.cell?, h, hu]

theorem Ints.of_block {W : World} {g : Nat} {ps : List Int} {T : TypeId} {fr : Nat × Nat} {c n : Nat} (h : W.heap[g]? = some (.cells (ps.map (.int .i64)).toArray T fr)) (hn : ps.length ≤ 1000000) (hc : ps.length = n) : Ints W (.slice (some ⟨g, 0, none⟩) n c) ps := by
  refine ⟨_, _, _, rfl, hc, by omega, fun h0 => ⟨g, 0, rfl, (Array.getElem?_eq_some_iff.1 h).1, fun j u hu => ?_⟩⟩
  simp [World.cell?, h, hu]

set_option maxHeartbeats 1000000 in
theorem awake_any (w : World) :
    Calls Try.prog 5 #[] w fun e w' => e = .returned (.bool true) ∧ Below w.heap.size w w' := by
  have he1 := eq_clk1
  have he2 := eq_clk2
  have he3 := eq_clk3
  go_enter Try.func5, Try.ntmps5
  go_wp2_with fail
  refine (shuffle_any _ _ [clk 1, clk 2, clk 3] [2, 0] _ (Cmds.of_block (cs := #[clk 1, clk 2, clk 3]) (T := 29) (fr := (0, 0)) (by simp only [heap_alloc_if, World.size_alloc, clk]; repeat' (first | rfl | rw [if_pos (by omega)] | rw [if_neg (by omega)])) (by simp [clk, Value.oneCell']) (by simp) rfl) (Ints.of_block (T := 3) (fr := (0, 0)) (by simp only [heap_alloc_if, World.size_alloc]; repeat' (first | rfl | rw [if_pos (by omega)] | rw [if_neg (by omega)])) (by simp) rfl)).mono ?_
  rintro e w1 ⟨v1, rfl, hown, hb⟩
  rw [shuf_awake] at hown
  obtain ⟨g, cap, rfl, hgb, hgl⟩ := hown.form (by simp)
  have c0 : w1.cell? ⟨g, 0, none⟩ = some (clk 3) := by have := hown.cells (g := g) rfl 0 _ rfl; rwa [add_plain] at this
  have c1 : w1.cell? ⟨g, 1, none⟩ = some (clk 1) := by have := hown.cells (g := g) rfl 1 _ rfl; rwa [add_plain] at this
  have c2 : w1.cell? ⟨g, 2, none⟩ = some (clk 2) := by have := hown.cells (g := g) rfl 2 _ rfl; rwa [add_plain] at this
  have a1 : w1.cell? ⟨w.heap.size, 0, none⟩ = some (.int .i64 1) := (hb.cell (p := ⟨w.heap.size, 0, none⟩) (by simp <;> omega)).trans (cell_block (T := 26) (fr := (0, 0)) (cs := #[.int .i64 1]) (by simp only [heap_alloc_if, World.size_alloc]; repeat' (first | rfl | rw [if_pos (by omega)] | rw [if_neg (by omega)])) rfl)
  have a2 : w1.cell? ⟨w.heap.size + 1, 0, none⟩ = some (.int .i64 2) := (hb.cell (p := ⟨w.heap.size + 1, 0, none⟩) (by simp <;> omega)).trans (cell_block (T := 26) (fr := (0, 0)) (cs := #[.int .i64 2]) (by simp only [heap_alloc_if, World.size_alloc]; repeat' (first | rfl | rw [if_pos (by omega)] | rw [if_neg (by omega)])) rfl)
  have a3 : w1.cell? ⟨w.heap.size + 1 + 1, 0, none⟩ = some (.int .i64 3) := (hb.cell (p := ⟨w.heap.size + 1 + 1, 0, none⟩) (by simp <;> omega)).trans (cell_block (T := 26) (fr := (0, 0)) (cs := #[.int .i64 3]) (by simp only [heap_alloc_if, World.size_alloc]; repeat' (first | rfl | rw [if_pos (by omega)] | rw [if_neg (by omega)])) rfl)
  have hbw : Below w.heap.size w w1 := by
    refine Below.trans ?_ (hb.mono (by simp <;> omega))
    exact (((((Below.refl w.heap.size w).alloc (by simp) _).alloc (by simp <;> omega) _).alloc (by simp <;> omega) _).alloc (by simp <;> omega) _).alloc (by simp <;> omega) _
  simp only [clk] at c0 c1 c2
  clear hown hb
  go_wp2_with fail
  go_quiet (fail)
  go_wp2
  go_ret
  exact ⟨rfl, below_drewN hbw _⟩
end Go.Proofs.Ythpcedficlhanaa
