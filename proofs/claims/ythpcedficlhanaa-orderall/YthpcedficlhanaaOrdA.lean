/- Contracts of the small functions beneath OrderAll: Epoch, place. -/
import Derived.Test.YthpcedficlhanaaRows
import Derived.WalkKit
import Derived.WalkSpells
import Derived.WalkLawsBesides
import Derived.Lib.Hide
namespace Go.Proofs.Ythpcedficlhanaa
open Go.RowKit

/-- A pick among n. -/
def placeZ (p : Int) (n : Int) : Int := (p.tmod n + n) % n

theorem placeZ_range (p n : Int) (h : 0 < n) : 0 ≤ placeZ p n ∧ placeZ p n < n := by
  unfold placeZ
  have h1 : -n < p.tmod n := by
    have := Int.lt_tmod_of_pos p h
    omega
  exact ⟨Int.emod_nonneg _ (by omega), Int.emod_lt_of_pos _ h⟩

set_option maxHeartbeats 400000 in
theorem epoch_any (n : Int) (w : World) :
    Calls Try.prog 7 #[.iface 26 (.agg #[.int .i64 n])] w fun e w' => e = .returned (.int .i64 n) ∧ w = w' := by
  have ta : ∀ w, (Instr.typeAssert (.iface 26 (.agg #[.int .i64 n])) 29 26 false).run Try.prog w = .ok (.agg #[.int .i64 n]) w := fun w => by kernel_rfl
  have tf : ∀ w, (Instr.field 26 (.agg #[.int .i64 n]) 0).run Try.prog w = .ok (.int .i64 n) w := fun w => by kernel_rfl
  go_enter Try.func7, Try.ntmps7
  go_wp2
  go_ret
  exact ⟨rfl, rfl⟩

set_option maxHeartbeats 400000 in
theorem place_any (p n : Int) (w : World) (h : 0 < n) (h2 : n ≤ 1000000) :
    Calls Try.prog 15 #[.int .i64 p, .int .i64 n] w fun e w' => e = .returned (.int .i64 (placeZ p n)) ∧ w = w' := by
  have h1 : -n < p.tmod n := by
    have := Int.lt_tmod_of_pos p h
    omega
  have h3 : p.tmod n < n := Int.tmod_lt_of_pos p h
  go_enter Try.func15, Try.ntmps15
  go_wp2
  go_ret
  exact ⟨rfl, rfl⟩
end Go.Proofs.Ythpcedficlhanaa
