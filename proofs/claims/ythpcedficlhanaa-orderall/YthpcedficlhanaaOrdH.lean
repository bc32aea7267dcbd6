/- OrderAll: the law's walk, at most 40 picks. -/
import Derived.Test.YthpcedficlhanaaOrdG
namespace Go.Proofs.Ythpcedficlhanaa
open Go.RowKit

theorem Cmds.of_own {W : World} {base : Nat} {T : TypeId} {v : Value} {xs : List Value} (h : W.ownsRow base T 1 v xs.length xs) (h1 : ∀ u ∈ xs, u.oneCell' = true) (hn : xs.length ≤ 1000000) : Cmds W v xs := by
  have h0 := h
  rcases h.2 with ⟨rfl, hz⟩ | ⟨g, cap, cur, rfl, hb, hg, hc, hm, hs, ht⟩
  · exact ⟨none, 0, 0, rfl, hz, by omega, h1, fun _ => rfl, (fun a ha => by cases ha), (fun a ha => by cases ha)⟩
  · refine ⟨_, _, _, rfl, rfl, hn, h1, (fun h => by cases h), fun a ha => ?_, fun a ha j u hu => ?_⟩
    · injection ha with ha; subst ha; exact ⟨rfl, (Array.getElem?_eq_some_iff.1 hg).1⟩
    · injection ha with ha; subst ha
      have := h0.cells (g := g) rfl j u hu
      rw [add_plain] at this
      simpa using this

theorem own_cell {W : World} {base g n cap : Nat} {T : TypeId} {xs : List Value} (h : W.ownsRow base T 1 (.slice (some ⟨g, 0, none⟩) n cap) n xs) (j : Nat) (u : Value) (hu : xs[j]? = some u) : W.cell? ⟨g, j, none⟩ = some u ∧ W.frozen? ⟨g, j, none⟩ = false := by
  refine ⟨?_, ?_⟩
  · have := h.cells (g := g) rfl j u hu
    rwa [add_plain] at this
  · rcases h.2 with ⟨h', _⟩ | ⟨g', cap', cur, h', _, hh, _⟩
    · cases h'
    · have : g = g' := by injection h' with h'; injection h' with h'; injection h' with h'
      subst this
      simp [World.frozen?, hh]

def ints (xs : List Int) : List Value := xs.map fun x => .int .i64 x
theorem ints_length (xs : List Int) : (ints xs).length = xs.length := by simp [ints]

theorem own_madeI (W : World) (base : Nat) (e : TypeId) (m : Nat) (hb : base ≤ W.heap.size) (hm : m ≤ 9223372036854775807) :
    (W.alloc (.cells (madeCells #[.int .i64 0] m) e)).ownsRow base e 1 (.slice (some ⟨W.heap.size, 0, none⟩) m m) m (ints (List.replicate m 0)) := by
  have h := World.ownsRow_lit (base := base) (e := e) (size := 1) W (madeCells #[.int .i64 0] m) m hb (by simpa [maxLen] using hm) (by simp [size_madeCells])
  have hl : (madeCells #[Value.int .i64 0] m).toList = ints (List.replicate m 0) := by
    apply List.ext_getElem
    · simp [ints, madeCells]
    · intro i h1 h2
      simp [ints, madeCells, Nat.mod_one]
  rwa [hl] at h

theorem int_info : (Try.prog.info? 3).map (fun i => (i.zero, i.size, i.bytes)) = some (some (.int .i64 0), 1, 8) := by kernel_rfl

theorem run_make_ints (m : Nat) (hm : m ≤ 1000000) (W : World) : (Instr.makeSlice 22 (.int .i64 (m : Int)) (.int .i64 (m : Int))).run Try.prog W = .ok (.slice (some ⟨W.heap.size, 0, none⟩) m m) (W.alloc (.cells (madeCells #[.int .i64 0] m) 3)) := by
  obtain ⟨i0, hi, hzz⟩ := Option.map_eq_some_iff.1 int_info
  simp only [Prod.mk.injEq] at hzz
  obtain ⟨hz0, hz1, hz2⟩ := hzz
  have hb : (i0.bytes : Int) * (m : Int) ≤ 281474976710656 := by rw [hz2]; omega
  have hr := run_make (P := Try.prog) W 22 3 i0 (.int .i64 0) Try.underlying22 hi hz0 .i64 .i64 (m : Int) (m : Int) (by omega) (by omega) hb (by omega)
  simp only [Int.toNat_natCast, hz1, Nat.mul_one] at hr
  exact hr

set_option maxHeartbeats 2000000 in
theorem all_a (a : Int) (A : Option Addr) (n c : Nat) (ps : List Int) (w : World) (hp : Ints w (.slice A n c) ps) (hn : n ≤ 40) :
    Calls Try.prog 3 #[.int .i64 a, .slice A n c] w fun e w' => e = .returned (.bool true) ∧ Below w.heap.size w w' := by
  obtain ⟨N, hN, hNle⟩ : ∃ N : Nat, max 0 (min a 30) = (N : Int) ∧ N ≤ 30 := ⟨(max 0 (min a 30)).toNat, by omega, by omega⟩
  have hd : decide ((40 : Int) < n) = false := by simp; omega
  have hpl : ps.length = n := by obtain ⟨_, _, _, he, hl, _⟩ := hp; injection he with _ h2 _; omega
  have HPL := Lib.hid hpl; clear hpl
  have HP := Lib.hid hp; clear hp
  go_enter Try.func3, Try.ntmps3
  go_wp2_with (go_at_call 5; refine (awake_any _).mono ?_; rintro e w1 ⟨rfl, hb1⟩)
  have hs1 := hb1.size
  go_loopw [5, 6, 27] (fun v5 _ ci wr => ∃ i : Nat, i ≤ N ∧ ci = .int .i64 i ∧ wr.ownsRow w.heap.size 29 1 v5 i (clks i) ∧ Below w.heap.size w wr) (fun _ _ ci _ => N - (intOf ci).toNat)
  case atStart => exact ⟨0, Nat.zero_le _, rfl, World.ownsRow_nil _ _ _ _, hb1⟩
  case round =>
    obtain ⟨i, hi, rfl, hO, hB⟩ := hrel
    have hsz := hB.size
    by_cases hlt : i < N
    · go_wp2_with (at_builtin; refine wpl_app1 #[clk i] w.heap.size rfl (.tmp 30) (.tmp 34) 24 29 .nilIface 1 16 rfl Try.underlying24 cmd_info rfl (by decide) (by decide) u5 i _ rfl rfl rfl (by simp [clk_one]) hO hsz (by omega) ?_; intro v5' w3 hO3 hg3 hat3; have hB3 := below_grown_own hB hO (Nat.le_refl _) hsz hg3)
      go_roundw
      case rel => exact ⟨i + 1, by omega, by go_num, by rw [clks_succ]; exact hO3, hB3⟩
      case measure => simp [intOf]; omega
    · have hin : i = N := by omega
      subst hin
      obtain ⟨wa, rfl⟩ : ∃ wa : World, wa = wr := ⟨_, rfl⟩
      go_wp2_with fail
      refine (shuffle_any u5 (.slice A n c) (clks i) ps wa (Cmds.of_own (by rw [clks_length]; exact hO) (clks_one i) (by rw [clks_length]; omega)) (HP.out.below hB)).mono ?_
      rintro e w2 ⟨v7, rfl, hO7, hb2⟩
      rw [clks_length] at hO7
      obtain ⟨ids, hperm, hids⟩ := shuf_ids i ps
      rw [hids] at hO7
      have hB2 : Below w.heap.size w w2 := hB.trans (hb2.mono hsz)
      have hO5 := own_below hO hb2
      have hO7' := own_lower hO7 hsz
      have hidl : ids.length = i := by rw [hperm.length_eq]; simp
      have hidlt : ∀ q, q ∈ ids → q < i := fun q hq => by simpa using hperm.mem_iff.1 hq
      obtain ⟨A7, c7, hv7, hc7⟩ := own_slice hO7
      subst hv7
      have hsz2 := hB2.size
      have hmk := run_make_ints i (by omega)
      have HID := Lib.hid hids; clear hids
      have HIL := Lib.hid hidl; clear hidl
      have HLT := Lib.hid hidlt; clear hidlt
      have HPM := Lib.hid hperm; clear hperm
      clear hO hO7 hb2 hB hsz
      go_wp2_with fail
      go_loopw [48] (fun ci wr => ∃ j : Nat, j ≤ i ∧ ci = .int .i64 j ∧ wr.ownsRow w.heap.size 3 1 (.slice (some ⟨w2.heap.size, 0, none⟩) i i) i (ints (cnt i ids j)) ∧ wr.ownsRow w.heap.size 29 1 (.slice A7 i c7) i (ids.map fun k => clk (k : Nat)) ∧ wr.ownsRow w.heap.size 29 1 u5 i (clks i) ∧ Below w.heap.size w wr) (fun ci _ => i - (intOf ci).toNat)
      case atStart => exact ⟨0, Nat.zero_le _, rfl, by rw [cnt_zero]; exact own_madeI w2 w.heap.size _ i hsz2 (by omega), hO7'.alloc _, hO5.alloc _, hB2.alloc hsz2 _⟩
      case round =>
        obtain ⟨j, hj, rfl, hC, hM, hL, hB⟩ := hrel
        have hsz := hB.size
        by_cases hlt : j < i
        · obtain ⟨g7, cap7, hv7, -, -⟩ := hM.form (by omega)
          injection hv7 with hA7 _ hc7'
          subst hA7
          subst hc7'
          obtain ⟨q, hq⟩ : ∃ q, ids[j]? = some q := ⟨_, List.getElem?_eq_getElem (by have := HIL.out; omega)⟩
          have hqi : q < i := HLT.out q (List.mem_of_getElem? hq)
          have hcellm := (own_cell hM j (clk q) (by rw [List.getElem?_map, hq]; rfl)).1
          have hst := cnt_step i ids j q hq
          obtain ⟨x, ex⟩ : ∃ x, x = (cnt i ids j).getD q 0 := ⟨_, rfl⟩
          have hx := cnt_le i ids j q (by omega)
          rw [← ex] at hx hst
          obtain ⟨hx0, hx1⟩ := hx
          have hcc := own_cell hC q (.int .i64 x) (by simp [ints, ex, List.getD_eq_getElem?_getD, List.getElem?_eq_getElem (show q < (cnt i ids j).length by rw [cnt_length]; exact hqi)])
          obtain ⟨hcell, hfro⟩ := hcc
          have hstore := hC.stored q (.int .i64 (x + 1))
          have HST := Lib.hid hst; clear hst
          have HQ := Lib.hid hq; clear hq
          have HSR := Lib.hid hstore; clear hstore ex
          simp only [clk] at hcellm
          have hb1 : decide ((q : Int) < 0) = false := by simp
          have hb2 : decide ((i : Int) ≤ q) = false := by simp; omega
          go_wp2_with (go_at_call 7; refine (epoch_any _ _).mono ?_; rintro e w3 ⟨rfl, rfl⟩)
          go_roundw
          case rel =>
            have e1 : ints (cnt i ids (j + 1)) = (ints (cnt i ids j)).set q (.int .i64 (x + 1)) := by rw [HST.out]; simp [ints, List.map_set]
            refine ⟨j + 1, by omega, by go_num, ?_, hM.kept HSR.out.2 (own_type_ne hM hC (by decide)), hL.kept HSR.out.2 (own_type_ne hL hC (by decide)), hB.setCell hsz2 _⟩
            rw [e1]
            exact HSR.out.1
          case measure => simp [intOf]; omega
        · have hin : j = i := by omega
          subst hin
          have hones := cnt_all j ids HPM.out
          rw [hones] at hC
          have HC := Lib.hid hC; clear hC hones
          obtain ⟨wb, rfl⟩ : ∃ wb : World, wb = wr := ⟨_, rfl⟩
          go_wp2_with fail
          go_loop [70] (fun ci => ∃ k : Nat, k ≤ j ∧ ci = .int .i64 k) (fun ci => j - (intOf ci).toNat)
          case atStart => exact ⟨0, Nat.zero_le _, rfl⟩
          case round =>
            obtain ⟨k, hk, rfl⟩ := hrel
            by_cases hkl : k < j
            · have hc1 := (own_cell HC.out k (.int .i64 1) (by simp [ints, hkl])).1
              go_wp2
              go_round
              case rel => exact ⟨k + 1, by omega, by go_num⟩
              case measure => simp [intOf]; omega
            · have hkj : k = j := by omega
              subst hkj
              go_wp2_with fail
              refine (shuffle_any u5 (.slice none 0 0) (clks k) [] wb (Cmds.of_own (by rw [clks_length]; exact hL) (clks_one k) (by rw [clks_length]; omega)) (Ints.nil wb)).mono ?_
              rintro e w3 ⟨v9, rfl, hO9, hb3⟩
              rw [clks_length, shuf_nil] at hO9
              have hB3 : Below w.heap.size w w3 := hB.trans (hb3.mono hsz)
              have hL3 := own_below hL hb3
              have hO9' := own_lower hO9 hsz
              obtain ⟨A9, c9, hv9, hc9⟩ := own_slice hO9
              subst hv9
              have H9 := Lib.hid hO9'
              clear hO9 hO9' hb3 hM hL hB
              go_wp2_with fail
              go_loop [80] (fun ci => ∃ m : Nat, m ≤ k ∧ ci = .int .i64 m) (fun ci => k - (intOf ci).toNat)
              case atStart => exact ⟨0, Nat.zero_le _, rfl⟩
              case round =>
                obtain ⟨m, hm, rfl⟩ := hrel
                by_cases hml : m < k
                · have h9 := H9.out
                  obtain ⟨g9, cap9, hv9, -, -⟩ := h9.form (by omega)
                  injection hv9 with hA9 _ hc9'
                  subst hA9
                  subst hc9'
                  have hc1 := (own_cell h9 m (clk m) (by simp [clks, hml])).1
                  simp only [clk] at hc1
                  clear h9
                  go_wp2_with (go_at_call 7; refine (epoch_any _ _).mono ?_; rintro e w4 ⟨rfl, rfl⟩)
                  go_round
                  case rel => exact ⟨m + 1, by omega, by go_num⟩
                  case measure => simp [intOf]; omega
                · have hmk : m = k := by omega
                  subst hmk
                  have hsz3 := hB3.size
                  go_wp2_with fail
                  refine (double_any u5 (.slice A n c) (clks m) ps w3 (Cmds.of_own (by rw [clks_length]; exact hL3) (clks_one m) (by rw [clks_length]; omega)) (HP.out.below hB3) (by rw [HPL.out]; omega)).mono ?_
                  rintro e w5 ⟨v11, rfl, hO11, hb5⟩
                  have hB5 : Below w.heap.size w w5 := hB3.trans (hb5.mono hsz3)
                  obtain ⟨A11, c11, hv11, -⟩ := own_slice hO11
                  subst hv11
                  by_cases hm0 : m = 0
                  · subst hm0
                    go_wp2
                    all_goals (go_ret; exact ⟨rfl, hB5⟩)
                  · have hl : (dbl (clks m) ps).length = m + n := by
                      unfold dbl
                      rw [clks_length, if_neg hm0]
                      simp [clks_length, HPL.out]
                    rw [hl] at hO11 ⊢
                    clear hl
                    go_wp2
                    all_goals (go_ret; exact ⟨rfl, hB5⟩)
end Go.Proofs.Ythpcedficlhanaa
