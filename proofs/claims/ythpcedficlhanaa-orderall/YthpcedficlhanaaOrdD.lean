/- The walk of order.Shuffle. -/
import Derived.Test.YthpcedficlhanaaOrdC
namespace Go.Proofs.Ythpcedficlhanaa
open Go.RowKit

set_option maxHeartbeats 1000000 in
theorem shuffle_any (v pv : Value) (xs : List Value) (ps : List Int) (w : World) (hx : Cmds w v xs) (hp : Ints w pv ps) :
    Calls Try.prog 6 #[v, pv] w fun e w' => ∃ v', e = .returned v' ∧ w'.ownsRow w.heap.size 29 1 v' xs.length (shuf xs ps) ∧ Below w.heap.size w w' := by
  have hcl := clone_any v xs w hx
  obtain ⟨A, n, c, rfl, hl, hn, h1, -, -, -⟩ := hx
  have hp0 := hp
  obtain ⟨PA, pn, pc, rfl, hpl, hpn, -⟩ := hp
  subst hl
  subst hpl
  have HCL := Lib.hid hcl; clear hcl
  have HP := Lib.hid hp0; clear hp0
  have H1 := Lib.hid h1; clear h1
  go_enter Try.func6, Try.ntmps6
  go_wp2_with (go_at_call 14; refine HCL.out.mono ?_; rintro e w1 ⟨v1, rfl, hown1, hb1⟩)
  have hs1 := hb1.size
  go_loopw [5, 6, 13] (fun v5 v6 ci wr => ∃ i : Nat, i ≤ xs.length ∧ ci = .int .i64 i ∧ wr.ownsRow w.heap.size 29 1 v5 i (shufSt xs ps i).2 ∧ wr.ownsRow w.heap.size 29 1 v6 (xs.length - i) (shufSt xs ps i).1 ∧ Apart v5 v6 ∧ Below w.heap.size w wr) (fun _ _ ci _ => xs.length - (intOf ci).toNat)
  case atStart => exact ⟨0, Nat.zero_le _, rfl, World.ownsRow_nil _ _ _ _, hown1, .inl rfl, hb1⟩
  case round =>
    obtain ⟨i, hi, rfl, hO, hL, hA, hB⟩ := hrel
    by_cases hlt : i < xs.length
    · obtain ⟨m, em⟩ : ∃ m, m = xs.length - i := ⟨_, rfl⟩
      have hlen := (shufSt_len xs ps i hi).1
      rw [← em] at hL hlen
      obtain ⟨g, cap, hv6, hgb, hgl⟩ := hL.form (by omega)
      have hk := shufK_lt ps i m (by omega)
      obtain ⟨k, ek⟩ : ∃ k, k = shufK ps i m := ⟨_, rfl⟩
      obtain ⟨y, ey⟩ : ∃ y, (shufSt xs ps i).1[k]? = some y := ⟨_, List.getElem?_eq_getElem (by omega)⟩
      have hkl : k < m := by omega
      have hm0 : 0 < m := by omega
      have hml : m ≤ 1000000 := by omega
      have hil : i < 1000000 := by omega
      have hy1 : y.oneCell' = true := H1.out y ((shufSt_mem xs ps i y).1 (List.mem_of_getElem? ey))
      subst hv6
      have hcell : wr.cell? ⟨g, k, none⟩ = some y := by
        have := hL.cells (g := g) rfl k y ey
        rwa [add_plain] at this
      have hsz := hB.size
      have hst : shufSt xs ps (i + 1) = ((shufSt xs ps i).1.eraseIdx k, (shufSt xs ps i).2 ++ [y]) := by
        simp only [shufSt, hlen, ← ek, ey, Option.toList_some]
      have H2 := Lib.hid hy1; clear hy1
      have HST := Lib.hid hst; clear hst
      have HEM := Lib.hid em; clear em
      have HEY := Lib.hid ey; clear ey
      have HLN := Lib.hid hlen; clear hlen
      have hml' : (shufSt xs ps i).1.length ≤ m := by rw [HLN.out]; exact Nat.le_refl _
      have HDEL : Hid (∀ W v, W.ownsRow w.heap.size 29 1 v m (shufSt xs ps i).1 → Calls Try.prog 16 #[v, .int .i64 k, .int .i64 ((k : Int) + 1)] W fun e w' => ∃ v', e = .returned v' ∧ w'.ownsRow w.heap.size 29 1 v' (m - 1) ((shufSt xs ps i).1.eraseIdx k) ∧ W.grownBy w' v.ownBlock ∧ v'.ownBlock = v.ownBlock) := by
        intro W v hv
        have := delete_own w.heap.size v (shufSt xs ps i).1 k W (by rw [HLN.out]; exact hv) (fun u hu => H1.out u ((shufSt_mem xs ps i u).1 hu)) (by rw [HLN.out]; exact hkl)
        rw [HLN.out] at this
        exact this
      by_cases hip : i < ps.length
      · obtain ⟨p, ep⟩ : ∃ p, p = ps.getD i 0 := ⟨_, rfl⟩
        have ek2 : placeZ p (m : Int) = (k : Int) := by
          have hz := placeZ_range (ps.getD i 0) m (by omega)
          rw [ek, ep]; unfold shufK; rw [if_pos hip]; omega
        have hpc : ∃ b off, PA = some ⟨b, off, none⟩ ∧ wr.cell? ⟨b, off + i, none⟩ = some (.int .i64 p) := by rw [ep]; exact (HP.out.below hB).at_ i hip
        obtain ⟨b, off, rfl, hpcell⟩ := hpc
        clear ep
        have hyc : y.cells = #[y] := by have := oc_one.cells y; rwa [oc_of H2.out] at this
        simp only [Value.cells] at hyc
        have HEK := Lib.hid ek; clear ek
        go_wp2_with (first
          | (go_at_call 15; refine (place_any _ _ _ (by omega) (by omega)).mono ?_; rintro e w2 ⟨rfl, rfl⟩)
          | (at_builtin; refine wpl_app1 #[y] w.heap.size rfl (.tmp 27) (.tmp 32) 24 29 .nilIface 1 16 rfl Try.underlying24 cmd_info rfl (by decide) (by decide) u5 i _ rfl rfl rfl (by simpa using H2.out) hO hsz (by omega) ?_; intro v5' w3 hO3 hg3 hat3; obtain ⟨hL3, hA3⟩ := apart_app hA hO hL hg3 hat3 hO3; have hB3 := below_grown_own hB hO (Nat.le_refl _) hsz hg3)
          | (go_at_call 16; refine (HDEL.out _ _ hL3).mono ?_; rintro e w4 ⟨v6', rfl, hL4, hg4, hat4⟩; obtain ⟨hO4, hA4⟩ := apart_keep hA3 hO3 hg4 hat4; have hB4 := below_grown_own hB3 hL3 (Nat.le_refl _) hB3.size hg4))
        go_roundw
        case rel => exact ⟨i + 1, by omega, by go_num, by rw [HST.out]; exact hO4, by rw [HST.out, show xs.length - (i + 1) = m - 1 from by have := HEM.out; omega]; exact hL4, hA4, hB4⟩
        case measure => simp [intOf]; omega
      · have ek0 : k = 0 := by rw [ek]; unfold shufK; rw [if_neg hip]
        clear ek
        subst ek0
        have hyc : y.cells = #[y] := by have := oc_one.cells y; rwa [oc_of H2.out] at this
        simp only [Value.cells] at hyc
        have HD0 : Hid (∀ W v, W.ownsRow w.heap.size 29 1 v m (shufSt xs ps i).1 → Calls Try.prog 16 #[v, .int .i64 0, .int .i64 1] W fun e w' => ∃ v', e = .returned v' ∧ w'.ownsRow w.heap.size 29 1 v' (m - 1) ((shufSt xs ps i).1.eraseIdx 0) ∧ W.grownBy w' v.ownBlock ∧ v'.ownBlock = v.ownBlock) := HDEL.out
        go_wp2_with (first
          | (at_builtin; refine wpl_app1 #[y] w.heap.size rfl (.tmp 27) (.tmp 32) 24 29 .nilIface 1 16 rfl Try.underlying24 cmd_info rfl (by decide) (by decide) u5 i _ rfl rfl rfl (by simpa using H2.out) hO hsz (by omega) ?_; intro v5' w3 hO3 hg3 hat3; obtain ⟨hL3, hA3⟩ := apart_app hA hO hL hg3 hat3 hO3; have hB3 := below_grown_own hB hO (Nat.le_refl _) hsz hg3)
          | (go_at_call 16; refine (HD0.out _ _ hL3).mono ?_; rintro e w4 ⟨v6', rfl, hL4, hg4, hat4⟩; obtain ⟨hO4, hA4⟩ := apart_keep hA3 hO3 hg4 hat4; have hB4 := below_grown_own hB3 hL3 (Nat.le_refl _) hB3.size hg4))
        go_roundw
        case rel => exact ⟨i + 1, by omega, by go_num, by rw [HST.out]; exact hO4, by rw [HST.out, show xs.length - (i + 1) = m - 1 from by have := HEM.out; omega]; exact hL4, hA4, hB4⟩
        case measure => simp [intOf]; omega
    · have hin : i = xs.length := by omega
      subst hin
      go_wp2
      go_ret
      exact ⟨u5, rfl, hO, hB⟩
end Go.Proofs.Ythpcedficlhanaa
