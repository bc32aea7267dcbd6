/- The walk of order.Double. -/
import Derived.Test.YthpcedficlhanaaOrdD
namespace Go.Proofs.Ythpcedficlhanaa
open Go.RowKit

/-- What Double adds: of each pick the command at its place. -/
def dblAt (xs : List Value) (p : Int) : Value := xs.getD (placeZ p xs.length).toNat .nilIface
def dbl (xs : List Value) (ps : List Int) : List Value := if xs.length = 0 then [] else xs ++ ps.map (dblAt xs)

theorem Cmds.below {w w' : World} {v : Value} {xs : List Value} (h : Cmds w v xs) (hb : Below w.heap.size w w') : Cmds w' v xs := by
  obtain ⟨A, n, c, hv, hl, hn, h1, h0, hs, hc⟩ := h
  refine ⟨A, n, c, hv, hl, hn, h1, h0, fun a ha => ⟨(hs a ha).1, Nat.lt_of_lt_of_le (hs a ha).2 hb.size⟩, fun a ha j u hu => ?_⟩
  exact (hb.cell (p := ⟨a.block, a.off + j, none⟩) (hs a ha).2).trans (hc a ha j u hu)

set_option maxHeartbeats 1000000 in
theorem double_any (v pv : Value) (xs : List Value) (ps : List Int) (w : World) (hx : Cmds w v xs) (hp : Ints w pv ps) (hps : ps.length ≤ 1000000) :
    Calls Try.prog 8 #[v, pv] w fun e w' => ∃ v', e = .returned v' ∧ w'.ownsRow w.heap.size 29 1 v' (dbl xs ps).length (dbl xs ps) ∧ Below w.heap.size w w' := by
  have hcl := clone_any v xs w hx
  have HX := Lib.hid hx
  obtain ⟨A, n, c, rfl, hl, hn, h1, -, -, -⟩ := hx
  have HP := Lib.hid hp
  obtain ⟨PA, pn, pc, rfl, hpl, hpn, -⟩ := hp
  subst hl
  subst hpl
  have HCL := Lib.hid hcl; clear hcl
  have H1 := Lib.hid h1; clear h1
  go_enter Try.func8, Try.ntmps8
  go_wp2_with (go_at_call 14; refine HCL.out.mono ?_; rintro e w1 ⟨v1, rfl, hown1, hb1⟩)
  have hs1 := hb1.size
  go_loopw [5, 12] (fun v5 ci wr => ∃ i : Nat, i ≤ ps.length ∧ ci = .int .i64 i ∧ wr.ownsRow w.heap.size 29 1 v5 (dbl xs (ps.take i)).length (dbl xs (ps.take i)) ∧ Below w.heap.size w wr) (fun _ ci _ => ps.length - (intOf ci).toNat)
  case atStart =>
    refine ⟨0, Nat.zero_le _, rfl, ?_, hb1⟩
    have e : dbl xs (ps.take 0) = xs := by
      unfold dbl
      split
      · rename_i h; exact (List.eq_nil_of_length_eq_zero h).symm
      · simp
    rw [e]; exact hown1
  case round =>
    obtain ⟨i, hi, rfl, hO, hB⟩ := hrel
    by_cases hlt : i < ps.length
    · obtain ⟨p, ep⟩ : ∃ p, p = ps.getD i 0 := ⟨_, rfl⟩
      have hsz := hB.size
      have hpc : ∃ b off, PA = some ⟨b, off, none⟩ ∧ wr.cell? ⟨b, off + i, none⟩ = some (.int .i64 p) := by rw [ep]; exact (HP.out.below hB).at_ i hlt
      obtain ⟨b, off, rfl, hpcell⟩ := hpc
      have htake : ps.take (i + 1) = ps.take i ++ [p] := by
        rw [List.take_add_one, List.getElem?_eq_getElem hlt, ep, List.getD_eq_getElem?_getD, List.getElem?_eq_getElem hlt]; rfl
      have HT := Lib.hid htake; clear htake ep
      by_cases hx0 : xs.length = 0
      · have hnil : xs = [] := List.eq_nil_of_length_eq_zero hx0
        subst hnil
        go_wp2
        go_roundw
        case rel => exact ⟨i + 1, by omega, by go_num, by simpa [dbl] using hO, hB⟩
        case measure => simp [intOf]; omega
      · have hpos : 0 < xs.length := by omega
        obtain ⟨k, ek⟩ : ∃ k : Nat, placeZ p xs.length = k := ⟨(placeZ p xs.length).toNat, by have := placeZ_range p xs.length (by omega); omega⟩
        have hk : k < xs.length := by have := placeZ_range p xs.length (by omega); omega
        obtain ⟨y, ey⟩ : ∃ y, xs[k]? = some y := ⟨_, List.getElem?_eq_getElem hk⟩
        have hy1 := H1.out y (List.mem_of_getElem? ey)
        have hxc : ∃ b off, A = some ⟨b, off, none⟩ ∧ wr.cell? ⟨b, off + k, none⟩ = some y := by
          obtain ⟨A', n', c', he, -, -, -, h0, hs, hc⟩ := HX.out.below hB
          injection he with he1 he2 he3
          subst he1
          rcases A with _ | ⟨b, off, sp⟩
          · exact absurd (h0 rfl) (by omega)
          · obtain ⟨hsp, -⟩ := hs _ rfl
            simp only at hsp
            subst hsp
            exact ⟨b, off, rfl, hc _ rfl k y ey⟩
        obtain ⟨xb, xoff, rfl, hxcell⟩ := hxc
        have hstep : dbl xs (ps.take (i + 1)) = dbl xs (ps.take i) ++ [y] := by
          rw [HT.out]
          unfold dbl
          rw [if_neg hx0, if_neg hx0, List.map_append, List.append_assoc]
          have : dblAt xs p = y := by
            unfold dblAt
            rw [ek, Int.toNat_natCast, List.getD_eq_getElem?_getD, ey]; rfl
          simp [this]
        have hdl : (dbl xs (ps.take i)).length ≤ 2000000 := by
          unfold dbl
          rw [if_neg hx0]
          simp; omega
        have HS := Lib.hid hstep; clear hstep
        have HEY := Lib.hid ey; clear ey
        have H2 := Lib.hid hy1; clear hy1
        have hyc : y.cells = #[y] := by have := oc_one.cells y; rwa [oc_of H2.out] at this
        simp only [Value.cells] at hyc
        clear hx0
        obtain ⟨D, eD⟩ : ∃ D, D = dbl xs (ps.take i) := ⟨_, rfl⟩
        rw [← eD] at hO hdl
        have HD := Lib.hid eD; clear eD
        go_wp2_with (first
          | (go_at_call 15; refine (place_any _ _ _ (by omega) (by omega)).mono ?_; rintro e w2 ⟨rfl, rfl⟩)
          | (at_builtin; refine wpl_app1 #[y] w.heap.size rfl (.tmp 19) (.tmp 27) 24 29 .nilIface 1 16 rfl Try.underlying24 cmd_info rfl (by decide) (by decide) u5 D.length _ rfl rfl rfl (by simpa using H2.out) hO hsz (by omega) ?_; intro v5' w3 hO3 hg3 hat3; have hB3 := below_grown_own hB hO (Nat.le_refl _) hsz hg3))
        go_roundw
        case rel => exact ⟨i + 1, by omega, by go_num, by rw [HS.out, ← HD.out]; simpa using hO3, hB3⟩
        case measure => simp [intOf]; omega
    · have hin : i = ps.length := by omega
      subst hin
      rw [List.take_length] at hO
      go_wp2
      go_ret
      exact ⟨u5, rfl, hO, hB⟩
end Go.Proofs.Ythpcedficlhanaa
