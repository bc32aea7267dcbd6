/- Arguments opened: rows of headers, as they lie; the listed tables; an input that fits. Seeds opened: rows of them, as they lie. -/
import Derived.Test.YtpehmlfghddnaaaGreatDoorPuAM
import Derived.Test.YtpehmlfghddnaaaGreatDoorPuAV
import Derived.Test.YtpehmlfghddnaaaGreatDoorRows
import Derived.WalkKit
import Derived.ProofKit
import Derived.OpenShut
import Derived.ShutString
import Derived.ChangeOld
import Derived.Below
import Derived.SliceStrings
import Derived.SizedLaws
import Derived.Deep.Slices
import Derived.LaidMore
import Derived.MakeChecks
import Derived.Carry
namespace Go.Proofs.YtpehmlfghddnaaaGreatDoor
open Go.ChangeShapes Go.WideShapes Go.ChangeAt Go.RowKit
open Go.Deep (open_slice)

theorem weights_in {H : Type} {P : Program} {e : TypeId} : ∀ {l : List (DataW H)} {d : DataW H}, d ∈ l → ∀ n ∈ d.weights P e, n ∈ DataW.weightsAll P e l
  | [], _, h, _, _ => by cases h
  | x :: r, d, h, n, hn => by
    simp only [DataW.weightsAll, List.mem_append]
    rcases List.mem_cons.1 h with rfl | h
    · exact .inl hn
    · exact .inr (weights_in h n hn)
theorem weights_slice {H : Type} {P : Program} {t e : TypeId} {elems spare : List (DataW H)} (hu : P.underlying t = some (.slice e)) {d : DataW H} (hd : d ∈ elems) {n : Nat} (hn : n ∈ d.weights P e) : n ∈ (DataW.slice elems spare).weights P t := by
  simp only [DataW.weights, hu, List.mem_cons, List.mem_append]
  exact .inr (.inl (weights_in hd n hn))
theorem weights_struct {H : Type} {P : Program} {t : TypeId} {fs : Array Field} {parts : List (DataW H)} (hu : P.underlying t = some (.struct fs)) (j : Nat) (f : Field) (hf : fs[j]? = some f) {d : DataW H} (hd : parts[j]? = some d) {n : Nat} (hn : n ∈ d.weights P f.type) : n ∈ (DataW.agg parts).weights P t := by
  simp only [DataW.weights, hu]
  exact DataW.weights_mem_each (j := j) (by rw [List.getElem?_map, Array.getElem?_toList, hf]; rfl) hd n hn

theorem plain_of_cell {w : World} {x : Addr} {u : Value} (h : w.cell? x = some u) : x.spot = none ∧ x.block < w.heap.size := by
  refine ⟨?_, World.block_lt_of_cell? w _ h⟩
  rcases x with ⟨b, o, s⟩
  rcases s with _ | s
  · rfl
  · simp only [World.cell?] at h
    split at h <;> simp at h
theorem exists_list {α : Type} {R : Nat → α → Prop} : ∀ n : Nat, (∀ i, i < n → ∃ y, R i y) → ∃ l : List α, l.length = n ∧ ∀ i y, l[i]? = some y → R i y
  | 0, _ => ⟨[], rfl, fun i y h => by simp at h⟩
  | n + 1, h => by
    obtain ⟨l, hl, hR⟩ := exists_list n fun i hi => h i (by omega)
    obtain ⟨y, hy⟩ := h n (by omega)
    refine ⟨l ++ [y], by simp [hl], fun i z hz => ?_⟩
    rcases Nat.lt_or_ge i n with hi | hi
    · rw [List.getElem?_append_left (by omega)] at hz
      exact hR i z hz
    · have hlt : i < (l ++ [y]).length := (List.getElem?_eq_some_iff.1 hz).1
      simp at hlt
      obtain rfl : i = n := by omega
      rw [List.getElem?_append_right (by omega), hl, Nat.sub_self] at hz
      simp at hz
      subst hz
      exact hy
section
variable {H : Type} {enc : TypeId × Value → H} {w : World} {base : Nat} {sp : Nat → Bool} {held : Bool} {fuel : Nat}
/-- A row whose elements lie at their places. -/
theorem slw_of_cells {β : Type} (E : Enc β) {a : Addr} {len cap : Nat} {l : List β} (hl : l.length = len) (hc : len ≤ cap) (hm : cap ≤ maxLen) (h : ∀ i y, l[i]? = some y → ∀ j u, (E.enc y)[j]? = some u → w.cell? (a.add (i * E.k + j)) = some u) : SlW E (fun _ => True) w (.slice (some a) len cap) l := by
  refine ⟨_, len, cap, rfl, hl, hc, by simpa [maxLen] using hm, fun h0 => ?_⟩
  obtain ⟨y0, hy0⟩ : ∃ y, l[0]? = some y := ⟨_, List.getElem?_eq_getElem (by omega)⟩
  have hk : 0 < (E.enc y0).length := by rw [E.hk]; exact E.k0
  have h1 := plain_of_cell (h 0 y0 hy0 0 _ (List.getElem?_eq_getElem hk))
  have hs : a.spot = none := by have := h1.1; unfold Addr.add at this; simpa using this
  have hb : a.block < w.heap.size := by have := h1.2; rwa [block_of_add] at this
  obtain ⟨b, o, s⟩ := a
  simp only at hs hb
  subst hs
  refine ⟨b, o, rfl, hb, trivial, fun m u hu => ?_⟩
  obtain ⟨i, j, hj, rfl⟩ : ∃ i j, j < E.k ∧ m = i * E.k + j := ⟨m / E.k, m % E.k, Nat.mod_lt _ E.k0, by rw [Nat.mul_comm]; exact (Nat.div_add_mod m E.k).symm⟩
  have hlt := (List.getElem?_eq_some_iff.1 hu).1
  rw [E.flat_length] at hlt
  have hi : i < l.length := by
    rcases Nat.lt_or_ge i l.length with h | h
    · exact h
    · have := Nat.mul_le_mul_right E.k h; omega
  obtain ⟨y, hy⟩ : ∃ y, l[i]? = some y := ⟨_, List.getElem?_eq_getElem hi⟩
  have hv : (E.enc y)[j]? = some ((E.enc y)[j]'(by rw [E.hk]; exact hj)) := List.getElem?_eq_getElem _
  have h2 := E.flat_get l i y hy j _ hv
  rw [hu] at h2
  have h3 := h i y hy j _ hv
  rw [add_off] at h3
  rw [h3, ← Option.some.inj h2]
theorem SlW.strong {β : Type} {E : Enc β} {ok : Nat → Prop} {A : Option Addr} {n c : Nat} {ys : List β} (h : SlW E ok w (.slice A n c) ys) (hp : ∀ a, A = some a → a.spot = none) : Sl E ok w (.slice A n c) ys := by
  obtain ⟨A', n', c', he, hl, hc, hm, hx⟩ := h
  injection he with h1 h2 h3
  subst h1; subst h2; subst h3
  refine ⟨A, n, c, rfl, hl, hc, hm, fun a ha => ?_, hx⟩
  have := hp a ha
  obtain ⟨b, o, s⟩ := a
  simp only at this
  subst this
  exact ⟨b, o, rfl⟩

theorem open_strs {v : Value} {x : DataW H × List MemPlace} (h : DataW.trod enc Tryz.prog w base (fun _ => true) held fuel 32 [v] = some x) : ∃ A n c l, v = .slice A n c ∧ SlW strE (fun _ => True) w v l := by
  rcases open_strings Tryz.underlying32 Tryz.underlying9 (by kernel_rfl) h with ⟨hcs, -⟩ | ⟨a, len, cap, ss, hcs, -, hl, hm, hsl, -, hc, -⟩
  · obtain rfl : v = .slice none 0 0 := by simpa using hcs
    exact ⟨_, _, _, [], rfl, (Sl.nil _ _ _).weak⟩
  · obtain rfl : v = .slice (some a) len cap := by simpa using hcs
    have hsl' : ss.length = cap := by simpa using hsl
    refine ⟨_, _, _, ss.take len, rfl, slw_of_cells strE (by rw [List.length_take]; omega) hl hm fun i y hy j u hu => ?_⟩
    obtain rfl : j = 0 := by have := (List.getElem?_eq_some_iff.1 hu).1; rw [strE.hk] at this; have : j < 1 := this; omega
    have hi : i < len := by have := (List.getElem?_eq_some_iff.1 hy).1; rw [List.length_take] at this; omega
    rw [List.getElem?_take_of_lt hi] at hy
    have h1 := hc i (by omega)
    rw [List.getD_eq_getElem?_getD, hy] at h1
    have hu : some (Value.string y) = some u := hu
    injection hu with hu
    subst hu
    rw [show i * strE.k + 0 = i from Nat.mul_one i]
    exact h1

theorem wf_i64 {n : Int} (h : (Lit.int .i64 n).wf = true) : I64 n := by
  simp [Lit.wf, IntKind.min, IntKind.max, IntKind.bits, IntKind.signed] at h
  exact ⟨by omega, by omega⟩
theorem wf_u64 {n : Int} (h : (Lit.int .u64 n).wf = true) : 0 ≤ n ∧ n ≤ 18446744073709551615 := by
  simp [Lit.wf, IntKind.min, IntKind.max, IntKind.bits, IntKind.signed] at h
  exact ⟨by omega, by omega⟩
/-- What a header that came in is like. -/
structure InH (w : World) (x : LRH) : Prop where
  at_ : SlW strE (fun _ => True) w x.v x.h.parents
  ticket : x.h.ticket.size ≤ 140737488351232
  p0 : 0 ≤ x.h.power
  p1 : x.h.power ≤ 18446744073709551615
  height : I64 x.h.height
  miner : I64 x.h.miner
  wins : I64 x.h.wins
  salt : I64 x.h.salt
set_option maxRecDepth 100000 in
theorem open_hdr {cs : List Value} {x : DataW H × List MemPlace} (h : DataW.trod enc Tryz.prog w base (fun _ => true) held fuel 34 cs = some x) (hw : ∀ m ∈ x.1.weights Tryz.prog 34, m ≤ 140737488351232) : ∃ y : LRH, cs = y.cells ∧ InH w y := by
  obtain ⟨xs, n', rfl, hy, hlen, hxl, hf⟩ := DataW.trod_struct Tryz.underlying34 h
  have c53 : Tryz.prog.cellsOf 34 = 7 := by kernel_rfl
  have ci : Tryz.prog.cellsOf 3 = 1 := by kernel_rfl
  have cS : Tryz.prog.cellsOf 9 = 1 := by kernel_rfl
  have cu : Tryz.prog.cellsOf 31 = 1 := by kernel_rfl
  have cl : Tryz.prog.cellsOf 32 = 1 := by kernel_rfl
  rw [c53] at hlen
  match cs, hlen with
  | [c0, c1, c2, c3, c4, c5, c6], _ =>
    match xs, hxl with
    | [x0, x1, x2, x3, x4, x5, x6], _ =>
      have h0 : DataW.trod enc Tryz.prog w base (fun _ => true) held n' 3 [c0] = some x0 := by
        have : DataW.trod enc Tryz.prog w base (fun _ => true) held n' 3 (([c0, c1, c2, c3, c4, c5, c6].drop 0).take (Tryz.prog.cellsOf 3)) = some x0 := hf 0 _ rfl
        rw [ci] at this
        exact this
      have h1 : DataW.trod enc Tryz.prog w base (fun _ => true) held n' 3 [c1] = some x1 := by
        have : DataW.trod enc Tryz.prog w base (fun _ => true) held n' 3 (([c0, c1, c2, c3, c4, c5, c6].drop 1).take (Tryz.prog.cellsOf 3)) = some x1 := hf 1 _ rfl
        rw [ci] at this
        exact this
      have h2 : DataW.trod enc Tryz.prog w base (fun _ => true) held n' 9 [c2] = some x2 := by
        have : DataW.trod enc Tryz.prog w base (fun _ => true) held n' 9 (([c0, c1, c2, c3, c4, c5, c6].drop 2).take (Tryz.prog.cellsOf 9)) = some x2 := hf 2 _ rfl
        rw [cS] at this
        exact this
      have h3 : DataW.trod enc Tryz.prog w base (fun _ => true) held n' 3 [c3] = some x3 := by
        have : DataW.trod enc Tryz.prog w base (fun _ => true) held n' 3 (([c0, c1, c2, c3, c4, c5, c6].drop 3).take (Tryz.prog.cellsOf 3)) = some x3 := hf 3 _ rfl
        rw [ci] at this
        exact this
      have h4 : DataW.trod enc Tryz.prog w base (fun _ => true) held n' 31 [c4] = some x4 := by
        have : DataW.trod enc Tryz.prog w base (fun _ => true) held n' 31 (([c0, c1, c2, c3, c4, c5, c6].drop 4).take (Tryz.prog.cellsOf 31)) = some x4 := hf 4 _ rfl
        rw [cu] at this
        exact this
      have h5 : DataW.trod enc Tryz.prog w base (fun _ => true) held n' 32 [c5] = some x5 := by
        have : DataW.trod enc Tryz.prog w base (fun _ => true) held n' 32 (([c0, c1, c2, c3, c4, c5, c6].drop 5).take (Tryz.prog.cellsOf 32)) = some x5 := hf 5 _ rfl
        rw [cl] at this
        exact this
      have h6 : DataW.trod enc Tryz.prog w base (fun _ => true) held n' 3 [c6] = some x6 := by
        have : DataW.trod enc Tryz.prog w base (fun _ => true) held n' 3 (([c0, c1, c2, c3, c4, c5, c6].drop 6).take (Tryz.prog.cellsOf 3)) = some x6 := hf 6 _ rfl
        rw [ci] at this
        exact this
      obtain ⟨a0, e0, f0, g0⟩ := DataW.trod_int Tryz.underlying3 h0
      obtain ⟨a1, e1, f1, g1⟩ := DataW.trod_int Tryz.underlying3 h1
      obtain ⟨a2, e2, f2, g2⟩ := DataW.trod_string Tryz.underlying9 h2
      obtain ⟨a3, e3, f3, g3⟩ := DataW.trod_int Tryz.underlying3 h3
      obtain ⟨a4, e4, f4, g4⟩ := DataW.trod_int Tryz.underlying31 h4
      obtain ⟨A, n, c, l, hv5, hs5⟩ := open_strs h5
      obtain ⟨a6, e6, f6, g6⟩ := DataW.trod_int Tryz.underlying3 h6
      simp only [List.cons.injEq, and_true] at e0 e1 e2 e3 e4 e6
      subst e0; subst e1; subst e2; subst e3; subst e4; subst e6; subst hv5
      have hl5 := hs5.len.1
      subst hl5
      refine ⟨⟨⟨a0, a1, a2, a3, a4, l, a6⟩, A, c⟩, rfl, hs5, ?_, (wf_u64 g4).1, (wf_u64 g4).2, wf_i64 g0, wf_i64 g1, wf_i64 g3, wf_i64 g6⟩
      have := hw a2.data.toList.length (by
        rw [hy]
        exact weights_struct Tryz.underlying34 2 _ rfl (d := .lit (.string a2.data.toList)) (by rw [f2]; rfl) (by simp [DataW.weights]))
      simpa using this
/-! ### the listed tables -/
theorem gStart : Tryz.prog.globalNamed "coxswain/digest.start" = some 0 := by kernel_rfl
theorem gKey : Tryz.prog.globalNamed "coxswain/digest.key" = some 2 := by kernel_rfl
theorem tStart : (Tryz.prog.globals[0]?).map (·.type) = some 261 := by kernel_rfl
theorem tKey : (Tryz.prog.globals[2]?).map (·.type) = some 311 := by kernel_rfl
set_option maxRecDepth 100000 in
theorem words_of {t : TypeId} {n : Nat} {cs : List Value} {l : List Nat} {ps : List MemPlace} (hu : Tryz.prog.underlying t = some (.array n 241)) (hn : Tryz.prog.cellsOf t = n) (h : DataW.trod enc Tryz.prog w base sp held fuel t cs = some (.agg (l.map fun x : Nat => .lit (.int .u32 (x : Int))), ps)) : cs = wc l := by
  obtain ⟨xs, m, -, hx, hlen, hxl, hel⟩ := DataW.trod_array hu h
  have c1 : Tryz.prog.cellsOf 241 = 1 := by kernel_rfl
  simp only [Prod.mk.injEq, DataW.agg.injEq] at hx
  have hll : l.length = n := by have := congrArg List.length hx.1; simp at this; omega
  refine List.ext_getElem? fun i => ?_
  by_cases hi : i < n
  · have h1 := hel i hi
    rw [c1, Nat.mul_one, List.drop_eq_getElem_cons (by rw [hlen, hn]; exact hi), List.take_succ_cons, List.take_zero, List.getElem?_eq_getElem (by omega)] at h1
    obtain ⟨k, e1, e2, -⟩ := DataW.trod_int Tryz.underlying241 h1
    have h3 := congrArg (fun z : List (DataW H) => z[i]?) hx.1
    simp only [List.getElem?_map] at h3
    rw [List.getElem?_eq_getElem (by omega), List.getElem?_eq_getElem (by omega)] at h3
    simp only [Option.map_some, Option.some.injEq, e2] at h3
    have h4 : (l[i]'(by omega) : Int) = k := by injection h3 with h3; injection h3
    rw [List.getElem?_eq_getElem (by rw [hlen, hn]; exact hi)]
    simp only [List.cons.injEq, and_true] at e1
    rw [e1, wc, List.getElem?_map, List.getElem?_eq_getElem (by omega), ← h4]
    rfl
  · rw [List.getElem?_eq_none (by omega), List.getElem?_eq_none (by rw [wc_length]; omega)]
set_option maxRecDepth 100000 in
theorem tab_of_laid {W : World} (h : laidMetH Tryz.prog [("coxswain/digest.start", Rows.laid_coxswain_digest_start), ("coxswain/digest.key", Rows.laid_coxswain_digest_key)] W) : Tab W := by
  rw [MakeChecks.laidMetH_plain _ _ _ (by kernel_rfl)] at h
  obtain ⟨ps, ⟨g0, t0, cs0, f0, p0, q0, hg0, ht0, hv0, hd0, ⟨g1, t1, cs1, f1, p1, q1, hg1, ht1, hv1, hd1, _, _⟩, _⟩, _, _⟩ := h
  obtain rfl := Option.some.inj (gStart.symm.trans hg0)
  obtain rfl := Option.some.inj (gKey.symm.trans hg1)
  obtain rfl := Option.some.inj (tStart.symm.trans ht0)
  obtain rfl := Option.some.inj (tKey.symm.trans ht1)
  have e0 := words_of (l := startN.l) Tryz.underlying261 (by kernel_rfl) hd0
  have e1 := words_of (l := keyN) Tryz.underlying311 (by kernel_rfl) hd1
  have c0 : ∀ j u, (wc startN.l)[j]? = some u → W.cell? ⟨0, j, none⟩ = some u := fun j u hu => by
    rw [World.var?_cell hg0 hv0 j, ← Array.getElem?_toList, e0, hu]
  have c1 : ∀ j u, (wc keyN)[j]? = some u → W.cell? ⟨2, j, none⟩ = some u := fun j u hu => by
    rw [World.var?_cell hg1 hv1 j, ← Array.getElem?_toList, e1, hu]
  exact ⟨c0, c1, World.block_lt_of_cell? W _ (c1 0 _ rfl), World.block_lt_of_cell? W _ (c0 0 _ rfl)⟩
end
theorem ownKn : ownKnob Tryz.prog.godebug = none := by kernel_rfl
theorem laidOutA : laidOutB Tryz.prog = true := by kernel_rfl
set_option maxRecDepth 100000 in
theorem door_met (os : Os) (args : Array Value) : laidMetH Tryz.prog [("coxswain/digest.start", Rows.laid_coxswain_digest_start), ("coxswain/digest.key", Rows.laid_coxswain_digest_key)] ((World.doorLaid Tryz.prog 19 os).forCall (fun _ _ => 0) ⟨#[], args, []⟩).memory :=
  laidMetH_of_parts3 (fuel := 8) (laidMet_of_run' 8 (by kernel_rfl) (by kernel_rfl)) (by kernel_rfl) (by kernel_rfl)
set_option maxRecDepth 100000 in
theorem spot_of_ok {W : World} {base : Nat} {t e : TypeId} (ht : Tryz.prog.underlying t = some (.slice e)) {A : Option Addr} {n c : Nat} (h : Value.okWide Tryz.prog W .any base t (.slice A n c)) : ∀ a, A = some a → a.spot = none := by
  rintro a rfl
  simp only [Value.okWide, ht, Cell.okWide, Cell.ok] at h
  exact h.2.2.2.1
end Go.Proofs.YtpehmlfghddnaaaGreatDoor
namespace Go.Proofs.YtpehmlfghddnaaaGreatDoor
open Go.ChangeShapes Go.WideShapes Go.ChangeAt Go.RowKit
open Go.Deep (open_slice)

section
variable {H : Type} {enc : TypeId × Value → H} {w : World} {base : Nat} {sp : Nat → Bool} {held : Bool} {fuel : Nat}
theorem open_intsE {v : Value} {x : DataW H × List MemPlace} (h : DataW.trod enc Tryz.prog w base (fun _ => true) held fuel 69 [v] = some x) : ∃ A n c l, v = .slice A n c ∧ SlW intE (fun _ => True) w v l ∧ ∀ y ∈ l, I64 y := by
  rcases open_ints Tryz.underlying69 Tryz.underlying3 (by kernel_rfl) h with ⟨hcs, -⟩ | ⟨a, len, cap, zs, hcs, -, hl, hm, hsl, -, hc, hwf⟩
  · obtain rfl : v = .slice none 0 0 := by simpa using hcs
    exact ⟨_, _, _, [], rfl, (Sl.nil _ _ _).weak, by simp⟩
  · obtain rfl : v = .slice (some a) len cap := by simpa using hcs
    have hsl' : zs.length = cap := by simpa using hsl
    refine ⟨_, _, _, zs.take len, rfl, slw_of_cells intE (by rw [List.length_take]; omega) hl hm fun i y hy j u hu => ?_, fun y hy => wf_i64 (hwf y (List.mem_of_mem_take hy))⟩
    obtain rfl : j = 0 := by have := (List.getElem?_eq_some_iff.1 hu).1; rw [intE.hk] at this; have : j < 1 := this; omega
    have hi : i < len := by have := (List.getElem?_eq_some_iff.1 hy).1; rw [List.length_take] at this; omega
    rw [List.getElem?_take_of_lt hi] at hy
    have h1 := hc i (by omega)
    rw [List.getD_eq_getElem?_getD, hy] at h1
    have hu : some (Value.int .i64 y) = some u := hu
    injection hu with hu
    subst hu
    rw [show i * intE.k + 0 = i from Nat.mul_one i]
    exact h1
/-- What a seed that came in is like. -/
structure InS (w : World) (y : LSD) : Prop where
  of : SlW intE (fun _ => True) w (.slice y.A y.s.of.length y.c) y.s.of
  h : SlW strE (fun _ => True) w y.x.v y.s.h.parents
  ok : SeedOk y.s
theorem InS.at_ {y : LSD} (h : InS w y) : y.At (fun _ => True) w := ⟨h.of, h.h⟩
set_option maxRecDepth 100000 in
theorem open_seed {cs : List Value} {x : DataW H × List MemPlace} (h : DataW.trod enc Tryz.prog w base (fun _ => true) held fuel 187 cs = some x) (hw : ∀ m ∈ x.1.weights Tryz.prog 187, m ≤ 140737488351232) : ∃ y : LSD, cs = y.cells ∧ InS w y := by
  obtain ⟨xs, n', rfl, hy, hlen, hxl, hf⟩ := DataW.trod_struct Tryz.underlying187 h
  have cT : Tryz.prog.cellsOf 187 = 15 := by kernel_rfl
  have cH : Tryz.prog.cellsOf 34 = 7 := by kernel_rfl
  have ci : Tryz.prog.cellsOf 3 = 1 := by kernel_rfl
  have cS : Tryz.prog.cellsOf 9 = 1 := by kernel_rfl
  have cb : Tryz.prog.cellsOf 4 = 1 := by kernel_rfl
  have cl : Tryz.prog.cellsOf 69 = 1 := by kernel_rfl
  rw [cT] at hlen
  match cs, hlen with
  | [c0, c1, c2, c3, c4, c5, c6, c7, d0, d1, d2, d3, d4, d5, d6], _ =>
    match xs, hxl with
    | [x0, x1, x2, x3, x4, x5, x6, x7, x8], _ =>
      have h0 : DataW.trod enc Tryz.prog w base (fun _ => true) held n' 69 [c0] = some x0 := by
        have : DataW.trod enc Tryz.prog w base (fun _ => true) held n' 69 (([c0, c1, c2, c3, c4, c5, c6, c7, d0, d1, d2, d3, d4, d5, d6].drop 0).take (Tryz.prog.cellsOf 69)) = some x0 := hf 0 _ rfl
        rw [cl] at this
        exact this
      have h1 : DataW.trod enc Tryz.prog w base (fun _ => true) held n' 3 [c1] = some x1 := by
        have : DataW.trod enc Tryz.prog w base (fun _ => true) held n' 3 (([c0, c1, c2, c3, c4, c5, c6, c7, d0, d1, d2, d3, d4, d5, d6].drop 1).take (Tryz.prog.cellsOf 3)) = some x1 := hf 1 _ rfl
        rw [ci] at this
        exact this
      have h2 : DataW.trod enc Tryz.prog w base (fun _ => true) held n' 3 [c2] = some x2 := by
        have : DataW.trod enc Tryz.prog w base (fun _ => true) held n' 3 (([c0, c1, c2, c3, c4, c5, c6, c7, d0, d1, d2, d3, d4, d5, d6].drop 2).take (Tryz.prog.cellsOf 3)) = some x2 := hf 2 _ rfl
        rw [ci] at this
        exact this
      have h3 : DataW.trod enc Tryz.prog w base (fun _ => true) held n' 3 [c3] = some x3 := by
        have : DataW.trod enc Tryz.prog w base (fun _ => true) held n' 3 (([c0, c1, c2, c3, c4, c5, c6, c7, d0, d1, d2, d3, d4, d5, d6].drop 3).take (Tryz.prog.cellsOf 3)) = some x3 := hf 3 _ rfl
        rw [ci] at this
        exact this
      have h4 : DataW.trod enc Tryz.prog w base (fun _ => true) held n' 3 [c4] = some x4 := by
        have : DataW.trod enc Tryz.prog w base (fun _ => true) held n' 3 (([c0, c1, c2, c3, c4, c5, c6, c7, d0, d1, d2, d3, d4, d5, d6].drop 4).take (Tryz.prog.cellsOf 3)) = some x4 := hf 4 _ rfl
        rw [ci] at this
        exact this
      have h5 : DataW.trod enc Tryz.prog w base (fun _ => true) held n' 9 [c5] = some x5 := by
        have : DataW.trod enc Tryz.prog w base (fun _ => true) held n' 9 (([c0, c1, c2, c3, c4, c5, c6, c7, d0, d1, d2, d3, d4, d5, d6].drop 5).take (Tryz.prog.cellsOf 9)) = some x5 := hf 5 _ rfl
        rw [cS] at this
        exact this
      have h6 : DataW.trod enc Tryz.prog w base (fun _ => true) held n' 3 [c6] = some x6 := by
        have : DataW.trod enc Tryz.prog w base (fun _ => true) held n' 3 (([c0, c1, c2, c3, c4, c5, c6, c7, d0, d1, d2, d3, d4, d5, d6].drop 6).take (Tryz.prog.cellsOf 3)) = some x6 := hf 6 _ rfl
        rw [ci] at this
        exact this
      have h7 : DataW.trod enc Tryz.prog w base (fun _ => true) held n' 4 [c7] = some x7 := by
        have : DataW.trod enc Tryz.prog w base (fun _ => true) held n' 4 (([c0, c1, c2, c3, c4, c5, c6, c7, d0, d1, d2, d3, d4, d5, d6].drop 7).take (Tryz.prog.cellsOf 4)) = some x7 := hf 7 _ rfl
        rw [cb] at this
        exact this
      have h8 : DataW.trod enc Tryz.prog w base (fun _ => true) held n' 34 [d0, d1, d2, d3, d4, d5, d6] = some x8 := by
        have : DataW.trod enc Tryz.prog w base (fun _ => true) held n' 34 (([c0, c1, c2, c3, c4, c5, c6, c7, d0, d1, d2, d3, d4, d5, d6].drop 8).take (Tryz.prog.cellsOf 34)) = some x8 := hf 8 _ rfl
        rw [cH] at this
        exact this
      obtain ⟨A, n, c, l, hv0, hs0, hi0⟩ := open_intsE h0
      obtain ⟨a1, e1, f1, g1⟩ := DataW.trod_int Tryz.underlying3 h1
      obtain ⟨a2, e2, f2, g2⟩ := DataW.trod_int Tryz.underlying3 h2
      obtain ⟨a3, e3, f3, g3⟩ := DataW.trod_int Tryz.underlying3 h3
      obtain ⟨a4, e4, f4, g4⟩ := DataW.trod_int Tryz.underlying3 h4
      obtain ⟨a5, e5, f5, g5⟩ := DataW.trod_string Tryz.underlying9 h5
      obtain ⟨a6, e6, f6, g6⟩ := DataW.trod_int Tryz.underlying3 h6
      obtain ⟨a7, e7, f7⟩ := DataW.trod_bool Tryz.underlying4 h7
      obtain ⟨y, e8, hin⟩ := open_hdr h8 fun q hq => hw q (by
        rw [hy]
        exact weights_struct Tryz.underlying187 8 _ rfl (d := x8.1) rfl hq)
      simp only [List.cons.injEq, and_true] at e1 e2 e3 e4 e5 e6 e7
      subst e1; subst e2; subst e3; subst e4; subst e5; subst e6; subst e7; subst hv0
      have hl0 := hs0.len.1
      subst hl0
      refine ⟨⟨⟨l, a1, a2, a3, a4, a5, a6, a7, y.h⟩, A, c, y.A, y.c⟩, ?_, hs0, hin.at_, ?_⟩
      · show _ :: _ :: _ :: _ :: _ :: _ :: _ :: _ :: [d0, d1, d2, d3, d4, d5, d6] = _
        rw [e8]
        rfl
      · refine ⟨hi0, wf_i64 g1, wf_i64 g2, wf_i64 g3, wf_i64 g4, wf_i64 g6, ?_, hin.height, hin.miner, hin.wins, hin.salt, hin.ticket, hin.p0, by show y.h.power < 18446744073709551616; have := hin.p1; omega⟩
        have := hw a5.data.toList.length (by
          rw [hy]
          exact weights_struct Tryz.underlying187 5 _ rfl (d := .lit (.string a5.data.toList)) (by rw [f5]; rfl) (by simp [DataW.weights]))
        simpa using this
theorem open_seeds {A : Option Addr} {n c : Nat} {x : DataW H × List MemPlace} (h : DataW.trod enc Tryz.prog w base (fun _ => true) held fuel 40 [.slice A n c] = some x) (hw : ∀ m ∈ x.1.weights Tryz.prog 40, m ≤ 140737488351232) :
    ∃ l : List LSD, SlW sdE (fun _ => True) w (.slice A n c) l ∧ ∀ y ∈ l, InS w y := by
  have cT : Tryz.prog.cellsOf 187 = 15 := by kernel_rfl
  rcases open_slice Tryz.underlying40 h with ⟨hcs, -⟩ | ⟨a, len, cap, m, n', D, Pl, hcs, -, hl, hm, hmm, hx, hi⟩
  · obtain ⟨rfl, rfl, rfl⟩ : A = none ∧ n = 0 ∧ c = 0 := by simpa using hcs
    exact ⟨[], (Sl.nil _ _ _).weak, by simp⟩
  · obtain ⟨rfl, rfl, rfl⟩ : A = some a ∧ n = len ∧ c = cap := by simpa using hcs
    have hmc : m = c := by simpa using hmm
    subst hmc
    obtain ⟨l, hll, hR⟩ := exists_list (R := fun i (y : LSD) => (∀ j u, y.cells[j]? = some u → w.cell? (a.add (i * 15 + j)) = some u) ∧ InS w y) n fun i hin => by
      obtain ⟨cs', hc, ht⟩ := hi i (by omega)
      obtain ⟨-, hcl, hat⟩ := World.cells?_some hc
      obtain ⟨y, rfl, hy⟩ := open_seed ht fun q hq => hw q (by
        rw [hx]
        exact weights_slice Tryz.underlying40 (d := D i) (List.mem_map.2 ⟨i, List.mem_range.2 hin, rfl⟩) hq)
      refine ⟨y, fun j u hu => ?_, hy⟩
      have hj : j < 15 := (List.getElem?_eq_some_iff.1 hu).1
      have h1 := hat j (by rw [cT]; exact hj)
      rw [cT] at h1
      rw [← Go.Deep.add_add, h1, hu]
    exact ⟨l, slw_of_cells sdE hll hl hm (fun i y hy => (hR i y hy).1), fun y hy => by
      obtain ⟨i, hi'⟩ := List.getElem?_of_mem hy
      exact (hR i y hi').2⟩
end
end Go.Proofs.YtpehmlfghddnaaaGreatDoor
