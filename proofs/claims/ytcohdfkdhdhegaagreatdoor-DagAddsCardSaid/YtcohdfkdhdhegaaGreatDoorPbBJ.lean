/- Arguments opened: rows of headers, as they lie; the listed tables; an input that fits. Seeds opened: rows of them, as they lie. The words at the head of the program, one by one. -/
import Derived.Test.YtcohdfkdhdhegaaGreatDoorPbAL
import Derived.Test.YtcohdfkdhdhegaaGreatDoorPbAU
import Derived.Test.YtcohdfkdhdhegaaGreatDoorRows
import Derived.WalkKit
import Derived.ProofKit
import Derived.OpenShut
import Derived.ShutString
import Derived.ChangeOld
import Derived.Below
import Derived.SliceStrings
import Derived.SizedLaws
import Derived.Deep.Slices
import Derived.LaidMore
import Derived.MakeChecks
import Derived.Carry
import Derived.Test.YtcohdfkdhdhegaaGreatDoorCards
import Derived.JoinedOf
import Derived.SevenTiedAt
import Derived.Stop.Joined
namespace Go.Proofs.YtcohdfkdhdhegaaGreatDoor
open Go.ChangeShapes Go.WideShapes Go.ChangeAt Go.RowKit
open Go.Deep (open_slice)

theorem weights_in {H : Type} {P : Program} {e : TypeId} : ∀ {l : List (DataW H)} {d : DataW H}, d ∈ l → ∀ n ∈ d.weights P e, n ∈ DataW.weightsAll P e l
  | [], _, h, _, _ => by cases h
  | x :: r, d, h, n, hn => by
    simp only [DataW.weightsAll, List.mem_append]
    rcases List.mem_cons.1 h with rfl | h
    · exact .inl hn
    · exact .inr (weights_in h n hn)
theorem weights_slice {H : Type} {P : Program} {t e : TypeId} {elems spare : List (DataW H)} (hu : P.underlying t = some (.slice e)) {d : DataW H} (hd : d ∈ elems) {n : Nat} (hn : n ∈ d.weights P e) : n ∈ (DataW.slice elems spare).weights P t := by
  simp only [DataW.weights, hu, List.mem_cons, List.mem_append]
  exact .inr (.inl (weights_in hd n hn))
theorem weights_struct {H : Type} {P : Program} {t : TypeId} {fs : Array Field} {parts : List (DataW H)} (hu : P.underlying t = some (.struct fs)) (j : Nat) (f : Field) (hf : fs[j]? = some f) {d : DataW H} (hd : parts[j]? = some d) {n : Nat} (hn : n ∈ d.weights P f.type) : n ∈ (DataW.agg parts).weights P t := by
  simp only [DataW.weights, hu]
  exact DataW.weights_mem_each (j := j) (by rw [List.getElem?_map, Array.getElem?_toList, hf]; rfl) hd n hn

theorem plain_of_cell {w : World} {x : Addr} {u : Value} (h : w.cell? x = some u) : x.spot = none ∧ x.block < w.heap.size := by
  refine ⟨?_, World.block_lt_of_cell? w _ h⟩
  rcases x with ⟨b, o, s⟩
  rcases s with _ | s
  · rfl
  · simp only [World.cell?] at h
    split at h <;> simp at h
theorem exists_list {α : Type} {R : Nat → α → Prop} : ∀ n : Nat, (∀ i, i < n → ∃ y, R i y) → ∃ l : List α, l.length = n ∧ ∀ i y, l[i]? = some y → R i y
  | 0, _ => ⟨[], rfl, fun i y h => by simp at h⟩
  | n + 1, h => by
    obtain ⟨l, hl, hR⟩ := exists_list n fun i hi => h i (by omega)
    obtain ⟨y, hy⟩ := h n (by omega)
    refine ⟨l ++ [y], by simp [hl], fun i z hz => ?_⟩
    rcases Nat.lt_or_ge i n with hi | hi
    · rw [List.getElem?_append_left (by omega)] at hz
      exact hR i z hz
    · have hlt : i < (l ++ [y]).length := (List.getElem?_eq_some_iff.1 hz).1
      simp at hlt
      obtain rfl : i = n := by omega
      rw [List.getElem?_append_right (by omega), hl, Nat.sub_self] at hz
      simp at hz
      subst hz
      exact hy
section
variable {H : Type} {enc : TypeId × Value → H} {w : World} {base : Nat} {sp : Nat → Bool} {held : Bool} {fuel : Nat}
/-- A row whose elements lie at their places. -/
theorem slw_of_cells {β : Type} (E : Enc β) {a : Addr} {len cap : Nat} {l : List β} (hl : l.length = len) (hc : len ≤ cap) (hm : cap ≤ maxLen) (h : ∀ i y, l[i]? = some y → ∀ j u, (E.enc y)[j]? = some u → w.cell? (a.add (i * E.k + j)) = some u) : SlW E (fun _ => True) w (.slice (some a) len cap) l := by
  refine ⟨_, len, cap, rfl, hl, hc, by simpa [maxLen] using hm, fun h0 => ?_⟩
  obtain ⟨y0, hy0⟩ : ∃ y, l[0]? = some y := ⟨_, List.getElem?_eq_getElem (by omega)⟩
  have hk : 0 < (E.enc y0).length := by rw [E.hk]; exact E.k0
  have h1 := plain_of_cell (h 0 y0 hy0 0 _ (List.getElem?_eq_getElem hk))
  have hs : a.spot = none := by have := h1.1; unfold Addr.add at this; simpa using this
  have hb : a.block < w.heap.size := by have := h1.2; rwa [block_of_add] at this
  obtain ⟨b, o, s⟩ := a
  simp only at hs hb
  subst hs
  refine ⟨b, o, rfl, hb, trivial, fun m u hu => ?_⟩
  obtain ⟨i, j, hj, rfl⟩ : ∃ i j, j < E.k ∧ m = i * E.k + j := ⟨m / E.k, m % E.k, Nat.mod_lt _ E.k0, by rw [Nat.mul_comm]; exact (Nat.div_add_mod m E.k).symm⟩
  have hlt := (List.getElem?_eq_some_iff.1 hu).1
  rw [E.flat_length] at hlt
  have hi : i < l.length := by
    rcases Nat.lt_or_ge i l.length with h | h
    · exact h
    · have := Nat.mul_le_mul_right E.k h; omega
  obtain ⟨y, hy⟩ : ∃ y, l[i]? = some y := ⟨_, List.getElem?_eq_getElem hi⟩
  have hv : (E.enc y)[j]? = some ((E.enc y)[j]'(by rw [E.hk]; exact hj)) := List.getElem?_eq_getElem _
  have h2 := E.flat_get l i y hy j _ hv
  rw [hu] at h2
  have h3 := h i y hy j _ hv
  rw [add_off] at h3
  rw [h3, ← Option.some.inj h2]
theorem SlW.strong {β : Type} {E : Enc β} {ok : Nat → Prop} {A : Option Addr} {n c : Nat} {ys : List β} (h : SlW E ok w (.slice A n c) ys) (hp : ∀ a, A = some a → a.spot = none) : Sl E ok w (.slice A n c) ys := by
  obtain ⟨A', n', c', he, hl, hc, hm, hx⟩ := h
  injection he with h1 h2 h3
  subst h1; subst h2; subst h3
  refine ⟨A, n, c, rfl, hl, hc, hm, fun a ha => ?_, hx⟩
  have := hp a ha
  obtain ⟨b, o, s⟩ := a
  simp only at this
  subst this
  exact ⟨b, o, rfl⟩

theorem open_strs {v : Value} {x : DataW H × List MemPlace} (h : DataW.trod enc Tryz.prog w base (fun _ => true) held fuel 27 [v] = some x) : ∃ A n c l, v = .slice A n c ∧ SlW strE (fun _ => True) w v l := by
  rcases open_strings Tryz.underlying27 Tryz.underlying9 (by kernel_rfl) h with ⟨hcs, -⟩ | ⟨a, len, cap, ss, hcs, -, hl, hm, hsl, -, hc, -⟩
  · obtain rfl : v = .slice none 0 0 := by simpa using hcs
    exact ⟨_, _, _, [], rfl, (Sl.nil _ _ _).weak⟩
  · obtain rfl : v = .slice (some a) len cap := by simpa using hcs
    have hsl' : ss.length = cap := by simpa using hsl
    refine ⟨_, _, _, ss.take len, rfl, slw_of_cells strE (by rw [List.length_take]; omega) hl hm fun i y hy j u hu => ?_⟩
    obtain rfl : j = 0 := by have := (List.getElem?_eq_some_iff.1 hu).1; rw [strE.hk] at this; have : j < 1 := this; omega
    have hi : i < len := by have := (List.getElem?_eq_some_iff.1 hy).1; rw [List.length_take] at this; omega
    rw [List.getElem?_take_of_lt hi] at hy
    have h1 := hc i (by omega)
    rw [List.getD_eq_getElem?_getD, hy] at h1
    have hu : some (Value.string y) = some u := hu
    injection hu with hu
    subst hu
    rw [show i * strE.k + 0 = i from Nat.mul_one i]
    exact h1

theorem wf_i64 {n : Int} (h : (Lit.int .i64 n).wf = true) : I64 n := by
  simp [Lit.wf, IntKind.min, IntKind.max, IntKind.bits, IntKind.signed] at h
  exact ⟨by omega, by omega⟩
theorem wf_u64 {n : Int} (h : (Lit.int .u64 n).wf = true) : 0 ≤ n ∧ n ≤ 18446744073709551615 := by
  simp [Lit.wf, IntKind.min, IntKind.max, IntKind.bits, IntKind.signed] at h
  exact ⟨by omega, by omega⟩
/-- What a header that came in is like. -/
structure InH (w : World) (x : LRH) : Prop where
  at_ : SlW strE (fun _ => True) w x.v x.h.parents
  ticket : x.h.ticket.size ≤ 140737488351232
  p0 : 0 ≤ x.h.power
  p1 : x.h.power ≤ 18446744073709551615
  height : I64 x.h.height
  miner : I64 x.h.miner
  wins : I64 x.h.wins
  salt : I64 x.h.salt
set_option maxRecDepth 100000 in
theorem open_hdr {cs : List Value} {x : DataW H × List MemPlace} (h : DataW.trod enc Tryz.prog w base (fun _ => true) held fuel 29 cs = some x) (hw : ∀ m ∈ x.1.weights Tryz.prog 29, m ≤ 140737488351232) : ∃ y : LRH, cs = y.cells ∧ InH w y := by
  obtain ⟨xs, n', rfl, hy, hlen, hxl, hf⟩ := DataW.trod_struct Tryz.underlying29 h
  have c53 : Tryz.prog.cellsOf 29 = 7 := by kernel_rfl
  have ci : Tryz.prog.cellsOf 3 = 1 := by kernel_rfl
  have cS : Tryz.prog.cellsOf 9 = 1 := by kernel_rfl
  have cu : Tryz.prog.cellsOf 26 = 1 := by kernel_rfl
  have cl : Tryz.prog.cellsOf 27 = 1 := by kernel_rfl
  rw [c53] at hlen
  match cs, hlen with
  | [c0, c1, c2, c3, c4, c5, c6], _ =>
    match xs, hxl with
    | [x0, x1, x2, x3, x4, x5, x6], _ =>
      have h0 : DataW.trod enc Tryz.prog w base (fun _ => true) held n' 3 [c0] = some x0 := by
        have : DataW.trod enc Tryz.prog w base (fun _ => true) held n' 3 (([c0, c1, c2, c3, c4, c5, c6].drop 0).take (Tryz.prog.cellsOf 3)) = some x0 := hf 0 _ rfl
        rw [ci] at this
        exact this
      have h1 : DataW.trod enc Tryz.prog w base (fun _ => true) held n' 3 [c1] = some x1 := by
        have : DataW.trod enc Tryz.prog w base (fun _ => true) held n' 3 (([c0, c1, c2, c3, c4, c5, c6].drop 1).take (Tryz.prog.cellsOf 3)) = some x1 := hf 1 _ rfl
        rw [ci] at this
        exact this
      have h2 : DataW.trod enc Tryz.prog w base (fun _ => true) held n' 9 [c2] = some x2 := by
        have : DataW.trod enc Tryz.prog w base (fun _ => true) held n' 9 (([c0, c1, c2, c3, c4, c5, c6].drop 2).take (Tryz.prog.cellsOf 9)) = some x2 := hf 2 _ rfl
        rw [cS] at this
        exact this
      have h3 : DataW.trod enc Tryz.prog w base (fun _ => true) held n' 3 [c3] = some x3 := by
        have : DataW.trod enc Tryz.prog w base (fun _ => true) held n' 3 (([c0, c1, c2, c3, c4, c5, c6].drop 3).take (Tryz.prog.cellsOf 3)) = some x3 := hf 3 _ rfl
        rw [ci] at this
        exact this
      have h4 : DataW.trod enc Tryz.prog w base (fun _ => true) held n' 26 [c4] = some x4 := by
        have : DataW.trod enc Tryz.prog w base (fun _ => true) held n' 26 (([c0, c1, c2, c3, c4, c5, c6].drop 4).take (Tryz.prog.cellsOf 26)) = some x4 := hf 4 _ rfl
        rw [cu] at this
        exact this
      have h5 : DataW.trod enc Tryz.prog w base (fun _ => true) held n' 27 [c5] = some x5 := by
        have : DataW.trod enc Tryz.prog w base (fun _ => true) held n' 27 (([c0, c1, c2, c3, c4, c5, c6].drop 5).take (Tryz.prog.cellsOf 27)) = some x5 := hf 5 _ rfl
        rw [cl] at this
        exact this
      have h6 : DataW.trod enc Tryz.prog w base (fun _ => true) held n' 3 [c6] = some x6 := by
        have : DataW.trod enc Tryz.prog w base (fun _ => true) held n' 3 (([c0, c1, c2, c3, c4, c5, c6].drop 6).take (Tryz.prog.cellsOf 3)) = some x6 := hf 6 _ rfl
        rw [ci] at this
        exact this
      obtain ⟨a0, e0, f0, g0⟩ := DataW.trod_int Tryz.underlying3 h0
      obtain ⟨a1, e1, f1, g1⟩ := DataW.trod_int Tryz.underlying3 h1
      obtain ⟨a2, e2, f2, g2⟩ := DataW.trod_string Tryz.underlying9 h2
      obtain ⟨a3, e3, f3, g3⟩ := DataW.trod_int Tryz.underlying3 h3
      obtain ⟨a4, e4, f4, g4⟩ := DataW.trod_int Tryz.underlying26 h4
      obtain ⟨A, n, c, l, hv5, hs5⟩ := open_strs h5
      obtain ⟨a6, e6, f6, g6⟩ := DataW.trod_int Tryz.underlying3 h6
      simp only [List.cons.injEq, and_true] at e0 e1 e2 e3 e4 e6
      subst e0; subst e1; subst e2; subst e3; subst e4; subst e6; subst hv5
      have hl5 := hs5.len.1
      subst hl5
      refine ⟨⟨⟨a0, a1, a2, a3, a4, l, a6⟩, A, c⟩, rfl, hs5, ?_, (wf_u64 g4).1, (wf_u64 g4).2, wf_i64 g0, wf_i64 g1, wf_i64 g3, wf_i64 g6⟩
      have := hw a2.data.toList.length (by
        rw [hy]
        exact weights_struct Tryz.underlying29 2 _ rfl (d := .lit (.string a2.data.toList)) (by rw [f2]; rfl) (by simp [DataW.weights]))
      simpa using this
/-! ### the listed tables -/
theorem gStart : Tryz.prog.globalNamed "coxswain/digest.start" = some 0 := by kernel_rfl
theorem gKey : Tryz.prog.globalNamed "coxswain/digest.key" = some 1 := by kernel_rfl
theorem tStart : (Tryz.prog.globals[0]?).map (·.type) = some 215 := by kernel_rfl
theorem tKey : (Tryz.prog.globals[1]?).map (·.type) = some 259 := by kernel_rfl
set_option maxRecDepth 100000 in
theorem words_of {t : TypeId} {n : Nat} {cs : List Value} {l : List Nat} {ps : List MemPlace} (hu : Tryz.prog.underlying t = some (.array n 214)) (hn : Tryz.prog.cellsOf t = n) (h : DataW.trod enc Tryz.prog w base sp held fuel t cs = some (.agg (l.map fun x : Nat => .lit (.int .u32 (x : Int))), ps)) : cs = wc l := by
  obtain ⟨xs, m, -, hx, hlen, hxl, hel⟩ := DataW.trod_array hu h
  have c1 : Tryz.prog.cellsOf 214 = 1 := by kernel_rfl
  simp only [Prod.mk.injEq, DataW.agg.injEq] at hx
  have hll : l.length = n := by have := congrArg List.length hx.1; simp at this; omega
  refine List.ext_getElem? fun i => ?_
  by_cases hi : i < n
  · have h1 := hel i hi
    rw [c1, Nat.mul_one, List.drop_eq_getElem_cons (by rw [hlen, hn]; exact hi), List.take_succ_cons, List.take_zero, List.getElem?_eq_getElem (by omega)] at h1
    obtain ⟨k, e1, e2, -⟩ := DataW.trod_int Tryz.underlying214 h1
    have h3 := congrArg (fun z : List (DataW H) => z[i]?) hx.1
    simp only [List.getElem?_map] at h3
    rw [List.getElem?_eq_getElem (by omega), List.getElem?_eq_getElem (by omega)] at h3
    simp only [Option.map_some, Option.some.injEq, e2] at h3
    have h4 : (l[i]'(by omega) : Int) = k := by injection h3 with h3; injection h3
    rw [List.getElem?_eq_getElem (by rw [hlen, hn]; exact hi)]
    simp only [List.cons.injEq, and_true] at e1
    rw [e1, wc, List.getElem?_map, List.getElem?_eq_getElem (by omega), ← h4]
    rfl
  · rw [List.getElem?_eq_none (by omega), List.getElem?_eq_none (by rw [wc_length]; omega)]
set_option maxRecDepth 100000 in
theorem tab_of_laid {W : World} (h : laidMetH Tryz.prog [("coxswain/digest.start", Rows.laid_coxswain_digest_start), ("coxswain/digest.key", Rows.laid_coxswain_digest_key)] W) : Tab W := by
  rw [MakeChecks.laidMetH_plain _ _ _ (by kernel_rfl)] at h
  obtain ⟨ps, ⟨g0, t0, cs0, f0, p0, q0, hg0, ht0, hv0, hd0, ⟨g1, t1, cs1, f1, p1, q1, hg1, ht1, hv1, hd1, _, _⟩, _⟩, _, _⟩ := h
  obtain rfl := Option.some.inj (gStart.symm.trans hg0)
  obtain rfl := Option.some.inj (gKey.symm.trans hg1)
  obtain rfl := Option.some.inj (tStart.symm.trans ht0)
  obtain rfl := Option.some.inj (tKey.symm.trans ht1)
  have e0 := words_of (l := startN.l) Tryz.underlying215 (by kernel_rfl) hd0
  have e1 := words_of (l := keyN) Tryz.underlying259 (by kernel_rfl) hd1
  have c0 : ∀ j u, (wc startN.l)[j]? = some u → W.cell? ⟨0, j, none⟩ = some u := fun j u hu => by
    rw [World.var?_cell hg0 hv0 j, ← Array.getElem?_toList, e0, hu]
  have c1 : ∀ j u, (wc keyN)[j]? = some u → W.cell? ⟨1, j, none⟩ = some u := fun j u hu => by
    rw [World.var?_cell hg1 hv1 j, ← Array.getElem?_toList, e1, hu]
  exact ⟨c0, c1, World.block_lt_of_cell? W _ (c1 0 _ rfl), World.block_lt_of_cell? W _ (c0 0 _ rfl)⟩
end
theorem ownKn : ownKnob Tryz.prog.godebug = none := by kernel_rfl
theorem laidOutA : laidOutB Tryz.prog = true := by kernel_rfl
set_option maxRecDepth 100000 in
theorem door_met (os : Os) (args : Array Value) : laidMetH Tryz.prog [("coxswain/digest.start", Rows.laid_coxswain_digest_start), ("coxswain/digest.key", Rows.laid_coxswain_digest_key)] ((World.doorLaid Tryz.prog 19 os).forCall (fun _ _ => 0) ⟨#[], args, []⟩).memory :=
  laidMetH_of_parts3 (fuel := 8) (laidMet_of_run' 8 (by kernel_rfl) (by kernel_rfl)) (by kernel_rfl) (by kernel_rfl)
set_option maxRecDepth 100000 in
theorem spot_of_ok {W : World} {base : Nat} {t e : TypeId} (ht : Tryz.prog.underlying t = some (.slice e)) {A : Option Addr} {n c : Nat} (h : Value.okWide Tryz.prog W .any base t (.slice A n c)) : ∀ a, A = some a → a.spot = none := by
  rintro a rfl
  simp only [Value.okWide, ht, Cell.okWide, Cell.ok] at h
  exact h.2.2.2.1
end Go.Proofs.YtcohdfkdhdhegaaGreatDoor
namespace Go.Proofs.YtcohdfkdhdhegaaGreatDoor
open Go.ChangeShapes Go.WideShapes Go.ChangeAt Go.RowKit
open Go.Deep (open_slice)

section
variable {H : Type} {enc : TypeId × Value → H} {w : World} {base : Nat} {sp : Nat → Bool} {held : Bool} {fuel : Nat}
theorem open_intsE {v : Value} {x : DataW H × List MemPlace} (h : DataW.trod enc Tryz.prog w base (fun _ => true) held fuel 48 [v] = some x) : ∃ A n c l, v = .slice A n c ∧ SlW intE (fun _ => True) w v l ∧ ∀ y ∈ l, I64 y := by
  rcases open_ints Tryz.underlying48 Tryz.underlying3 (by kernel_rfl) h with ⟨hcs, -⟩ | ⟨a, len, cap, zs, hcs, -, hl, hm, hsl, -, hc, hwf⟩
  · obtain rfl : v = .slice none 0 0 := by simpa using hcs
    exact ⟨_, _, _, [], rfl, (Sl.nil _ _ _).weak, by simp⟩
  · obtain rfl : v = .slice (some a) len cap := by simpa using hcs
    have hsl' : zs.length = cap := by simpa using hsl
    refine ⟨_, _, _, zs.take len, rfl, slw_of_cells intE (by rw [List.length_take]; omega) hl hm fun i y hy j u hu => ?_, fun y hy => wf_i64 (hwf y (List.mem_of_mem_take hy))⟩
    obtain rfl : j = 0 := by have := (List.getElem?_eq_some_iff.1 hu).1; rw [intE.hk] at this; have : j < 1 := this; omega
    have hi : i < len := by have := (List.getElem?_eq_some_iff.1 hy).1; rw [List.length_take] at this; omega
    rw [List.getElem?_take_of_lt hi] at hy
    have h1 := hc i (by omega)
    rw [List.getD_eq_getElem?_getD, hy] at h1
    have hu : some (Value.int .i64 y) = some u := hu
    injection hu with hu
    subst hu
    rw [show i * intE.k + 0 = i from Nat.mul_one i]
    exact h1
/-- What a seed that came in is like. -/
structure InS (w : World) (y : LSD) : Prop where
  of : SlW intE (fun _ => True) w (.slice y.A y.s.of.length y.c) y.s.of
  h : SlW strE (fun _ => True) w y.x.v y.s.h.parents
  ok : SeedOk y.s
theorem InS.at_ {y : LSD} (h : InS w y) : y.At (fun _ => True) w := ⟨h.of, h.h⟩
set_option maxRecDepth 100000 in
theorem open_seed {cs : List Value} {x : DataW H × List MemPlace} (h : DataW.trod enc Tryz.prog w base (fun _ => true) held fuel 138 cs = some x) (hw : ∀ m ∈ x.1.weights Tryz.prog 138, m ≤ 140737488351232) : ∃ y : LSD, cs = y.cells ∧ InS w y := by
  obtain ⟨xs, n', rfl, hy, hlen, hxl, hf⟩ := DataW.trod_struct Tryz.underlying138 h
  have cT : Tryz.prog.cellsOf 138 = 15 := by kernel_rfl
  have cH : Tryz.prog.cellsOf 29 = 7 := by kernel_rfl
  have ci : Tryz.prog.cellsOf 3 = 1 := by kernel_rfl
  have cS : Tryz.prog.cellsOf 9 = 1 := by kernel_rfl
  have cb : Tryz.prog.cellsOf 4 = 1 := by kernel_rfl
  have cl : Tryz.prog.cellsOf 48 = 1 := by kernel_rfl
  rw [cT] at hlen
  match cs, hlen with
  | [c0, c1, c2, c3, c4, c5, c6, c7, d0, d1, d2, d3, d4, d5, d6], _ =>
    match xs, hxl with
    | [x0, x1, x2, x3, x4, x5, x6, x7, x8], _ =>
      have h0 : DataW.trod enc Tryz.prog w base (fun _ => true) held n' 48 [c0] = some x0 := by
        have : DataW.trod enc Tryz.prog w base (fun _ => true) held n' 48 (([c0, c1, c2, c3, c4, c5, c6, c7, d0, d1, d2, d3, d4, d5, d6].drop 0).take (Tryz.prog.cellsOf 48)) = some x0 := hf 0 _ rfl
        rw [cl] at this
        exact this
      have h1 : DataW.trod enc Tryz.prog w base (fun _ => true) held n' 3 [c1] = some x1 := by
        have : DataW.trod enc Tryz.prog w base (fun _ => true) held n' 3 (([c0, c1, c2, c3, c4, c5, c6, c7, d0, d1, d2, d3, d4, d5, d6].drop 1).take (Tryz.prog.cellsOf 3)) = some x1 := hf 1 _ rfl
        rw [ci] at this
        exact this
      have h2 : DataW.trod enc Tryz.prog w base (fun _ => true) held n' 3 [c2] = some x2 := by
        have : DataW.trod enc Tryz.prog w base (fun _ => true) held n' 3 (([c0, c1, c2, c3, c4, c5, c6, c7, d0, d1, d2, d3, d4, d5, d6].drop 2).take (Tryz.prog.cellsOf 3)) = some x2 := hf 2 _ rfl
        rw [ci] at this
        exact this
      have h3 : DataW.trod enc Tryz.prog w base (fun _ => true) held n' 3 [c3] = some x3 := by
        have : DataW.trod enc Tryz.prog w base (fun _ => true) held n' 3 (([c0, c1, c2, c3, c4, c5, c6, c7, d0, d1, d2, d3, d4, d5, d6].drop 3).take (Tryz.prog.cellsOf 3)) = some x3 := hf 3 _ rfl
        rw [ci] at this
        exact this
      have h4 : DataW.trod enc Tryz.prog w base (fun _ => true) held n' 3 [c4] = some x4 := by
        have : DataW.trod enc Tryz.prog w base (fun _ => true) held n' 3 (([c0, c1, c2, c3, c4, c5, c6, c7, d0, d1, d2, d3, d4, d5, d6].drop 4).take (Tryz.prog.cellsOf 3)) = some x4 := hf 4 _ rfl
        rw [ci] at this
        exact this
      have h5 : DataW.trod enc Tryz.prog w base (fun _ => true) held n' 9 [c5] = some x5 := by
        have : DataW.trod enc Tryz.prog w base (fun _ => true) held n' 9 (([c0, c1, c2, c3, c4, c5, c6, c7, d0, d1, d2, d3, d4, d5, d6].drop 5).take (Tryz.prog.cellsOf 9)) = some x5 := hf 5 _ rfl
        rw [cS] at this
        exact this
      have h6 : DataW.trod enc Tryz.prog w base (fun _ => true) held n' 3 [c6] = some x6 := by
        have : DataW.trod enc Tryz.prog w base (fun _ => true) held n' 3 (([c0, c1, c2, c3, c4, c5, c6, c7, d0, d1, d2, d3, d4, d5, d6].drop 6).take (Tryz.prog.cellsOf 3)) = some x6 := hf 6 _ rfl
        rw [ci] at this
        exact this
      have h7 : DataW.trod enc Tryz.prog w base (fun _ => true) held n' 4 [c7] = some x7 := by
        have : DataW.trod enc Tryz.prog w base (fun _ => true) held n' 4 (([c0, c1, c2, c3, c4, c5, c6, c7, d0, d1, d2, d3, d4, d5, d6].drop 7).take (Tryz.prog.cellsOf 4)) = some x7 := hf 7 _ rfl
        rw [cb] at this
        exact this
      have h8 : DataW.trod enc Tryz.prog w base (fun _ => true) held n' 29 [d0, d1, d2, d3, d4, d5, d6] = some x8 := by
        have : DataW.trod enc Tryz.prog w base (fun _ => true) held n' 29 (([c0, c1, c2, c3, c4, c5, c6, c7, d0, d1, d2, d3, d4, d5, d6].drop 8).take (Tryz.prog.cellsOf 29)) = some x8 := hf 8 _ rfl
        rw [cH] at this
        exact this
      obtain ⟨A, n, c, l, hv0, hs0, hi0⟩ := open_intsE h0
      obtain ⟨a1, e1, f1, g1⟩ := DataW.trod_int Tryz.underlying3 h1
      obtain ⟨a2, e2, f2, g2⟩ := DataW.trod_int Tryz.underlying3 h2
      obtain ⟨a3, e3, f3, g3⟩ := DataW.trod_int Tryz.underlying3 h3
      obtain ⟨a4, e4, f4, g4⟩ := DataW.trod_int Tryz.underlying3 h4
      obtain ⟨a5, e5, f5, g5⟩ := DataW.trod_string Tryz.underlying9 h5
      obtain ⟨a6, e6, f6, g6⟩ := DataW.trod_int Tryz.underlying3 h6
      obtain ⟨a7, e7, f7⟩ := DataW.trod_bool Tryz.underlying4 h7
      obtain ⟨y, e8, hin⟩ := open_hdr h8 fun q hq => hw q (by
        rw [hy]
        exact weights_struct Tryz.underlying138 8 _ rfl (d := x8.1) rfl hq)
      simp only [List.cons.injEq, and_true] at e1 e2 e3 e4 e5 e6 e7
      subst e1; subst e2; subst e3; subst e4; subst e5; subst e6; subst e7; subst hv0
      have hl0 := hs0.len.1
      subst hl0
      refine ⟨⟨⟨l, a1, a2, a3, a4, a5, a6, a7, y.h⟩, A, c, y.A, y.c⟩, ?_, hs0, hin.at_, ?_⟩
      · show _ :: _ :: _ :: _ :: _ :: _ :: _ :: _ :: [d0, d1, d2, d3, d4, d5, d6] = _
        rw [e8]
        rfl
      · refine ⟨hi0, wf_i64 g1, wf_i64 g2, wf_i64 g3, wf_i64 g4, wf_i64 g6, ?_, hin.height, hin.miner, hin.wins, hin.salt, hin.ticket, hin.p0, by show y.h.power < 18446744073709551616; have := hin.p1; omega⟩
        have := hw a5.data.toList.length (by
          rw [hy]
          exact weights_struct Tryz.underlying138 5 _ rfl (d := .lit (.string a5.data.toList)) (by rw [f5]; rfl) (by simp [DataW.weights]))
        simpa using this
theorem open_seeds {A : Option Addr} {n c : Nat} {x : DataW H × List MemPlace} (h : DataW.trod enc Tryz.prog w base (fun _ => true) held fuel 22 [.slice A n c] = some x) (hw : ∀ m ∈ x.1.weights Tryz.prog 22, m ≤ 140737488351232) :
    ∃ l : List LSD, SlW sdE (fun _ => True) w (.slice A n c) l ∧ ∀ y ∈ l, InS w y := by
  have cT : Tryz.prog.cellsOf 138 = 15 := by kernel_rfl
  rcases open_slice Tryz.underlying22 h with ⟨hcs, -⟩ | ⟨a, len, cap, m, n', D, Pl, hcs, -, hl, hm, hmm, hx, hi⟩
  · obtain ⟨rfl, rfl, rfl⟩ : A = none ∧ n = 0 ∧ c = 0 := by simpa using hcs
    exact ⟨[], (Sl.nil _ _ _).weak, by simp⟩
  · obtain ⟨rfl, rfl, rfl⟩ : A = some a ∧ n = len ∧ c = cap := by simpa using hcs
    have hmc : m = c := by simpa using hmm
    subst hmc
    obtain ⟨l, hll, hR⟩ := exists_list (R := fun i (y : LSD) => (∀ j u, y.cells[j]? = some u → w.cell? (a.add (i * 15 + j)) = some u) ∧ InS w y) n fun i hin => by
      obtain ⟨cs', hc, ht⟩ := hi i (by omega)
      obtain ⟨-, hcl, hat⟩ := World.cells?_some hc
      obtain ⟨y, rfl, hy⟩ := open_seed ht fun q hq => hw q (by
        rw [hx]
        exact weights_slice Tryz.underlying22 (d := D i) (List.mem_map.2 ⟨i, List.mem_range.2 hin, rfl⟩) hq)
      refine ⟨y, fun j u hu => ?_, hy⟩
      have hj : j < 15 := (List.getElem?_eq_some_iff.1 hu).1
      have h1 := hat j (by rw [cT]; exact hj)
      rw [cT] at h1
      rw [← Go.Deep.add_add, h1, hu]
    exact ⟨l, slw_of_cells sdE hll hl hm (fun i y hy => (hR i y hy).1), fun y hy => by
      obtain ⟨i, hi'⟩ := List.getElem?_of_mem hy
      exact (hR i y hi').2⟩
end
end Go.Proofs.YtcohdfkdhdhegaaGreatDoor
namespace Go.Proofs.YtcohdfkdhdhegaaGreatDoor.wds
open Go
set_option maxRecDepth 100000
theorem words_app : ∀ (w r : List Char), (w.all fun c => c != Char.ofNat 32) = true → wordsSigns (w ++ Char.ofNat 32 :: r) = w :: wordsSigns r
  | [], r, _ => by simp [wordsSigns]
  | c :: w, r, h => by
    rw [List.all_cons, Bool.and_eq_true] at h
    have hc : c ≠ Char.ofNat 32 := by simpa using h.1
    have ih := words_app w r h.2
    rw [List.cons_append, wordsSigns, ih]
    exact hc
theorem words_last : ∀ (w : List Char), (w.all fun c => c != Char.ofNat 32) = true → wordsSigns w = [w]
  | [], _ => by simp [wordsSigns]
  | c :: w, h => by
    rw [List.all_cons, Bool.and_eq_true] at h
    have hc : c ≠ Char.ofNat 32 := by simpa using h.1
    have ih := words_last w h.2
    rw [wordsSigns, ih]
    exact hc
def sg0 : List Char := [104, 97, 114, 110, 101, 115, 115].map Char.ofNat
def sg1 : List Char := [100, 51, 57, 55, 102, 56, 98, 52, 53, 100, 100, 53, 102, 49, 50, 98, 99, 53, 99, 54, 54, 53, 98, 53, 49, 55, 99, 49, 50, 101, 98, 52, 101, 53, 50, 101, 99, 99, 52, 98, 97, 50, 100, 49, 49, 52, 98, 54, 100, 52, 56, 55, 56, 48, 51, 56, 52, 55, 56, 98, 49, 55, 101, 98].map Char.ofNat
def sg2 : List Char := [99, 117, 116].map Char.ofNat
def sg3 : List Char := [97, 116].map Char.ofNat
def sg4 : List Char := [99, 111, 120, 115, 119, 97, 105, 110, 47, 99, 111, 120, 115, 119, 97, 105, 110, 108, 97, 119, 49, 51, 46, 68, 97, 103, 65, 100, 100, 115].map Char.ofNat
def sg5 : List Char := [99, 111, 120, 115, 119, 97, 105, 110, 47, 99, 111, 120, 115, 119, 97, 105, 110, 108, 97, 119, 49, 51, 46, 68, 97, 103, 84, 105, 112, 115, 101, 116, 115].map Char.ofNat
def sg6 : List Char := [99, 111, 120, 115, 119, 97, 105, 110, 47, 99, 111, 120, 115, 119, 97, 105, 110, 108, 97, 119, 49, 51, 46, 68, 97, 103, 67, 108, 111, 115, 101, 100].map Char.ofNat
def sg7 : List Char := [99, 111, 120, 115, 119, 97, 105, 110, 47, 99, 111, 120, 115, 119, 97, 105, 110, 108, 97, 119, 49, 56, 46, 77, 97, 114, 107, 70, 108, 111, 111, 114, 115].map Char.ofNat
def sg8 : List Char := [99, 111, 120, 115, 119, 97, 105, 110, 47, 99, 111, 120, 115, 119, 97, 105, 110, 108, 97, 119, 49, 56, 46, 77, 97, 114, 107, 80, 111, 105, 110, 116, 115].map Char.ofNat
def sg9 : List Char := [99, 111, 120, 115, 119, 97, 105, 110, 47, 99, 111, 120, 115, 119, 97, 105, 110, 108, 97, 119, 49, 52, 46, 80, 97, 116, 104, 72, 101, 105, 103, 104, 116, 115].map Char.ofNat
def sg10 : List Char := [99, 111, 120, 115, 119, 97, 105, 110, 47, 99, 111, 120, 115, 119, 97, 105, 110, 108, 97, 119, 49, 52, 46, 80, 97, 116, 104, 87, 97, 108, 107, 115].map Char.ofNat
def sg11 : List Char := [99, 111, 120, 115, 119, 97, 105, 110, 47, 99, 111, 120, 115, 119, 97, 105, 110, 108, 97, 119, 49, 52, 46, 80, 97, 116, 104, 84, 104, 114, 101, 101].map Char.ofNat
def sg12 : List Char := [99, 111, 120, 115, 119, 97, 105, 110, 47, 99, 111, 120, 115, 119, 97, 105, 110, 108, 97, 119, 49, 52, 46, 80, 97, 116, 104, 84, 119, 111].map Char.ofNat
def sg13 : List Char := [99, 111, 120, 115, 119, 97, 105, 110, 47, 99, 111, 120, 115, 119, 97, 105, 110, 108, 97, 119, 50, 51, 46, 70, 101, 101, 100, 72, 117, 98, 115].map Char.ofNat
theorem signed : Tryz.prog.initOrder = String.ofList (sg0 ++ Char.ofNat 32 :: (sg1 ++ Char.ofNat 32 :: (sg2 ++ Char.ofNat 32 :: (sg3 ++ Char.ofNat 32 :: (sg4 ++ Char.ofNat 32 :: (sg5 ++ Char.ofNat 32 :: (sg6 ++ Char.ofNat 32 :: (sg7 ++ Char.ofNat 32 :: (sg8 ++ Char.ofNat 32 :: (sg9 ++ Char.ofNat 32 :: (sg10 ++ Char.ofNat 32 :: (sg11 ++ Char.ofNat 32 :: (sg12 ++ Char.ofNat 32 :: (sg13)))))))))))))) := by kernel_rfl
theorem words : wordsSigns Tryz.prog.initOrder.toList = [sg0, sg1, sg2, sg3, sg4, sg5, sg6, sg7, sg8, sg9, sg10, sg11, sg12, sg13] := by
  rw [signed, String.toList_ofList, words_app sg0 _ (by kernel_rfl), words_app sg1 _ (by kernel_rfl), words_app sg2 _ (by kernel_rfl), words_app sg3 _ (by kernel_rfl), words_app sg4 _ (by kernel_rfl), words_app sg5 _ (by kernel_rfl), words_app sg6 _ (by kernel_rfl), words_app sg7 _ (by kernel_rfl), words_app sg8 _ (by kernel_rfl), words_app sg9 _ (by kernel_rfl), words_app sg10 _ (by kernel_rfl), words_app sg11 _ (by kernel_rfl), words_app sg12 _ (by kernel_rfl), words_last _ (by kernel_rfl)]
theorem tl_finals : "finals".toList = [102, 105, 110, 97, 108, 115].map Char.ofNat := by
  rw [show "finals" = String.ofList ([102, 105, 110, 97, 108, 115].map Char.ofNat) from by kernel_rfl]
  exact String.toList_ofList
theorem tl_reflectrows : "reflectrows".toList = [114, 101, 102, 108, 101, 99, 116, 114, 111, 119, 115].map Char.ofNat := by
  rw [show "reflectrows" = String.ofList ([114, 101, 102, 108, 101, 99, 116, 114, 111, 119, 115].map Char.ofNat) from by kernel_rfl]
  exact String.toList_ofList
theorem tl_leanrows : "leanrows".toList = [108, 101, 97, 110, 114, 111, 119, 115].map Char.ofNat := by
  rw [show "leanrows" = String.ofList ([108, 101, 97, 110, 114, 111, 119, 115].map Char.ofNat) from by kernel_rfl]
  exact String.toList_ofList
theorem tl_onebuild : "onebuild".toList = [111, 110, 101, 98, 117, 105, 108, 100].map Char.ofNat := by
  rw [show "onebuild" = String.ofList ([111, 110, 101, 98, 117, 105, 108, 100].map Char.ofNat) from by kernel_rfl]
  exact String.toList_ofList
theorem tl_publicsums : "publicsums".toList = [112, 117, 98, 108, 105, 99, 115, 117, 109, 115].map Char.ofNat := by
  rw [show "publicsums" = String.ofList ([112, 117, 98, 108, 105, 99, 115, 117, 109, 115].map Char.ofNat) from by kernel_rfl]
  exact String.toList_ofList
theorem tl_eqguard : "eqguard".toList = [101, 113, 103, 117, 97, 114, 100].map Char.ofNat := by
  rw [show "eqguard" = String.ofList ([101, 113, 103, 117, 97, 114, 100].map Char.ofNat) from by kernel_rfl]
  exact String.toList_ofList
theorem tl_ownunsafe : "ownunsafe".toList = [111, 119, 110, 117, 110, 115, 97, 102, 101].map Char.ofNat := by
  rw [show "ownunsafe" = String.ofList ([111, 119, 110, 117, 110, 115, 97, 102, 101].map Char.ofNat) from by kernel_rfl]
  exact String.toList_ofList
theorem tl_libbeside : "libbeside".toList = [108, 105, 98, 98, 101, 115, 105, 100, 101].map Char.ofNat := by
  rw [show "libbeside" = String.ofList ([108, 105, 98, 98, 101, 115, 105, 100, 101].map Char.ofNat) from by kernel_rfl]
  exact String.toList_ofList
theorem tl_ownbeside : "ownbeside".toList = [111, 119, 110, 98, 101, 115, 105, 100, 101].map Char.ofNat := by
  rw [show "ownbeside" = String.ofList ([111, 119, 110, 98, 101, 115, 105, 100, 101].map Char.ofNat) from by kernel_rfl]
  exact String.toList_ofList
theorem tl_reflbeside : "reflbeside".toList = [114, 101, 102, 108, 98, 101, 115, 105, 100, 101].map Char.ofNat := by
  rw [show "reflbeside" = String.ofList ([114, 101, 102, 108, 98, 101, 115, 105, 100, 101].map Char.ofNat) from by kernel_rfl]
  exact String.toList_ofList
theorem tl_aliases : "aliases".toList = [97, 108, 105, 97, 115, 101, 115].map Char.ofNat := by
  rw [show "aliases" = String.ofList ([97, 108, 105, 97, 115, 101, 115].map Char.ofNat) from by kernel_rfl]
  exact String.toList_ofList
theorem tl_afterinit : "afterinit".toList = [97, 102, 116, 101, 114, 105, 110, 105, 116].map Char.ofNat := by
  rw [show "afterinit" = String.ofList ([97, 102, 116, 101, 114, 105, 110, 105, 116].map Char.ofNat) from by kernel_rfl]
  exact String.toList_ofList
theorem tl_crcplain : "crcplain".toList = [99, 114, 99, 112, 108, 97, 105, 110].map Char.ofNat := by
  rw [show "crcplain" = String.ofList ([99, 114, 99, 112, 108, 97, 105, 110].map Char.ofNat) from by kernel_rfl]
  exact String.toList_ofList
theorem tl_roadunsafe : "roadunsafe".toList = [114, 111, 97, 100, 117, 110, 115, 97, 102, 101].map Char.ofNat := by
  rw [show "roadunsafe" = String.ofList ([114, 111, 97, 100, 117, 110, 115, 97, 102, 101].map Char.ofNat) from by kernel_rfl]
  exact String.toList_ofList
theorem tl_fmthandon : "fmthandon".toList = [102, 109, 116, 104, 97, 110, 100, 111, 110].map Char.ofNat := by
  rw [show "fmthandon" = String.ofList ([102, 109, 116, 104, 97, 110, 100, 111, 110].map Char.ofNat) from by kernel_rfl]
  exact String.toList_ofList
theorem tl_harness : "harness".toList = [104, 97, 114, 110, 101, 115, 115].map Char.ofNat := by
  rw [show "harness" = String.ofList ([104, 97, 114, 110, 101, 115, 115].map Char.ofNat) from by kernel_rfl]
  exact String.toList_ofList
theorem tl_ownmain : "ownmain".toList = [111, 119, 110, 109, 97, 105, 110].map Char.ofNat := by
  rw [show "ownmain" = String.ofList ([111, 119, 110, 109, 97, 105, 110].map Char.ofNat) from by kernel_rfl]
  exact String.toList_ofList
theorem tl_gc : "gc".toList = [103, 99].map Char.ofNat := by
  rw [show "gc" = String.ofList ([103, 99].map Char.ofNat) from by kernel_rfl]
  exact String.toList_ofList
theorem tl_spec : "spec".toList = [115, 112, 101, 99].map Char.ofNat := by
  rw [show "spec" = String.ofList ([115, 112, 101, 99].map Char.ofNat) from by kernel_rfl]
  exact String.toList_ofList
theorem tl_carried : "carried".toList = [99, 97, 114, 114, 105, 101, 100].map Char.ofNat := by
  rw [show "carried" = String.ofList ([99, 97, 114, 114, 105, 101, 100].map Char.ofNat) from by kernel_rfl]
  exact String.toList_ofList
theorem tl_cut : "cut".toList = [99, 117, 116].map Char.ofNat := by
  rw [show "cut" = String.ofList ([99, 117, 116].map Char.ofNat) from by kernel_rfl]
  exact String.toList_ofList
theorem strip_none : ∀ (os : List String) (w : List Char) (ws : List (List Char)), (os.map String.toList).all (fun l => w != l) = true → stripLifts os (w :: ws) = ([], w :: ws)
  | [], _, _, _ => rfl
  | o :: os, w, ws, h => by
    rw [List.map_cons, List.all_cons, Bool.and_eq_true] at h
    have hw : ¬ (w == o.toList) = true := by simpa using h.1
    rw [stripLifts, if_neg hw]
    exact strip_none os w ws h.2
theorem lifts : liftWords.map String.toList = [([102, 105, 110, 97, 108, 115].map Char.ofNat), ([114, 101, 102, 108, 101, 99, 116, 114, 111, 119, 115].map Char.ofNat), ([108, 101, 97, 110, 114, 111, 119, 115].map Char.ofNat), ([111, 110, 101, 98, 117, 105, 108, 100].map Char.ofNat), ([112, 117, 98, 108, 105, 99, 115, 117, 109, 115].map Char.ofNat), ([101, 113, 103, 117, 97, 114, 100].map Char.ofNat), ([111, 119, 110, 117, 110, 115, 97, 102, 101].map Char.ofNat), ([108, 105, 98, 98, 101, 115, 105, 100, 101].map Char.ofNat), ([111, 119, 110, 98, 101, 115, 105, 100, 101].map Char.ofNat), ([114, 101, 102, 108, 98, 101, 115, 105, 100, 101].map Char.ofNat), ([97, 108, 105, 97, 115, 101, 115].map Char.ofNat), ([97, 102, 116, 101, 114, 105, 110, 105, 116].map Char.ofNat), ([99, 114, 99, 112, 108, 97, 105, 110].map Char.ofNat), ([114, 111, 97, 100, 117, 110, 115, 97, 102, 101].map Char.ofNat), ([102, 109, 116, 104, 97, 110, 100, 111, 110].map Char.ofNat)] := by
  unfold liftWords
  simp only [List.map_cons, List.map_nil, tl_finals, tl_reflectrows, tl_leanrows, tl_onebuild, tl_publicsums, tl_eqguard, tl_ownunsafe, tl_libbeside, tl_ownbeside, tl_reflbeside, tl_aliases, tl_afterinit, tl_crcplain, tl_roadunsafe, tl_fmthandon]
theorem behind : behindMainWord (wordsSigns Tryz.prog.initOrder.toList) = [sg2, sg3, sg4, sg5, sg6, sg7, sg8, sg9, sg10, sg11, sg12, sg13] := by
  rw [words]
  unfold behindMainWord
  rw [tl_harness, tl_ownmain]
  kernel_rfl
theorem strips : stripLifts liftWords [sg2, sg3, sg4, sg5, sg6, sg7, sg8, sg9, sg10, sg11, sg12, sg13] = ([], [sg2, sg3, sg4, sg5, sg6, sg7, sg8, sg9, sg10, sg11, sg12, sg13]) := strip_none _ _ _ (by rw [lifts]; kernel_rfl)
theorem mayEnter_of (P : Program) (c : List Char) (rest : List (List Char)) (h : behindMainWord (wordsSigns P.initOrder.toList) = c :: rest) (hs : stripLifts liftWords (c :: rest) = ([], c :: rest)) (hc : (some c == some "cut".toList) = true) (hl : P.laysLater = false) (hr : P.bearsReflect = false) (hd : P.doorFits [] = true) : P.mayEnter = true := by
  unfold Program.mayEnter
  rw [h]
  simp only [hs, hl, hr, hd, List.head?_cons, hc, Bool.not_false, Bool.or_true, Bool.and_true, List.contains_nil]
theorem liftsFinal_of (P : Program) (c : List Char) (rest : List (List Char)) (h : behindMainWord (wordsSigns P.initOrder.toList) = c :: rest) (hs : stripLifts liftWords (c :: rest) = ([], c :: rest)) (hc : (some c == some "carried".toList) = false) : P.liftsFinal = false := by
  unfold Program.liftsFinal Program.headLifts
  rw [h]
  simp only [hs, List.head?_cons, hc, Bool.false_and, Bool.false_or, ite_self, List.contains_nil]
theorem make_of (P : Program) (c : List Char) (rest : List (List Char)) (h : behindMainWord (wordsSigns P.initOrder.toList) = c :: rest) (h1 : (c == "gc".toList || c == "spec".toList) = false) (h2 : (c == "cut".toList) = true) : P.make = some .cut := by
  unfold Program.make
  rw [h]
  simp only [h1, h2, Bool.true_or, if_true, Bool.false_eq_true, if_false]
theorem mainIs_of (P : Program) (a s : List Char) (r : List (List Char)) (h : wordsSigns P.initOrder.toList = a :: s :: r) (h1 : isSumSigns s = true) (h2 : (a == "harness".toList) = true) : P.mainIs = some (true, s) := by
  unfold Program.mainIs
  rw [h]
  simp only [h1, h2, Bool.not_true, Bool.false_eq_true, if_false, if_true]
theorem later : Tryz.prog.laysLater = false := by kernel_rfl
theorem refl : Tryz.prog.bearsReflect = false := by kernel_rfl
theorem door : Tryz.prog.doorFits [] = true := by kernel_rfl
theorem mayEnter_ : Tryz.prog.mayEnter = true := mayEnter_of _ _ _ behind strips (by rw [tl_cut]; kernel_rfl) later refl door
theorem liftsFinal_ : Tryz.prog.liftsFinal = false := liftsFinal_of _ _ _ behind strips (by rw [tl_carried]; kernel_rfl)
theorem make_ : Tryz.prog.make = some .cut := make_of _ _ _ behind (by rw [tl_gc, tl_spec]; kernel_rfl) (by rw [tl_cut]; kernel_rfl)
theorem mainIs_ : Tryz.prog.mainIs = some (true, sg1) := mainIs_of _ _ _ _ words (by kernel_rfl) (by rw [tl_harness]; kernel_rfl)
/-- The harness' sum, as its signs. -/
theorem told {b : Bool} {t : String} (hb : b = true) (ht : t = String.ofList sg1) : Tryz.prog.mainIs = some (b, t.toList) := by rw [hb, ht, String.toList_ofList]; exact mainIs_
end Go.Proofs.YtcohdfkdhdhegaaGreatDoor.wds
