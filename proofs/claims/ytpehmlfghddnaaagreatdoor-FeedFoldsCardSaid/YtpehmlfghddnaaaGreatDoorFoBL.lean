/- Seeds opened: rows of them, as they lie. The words at the head of the program, one by one. The closed facts of FeedFolds's row and card, each by itself. -/
import Derived.Test.YtpehmlfghddnaaaGreatDoorFoAV
import Derived.Test.YtpehmlfghddnaaaGreatDoorFoBK
import Derived.Test.YtpehmlfghddnaaaGreatDoorCards
import Derived.JoinedOf
import Derived.SevenTiedAt
import Derived.Stop.Joined
namespace Go.Proofs.YtpehmlfghddnaaaGreatDoor
open Go.ChangeShapes Go.WideShapes Go.ChangeAt Go.RowKit
open Go.Deep (open_slice)

section
variable {H : Type} {enc : TypeId × Value → H} {w : World} {base : Nat} {sp : Nat → Bool} {held : Bool} {fuel : Nat}
theorem open_intsE {v : Value} {x : DataW H × List MemPlace} (h : DataW.trod enc Tryz.prog w base (fun _ => true) held fuel 69 [v] = some x) : ∃ A n c l, v = .slice A n c ∧ SlW intE (fun _ => True) w v l ∧ ∀ y ∈ l, I64 y := by
  rcases open_ints Tryz.underlying69 Tryz.underlying3 (by kernel_rfl) h with ⟨hcs, -⟩ | ⟨a, len, cap, zs, hcs, -, hl, hm, hsl, -, hc, hwf⟩
  · obtain rfl : v = .slice none 0 0 := by simpa using hcs
    exact ⟨_, _, _, [], rfl, (Sl.nil _ _ _).weak, by simp⟩
  · obtain rfl : v = .slice (some a) len cap := by simpa using hcs
    have hsl' : zs.length = cap := by simpa using hsl
    refine ⟨_, _, _, zs.take len, rfl, slw_of_cells intE (by rw [List.length_take]; omega) hl hm fun i y hy j u hu => ?_, fun y hy => wf_i64 (hwf y (List.mem_of_mem_take hy))⟩
    obtain rfl : j = 0 := by have := (List.getElem?_eq_some_iff.1 hu).1; rw [intE.hk] at this; have : j < 1 := this; omega
    have hi : i < len := by have := (List.getElem?_eq_some_iff.1 hy).1; rw [List.length_take] at this; omega
    rw [List.getElem?_take_of_lt hi] at hy
    have h1 := hc i (by omega)
    rw [List.getD_eq_getElem?_getD, hy] at h1
    have hu : some (Value.int .i64 y) = some u := hu
    injection hu with hu
    subst hu
    rw [show i * intE.k + 0 = i from Nat.mul_one i]
    exact h1
/-- What a seed that came in is like. -/
structure InS (w : World) (y : LSD) : Prop where
  of : SlW intE (fun _ => True) w (.slice y.A y.s.of.length y.c) y.s.of
  h : SlW strE (fun _ => True) w y.x.v y.s.h.parents
  ok : SeedOk y.s
theorem InS.at_ {y : LSD} (h : InS w y) : y.At (fun _ => True) w := ⟨h.of, h.h⟩
set_option maxRecDepth 100000 in
theorem open_seed {cs : List Value} {x : DataW H × List MemPlace} (h : DataW.trod enc Tryz.prog w base (fun _ => true) held fuel 187 cs = some x) (hw : ∀ m ∈ x.1.weights Tryz.prog 187, m ≤ 140737488351232) : ∃ y : LSD, cs = y.cells ∧ InS w y := by
  obtain ⟨xs, n', rfl, hy, hlen, hxl, hf⟩ := DataW.trod_struct Tryz.underlying187 h
  have cT : Tryz.prog.cellsOf 187 = 15 := by kernel_rfl
  have cH : Tryz.prog.cellsOf 34 = 7 := by kernel_rfl
  have ci : Tryz.prog.cellsOf 3 = 1 := by kernel_rfl
  have cS : Tryz.prog.cellsOf 9 = 1 := by kernel_rfl
  have cb : Tryz.prog.cellsOf 4 = 1 := by kernel_rfl
  have cl : Tryz.prog.cellsOf 69 = 1 := by kernel_rfl
  rw [cT] at hlen
  match cs, hlen with
  | [c0, c1, c2, c3, c4, c5, c6, c7, d0, d1, d2, d3, d4, d5, d6], _ =>
    match xs, hxl with
    | [x0, x1, x2, x3, x4, x5, x6, x7, x8], _ =>
      have h0 : DataW.trod enc Tryz.prog w base (fun _ => true) held n' 69 [c0] = some x0 := by
        have : DataW.trod enc Tryz.prog w base (fun _ => true) held n' 69 (([c0, c1, c2, c3, c4, c5, c6, c7, d0, d1, d2, d3, d4, d5, d6].drop 0).take (Tryz.prog.cellsOf 69)) = some x0 := hf 0 _ rfl
        rw [cl] at this
        exact this
      have h1 : DataW.trod enc Tryz.prog w base (fun _ => true) held n' 3 [c1] = some x1 := by
        have : DataW.trod enc Tryz.prog w base (fun _ => true) held n' 3 (([c0, c1, c2, c3, c4, c5, c6, c7, d0, d1, d2, d3, d4, d5, d6].drop 1).take (Tryz.prog.cellsOf 3)) = some x1 := hf 1 _ rfl
        rw [ci] at this
        exact this
      have h2 : DataW.trod enc Tryz.prog w base (fun _ => true) held n' 3 [c2] = some x2 := by
        have : DataW.trod enc Tryz.prog w base (fun _ => true) held n' 3 (([c0, c1, c2, c3, c4, c5, c6, c7, d0, d1, d2, d3, d4, d5, d6].drop 2).take (Tryz.prog.cellsOf 3)) = some x2 := hf 2 _ rfl
        rw [ci] at this
        exact this
      have h3 : DataW.trod enc Tryz.prog w base (fun _ => true) held n' 3 [c3] = some x3 := by
        have : DataW.trod enc Tryz.prog w base (fun _ => true) held n' 3 (([c0, c1, c2, c3, c4, c5, c6, c7, d0, d1, d2, d3, d4, d5, d6].drop 3).take (Tryz.prog.cellsOf 3)) = some x3 := hf 3 _ rfl
        rw [ci] at this
        exact this
      have h4 : DataW.trod enc Tryz.prog w base (fun _ => true) held n' 3 [c4] = some x4 := by
        have : DataW.trod enc Tryz.prog w base (fun _ => true) held n' 3 (([c0, c1, c2, c3, c4, c5, c6, c7, d0, d1, d2, d3, d4, d5, d6].drop 4).take (Tryz.prog.cellsOf 3)) = some x4 := hf 4 _ rfl
        rw [ci] at this
        exact this
      have h5 : DataW.trod enc Tryz.prog w base (fun _ => true) held n' 9 [c5] = some x5 := by
        have : DataW.trod enc Tryz.prog w base (fun _ => true) held n' 9 (([c0, c1, c2, c3, c4, c5, c6, c7, d0, d1, d2, d3, d4, d5, d6].drop 5).take (Tryz.prog.cellsOf 9)) = some x5 := hf 5 _ rfl
        rw [cS] at this
        exact this
      have h6 : DataW.trod enc Tryz.prog w base (fun _ => true) held n' 3 [c6] = some x6 := by
        have : DataW.trod enc Tryz.prog w base (fun _ => true) held n' 3 (([c0, c1, c2, c3, c4, c5, c6, c7, d0, d1, d2, d3, d4, d5, d6].drop 6).take (Tryz.prog.cellsOf 3)) = some x6 := hf 6 _ rfl
        rw [ci] at this
        exact this
      have h7 : DataW.trod enc Tryz.prog w base (fun _ => true) held n' 4 [c7] = some x7 := by
        have : DataW.trod enc Tryz.prog w base (fun _ => true) held n' 4 (([c0, c1, c2, c3, c4, c5, c6, c7, d0, d1, d2, d3, d4, d5, d6].drop 7).take (Tryz.prog.cellsOf 4)) = some x7 := hf 7 _ rfl
        rw [cb] at this
        exact this
      have h8 : DataW.trod enc Tryz.prog w base (fun _ => true) held n' 34 [d0, d1, d2, d3, d4, d5, d6] = some x8 := by
        have : DataW.trod enc Tryz.prog w base (fun _ => true) held n' 34 (([c0, c1, c2, c3, c4, c5, c6, c7, d0, d1, d2, d3, d4, d5, d6].drop 8).take (Tryz.prog.cellsOf 34)) = some x8 := hf 8 _ rfl
        rw [cH] at this
        exact this
      obtain ⟨A, n, c, l, hv0, hs0, hi0⟩ := open_intsE h0
      obtain ⟨a1, e1, f1, g1⟩ := DataW.trod_int Tryz.underlying3 h1
      obtain ⟨a2, e2, f2, g2⟩ := DataW.trod_int Tryz.underlying3 h2
      obtain ⟨a3, e3, f3, g3⟩ := DataW.trod_int Tryz.underlying3 h3
      obtain ⟨a4, e4, f4, g4⟩ := DataW.trod_int Tryz.underlying3 h4
      obtain ⟨a5, e5, f5, g5⟩ := DataW.trod_string Tryz.underlying9 h5
      obtain ⟨a6, e6, f6, g6⟩ := DataW.trod_int Tryz.underlying3 h6
      obtain ⟨a7, e7, f7⟩ := DataW.trod_bool Tryz.underlying4 h7
      obtain ⟨y, e8, hin⟩ := open_hdr h8 fun q hq => hw q (by
        rw [hy]
        exact weights_struct Tryz.underlying187 8 _ rfl (d := x8.1) rfl hq)
      simp only [List.cons.injEq, and_true] at e1 e2 e3 e4 e5 e6 e7
      subst e1; subst e2; subst e3; subst e4; subst e5; subst e6; subst e7; subst hv0
      have hl0 := hs0.len.1
      subst hl0
      refine ⟨⟨⟨l, a1, a2, a3, a4, a5, a6, a7, y.h⟩, A, c, y.A, y.c⟩, ?_, hs0, hin.at_, ?_⟩
      · show _ :: _ :: _ :: _ :: _ :: _ :: _ :: _ :: [d0, d1, d2, d3, d4, d5, d6] = _
        rw [e8]
        rfl
      · refine ⟨hi0, wf_i64 g1, wf_i64 g2, wf_i64 g3, wf_i64 g4, wf_i64 g6, ?_, hin.height, hin.miner, hin.wins, hin.salt, hin.ticket, hin.p0, by show y.h.power < 18446744073709551616; have := hin.p1; omega⟩
        have := hw a5.data.toList.length (by
          rw [hy]
          exact weights_struct Tryz.underlying187 5 _ rfl (d := .lit (.string a5.data.toList)) (by rw [f5]; rfl) (by simp [DataW.weights]))
        simpa using this
theorem open_seeds {A : Option Addr} {n c : Nat} {x : DataW H × List MemPlace} (h : DataW.trod enc Tryz.prog w base (fun _ => true) held fuel 40 [.slice A n c] = some x) (hw : ∀ m ∈ x.1.weights Tryz.prog 40, m ≤ 140737488351232) :
    ∃ l : List LSD, SlW sdE (fun _ => True) w (.slice A n c) l ∧ ∀ y ∈ l, InS w y := by
  have cT : Tryz.prog.cellsOf 187 = 15 := by kernel_rfl
  rcases open_slice Tryz.underlying40 h with ⟨hcs, -⟩ | ⟨a, len, cap, m, n', D, Pl, hcs, -, hl, hm, hmm, hx, hi⟩
  · obtain ⟨rfl, rfl, rfl⟩ : A = none ∧ n = 0 ∧ c = 0 := by simpa using hcs
    exact ⟨[], (Sl.nil _ _ _).weak, by simp⟩
  · obtain ⟨rfl, rfl, rfl⟩ : A = some a ∧ n = len ∧ c = cap := by simpa using hcs
    have hmc : m = c := by simpa using hmm
    subst hmc
    obtain ⟨l, hll, hR⟩ := exists_list (R := fun i (y : LSD) => (∀ j u, y.cells[j]? = some u → w.cell? (a.add (i * 15 + j)) = some u) ∧ InS w y) n fun i hin => by
      obtain ⟨cs', hc, ht⟩ := hi i (by omega)
      obtain ⟨-, hcl, hat⟩ := World.cells?_some hc
      obtain ⟨y, rfl, hy⟩ := open_seed ht fun q hq => hw q (by
        rw [hx]
        exact weights_slice Tryz.underlying40 (d := D i) (List.mem_map.2 ⟨i, List.mem_range.2 hin, rfl⟩) hq)
      refine ⟨y, fun j u hu => ?_, hy⟩
      have hj : j < 15 := (List.getElem?_eq_some_iff.1 hu).1
      have h1 := hat j (by rw [cT]; exact hj)
      rw [cT] at h1
      rw [← Go.Deep.add_add, h1, hu]
    exact ⟨l, slw_of_cells sdE hll hl hm (fun i y hy => (hR i y hy).1), fun y hy => by
      obtain ⟨i, hi'⟩ := List.getElem?_of_mem hy
      exact (hR i y hi').2⟩
end
end Go.Proofs.YtpehmlfghddnaaaGreatDoor
namespace Go.Proofs.YtpehmlfghddnaaaGreatDoor.wds
open Go
set_option maxRecDepth 100000
theorem words_app : ∀ (w r : List Char), (w.all fun c => c != Char.ofNat 32) = true → wordsSigns (w ++ Char.ofNat 32 :: r) = w :: wordsSigns r
  | [], r, _ => by simp [wordsSigns]
  | c :: w, r, h => by
    rw [List.all_cons, Bool.and_eq_true] at h
    have hc : c ≠ Char.ofNat 32 := by simpa using h.1
    have ih := words_app w r h.2
    rw [List.cons_append, wordsSigns, ih]
    exact hc
theorem words_last : ∀ (w : List Char), (w.all fun c => c != Char.ofNat 32) = true → wordsSigns w = [w]
  | [], _ => by simp [wordsSigns]
  | c :: w, h => by
    rw [List.all_cons, Bool.and_eq_true] at h
    have hc : c ≠ Char.ofNat 32 := by simpa using h.1
    have ih := words_last w h.2
    rw [wordsSigns, ih]
    exact hc
def sg0 : List Char := [104, 97, 114, 110, 101, 115, 115].map Char.ofNat
def sg1 : List Char := [57, 53, 49, 98, 101, 50, 101, 99, 55, 102, 101, 97, 48, 102, 51, 100, 98, 50, 100, 56, 53, 102, 55, 48, 53, 98, 101, 50, 54, 53, 56, 102, 100, 100, 55, 50, 98, 52, 49, 54, 55, 51, 57, 98, 49, 49, 56, 52, 53, 54, 55, 101, 53, 51, 51, 102, 99, 48, 54, 54, 98, 55, 101, 49].map Char.ofNat
def sg2 : List Char := [99, 117, 116].map Char.ofNat
def sg3 : List Char := [97, 116].map Char.ofNat
def sg4 : List Char := [99, 111, 120, 115, 119, 97, 105, 110, 47, 99, 111, 120, 115, 119, 97, 105, 110, 108, 97, 119, 48, 56, 46, 84, 105, 112, 115, 101, 116, 79, 114, 100, 101, 114].map Char.ofNat
def sg5 : List Char := [99, 111, 120, 115, 119, 97, 105, 110, 47, 99, 111, 120, 115, 119, 97, 105, 110, 108, 97, 119, 49, 51, 46, 68, 97, 103, 71, 114, 111, 119, 115].map Char.ofNat
def sg6 : List Char := [99, 111, 120, 115, 119, 97, 105, 110, 47, 99, 111, 120, 115, 119, 97, 105, 110, 108, 97, 119, 49, 51, 46, 68, 97, 103, 65, 100, 100, 115].map Char.ofNat
def sg7 : List Char := [99, 111, 120, 115, 119, 97, 105, 110, 47, 99, 111, 120, 115, 119, 97, 105, 110, 108, 97, 119, 49, 51, 46, 68, 97, 103, 84, 105, 112, 115, 101, 116, 115].map Char.ofNat
def sg8 : List Char := [99, 111, 120, 115, 119, 97, 105, 110, 47, 99, 111, 120, 115, 119, 97, 105, 110, 108, 97, 119, 49, 51, 46, 68, 97, 103, 67, 108, 111, 115, 101, 100].map Char.ofNat
def sg9 : List Char := [99, 111, 120, 115, 119, 97, 105, 110, 47, 99, 111, 120, 115, 119, 97, 105, 110, 108, 97, 119, 49, 56, 46, 77, 97, 114, 107, 70, 108, 111, 111, 114, 115].map Char.ofNat
def sg10 : List Char := [99, 111, 120, 115, 119, 97, 105, 110, 47, 99, 111, 120, 115, 119, 97, 105, 110, 108, 97, 119, 49, 56, 46, 77, 97, 114, 107, 80, 111, 105, 110, 116, 115].map Char.ofNat
def sg11 : List Char := [99, 111, 120, 115, 119, 97, 105, 110, 47, 99, 111, 120, 115, 119, 97, 105, 110, 108, 97, 119, 50, 51, 46, 70, 101, 101, 100, 80, 117, 115, 104, 101, 115].map Char.ofNat
def sg12 : List Char := [99, 111, 120, 115, 119, 97, 105, 110, 47, 99, 111, 120, 115, 119, 97, 105, 110, 108, 97, 119, 50, 51, 46, 70, 101, 101, 100, 79, 118, 101, 114, 102, 108, 111, 119, 115].map Char.ofNat
def sg13 : List Char := [99, 111, 120, 115, 119, 97, 105, 110, 47, 99, 111, 120, 115, 119, 97, 105, 110, 108, 97, 119, 50, 51, 46, 70, 101, 101, 100, 82, 101, 102, 117, 115, 101, 115].map Char.ofNat
def sg14 : List Char := [99, 111, 120, 115, 119, 97, 105, 110, 47, 99, 111, 120, 115, 119, 97, 105, 110, 108, 97, 119, 50, 51, 46, 70, 101, 101, 100, 70, 111, 108, 100, 115].map Char.ofNat
def sg15 : List Char := [99, 111, 120, 115, 119, 97, 105, 110, 47, 99, 111, 120, 115, 119, 97, 105, 110, 108, 97, 119, 49, 52, 46, 80, 97, 116, 104, 72, 101, 105, 103, 104, 116, 115].map Char.ofNat
def sg16 : List Char := [99, 111, 120, 115, 119, 97, 105, 110, 47, 99, 111, 120, 115, 119, 97, 105, 110, 108, 97, 119, 49, 52, 46, 80, 97, 116, 104, 87, 97, 108, 107, 115].map Char.ofNat
def sg17 : List Char := [99, 111, 120, 115, 119, 97, 105, 110, 47, 99, 111, 120, 115, 119, 97, 105, 110, 108, 97, 119, 49, 52, 46, 80, 97, 116, 104, 84, 104, 114, 101, 101].map Char.ofNat
def sg18 : List Char := [99, 111, 120, 115, 119, 97, 105, 110, 47, 99, 111, 120, 115, 119, 97, 105, 110, 108, 97, 119, 49, 52, 46, 80, 97, 116, 104, 84, 119, 111].map Char.ofNat
def sg19 : List Char := [99, 111, 120, 115, 119, 97, 105, 110, 47, 99, 111, 120, 115, 119, 97, 105, 110, 108, 97, 119, 49, 52, 46, 80, 97, 116, 104, 87, 101, 105, 103, 104, 116, 115].map Char.ofNat
def sg20 : List Char := [99, 111, 120, 115, 119, 97, 105, 110, 47, 99, 111, 120, 115, 119, 97, 105, 110, 108, 97, 119, 49, 57, 46, 67, 104, 111, 105, 99, 101, 66, 101, 115, 116].map Char.ofNat
def sg21 : List Char := [99, 111, 120, 115, 119, 97, 105, 110, 47, 99, 111, 120, 115, 119, 97, 105, 110, 108, 97, 119, 49, 57, 46, 67, 104, 111, 105, 99, 101, 79, 114, 100, 101, 114].map Char.ofNat
def sg22 : List Char := [99, 111, 120, 115, 119, 97, 105, 110, 47, 99, 111, 120, 115, 119, 97, 105, 110, 108, 97, 119, 49, 57, 46, 67, 104, 111, 105, 99, 101, 82, 105, 115, 101, 115].map Char.ofNat
def sg23 : List Char := [99, 111, 120, 115, 119, 97, 105, 110, 47, 99, 111, 120, 115, 119, 97, 105, 110, 108, 97, 119, 49, 57, 46, 67, 104, 111, 105, 99, 101, 77, 111, 115, 116].map Char.ofNat
def sg24 : List Char := [99, 111, 120, 115, 119, 97, 105, 110, 47, 99, 111, 120, 115, 119, 97, 105, 110, 108, 97, 119, 50, 51, 46, 70, 101, 101, 100, 72, 117, 98, 115].map Char.ofNat
theorem signed : Tryz.prog.initOrder = String.ofList (sg0 ++ Char.ofNat 32 :: (sg1 ++ Char.ofNat 32 :: (sg2 ++ Char.ofNat 32 :: (sg3 ++ Char.ofNat 32 :: (sg4 ++ Char.ofNat 32 :: (sg5 ++ Char.ofNat 32 :: (sg6 ++ Char.ofNat 32 :: (sg7 ++ Char.ofNat 32 :: (sg8 ++ Char.ofNat 32 :: (sg9 ++ Char.ofNat 32 :: (sg10 ++ Char.ofNat 32 :: (sg11 ++ Char.ofNat 32 :: (sg12 ++ Char.ofNat 32 :: (sg13 ++ Char.ofNat 32 :: (sg14 ++ Char.ofNat 32 :: (sg15 ++ Char.ofNat 32 :: (sg16 ++ Char.ofNat 32 :: (sg17 ++ Char.ofNat 32 :: (sg18 ++ Char.ofNat 32 :: (sg19 ++ Char.ofNat 32 :: (sg20 ++ Char.ofNat 32 :: (sg21 ++ Char.ofNat 32 :: (sg22 ++ Char.ofNat 32 :: (sg23 ++ Char.ofNat 32 :: (sg24))))))))))))))))))))))))) := by kernel_rfl
theorem words : wordsSigns Tryz.prog.initOrder.toList = [sg0, sg1, sg2, sg3, sg4, sg5, sg6, sg7, sg8, sg9, sg10, sg11, sg12, sg13, sg14, sg15, sg16, sg17, sg18, sg19, sg20, sg21, sg22, sg23, sg24] := by
  rw [signed, String.toList_ofList, words_app sg0 _ (by kernel_rfl), words_app sg1 _ (by kernel_rfl), words_app sg2 _ (by kernel_rfl), words_app sg3 _ (by kernel_rfl), words_app sg4 _ (by kernel_rfl), words_app sg5 _ (by kernel_rfl), words_app sg6 _ (by kernel_rfl), words_app sg7 _ (by kernel_rfl), words_app sg8 _ (by kernel_rfl), words_app sg9 _ (by kernel_rfl), words_app sg10 _ (by kernel_rfl), words_app sg11 _ (by kernel_rfl), words_app sg12 _ (by kernel_rfl), words_app sg13 _ (by kernel_rfl), words_app sg14 _ (by kernel_rfl), words_app sg15 _ (by kernel_rfl), words_app sg16 _ (by kernel_rfl), words_app sg17 _ (by kernel_rfl), words_app sg18 _ (by kernel_rfl), words_app sg19 _ (by kernel_rfl), words_app sg20 _ (by kernel_rfl), words_app sg21 _ (by kernel_rfl), words_app sg22 _ (by kernel_rfl), words_app sg23 _ (by kernel_rfl), words_last _ (by kernel_rfl)]
theorem tl_finals : "finals".toList = [102, 105, 110, 97, 108, 115].map Char.ofNat := by
  rw [show "finals" = String.ofList ([102, 105, 110, 97, 108, 115].map Char.ofNat) from by kernel_rfl]
  exact String.toList_ofList
theorem tl_reflectrows : "reflectrows".toList = [114, 101, 102, 108, 101, 99, 116, 114, 111, 119, 115].map Char.ofNat := by
  rw [show "reflectrows" = String.ofList ([114, 101, 102, 108, 101, 99, 116, 114, 111, 119, 115].map Char.ofNat) from by kernel_rfl]
  exact String.toList_ofList
theorem tl_leanrows : "leanrows".toList = [108, 101, 97, 110, 114, 111, 119, 115].map Char.ofNat := by
  rw [show "leanrows" = String.ofList ([108, 101, 97, 110, 114, 111, 119, 115].map Char.ofNat) from by kernel_rfl]
  exact String.toList_ofList
theorem tl_onebuild : "onebuild".toList = [111, 110, 101, 98, 117, 105, 108, 100].map Char.ofNat := by
  rw [show "onebuild" = String.ofList ([111, 110, 101, 98, 117, 105, 108, 100].map Char.ofNat) from by kernel_rfl]
  exact String.toList_ofList
theorem tl_publicsums : "publicsums".toList = [112, 117, 98, 108, 105, 99, 115, 117, 109, 115].map Char.ofNat := by
  rw [show "publicsums" = String.ofList ([112, 117, 98, 108, 105, 99, 115, 117, 109, 115].map Char.ofNat) from by kernel_rfl]
  exact String.toList_ofList
theorem tl_eqguard : "eqguard".toList = [101, 113, 103, 117, 97, 114, 100].map Char.ofNat := by
  rw [show "eqguard" = String.ofList ([101, 113, 103, 117, 97, 114, 100].map Char.ofNat) from by kernel_rfl]
  exact String.toList_ofList
theorem tl_ownunsafe : "ownunsafe".toList = [111, 119, 110, 117, 110, 115, 97, 102, 101].map Char.ofNat := by
  rw [show "ownunsafe" = String.ofList ([111, 119, 110, 117, 110, 115, 97, 102, 101].map Char.ofNat) from by kernel_rfl]
  exact String.toList_ofList
theorem tl_libbeside : "libbeside".toList = [108, 105, 98, 98, 101, 115, 105, 100, 101].map Char.ofNat := by
  rw [show "libbeside" = String.ofList ([108, 105, 98, 98, 101, 115, 105, 100, 101].map Char.ofNat) from by kernel_rfl]
  exact String.toList_ofList
theorem tl_ownbeside : "ownbeside".toList = [111, 119, 110, 98, 101, 115, 105, 100, 101].map Char.ofNat := by
  rw [show "ownbeside" = String.ofList ([111, 119, 110, 98, 101, 115, 105, 100, 101].map Char.ofNat) from by kernel_rfl]
  exact String.toList_ofList
theorem tl_reflbeside : "reflbeside".toList = [114, 101, 102, 108, 98, 101, 115, 105, 100, 101].map Char.ofNat := by
  rw [show "reflbeside" = String.ofList ([114, 101, 102, 108, 98, 101, 115, 105, 100, 101].map Char.ofNat) from by kernel_rfl]
  exact String.toList_ofList
theorem tl_aliases : "aliases".toList = [97, 108, 105, 97, 115, 101, 115].map Char.ofNat := by
  rw [show "aliases" = String.ofList ([97, 108, 105, 97, 115, 101, 115].map Char.ofNat) from by kernel_rfl]
  exact String.toList_ofList
theorem tl_afterinit : "afterinit".toList = [97, 102, 116, 101, 114, 105, 110, 105, 116].map Char.ofNat := by
  rw [show "afterinit" = String.ofList ([97, 102, 116, 101, 114, 105, 110, 105, 116].map Char.ofNat) from by kernel_rfl]
  exact String.toList_ofList
theorem tl_crcplain : "crcplain".toList = [99, 114, 99, 112, 108, 97, 105, 110].map Char.ofNat := by
  rw [show "crcplain" = String.ofList ([99, 114, 99, 112, 108, 97, 105, 110].map Char.ofNat) from by kernel_rfl]
  exact String.toList_ofList
theorem tl_roadunsafe : "roadunsafe".toList = [114, 111, 97, 100, 117, 110, 115, 97, 102, 101].map Char.ofNat := by
  rw [show "roadunsafe" = String.ofList ([114, 111, 97, 100, 117, 110, 115, 97, 102, 101].map Char.ofNat) from by kernel_rfl]
  exact String.toList_ofList
theorem tl_fmthandon : "fmthandon".toList = [102, 109, 116, 104, 97, 110, 100, 111, 110].map Char.ofNat := by
  rw [show "fmthandon" = String.ofList ([102, 109, 116, 104, 97, 110, 100, 111, 110].map Char.ofNat) from by kernel_rfl]
  exact String.toList_ofList
theorem tl_harness : "harness".toList = [104, 97, 114, 110, 101, 115, 115].map Char.ofNat := by
  rw [show "harness" = String.ofList ([104, 97, 114, 110, 101, 115, 115].map Char.ofNat) from by kernel_rfl]
  exact String.toList_ofList
theorem tl_ownmain : "ownmain".toList = [111, 119, 110, 109, 97, 105, 110].map Char.ofNat := by
  rw [show "ownmain" = String.ofList ([111, 119, 110, 109, 97, 105, 110].map Char.ofNat) from by kernel_rfl]
  exact String.toList_ofList
theorem tl_gc : "gc".toList = [103, 99].map Char.ofNat := by
  rw [show "gc" = String.ofList ([103, 99].map Char.ofNat) from by kernel_rfl]
  exact String.toList_ofList
theorem tl_spec : "spec".toList = [115, 112, 101, 99].map Char.ofNat := by
  rw [show "spec" = String.ofList ([115, 112, 101, 99].map Char.ofNat) from by kernel_rfl]
  exact String.toList_ofList
theorem tl_carried : "carried".toList = [99, 97, 114, 114, 105, 101, 100].map Char.ofNat := by
  rw [show "carried" = String.ofList ([99, 97, 114, 114, 105, 101, 100].map Char.ofNat) from by kernel_rfl]
  exact String.toList_ofList
theorem tl_cut : "cut".toList = [99, 117, 116].map Char.ofNat := by
  rw [show "cut" = String.ofList ([99, 117, 116].map Char.ofNat) from by kernel_rfl]
  exact String.toList_ofList
theorem strip_none : ∀ (os : List String) (w : List Char) (ws : List (List Char)), (os.map String.toList).all (fun l => w != l) = true → stripLifts os (w :: ws) = ([], w :: ws)
  | [], _, _, _ => rfl
  | o :: os, w, ws, h => by
    rw [List.map_cons, List.all_cons, Bool.and_eq_true] at h
    have hw : ¬ (w == o.toList) = true := by simpa using h.1
    rw [stripLifts, if_neg hw]
    exact strip_none os w ws h.2
theorem lifts : liftWords.map String.toList = [([102, 105, 110, 97, 108, 115].map Char.ofNat), ([114, 101, 102, 108, 101, 99, 116, 114, 111, 119, 115].map Char.ofNat), ([108, 101, 97, 110, 114, 111, 119, 115].map Char.ofNat), ([111, 110, 101, 98, 117, 105, 108, 100].map Char.ofNat), ([112, 117, 98, 108, 105, 99, 115, 117, 109, 115].map Char.ofNat), ([101, 113, 103, 117, 97, 114, 100].map Char.ofNat), ([111, 119, 110, 117, 110, 115, 97, 102, 101].map Char.ofNat), ([108, 105, 98, 98, 101, 115, 105, 100, 101].map Char.ofNat), ([111, 119, 110, 98, 101, 115, 105, 100, 101].map Char.ofNat), ([114, 101, 102, 108, 98, 101, 115, 105, 100, 101].map Char.ofNat), ([97, 108, 105, 97, 115, 101, 115].map Char.ofNat), ([97, 102, 116, 101, 114, 105, 110, 105, 116].map Char.ofNat), ([99, 114, 99, 112, 108, 97, 105, 110].map Char.ofNat), ([114, 111, 97, 100, 117, 110, 115, 97, 102, 101].map Char.ofNat), ([102, 109, 116, 104, 97, 110, 100, 111, 110].map Char.ofNat)] := by
  unfold liftWords
  simp only [List.map_cons, List.map_nil, tl_finals, tl_reflectrows, tl_leanrows, tl_onebuild, tl_publicsums, tl_eqguard, tl_ownunsafe, tl_libbeside, tl_ownbeside, tl_reflbeside, tl_aliases, tl_afterinit, tl_crcplain, tl_roadunsafe, tl_fmthandon]
theorem behind : behindMainWord (wordsSigns Tryz.prog.initOrder.toList) = [sg2, sg3, sg4, sg5, sg6, sg7, sg8, sg9, sg10, sg11, sg12, sg13, sg14, sg15, sg16, sg17, sg18, sg19, sg20, sg21, sg22, sg23, sg24] := by
  rw [words]
  unfold behindMainWord
  rw [tl_harness, tl_ownmain]
  kernel_rfl
theorem strips : stripLifts liftWords [sg2, sg3, sg4, sg5, sg6, sg7, sg8, sg9, sg10, sg11, sg12, sg13, sg14, sg15, sg16, sg17, sg18, sg19, sg20, sg21, sg22, sg23, sg24] = ([], [sg2, sg3, sg4, sg5, sg6, sg7, sg8, sg9, sg10, sg11, sg12, sg13, sg14, sg15, sg16, sg17, sg18, sg19, sg20, sg21, sg22, sg23, sg24]) := strip_none _ _ _ (by rw [lifts]; kernel_rfl)
theorem mayEnter_of (P : Program) (c : List Char) (rest : List (List Char)) (h : behindMainWord (wordsSigns P.initOrder.toList) = c :: rest) (hs : stripLifts liftWords (c :: rest) = ([], c :: rest)) (hc : (some c == some "cut".toList) = true) (hl : P.laysLater = false) (hr : P.bearsReflect = false) (hd : P.doorFits [] = true) : P.mayEnter = true := by
  unfold Program.mayEnter
  rw [h]
  simp only [hs, hl, hr, hd, List.head?_cons, hc, Bool.not_false, Bool.or_true, Bool.and_true, List.contains_nil]
theorem liftsFinal_of (P : Program) (c : List Char) (rest : List (List Char)) (h : behindMainWord (wordsSigns P.initOrder.toList) = c :: rest) (hs : stripLifts liftWords (c :: rest) = ([], c :: rest)) (hc : (some c == some "carried".toList) = false) : P.liftsFinal = false := by
  unfold Program.liftsFinal Program.headLifts
  rw [h]
  simp only [hs, List.head?_cons, hc, Bool.false_and, Bool.false_or, ite_self, List.contains_nil]
theorem make_of (P : Program) (c : List Char) (rest : List (List Char)) (h : behindMainWord (wordsSigns P.initOrder.toList) = c :: rest) (h1 : (c == "gc".toList || c == "spec".toList) = false) (h2 : (c == "cut".toList) = true) : P.make = some .cut := by
  unfold Program.make
  rw [h]
  simp only [h1, h2, Bool.true_or, if_true, Bool.false_eq_true, if_false]
theorem mainIs_of (P : Program) (a s : List Char) (r : List (List Char)) (h : wordsSigns P.initOrder.toList = a :: s :: r) (h1 : isSumSigns s = true) (h2 : (a == "harness".toList) = true) : P.mainIs = some (true, s) := by
  unfold Program.mainIs
  rw [h]
  simp only [h1, h2, Bool.not_true, Bool.false_eq_true, if_false, if_true]
theorem later : Tryz.prog.laysLater = false := by kernel_rfl
theorem refl : Tryz.prog.bearsReflect = false := by kernel_rfl
theorem door : Tryz.prog.doorFits [] = true := by kernel_rfl
theorem mayEnter_ : Tryz.prog.mayEnter = true := mayEnter_of _ _ _ behind strips (by rw [tl_cut]; kernel_rfl) later refl door
theorem liftsFinal_ : Tryz.prog.liftsFinal = false := liftsFinal_of _ _ _ behind strips (by rw [tl_carried]; kernel_rfl)
theorem make_ : Tryz.prog.make = some .cut := make_of _ _ _ behind (by rw [tl_gc, tl_spec]; kernel_rfl) (by rw [tl_cut]; kernel_rfl)
theorem mainIs_ : Tryz.prog.mainIs = some (true, sg1) := mainIs_of _ _ _ _ words (by kernel_rfl) (by rw [tl_harness]; kernel_rfl)
/-- The harness' sum, as its signs. -/
theorem told {b : Bool} {t : String} (hb : b = true) (ht : t = String.ofList sg1) : Tryz.prog.mainIs = some (b, t.toList) := by rw [hb, ht, String.toList_ofList]; exact mainIs_
end Go.Proofs.YtpehmlfghddnaaaGreatDoor.wds
namespace Go.Proofs.YtpehmlfghddnaaaGreatDoor.feedFolds
open Go
set_option maxRecDepth 100000
theorem k0 : (fun (_ : Program) (_ : FuncId) (_ : Func) (s : ChangeSpec) (c : OpenClaim) => (c.wf (OpenSpec.ofChange s) : Bool)) Tryz.prog 13 Tryz.f13 Rows.feedFoldsSpec Rows.feedFoldsRow = true := by kernel_rfl
theorem k1 : (fun (P : Program) (_ : FuncId) (_ : Func) (_ : ChangeSpec) (_ : OpenClaim) => (laidOutB P : Bool)) Tryz.prog 13 Tryz.f13 Rows.feedFoldsSpec Rows.feedFoldsRow = true := by kernel_rfl
theorem k2 : (fun (P : Program) (_ : FuncId) (_ : Func) (_ : ChangeSpec) (_ : OpenClaim) => (mapsRowed P : Bool)) Tryz.prog 13 Tryz.f13 Rows.feedFoldsSpec Rows.feedFoldsRow = true := by kernel_rfl
theorem k3 : (fun (P : Program) (_ : FuncId) (fn : Func) (_ : ChangeSpec) (_ : OpenClaim) => (fn.params.all (P.readableRec ·) : Bool)) Tryz.prog 13 Tryz.f13 Rows.feedFoldsSpec Rows.feedFoldsRow = true := by kernel_rfl
theorem k4 : (fun (P : Program) (_ : FuncId) (_ : Func) (s : ChangeSpec) (c : OpenClaim) => (namedTie P c.named s.vars : Bool)) Tryz.prog 13 Tryz.f13 Rows.feedFoldsSpec Rows.feedFoldsRow = true := by kernel_rfl
theorem k5 : (fun (_ : Program) (_ : FuncId) (_ : Func) (_ : ChangeSpec) (c : OpenClaim) => ((c.stops == []) : Bool)) Tryz.prog 13 Tryz.f13 Rows.feedFoldsSpec Rows.feedFoldsRow = true := by kernel_rfl
theorem k6 : (fun (P : Program) (_ : FuncId) (_ : Func) (_ : ChangeSpec) (_ : OpenClaim) => ((P.stops == []) : Bool)) Tryz.prog 13 Tryz.f13 Rows.feedFoldsSpec Rows.feedFoldsRow = true := by kernel_rfl
theorem k7 : (fun (_ : Program) (_ : FuncId) (_ : Func) (_ : ChangeSpec) (c : OpenClaim) => ((c.knobs == []) : Bool)) Tryz.prog 13 Tryz.f13 Rows.feedFoldsSpec Rows.feedFoldsRow = true := by kernel_rfl
theorem k8 : (fun (P : Program) (_ : FuncId) (_ : Func) (_ : ChangeSpec) (_ : OpenClaim) => ((P.stopKnobs == []) : Bool)) Tryz.prog 13 Tryz.f13 Rows.feedFoldsSpec Rows.feedFoldsRow = true := by kernel_rfl
theorem k9 : (fun (P : Program) (f : FuncId) (_ : Func) (_ : ChangeSpec) (c : OpenClaim) => ((c.inPlace == P.inPlace f) : Bool)) Tryz.prog 13 Tryz.f13 Rows.feedFoldsSpec Rows.feedFoldsRow = true := by kernel_rfl
theorem k10 : (fun (P : Program) (f : FuncId) (_ : Func) (_ : ChangeSpec) (c : OpenClaim) => ((c.unfollowed == P.unfollowed f) : Bool)) Tryz.prog 13 Tryz.f13 Rows.feedFoldsSpec Rows.feedFoldsRow = true := by kernel_rfl
theorem k11 : (fun (P : Program) (f : FuncId) (_ : Func) (_ : ChangeSpec) (c : OpenClaim) => ((c.recurses == P.recurses f) : Bool)) Tryz.prog 13 Tryz.f13 Rows.feedFoldsSpec Rows.feedFoldsRow = true := by kernel_rfl
theorem k12 : (fun (P : Program) (f : FuncId) (_ : Func) (_ : ChangeSpec) (c : OpenClaim) => ((c.named == P.varsNamed f) : Bool)) Tryz.prog 13 Tryz.f13 Rows.feedFoldsSpec Rows.feedFoldsRow = true := by kernel_rfl
theorem k13 : (fun (P : Program) (_ : FuncId) (fn : Func) (s : ChangeSpec) (c : OpenClaim) => ((c.maps == (fn.params.toList ++ s.plain.varTypes P).any (P.mapsRec ·)) : Bool)) Tryz.prog 13 Tryz.f13 Rows.feedFoldsSpec Rows.feedFoldsRow = true := by kernel_rfl
theorem k14 : (fun (P : Program) (_ : FuncId) (fn : Func) (s : ChangeSpec) (c : OpenClaim) => ((c.ifaces == (fn.params.toList ++ s.plain.varTypes P).any (P.ifacesRec ·)) : Bool)) Tryz.prog 13 Tryz.f13 Rows.feedFoldsSpec Rows.feedFoldsRow = true := by kernel_rfl
theorem k15 : (fun (P : Program) (_ : FuncId) (fn : Func) (_ : ChangeSpec) (c : OpenClaim) => ((c.mapsOut == P.mapsAmong fn.resultTypes.toList) : Bool)) Tryz.prog 13 Tryz.f13 Rows.feedFoldsSpec Rows.feedFoldsRow = true := by kernel_rfl
theorem k16 : (fun (P : Program) (_ : FuncId) (fn : Func) (s : ChangeSpec) (c : OpenClaim) => ((c.loops == (fn.params.toList ++ s.plain.varTypes P).any (P.loopsFrom ·)) : Bool)) Tryz.prog 13 Tryz.f13 Rows.feedFoldsSpec Rows.feedFoldsRow = true := by kernel_rfl
theorem k17 : (fun (P : Program) (_ : FuncId) (fn : Func) (s : ChangeSpec) (c : OpenClaim) => ((c.wideKeys == (fn.params.toList ++ s.plain.varTypes P ++ fn.resultTypes.toList).any (P.wideKeysFrom ·)) : Bool)) Tryz.prog 13 Tryz.f13 Rows.feedFoldsSpec Rows.feedFoldsRow = true := by kernel_rfl
theorem k18 : (fun (P : Program) (_ : FuncId) (_ : Func) (s : ChangeSpec) (_ : OpenClaim) => (s.vars.all (P.varReadable ·) : Bool)) Tryz.prog 13 Tryz.f13 Rows.feedFoldsSpec Rows.feedFoldsRow = true := by kernel_rfl
theorem k19 : (fun (P : Program) (_ : FuncId) (fn : Func) (_ : ChangeSpec) (_ : OpenClaim) => (fn.resultTypes.all (fun t => P.readableRec t && decide (t < P.types.size)) : Bool)) Tryz.prog 13 Tryz.f13 Rows.feedFoldsSpec Rows.feedFoldsRow = true := by kernel_rfl
theorem k20 : (fun (P : Program) (_ : FuncId) (fn : Func) (_ : ChangeSpec) (c : OpenClaim) => ((c.ifacesOut == fn.resultTypes.toList.any (P.ifacesRec ·)) : Bool)) Tryz.prog 13 Tryz.f13 Rows.feedFoldsSpec Rows.feedFoldsRow = true := by kernel_rfl
theorem k21 : (fun (P : Program) (_ : FuncId) (fn : Func) (_ : ChangeSpec) (c : OpenClaim) => ((c.loopsOut == fn.resultTypes.toList.any (P.loopsFrom ·)) : Bool)) Tryz.prog 13 Tryz.f13 Rows.feedFoldsSpec Rows.feedFoldsRow = true := by kernel_rfl
theorem k22 : (fun (P : Program) (_ : FuncId) (_ : Func) (_ : ChangeSpec) (c : OpenClaim) => ((c.plainKeys == P.plainKeys) : Bool)) Tryz.prog 13 Tryz.f13 Rows.feedFoldsSpec Rows.feedFoldsRow = true := by kernel_rfl
theorem k23 : (fun (_ : Program) (_ : FuncId) (_ : Func) (_ : ChangeSpec) (c : OpenClaim) => (c.shortTexts.isNone : Bool)) Tryz.prog 13 Tryz.f13 Rows.feedFoldsSpec Rows.feedFoldsRow = true := by kernel_rfl
theorem k24 : (fun (P : Program) (_ : FuncId) (_ : Func) (_ : ChangeSpec) (_ : OpenClaim) => (P.stopsHeard : Bool)) Tryz.prog 13 Tryz.f13 Rows.feedFoldsSpec Rows.feedFoldsRow = true := by kernel_rfl
theorem k25 : (fun (P : Program) (_ : FuncId) (_ : Func) (_ : ChangeSpec) (_ : OpenClaim) => (P.mayEnter : Bool)) Tryz.prog 13 Tryz.f13 Rows.feedFoldsSpec Rows.feedFoldsRow = true := wds.mayEnter_
theorem k26 : (fun (P : Program) (_ : FuncId) (_ : Func) (_ : ChangeSpec) (c : OpenClaim) => ((c.lifted == P.liftsFinal) : Bool)) Tryz.prog 13 Tryz.f13 Rows.feedFoldsSpec Rows.feedFoldsRow = true := by show (Rows.feedFoldsRow.lifted == Tryz.prog.liftsFinal) = true; rw [wds.liftsFinal_]; kernel_rfl
theorem k27 : (fun (P : Program) (_ : FuncId) (_ : Func) (_ : ChangeSpec) (c : OpenClaim) => ((P.make == some c.make) : Bool)) Tryz.prog 13 Tryz.f13 Rows.feedFoldsSpec Rows.feedFoldsRow = true := by show (Tryz.prog.make == some Rows.feedFoldsRow.make) = true; rw [wds.make_]; kernel_rfl
theorem k28 : (fun (P : Program) (_ : FuncId) (fn : Func) (_ : ChangeSpec) (c : OpenClaim) => ((c.kinds == (if c.domain.isEmpty then [] else fn.params.toList.map fun t => match P.underlying t with | some (.int k) => some k | _ => none)) : Bool)) Tryz.prog 13 Tryz.f13 Rows.feedFoldsSpec Rows.feedFoldsRow = true := by kernel_rfl
theorem k29 : (fun (_ : Program) (_ : FuncId) (_ : Func) (_ : ChangeSpec) (c : OpenClaim) => ((c.pinned == c.pinnedBy) : Bool)) Tryz.prog 13 Tryz.f13 Rows.feedFoldsSpec Rows.feedFoldsRow = true := by kernel_rfl
theorem k30 : (fun (P : Program) (_ : FuncId) (fn : Func) (s : ChangeSpec) (c : OpenClaim) => ((c.veiled == (fn.params.toList ++ s.plain.varTypes P ++ fn.resultTypes.toList).any (P.veiledRec ·)) : Bool)) Tryz.prog 13 Tryz.f13 Rows.feedFoldsSpec Rows.feedFoldsRow = true := by kernel_rfl
theorem k31 : (fun (P : Program) (_ : FuncId) (fn : Func) (s : ChangeSpec) (c : OpenClaim) => (c.veiledFits P fn.params.toList (fn.params.toList ++ s.plain.varTypes P ++ fn.resultTypes.toList) : Bool)) Tryz.prog 13 Tryz.f13 Rows.feedFoldsSpec Rows.feedFoldsRow = true := by kernel_rfl
theorem both {a b : Bool} (ha : a = true) (hb : b = true) : (a && b) = true := by rw [ha, hb]; rfl
theorem closed : joinedFacts Tryz.pinned.checked.prog 13 Tryz.f13 Rows.feedFoldsSpec Rows.feedFoldsRow = true := (both (both (both (both (both (both (both (both (both (both (both (both (both (both (both (both (both (both (both (both (both (both (both (both (both (both (both (both (both (both (both k0 k1) k2) k3) k4) k5) k6) k7) k8) k9) k10) k11) k12) k13) k14) k15) k16) k17) k18) k19) k20) k21) k22) k23) k24) k25) k26) k27) k28) k29) k30) k31)
theorem named : Tryz.pinned.checked.prog.funcNamed Rows.feedFoldsRow.func = some 13 := by kernel_rfl
theorem inst : Tryz.f13.isInstance Tryz.pinned.checked.prog Rows.feedFoldsRow.origin Rows.feedFoldsRow.targs := of_decide_eq_true (by kernel_rfl)
theorem wrap : Tryz.f13.isWrapper Tryz.pinned.checked.prog Rows.feedFoldsRow.wrapper Rows.feedFoldsRow.mainSum := by unfold Func.isWrapper; rw [if_neg (of_decide_eq_false (by kernel_rfl))]; exact ⟨rfl, rfl⟩
theorem wfT : Rows.feedFoldsRow.wfByText (OpenSpec.ofChange Rows.feedFoldsSpec) = true := by kernel_rfl
theorem mainT : Tryz.pinned.checked.prog.mainIs = some (Rows.feedFoldsCard.stood.harness.1, Rows.feedFoldsCard.stood.harness.2.toList) := wds.told (by kernel_rfl) (by kernel_rfl)
theorem looksT : true = Tryz.prog.looks [] := by kernel_rfl
theorem goesT : false = Rows.feedFoldsRow.goesBy Tryz.pinned.checked.prog := by kernel_rfl
theorem stand0 : Tryz.prog.wantsStandIn 40 = false := by kernel_rfl
theorem stand1 : Tryz.prog.wantsStandIn 69 = false := by kernel_rfl
theorem stand2 : Tryz.prog.wantsStandIn 3 = false := by kernel_rfl
end Go.Proofs.YtpehmlfghddnaaaGreatDoor.feedFolds
