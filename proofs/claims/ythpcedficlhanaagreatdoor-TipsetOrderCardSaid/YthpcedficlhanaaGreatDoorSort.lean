/- slices.Clone and slices.SortFunc at elements of several cells, in this share's words. No program in sight. -/
import Derived.Test.YthpcedficlhanaaGreatDoorRep
import Derived.Shelf.SlicesE.Clone
import Derived.Shelf.SlSortCmp.NoneTotal
namespace Go.Proofs.YthpcedficlhanaaGreatDoor
open Go.RowKit Go.Shelf Go.Sort

/-- Draws and new blocks, no more. -/
def More (w w' : World) : Prop := ∃ q os, w' = Sort.grow (w.drewN q) os

section
variable {P : Program} {ρ : Ren} {β : Type} {E : Enc β} {ok : Nat → Prop} {w : World} {v : Value} {ys : List β}

/-- What slices.Clone answers: a row of its own. -/
theorem clone_gen (L : SlLaysE0.n41 P ρ) (z : Value) (bytes : Nat) (hinfo : (P.info? (ρ.t 23)).map (fun i => (i.zero, i.size, i.bytes)) = some (some z, E.k, bytes)) (hzs : z.cells.size = E.k)
    (z23 : ∀ w, (Go.sizeOf (ρ.t 23)).run P w = .ok E.k w) (h : Sl E ok w v ys) (hb : 0 < bytes) (hbig : ys.length * bytes ≤ 140737488355328) :
    Calls P (ρ.f 41) #[v] w fun e w' => ∃ v', e = .returned v' ∧ w'.ownsRow w.heap.size (ρ.t 23) E.k v' ys.length (E.flat ys) ∧ Below w.heap.size w w' := by
  obtain ⟨i0, hi, hzz⟩ := Option.map_eq_some_iff.1 hinfo
  simp only [Prod.mk.injEq] at hzz
  obtain ⟨hz0, hz1, hz2⟩ := hzz
  obtain ⟨A, n, c, rfl, hl, hc, hm, hp, hx⟩ := h
  subst hl
  have hlen : ys.length ≤ 140737488355328 := Nat.le_trans (Nat.le_mul_of_pos_right _ hb) hbig
  have hnil : ∀ (v : Value), ys.length = 0 → v = .slice none 0 0 → (w.ownsRow w.heap.size (ρ.t 23) E.k v ys.length (E.flat ys)) := fun v h0 hv => by
    rw [hv, List.eq_nil_of_length_eq_zero h0]; exact World.ownsRow_nil _ _ _ _
  rcases A with _ | a
  · have h0 : ys.length = 0 := by
      rcases Nat.eq_zero_or_pos ys.length with h | h
      · exact h
      · obtain ⟨b, off, hA, -⟩ := hx h; cases hA
    refine (AnyE.slices_Clone_nil L ys.length c w).mono ?_
    rintro e w' ⟨rfl, rfl⟩
    exact ⟨_, rfl, hnil _ h0 rfl, Below.refl _ _⟩
  · obtain ⟨b, off, rfl⟩ := hp a rfl
    refine (AnyE.slices_Clone L i0 z E.k bytes hi hz0 hz1 hz2 hzs E.k0 z23 b off ys.length c (E.flat ys) w (E.flat_length ys) (by unfold maxLen; omega) hbig (fun j u hu => ?_) (E.flat_one_cell ys)).mono ?_
    · have h0 : 0 < ys.length := by
        rcases Nat.eq_zero_or_pos ys.length with h | h
        · rw [List.eq_nil_of_length_eq_zero h] at hu; simp [Enc.flat] at hu
        · exact h
      obtain ⟨b', off', hA, -, -, hcell⟩ := hx h0
      injection hA with hA
      injection hA with h1 h2
      subst h1; subst h2
      exact hcell j u hu
    · rintro e w' ⟨v', rfl, hown, _, hbel⟩
      exact ⟨v', rfl, hown, hbel⟩

theorem toList_flatK [Inhabited β] (d : Array β) : (flatK E.enc E.k d).toList = E.flat d.toList := by
  refine List.ext_getElem? fun t => ?_
  rcases Nat.lt_or_ge t (d.size * E.k) with h | h
  · have hq : t / E.k < d.size := Nat.div_lt_of_lt_mul (by rwa [Nat.mul_comm])
    have hr : t % E.k < E.k := Nat.mod_lt _ E.k0
    have h1 := get_flatK E.enc E.k d t h
    have h2 : (flatK E.enc E.k d)[t]? = some ((flatK E.enc E.k d)[t]!) := by rw [getElem!_pos (flatK E.enc E.k d) t (by simpa using h)]; exact Array.getElem?_eq_getElem _
    rw [Array.getElem?_toList, h2, h1]
    have hd : d.toList[t / E.k]? = some (d[t / E.k]!) := by rw [Array.getElem?_toList, getElem!_pos d _ hq]; exact Array.getElem?_eq_getElem hq
    have hu : (E.enc d[t / E.k]!)[t % E.k]? = some ((E.enc d[t / E.k]!)[t % E.k]!) := by
      have hl : t % E.k < (E.enc d[t / E.k]!).length := by rw [E.hk]; exact hr
      rw [getElem!_pos (E.enc (d[t / E.k]!)) (t % E.k) hl]; exact List.getElem?_eq_getElem hl
    have := E.flat_get d.toList (t / E.k) _ hd (t % E.k) _ hu
    rw [Nat.div_add_mod'] at this
    exact this.symm
  · rw [List.getElem?_eq_none (by simpa using h), List.getElem?_eq_none (by rw [E.flat_length]; simpa using h)]

theorem heap_mapBlock (w : World) (g : Nat) (f : Array Value → Array Value) (k : Nat) : (mapBlock w g f).heap[k]? = if g = k then w.heap[k]?.map (onCells f) else w.heap[k]? := by
  unfold mapBlock
  exact Array.getElem?_modify

theorem own_holds [Inhabited β] {base g n c : Nat} {T : TypeId} (h : w.ownsRow base T E.k (.slice (some ⟨g, 0, none⟩) n c) n (E.flat ys)) (hn : ys.length = n) : HoldsK E.enc E.k w g 0 ys.toArray := by
  intro j hj
  have hj' : j < ys.length * E.k := by simpa using hj
  rcases h.2 with ⟨hv, -⟩ | ⟨g', cap, cur, hv, -, hg, -⟩
  · cases hv
  · injection hv with h1 h2 h3
    injection h1 with h1
    injection h1 with h1
    subst h1
    refine ⟨?_, by rw [Nat.zero_add]; exact Lib.frozen_of_heap hg j⟩
    have hu : (E.flat ys)[j]? = some ((flatK E.enc E.k ys.toArray)[j]!) := by
      have h2 : (flatK E.enc E.k ys.toArray)[j]? = some ((flatK E.enc E.k ys.toArray)[j]!) := by rw [getElem!_pos (flatK E.enc E.k ys.toArray) j (by simpa using hj')]; exact Array.getElem?_eq_getElem _
      rw [← h2, ← Array.getElem?_toList, toList_flatK]
    have := h.cells (g := g) rfl j _ hu
    rw [add_plain] at this
    rw [Nat.zero_add]
    exact this

theorem own_sorted [Inhabited β] {base : Nat} {T : TypeId} {g n c m : Nat} {d : Array β} {os : Array Obj} (h : w.ownsRow base T E.k (.slice (some ⟨g, 0, none⟩) n c) n (E.flat ys)) (hn : ys.length = n) (hd : d.size = n) :
    (sortWorldK E.enc E.k w g 0 m d os).ownsRow base T E.k (.slice (some ⟨g, 0, none⟩) n c) n (E.flat d.toList) ∧ w.grownBy (sortWorldK E.enc E.k w g 0 m d os) (some g) := by
  rcases h.2 with ⟨hv, -⟩ | ⟨g', cap, cur, hv, hb, hg, hnc, hcm, hcs, ht⟩
  · cases hv
  · injection hv with h1 h2 h3
    injection h1 with h1
    injection h1 with h1
    subst h1
    subst h3
    have hgl : g < w.heap.size := (Array.getElem?_eq_some_iff.1 hg).1
    have hheap : ∀ k, k < w.heap.size → (sortWorldK E.enc E.k w g 0 m d os).heap[k]? = (mapBlock w g (putCells id 0 (flatK E.enc E.k d))).heap[k]? := fun k hk => by
      have : (sortWorldK E.enc E.k w g 0 m d os).heap = (mapBlock w g (putCells id 0 (flatK E.enc E.k d))).heap ++ os := rfl
      rw [this, Array.getElem?_append_left (by unfold mapBlock; simpa using hk)]
    refine ⟨⟨by rw [E.flat_length]; simp [hd], .inr ⟨g, c, putCells id 0 (flatK E.enc E.k d) cur, rfl, hb, ?_, hnc, hcm, by simp [putCells, hcs], ?_⟩⟩, ⟨rfl, rfl, rfl, ?_, fun k hk hne => ?_⟩⟩
    · rw [hheap g hgl, heap_mapBlock, if_pos rfl, hg]
      rfl
    · rw [← toList_flatK]
      refine List.ext_getElem? fun t => ?_
      rw [List.getElem?_take, Array.getElem?_toList, Array.getElem?_toList]
      have hle : n * E.k ≤ c * E.k := Nat.mul_le_mul_right _ hnc
      by_cases htn : t < n * E.k
      · have hF : t < (flatK E.enc E.k d).size := by simpa [hd] using htn
        have hcu : cur[t]? = some (cur[t]!) := by rw [getElem!_pos cur t (by omega)]; exact Array.getElem?_eq_getElem (by omega)
        rw [if_pos htn, putCells, Array.getElem?_mapIdx, hcu]
        simp only [Option.map_some, Nat.zero_le, true_and, Nat.zero_add, if_pos hF, Nat.sub_zero, id]
        rw [getElem!_pos (flatK E.enc E.k d) t hF]
        exact (Array.getElem?_eq_getElem hF).symm
      · rw [if_neg htn, Array.getElem?_eq_none (by simpa [hd] using htn)]
    · have : (sortWorldK E.enc E.k w g 0 m d os).heap = (mapBlock w g (putCells id 0 (flatK E.enc E.k d))).heap ++ os := rfl
      rw [this]; unfold mapBlock; simp
    · rw [hheap k hk, heap_mapBlock, if_neg (fun e => hne (by rw [e]))]

/-- No later one is less than one ahead of it. -/
def Risen (cf : β → β → Int) (l : List β) : Prop := ∀ (i j : Nat) (x y : β), i < j → l[i]? = some x → l[j]? = some y → ¬ cf y x < 0

theorem sort_gen [Inhabited β] (L : SlLaysF0.n6 P ρ) (aE : ∀ w, (isAgg (ρ.t 24)).run P w = .ok true w) (zE : ∀ w, (Go.sizeOf (ρ.t 24)).run P w = .ok E.k w) (cf : β → β → Int) (hO : SWO (ltOf cf)) (g : Nat) (cb : Array Value) {base : Nat} {T : TypeId}
    (eg : ∀ args w, (callFunc g args).run P w = .ok (.enter g args) w) (hcmp : ∀ W x y, Calls P g (#[.agg (E.enc x).toArray, .agg (E.enc y).toArray] ++ cb) W fun e w' => e = .returned (.int .i64 (cf x y)) ∧ More W w')
    (h : w.ownsRow base T E.k v ys.length (E.flat ys)) (hsz : ys.length < 4611686018427387904) :
    Calls P (ρ.f 6) #[v, .func (.func g) #[] cb] w fun e w' => e = .returned (.tuple #[]) ∧ ∃ zs, zs.Perm ys ∧ Risen cf zs ∧ w'.ownsRow base T E.k v ys.length (E.flat zs) ∧ w.grownBy w' v.ownBlock := by
  rcases h.2 with ⟨rfl, h0⟩ | ⟨b, cap, cur, rfl, hb, hg, -⟩
  · refine (AnyF.slices_SortFunc_none L none 0 _ w).mono ?_
    rintro e w' ⟨rfl, rfl⟩
    exact ⟨rfl, ys, List.Perm.refl _, (by rw [List.eq_nil_of_length_eq_zero h0]; intro i j x y _ hx; simp at hx), h, ⟨rfl, rfl, rfl, Nat.le_refl _, fun _ _ _ => rfl⟩⟩
  · have hgl : b < w.heap.size := (Array.getElem?_eq_some_iff.1 hg).1
    have hC : CmpLays P g cb E.enc E.k cf b 0 ys.toArray.size w := fun m os dk _ x y => hcmp _ x y
    have hS := AnyQ.slices_SortFunc L E.k aE zE E.enc E.hk E.one cf hO g cb b 0 cap ys.toArray w eg hC (own_holds h rfl) hgl (by simpa using hsz)
    simp only [List.size_toArray] at hS
    refine hS.mono ?_
    rintro e w' ⟨rfl, d', n, os, hperm, hsort, rfl⟩
    have hd : d'.size = ys.length := by simpa using hperm.1
    have hx : d'.extract 0 ys.length = d' := by rw [← hd]; simp
    obtain ⟨ho, hgr⟩ := own_sorted (m := n) (os := os) h rfl hd
    refine ⟨rfl, d'.toList, ?_, ?_, ho, hgr⟩
    · have := hperm.2.2
      rw [hx] at this
      simpa using this
    · intro i j x y hij hx hy
      have hj : j < d'.size := by have := (List.getElem?_eq_some_iff.1 hy).1; simpa using this
      have := hsort i j (Nat.zero_le _) hij (by omega)
      rw [getElem!_pos d' j hj, getElem!_pos d' i (by omega)] at this
      have e1 : d'[i]'(by omega) = x := by have := (List.getElem?_eq_some_iff.1 hx).2; simpa using this
      have e2 : d'[j] = y := by have := (List.getElem?_eq_some_iff.1 hy).2; simpa using this
      rw [e1, e2] at this
      simpa [ltOf] using this
end
end Go.Proofs.YthpcedficlhanaaGreatDoor
