/- tipset.New, in one contract; what it answers for blocks in another order. -/
import Derived.Test.YthpcedficlhanaaGreatDoorHas
import Derived.Test.YthpcedficlhanaaGreatDoorGen
namespace Go.Proofs.YthpcedficlhanaaGreatDoor
open Go.RowKit

section
variable {zs zs' : List LB}
theorem vals_get (h : vals zs = vals zs') (i : Nat) : (zs[i]?).map LB.val = (zs'[i]?).map LB.val := by
  have : (vals zs)[i]? = (vals zs')[i]? := by rw [h]
  simpa [vals] using this
theorem vals_length (h : vals zs = vals zs') : zs.length = zs'.length := by simpa [vals] using congrArg List.length h
theorem vals_ids (h : vals zs = vals zs') : zs.map LB.id = zs'.map LB.id := by
  have := congrArg (List.map Prod.fst) h
  simpa [vals, LB.val, Function.comp_def] using this
theorem minerC_of_vals (zs : List LB) (i : Nat) (m : Int) : minerC zs i m = (((vals zs).take i).filter fun v => decide (v.2.miner = m)).length := by
  unfold minerC vals
  rw [← List.map_take, List.filter_map, List.length_map]
  rfl
theorem fits_vals {a b a' b' : Option LB} (h : a.map LB.val = a'.map LB.val) (h' : b.map LB.val = b'.map LB.val) : fits? a b = fits? a' b' := by
  cases a <;> cases a' <;> cases b <;> cases b' <;> simp only [Option.map_some, Option.map_none, Option.some.injEq, LB.val, Prod.mk.injEq, reduceCtorEq, fits?] at h h' ⊢
  unfold fitsB
  rw [h.1, h.2, h'.1, h'.2]
theorem goodN_vals (h : vals zs = vals zs') : ∀ i, goodN zs i = goodN zs' i
  | 0 => by simp only [goodN, vals_length h]
  | i + 1 => by
    rw [goodN, goodN, goodN_vals h i, fits_vals (vals_get h (i - 1)) (vals_get h i)]
    congr 2
    have hi := vals_get h i
    cases hx : zs[i]? <;> cases hy : zs'[i]? <;> rw [hx, hy] at hi <;> simp only [Option.map_some, Option.map_none, Option.some.injEq, reduceCtorEq] at hi ⊢
    rw [minerC_of_vals, minerC_of_vals, h]
    have : _ = _ := congrArg Prod.snd hi
    simp only [LB.val] at this
    rw [this]
theorem goodB_vals (h : vals zs = vals zs') : goodB zs = goodB zs' := by unfold goodB; rw [vals_length h, goodN_vals h]
theorem goodN_adj : ∀ (n : Nat), goodN zs n = true → ∀ p x y, p + 1 < n → zs[p]? = some x → zs[p + 1]? = some y → x.id ≠ y.id
  | 0, _, p, _, _, hp, _, _ => by omega
  | n + 1, h, p, x, y, hp, hx, hy => by
    rw [goodN] at h
    simp only [Bool.and_eq_true] at h
    obtain ⟨⟨h1, -⟩, h3⟩ := h
    rcases Nat.lt_or_ge (p + 1) n with hl | hl
    · exact goodN_adj n h1 p x y hl hx hy
    · obtain rfl : n = p + 1 := by omega
      rw [show p + 1 - 1 = p by omega, hx, hy] at h3
      simp [fits?, fitsB] at h3
      exact h3.1
theorem good_nodup (hr : Risen cmpL zs) (hg : goodB zs = true) : (zs.map LB.id).Nodup := by
  unfold List.Nodup
  rw [List.pairwise_map, List.pairwise_iff_getElem]
  intro i j hi hj hij he
  have h1 : i + 1 < zs.length := by omega
  have ha := goodN_adj zs.length hg i _ _ h1 (List.getElem?_eq_getElem hi) (List.getElem?_eq_getElem h1)
  have hb := hr i (i + 1) _ _ (by omega) (List.getElem?_eq_getElem hi) (List.getElem?_eq_getElem h1)
  have hc : ¬ cmpL zs[i] zs[i + 1] < 0 := by
    rcases Nat.lt_or_ge (i + 1) j with hl | hl
    · have := hr (i + 1) j _ _ hl (List.getElem?_eq_getElem h1) (List.getElem?_eq_getElem hj)
      unfold cmpL at this ⊢
      rw [he]; exact this
    · obtain rfl : j = i + 1 := by omega
      exact absurd he ha
  unfold cmpL at hb hc
  have := cmpI_swap zs[i].id zs[i + 1].id
  exact ha (cmpI_zero _ _ (by omega))
end
/-- Pairs in the order of their names. -/
theorem pairs_eq {α β : Type} : ∀ {p q : List (α × β)}, p.Perm q → p.map Prod.fst = q.map Prod.fst → (p.map Prod.fst).Nodup → p = q
  | [], [], _, _, _ => rfl
  | [], _ :: _, h, _, _ => by have := h.length_eq; simp at this
  | _ :: _, [], h, _, _ => by have := h.length_eq; simp at this
  | (a, x) :: p, (b, y) :: q, h, he, hn => by
    simp only [List.map_cons, List.cons.injEq] at he
    obtain ⟨rfl, he⟩ := he
    simp only [List.map_cons, List.nodup_cons] at hn
    have hxy : x = y := by
      have : (a, x) ∈ (a, y) :: q := h.mem_iff.1 (List.mem_cons_self)
      rcases List.mem_cons.1 this with e | hm
      · exact congrArg Prod.snd e
      · exact absurd (by rw [he]; exact List.mem_map.2 ⟨_, hm, rfl⟩) hn.1
    subst hxy
    rw [pairs_eq (List.Perm.cons_inv h) he hn.2]
/-- What New answers. -/
def Newed (l : List LB) (ec : Int) (zs : List LB) : Prop :=
  (5 < l.length ∧ ec = 4 ∧ zs = []) ∨ (l.length ≤ 5 ∧ ∃ z, z.Perm l ∧ Risen cmpL z ∧ ((goodB z = true ∧ ec = 0 ∧ zs = z) ∨ (goodB z = false ∧ ec = 15 ∧ zs = [])))
theorem Newed.nodup {l zs : List LB} {ec : Int} (h : Newed l ec zs) : (zs.map LB.id).Nodup := by
  rcases h with ⟨-, -, rfl⟩ | ⟨-, z, -, hr, ⟨hg, -, rfl⟩ | ⟨-, -, rfl⟩⟩
  · simp
  · exact good_nodup hr hg
  · simp
theorem Newed.mem {l zs : List LB} {ec : Int} (h : Newed l ec zs) : ∀ x ∈ zs, x ∈ l := by
  rcases h with ⟨-, -, rfl⟩ | ⟨-, z, hp, hr, ⟨hg, -, rfl⟩ | ⟨-, -, rfl⟩⟩
  · simp
  · exact fun x hx => hp.mem_iff.1 hx
  · simp
theorem sorted_ids {l z : List LB} (hp : z.Perm l) (hr : Risen cmpL z) : z.map LB.id = sortI (l.map LB.id) :=
  sortI_risen (hp.map _) fun i j x y hij hx hy => by
    rw [List.getElem?_map] at hx hy
    obtain ⟨a, ha, rfl⟩ := Option.map_eq_some_iff.1 hx
    obtain ⟨b, hb, rfl⟩ := Option.map_eq_some_iff.1 hy
    exact hr i j a b hij ha hb
theorem good_perm {l l' z z' : List LB} (hv : (vals l).Perm (vals l')) (hp : z.Perm l) (hp' : z'.Perm l') (hr : Risen cmpL z) (hr' : Risen cmpL z') (hg : goodB z = true) : vals z = vals z' := by
  have hi : (vals z).map Prod.fst = z.map LB.id := by simp [vals, LB.val, Function.comp_def]
  have hi' : (vals z').map Prod.fst = z'.map LB.id := by simp [vals, LB.val, Function.comp_def]
  have hv1 : (l.map LB.id).Perm (l'.map LB.id) := by
    have := hv.map Prod.fst
    simpa [vals, LB.val, Function.comp_def] using this
  refine pairs_eq (((hp.map LB.val).trans hv).trans (hp'.map LB.val).symm) ?_ (by rw [hi]; exact good_nodup hr hg)
  rw [hi, hi', sorted_ids hp hr, sorted_ids hp' hr', sortI_of_perm hv1]
theorem Newed.same {l l' zs zs' : List LB} {ec ec' : Int} (h : Newed l ec zs) (h' : Newed l' ec' zs') (hv : (vals l).Perm (vals l')) : ec = ec' ∧ vals zs = vals zs' := by
  have hl : l.length = l'.length := by simpa [vals] using hv.length_eq
  rcases h with ⟨h5, rfl, rfl⟩ | ⟨h5, z, hp, hr, hz⟩ <;> rcases h' with ⟨h5', rfl, rfl⟩ | ⟨h5', z', hp', hr', hz'⟩
  · exact ⟨rfl, rfl⟩
  · omega
  · omega
  · rcases hz with ⟨hg, rfl, rfl⟩ | ⟨hg, rfl, rfl⟩ <;> rcases hz' with ⟨hg', rfl, rfl⟩ | ⟨hg', rfl, rfl⟩
    · exact ⟨rfl, good_perm hv hp hp' hr hr' hg⟩
    · have := good_perm hv hp hp' hr hr' hg
      rw [goodB_vals this, hg'] at hg; cases hg
    · have := good_perm hv.symm hp' hp hr' hr hg'
      rw [goodB_vals this, hg] at hg'; cases hg'
    · exact ⟨rfl, rfl⟩
theorem new_any (w : World) (v : Value) (l : List LB) (ok : Nat → Prop) (hl : Sl lbE ok w v l) (hok : Okay ok w l) :
    Calls Tryz.prog 21 #[v] w fun e w' => ∃ ec zs t, Newed l ec zs ∧ e = .returned (.tuple #[tipV t, .int .i64 ec]) ∧ TipAt (fun k => w.heap.size ≤ k) w' t zs ∧ Below w.heap.size w w' := by
  rcases Nat.lt_or_ge 5 l.length with h5 | h5
  · exact (new_big w v l ok hl h5).mono fun e w' ⟨he, hb⟩ => ⟨4, [], .slice none 0 0, .inl ⟨h5, rfl, rfl⟩, he, ⟨Sl.nil _ _ _, by simp⟩, hb⟩
  · refine (new_few w v l ok hl hok h5).mono fun e w' ⟨z, t, hp, hr, hb, hz⟩ => ?_
    rcases hz with ⟨hg, he, hs⟩ | ⟨hg, he⟩
    · exact ⟨0, z, t, .inr ⟨h5, z, hp, hr, .inl ⟨hg, rfl, rfl⟩⟩, he, ⟨hs, by have := hp.length_eq; omega⟩, hb⟩
    · exact ⟨15, [], .slice none 0 0, .inr ⟨h5, z, hp, hr, .inr ⟨hg, rfl, rfl⟩⟩, he, ⟨Sl.nil _ _ _, by simp⟩, hb⟩
section
variable {zs zs' : List LB}
theorem winsN_vals (h : vals zs = vals zs') : winsN zs zs.length = winsN zs' zs'.length := by
  have e (z : List LB) : winsN z z.length = ((vals z).map fun v => v.2.wins).sum := by unfold winsN vals; rw [List.take_length, List.map_map]; rfl
  rw [e, e, h]
theorem ticketN_vals (h : vals zs = vals zs') : ticketN zs zs.length = ticketN zs' zs'.length := by
  have e (z : List LB) (s : ByteArray) : z.foldl (fun s b => minT s b.x.h.ticket) s = (vals z).foldl (fun s v => minT s v.2.ticket) s := by unfold vals; rw [List.foldl_map]; rfl
  unfold ticketN
  rw [List.take_length, List.take_length, e, e, h]
  congr 1
  cases zs with
  | nil => cases zs' with | nil => rfl | cons b l => cases h
  | cons a l => cases zs' with
    | nil => cases h
    | cons b m =>
      have : a.val = b.val := by injection h
      show a.x.h.ticket = b.x.h.ticket
      exact congrArg (fun v => v.2.ticket) this
theorem keyB_vals (h : vals zs = vals zs') : keyB (zs.map LB.id) = keyB (zs'.map LB.id) := by rw [vals_ids h]
end
end Go.Proofs.YthpcedficlhanaaGreatDoor
