/- The document's dag in plain words: what it answers to a header is what the program answers. No program in sight. coxswainref05.ID; coxswainref13.Make, Genesis. -/
import Derived.Test.YtcohdfkdhdhegaaGreatDoorPbAK
import Derived.Test.YtcohdfkdhdhegaaGreatDoorPbAL
import Derived.Test.YtcohdfkdhdhegaaGreatDoorPbAO
import Derived.Test.YtcohdfkdhdhegaaGreatDoorPbAP
import Derived.Test.YtcohdfkdhdhegaaGreatDoorPbAR
namespace Go.Proofs.YtcohdfkdhdhegaaGreatDoor

/-- A header's name, as the document tells it. -/
def rid (h : RH) : ID := shaF (rhdrB h)
/-- Do texts rise? -/
def riseS : List ByteArray → Bool
  | x :: y :: l => ltS x y && riseS (y :: l)
  | _ => true
theorem riseS_iff (l : List ByteArray) : riseS l = true ↔ ∀ i x y, l[i]? = some x → l[i + 1]? = some y → ltS x y = true := by
  induction l with
  | nil => simp [riseS]
  | cons x l ih =>
    cases l with
    | nil => simp [riseS]
    | cons y l =>
      simp only [riseS, Bool.and_eq_true, ih]
      constructor
      · rintro ⟨h0, h⟩ i a b ha hb
        cases i with
        | zero => simp at ha hb; subst ha; subst hb; exact h0
        | succ i => exact h i a b (by simpa using ha) (by simpa using hb)
      · intro h
        exact ⟨h 0 x y rfl rfl, fun i a b ha hb => h (i + 1) a b (by simpa using ha) (by simpa using hb)⟩
def rcheck5 (h : RH) : Int :=
  if h.parents.length > 5 then 4
  else if (1 ≤ h.height ∧ h.height ≤ 1073741824) ∧ (0 ≤ h.miner ∧ h.miner ≤ 63) ∧ (1 ≤ h.ticket.size ∧ h.ticket.size ≤ 8) ∧ (1 ≤ h.wins ∧ h.wins ≤ 15) ∧ (0 ≤ h.salt ∧ h.salt ≤ 1073741824) ∧ (2 ≤ h.power ∧ h.power ≤ 4611686018427387904) ∧ h.parents.length ≠ 0 ∧ riseS h.parents = true then 0
  else 1
/-- Its parents are names. -/
def Whole (h : RH) : Prop := ∀ s ∈ h.parents, s.size = 32
theorem lt_name {a b : ByteArray} (ha : a.size = 32) (hb : b.size = 32) : ltS a b = decide (cmpI (idOf a) (idOf b) < 0) := by
  rw [ltS, bl_cmp, cmpI, cmpB, idOf_self a ha, idOf_self b hb, ByteArray.toList_eq, ByteArray.toList_eq]
theorem rise_names {l : List ByteArray} (h : ∀ s ∈ l, s.size = 32) : riseB (l.map idOf) = riseS l := by
  induction l with
  | nil => rfl
  | cons x l ih =>
    cases l with
    | nil => rfl
    | cons y l =>
      simp only [List.map_cons, riseB, riseS]
      rw [lt_name (h x (by simp)) (h y (by simp)), ← ih fun s hs => h s (List.mem_cons_of_mem _ hs)]
      rfl
theorem check_of {h : RH} (hw : Whole h) : checkH (hdrOf h) = rcheck5 h := by
  unfold checkH rcheck5
  simp only [hdrOf, List.length_map, rise_names hw]
theorem join_names {l : List ByteArray} (h : ∀ s ∈ l, s.size = 32) : joinI (l.map idOf) = joinS l := by
  induction l with
  | nil => rfl
  | cons x l ih =>
    have h1 := ih fun s hs => h s (List.mem_cons_of_mem _ hs)
    have h2 := idOf_self x (h x (by simp))
    unfold joinI joinS at *
    rw [List.map_cons, List.flatMap_cons, List.flatMap_cons, h1, h2]
theorem bytes_of {h : RH} (hw : Whole h) (h0 : 0 ≤ h.power) (h1 : h.power ≤ 4611686018427387904) : hdrB (hdrOf h) = rhdrB h := by
  have hp : IntKind.i64.wrap h.power = h.power := IntWalk.i64_in _ (by omega)
  have hj := join_names hw
  unfold hdrB rhdrB
  rw [hp]
  simp only [hdrOf, List.length_map, hj, List.append_assoc]
theorem id_of {h : RH} (hw : Whole h) (h0 : 0 ≤ h.power) (h1 : h.power ≤ 4611686018427387904) : hdrID (hdrOf h) = rid h := by
  rw [hdrID, bytes_of hw h0 h1, rid]
theorem rcheck_parts {h : RH} (e : rcheck5 h = 0) : riseS h.parents = true ∧ 1 ≤ h.parents.length ∧ h.parents.length ≤ 5 ∧ 2 ≤ h.power ∧ h.power ≤ 4611686018427387904 := by
  unfold rcheck5 at e
  split at e
  · cases e
  · split at e
    · rename_i h5 hc
      exact ⟨hc.2.2.2.2.2.2.2, by have := hc.2.2.2.2.2.2.1; omega, by omega, hc.2.2.2.2.2.1.1, hc.2.2.2.2.2.1.2⟩
    · cases e
/-- What a header in the list is. -/
structure InL (h : RH) : Prop where
  whole : Whole h
  p0 : 0 ≤ h.power
  p1 : h.power ≤ 4611686018427387904
  rise : riseS h.parents = true
theorem InL.id {h : RH} (k : InL h) : hdrID (hdrOf h) = rid h := id_of k.whole k.p0 k.p1
/-- The block of a name. -/
def rget (L : List RH) (n : ByteArray) : Option RH := L.find? fun x => decide ((rid x).1 = n)
def rhas (L : List RH) (n : ByteArray) : Bool := L.any fun x => decide ((rid x).1 = n)
theorem rget_some {L : List RH} {n : ByteArray} {x : RH} (h : rget L n = some x) : x ∈ L ∧ (rid x).1 = n := by
  have h1 := List.mem_of_find?_eq_some h
  have h2 := List.find?_some h
  exact ⟨h1, by simpa using h2⟩
theorem rget_has (L : List RH) (n : ByteArray) : (rget L n).isSome = rhas L n := by
  unfold rget rhas
  induction L with
  | nil => rfl
  | cons x L ih =>
    rw [List.find?_cons, List.any_cons]
    cases h : decide ((rid x).1 = n)
    · simpa using ih
    · rfl
theorem has_of {L : List RH} (hL : ∀ x ∈ L, InL x) (i : ID) : hasG (L.map hdrOf) i = rhas L i.1 := by
  unfold hasG rhas
  rw [List.any_map]
  refine any_congr fun x hx => ?_
  simp only [Function.comp]
  rw [(hL x hx).id]
  exact decide_eq_decide.2 ⟨fun h => by rw [h], fun h => Subtype.ext h⟩
theorem get_of {L : List RH} (hL : ∀ x ∈ L, InL x) (i : ID) : getG (L.map hdrOf) i = (rget L i.1).map hdrOf := by
  unfold getG rget
  rw [List.find?_map]
  congr 1
  refine find_congr fun x hx => ?_
  simp only [Function.comp]
  rw [(hL x hx).id]
  exact decide_eq_decide.2 ⟨fun h => by rw [h], fun h => Subtype.ext h⟩
/-- Those of names, if all are there. -/
def rheads (L : List RH) (ns : List ByteArray) : Option (List RH) := if ns.all (rhas L) then some (ns.filterMap (rget L)) else none
/-- A family, as the document tells it. -/
def rfam (h : RH) : List UInt8 := numB h.height.toNat ++ numB (IntKind.i64.wrap h.power).toNat ++ textB ⟨(joinS (sortT h.parents)).toArray⟩
def rbad (l : List RH) : Bool := (List.range l.length).any fun i => (List.range l.length).any fun k => match l[i]?, l[k]? with | some a, some b => decide (rfam a ≠ rfam b) || (decide (i ≠ k) && decide (a.miner = b.miner)) | _, _ => false
def rcheck8 (l : List RH) : Int := if l.length > 5 then 4 else if l.length = 0 then 15 else if rbad l then 15 else 0
def rheight (l : List RH) : Int := match l with | x :: _ => x.height | [] => 0
def rcheckF (L : List RH) (h : RH) : Int :=
  if rcheck5 h ≠ 0 then rcheck5 h
  else if rhas L (rid h).1 then 9
  else match rheads L h.parents with
    | none => 7
    | some p => if rcheck8 p ≠ 0 then 10 else if rheight p ≥ h.height then 11 else 0
/-! ### families -/
theorem insT_last {s : ByteArray} : ∀ {l : List ByteArray}, (∀ t ∈ l, ltS t s = true) → insT s l = l ++ [s]
  | [], _ => rfl
  | t :: l, h => by
    have h1 := h t (by simp)
    have h2 : leS s t = false := by
      cases e : leS s t
      · rfl
      · have h3 : ltS s s = true := by
          unfold leS at e
          rw [Bool.or_eq_true] at e
          rcases e with e | e
          · exact ltS_trans e h1
          · rw [beq_iff_eq] at e
            have : s = t := by
              rw [ByteArray.toList_eq, ByteArray.toList_eq] at e
              exact ByteArray.ext (Array.toList_inj.1 e)
            rw [← this] at h1
            exact h1
        rw [ltS_irrefl] at h3; cases h3
    have h4 : ltS s t = false := ltS_le h2
    unfold insT
    simp only [h2, h4, Bool.false_eq_true, if_false]
    rw [insT_last fun u hu => h u (List.mem_cons_of_mem _ hu)]
    rfl
theorem rise_pairwise {l : List ByteArray} (h : riseS l = true) : l.Pairwise fun a b => ltS a b = true := by
  induction l with
  | nil => exact List.Pairwise.nil
  | cons x l ih =>
    cases l with
    | nil => exact List.pairwise_singleton _ _
    | cons y l =>
      simp only [riseS, Bool.and_eq_true] at h
      have h2 := ih h.2
      refine List.Pairwise.cons (fun z hz => ?_) h2
      rcases List.mem_cons.1 hz with rfl | hz
      · exact h.1
      · exact ltS_trans h.1 (List.rel_of_pairwise_cons h2 hz)
theorem sortT_rise {l : List ByteArray} (h : l.Pairwise fun a b => ltS a b = true) : sortT l = l := by
  have key : ∀ (m o : List ByteArray), (o ++ m).Pairwise (fun a b => ltS a b = true) → m.foldl (fun o s => insT s o) o = o ++ m := by
    intro m
    induction m with
    | nil => intro o _; simp
    | cons s m ih =>
      intro o ho
      rw [List.foldl_cons]
      rw [List.pairwise_append] at ho
      rw [insT_last fun t ht => ho.2.2 t ht s (by simp)]
      rw [ih (o ++ [s]) (by
        rw [List.append_assoc, List.pairwise_append]
        exact ho)]
      simp
  have := key l [] (by simpa using h)
  simpa [sortT] using this
theorem fam_of {h : RH} (k : InL h) : famB (hdrOf h) = rfam h := by
  have hp : IntKind.i64.wrap h.power = h.power := IntWalk.i64_in _ (by have := k.p0; have := k.p1; omega)
  have hr : riseB (h.parents.map idOf) = true := by rw [rise_names k.whole]; exact k.rise
  have hs : sortT h.parents = h.parents := sortT_rise (rise_pairwise k.rise)
  have hk : keyB (h.parents.map idOf) = ⟨(joinS h.parents).toArray⟩ := by rw [keyB, sortI_rise hr, join_names k.whole]
  unfold famB rfam
  rw [hp, hs]
  simp only [hdrOf, hk]
theorem famS_eq {a b : RH} (ka : InL a) (kb : InL b) : famS (hdrOf a) = famS (hdrOf b) ↔ rfam a = rfam b := by
  unfold famS
  rw [fam_of ka, fam_of kb]
  constructor
  · intro h
    have := congrArg (fun s : ByteArray => s.data.toList) h
    simpa using this
  · intro h; rw [h]

/-! ### tipsets -/
theorem minerC_one {zs : List LB} {i : Nat} {x : LB} (hx : zs[i]? = some x) : minerC zs (i + 1) x.x.h.miner = 1 ↔ ∀ k y, k < i → zs[k]? = some y → y.x.h.miner ≠ x.x.h.miner := by
  rw [minerC_succ zs i x hx, if_pos rfl]
  have h0 : minerC zs i x.x.h.miner + 1 = 1 ↔ minerC zs i x.x.h.miner = 0 := by omega
  rw [h0]
  unfold minerC
  rw [List.length_eq_zero_iff, List.filter_eq_nil_iff]
  constructor
  · intro h k y hk hy e
    have hm : y ∈ zs.take i := List.mem_of_getElem? (i := k) (by rw [List.getElem?_take_of_lt hk]; exact hy)
    exact h y hm (by simpa using e)
  · intro h y hm e
    obtain ⟨k, hk, he⟩ := List.getElem_of_mem hm
    rw [List.length_take] at hk
    refine h k y (by omega) ?_ (by simpa using e)
    have h1 : (zs.take i)[k]? = some y := by rw [List.getElem?_eq_getElem (by rw [List.length_take]; exact hk), he]
    rwa [List.getElem?_take_of_lt (by omega)] at h1
theorem goodN_iff {zs : List LB} : ∀ {n : Nat}, goodN zs n = true ↔ 0 < zs.length ∧ ∀ i, i < n → ∃ x, zs[i]? = some x ∧ minerC zs (i + 1) x.x.h.miner = 1 ∧ (i = 0 ∨ fits? zs[i - 1]? zs[i]? = true)
  | 0 => by simp [goodN]
  | n + 1 => by
    unfold goodN
    rw [Bool.and_eq_true, Bool.and_eq_true, goodN_iff (n := n), Bool.or_eq_true, decide_eq_true_eq]
    constructor
    · rintro ⟨⟨⟨h0, h1⟩, h2⟩, h3⟩
      refine ⟨h0, fun i hi => ?_⟩
      rcases Nat.lt_or_eq_of_le (Nat.le_of_lt_succ hi) with h | h
      · exact h1 i h
      · subst h
        cases hx : zs[i]? with
        | none => rw [hx] at h2; cases h2
        | some x =>
          rw [hx] at h2 h3
          exact ⟨x, rfl, by simpa using h2, h3⟩
    · rintro ⟨h0, h1⟩
      obtain ⟨x, hx, hm, hf⟩ := h1 n (Nat.lt_succ_self n)
      refine ⟨⟨⟨h0, fun i hi => h1 i (by omega)⟩, ?_⟩, hf⟩
      rw [hx]
      simpa using hm
theorem goodB_iff {zs : List LB} : goodB zs = true ↔ 0 < zs.length ∧ ∀ i x, zs[i]? = some x → (∀ k y, k < i → zs[k]? = some y → y.x.h.miner ≠ x.x.h.miner) ∧ (∀ k y, k + 1 = i → zs[k]? = some y → fitsB y x = true) := by
  unfold goodB
  rw [goodN_iff]
  refine and_congr_right fun _ => ⟨fun h i x hx => ?_, fun h i hi => ?_⟩
  · obtain ⟨x', hx', hm, hf⟩ := h i (List.getElem?_eq_some_iff.1 hx).1
    rw [hx] at hx'
    injection hx' with e
    subst e
    refine ⟨(minerC_one hx).1 hm, fun k y hk hy => ?_⟩
    rcases hf with hf | hf
    · omega
    · subst hk
      rw [Nat.add_sub_cancel, hy, hx] at hf
      exact hf
  · obtain ⟨x, hx⟩ : ∃ x, zs[i]? = some x := ⟨_, List.getElem?_eq_getElem hi⟩
    obtain ⟨h1, h2⟩ := h i x hx
    refine ⟨x, hx, (minerC_one hx).2 h1, ?_⟩
    rcases Nat.eq_zero_or_pos i with h0 | h0
    · exact .inl h0
    · obtain ⟨y, hy⟩ : ∃ y, zs[i - 1]? = some y := ⟨_, List.getElem?_eq_getElem (by omega)⟩
      refine .inr ?_
      rw [hy, hx]
      exact h2 (i - 1) y (by omega) hy
theorem rbad_iff (l : List RH) : rbad l = false ↔ ∀ (i k : Nat) (a b : RH), l[i]? = some a → l[k]? = some b → rfam a = rfam b ∧ (i ≠ k → a.miner ≠ b.miner) := by
  unfold rbad
  rw [List.any_eq_false]
  constructor
  · intro h i k a b ha hb
    have h1 := h i (List.mem_range.2 (List.getElem?_eq_some_iff.1 ha).1)
    rw [Bool.not_eq_true, List.any_eq_false] at h1
    have h2 := h1 k (List.mem_range.2 (List.getElem?_eq_some_iff.1 hb).1)
    rw [ha, hb] at h2
    simpa using h2
  · intro h i hi
    rw [Bool.not_eq_true, List.any_eq_false]
    intro k hk
    obtain ⟨a, ha⟩ : ∃ a, l[i]? = some a := ⟨_, List.getElem?_eq_getElem (List.mem_range.1 hi)⟩
    obtain ⟨b, hb⟩ : ∃ b, l[k]? = some b := ⟨_, List.getElem?_eq_getElem (List.mem_range.1 hk)⟩
    have h1 := h i k a b ha hb
    rw [ha, hb]
    simpa using h1
theorem all_first {l : List RH} (h : ∀ (k : Nat) (a b : RH), l[k]? = some a → l[k + 1]? = some b → rfam a = rfam b) (a : RH) (ha : l[0]? = some a) : ∀ (k : Nat) (b : RH), l[k]? = some b → rfam a = rfam b
  | 0, b, hb => by rw [ha] at hb; injection hb with e; rw [e]
  | k + 1, b, hb => by
    obtain ⟨c, hc⟩ : ∃ c, l[k]? = some c := ⟨_, List.getElem?_eq_getElem (by have := (List.getElem?_eq_some_iff.1 hb).1; omega)⟩
    rw [all_first h a ha k c hc, h k c b hc hb]
theorem tip_of {p : List RH} (hin : ∀ x ∈ p, InL x) (hn : ∀ (k : Nat) (a b : RH), p[k]? = some a → p[k + 1]? = some b → rid a ≠ rid b) (h0 : 0 < p.length) (h5 : p.length ≤ 5) : tipB (p.map fun x => blkG (hdrOf x)) = true ↔ rcheck8 p = 0 := by
  have hr : rcheck8 p = 0 ↔ rbad p = false := by
    unfold rcheck8
    rw [if_neg (by omega), if_neg (by omega)]
    cases rbad p <;> simp
  rw [hr, rbad_iff]
  unfold tipB
  rw [goodB_iff, List.map_map, List.length_map]
  have hg : ∀ i, (p.map (toLB ∘ fun x => blkG (hdrOf x)))[i]? = (p[i]?).map (toLB ∘ fun x => blkG (hdrOf x)) := fun i => by rw [List.getElem?_map]
  have hat : ∀ i a, p[i]? = some a → InL a := fun i a ha => hin a (List.mem_of_getElem? ha)
  constructor
  · rintro ⟨-, h⟩ i k a b ha hb
    have hf : ∀ k a b, p[k]? = some a → p[k + 1]? = some b → rfam a = rfam b := fun k a b ha hb => by
      have h1 := (h (k + 1) _ (by rw [hg, hb]; rfl)).2 k _ rfl (by rw [hg, ha]; rfl)
      unfold fitsB at h1
      rw [Bool.and_eq_true, decide_eq_true_eq] at h1
      exact (famS_eq (hat _ _ ha) (hat _ _ hb)).1 h1.2
    obtain ⟨c, hc⟩ : ∃ c, p[0]? = some c := ⟨_, List.getElem?_eq_getElem h0⟩
    refine ⟨(all_first hf c hc i a ha).symm.trans (all_first hf c hc k b hb), fun hne => ?_⟩
    rcases Nat.lt_or_gt_of_ne hne with hl | hl
    · exact (h k _ (by rw [hg, hb]; rfl)).1 i _ hl (by rw [hg, ha]; rfl)
    · exact fun e => (h i _ (by rw [hg, ha]; rfl)).1 k _ hl (by rw [hg, hb]; rfl) e.symm
  · intro h
    refine ⟨h0, fun i x hx => ?_⟩
    rw [hg] at hx
    obtain ⟨a, ha, rfl⟩ := Option.map_eq_some_iff.1 hx
    refine ⟨fun k y hk hy => ?_, fun k y hk hy => ?_⟩
    · rw [hg] at hy
      obtain ⟨b, hb, rfl⟩ := Option.map_eq_some_iff.1 hy
      exact (h k i b a hb ha).2 (by omega)
    · rw [hg] at hy
      obtain ⟨b, hb, rfl⟩ := Option.map_eq_some_iff.1 hy
      subst hk
      unfold fitsB
      rw [Bool.and_eq_true, decide_eq_true_eq]
      refine ⟨?_, (famS_eq (hat _ _ hb) (hat _ _ ha)).2 (h k (k + 1) b a hb ha).1⟩
      have hne := hn k b a hb ha
      rw [Bool.not_eq_true', decide_eq_false_iff_not]
      show ¬ hdrID (hdrOf b) = hdrID (hdrOf a)
      rw [(hat _ _ hb).id, (hat _ _ ha).id]
      exact hne
theorem heads_ids {L : List RH} : ∀ {ps : List ByteArray}, (∀ n ∈ ps, n.size = 32) → (∀ n ∈ ps, rhas L n = true) → (ps.filterMap (rget L)).map rid = ps.map idOf
  | [], _, _ => rfl
  | n :: ps, hz, hh => by
    obtain ⟨x, hx⟩ := Option.isSome_iff_exists.1 ((rget_has L n).trans (hh n (by simp)))
    rw [List.filterMap_cons, hx]
    simp only [List.map_cons]
    rw [heads_ids (fun m hm => hz m (List.mem_cons_of_mem _ hm)) (fun m hm => hh m (List.mem_cons_of_mem _ hm))]
    congr 1
    exact Subtype.ext ((rget_some hx).2.trans (idOf_self n (hz n (by simp))).symm)
theorem heads_blk {L : List RH} (hL : ∀ x ∈ L, InL x) {ps : List ByteArray} (hz : ∀ n ∈ ps, n.size = 32) : (ps.map idOf).filterMap (fun i => (getG (L.map hdrOf) i).map blkG) = (ps.filterMap (rget L)).map fun x => blkG (hdrOf x) := by
  induction ps with
  | nil => rfl
  | cons n ps ih =>
    have h1 := ih fun m hm => hz m (List.mem_cons_of_mem _ hm)
    rw [List.map_cons, List.filterMap_cons, List.filterMap_cons, get_of hL, idOf_self n (hz n (by simp)), h1]
    cases rget L n <;> rfl
/-- Of names that rise the blocks are a tipset or they are none, as the list says. -/
theorem tipG_of {L : List RH} (hL : ∀ x ∈ L, InL x) {ps : List ByteArray} (hw : ∀ n ∈ ps, n.size = 32) (hr : riseS ps = true) (hl1 : 1 ≤ ps.length) (hl5 : ps.length ≤ 5) :
    tipG (L.map hdrOf) (ps.map idOf) = match rheads L ps with
      | none => (7, [])
      | some p => if rcheck8 p = 0 then (0, p.map fun x => blkG (hdrOf x)) else (15, []) := by
  have hall : (ps.map idOf).all (hasG (L.map hdrOf)) = ps.all (rhas L) := by
    rw [List.all_map, Bool.eq_iff_iff, List.all_eq_true, List.all_eq_true]
    refine forall_congr' fun n => forall_congr' fun hn => ?_
    simp only [Function.comp]
    rw [has_of hL, idOf_self n (hw n hn)]
  unfold rheads tipG
  rw [hall]
  cases ha : ps.all (rhas L)
  · rfl
  · have hb := heads_blk hL hw
    obtain ⟨p, hp⟩ : ∃ p, ps.filterMap (rget L) = p := ⟨_, rfl⟩
    have hids := heads_ids hw (List.all_eq_true.1 ha)
    rw [hp] at hb hids
    have hpl : p.length = ps.length := by simpa using congrArg List.length hids
    have hpin : ∀ x ∈ p, InL x := fun x hx => by rw [← hp] at hx; obtain ⟨n, hn, he⟩ := List.mem_filterMap.1 hx; exact hL x (rget_some he).1
    have hne : ∀ k a b, p[k]? = some a → p[k + 1]? = some b → rid a ≠ rid b := fun k a b ha' hb' e => by
      have h1 : (p.map rid)[k]? = some (rid a) := by rw [List.getElem?_map, ha']; rfl
      have h2 : (p.map rid)[k + 1]? = some (rid b) := by rw [List.getElem?_map, hb']; rfl
      have h3 : riseB (p.map rid) = true := by rw [hids, rise_names hw]; exact hr
      have := (riseB_iff _).1 h3 k _ _ h1 h2
      rw [e, cmpI_self] at this
      omega
    have htip := tip_of hpin hne (by omega) (by omega)
    rw [if_pos rfl, if_pos rfl, hb, hp]
    by_cases h8 : rcheck8 p = 0
    · rw [if_pos (htip.2 h8)]
      simp only [h8, if_true]
    · rw [if_neg (fun e => h8 (htip.1 e))]
      simp only [h8, if_false]
theorem heightV_of (p : List RH) : heightV (p.map fun x => blkG (hdrOf x)) = rheight p := by cases p <;> rfl
/-- What the list answers to a header is what the dag answers. -/
theorem checkG_of {L : List RH} (hL : ∀ x ∈ L, InL x) {h : RH} (hw : Whole h) : checkG (L.map hdrOf) (hdrOf h) = rcheckF L h := by
  unfold checkG rcheckF
  rw [check_of hw]
  by_cases hc : rcheck5 h = 0
  · obtain ⟨hr, hl1, hl5, hp0, hp1⟩ := rcheck_parts hc
    simp only [hc, ne_eq, not_true_eq_false, if_false]
    rw [id_of hw (by omega) hp1, has_of hL]
    cases hh : rhas L (rid h).1
    · simp only [Bool.false_eq_true, if_false]
      have ht : tipG (L.map hdrOf) (hdrOf h).parents = _ := tipG_of hL hw hr hl1 hl5
      rw [ht]
      cases rheads L h.parents with
      | none => rfl
      | some p =>
        by_cases h8 : rcheck8 p = 0
        · simp only [h8, if_true]
          rw [heightV_of]
          rfl
        · simp only [h8, if_false, not_false_eq_true, if_true]
    · rw [if_pos rfl, if_pos rfl]
  · rw [if_pos hc, if_pos hc]
theorem inL_of {L : List RH} {h : RH} (hw : Whole h) (e : rcheckF L h = 0) : InL h := by
  have hc : rcheck5 h = 0 := by
    unfold rcheckF at e
    by_cases h0 : rcheck5 h = 0
    · exact h0
    · rw [if_pos h0] at e; exact absurd e h0
  obtain ⟨hr, -, -, h2, h3⟩ := rcheck_parts hc
  exact ⟨hw, by omega, h3, hr⟩
def rgenH : RH := ⟨0, 0, ⟨#[]⟩, 0, 2, [], 0⟩
theorem rgen_in : InL rgenH := ⟨fun s hs => (by cases hs), by decide, by decide, rfl⟩
end Go.Proofs.YtcohdfkdhdhegaaGreatDoor
namespace Go.Proofs.YtcohdfkdhdhegaaGreatDoor
open Go.RowKit

theorem rhdrB_length {h : RH} (k : TellH h) : (rhdrB h).length ≤ 1000000 := by
  have n1 := numB_length h.height.toNat
  have n2 := numB_length h.miner.toNat
  have n3 := numB_length h.wins.toNat
  have n4 := numB_length (IntKind.i64.wrap h.power).toNat
  have n5 := numB_length h.parents.length
  have n6 := numB_length h.salt.toNat
  have n7 := numB_length h.ticket.size
  have hz : h.ticket.data.toList.length = h.ticket.size := by simp
  have ht := k.ticket
  have hj : ∀ l : List ByteArray, (∀ s ∈ l, s.size ≤ 1000) → (joinS l).length ≤ 1000 * l.length := by
    intro l
    induction l with
    | nil => intro _; exact Nat.le_refl _
    | cons s l ih =>
      intro hl
      have h1 := ih fun t ht => hl t (List.mem_cons_of_mem _ ht)
      have h2 := hl s (by simp)
      have h3 : s.data.toList.length = s.size := by simp
      unfold joinS at *
      rw [List.flatMap_cons, List.length_append, h3, List.length_cons]
      omega
  have hj2 := hj h.parents k.names
  have hp := k.parents
  have hx : (textB h.ticket).length ≤ 2000 := by rw [textB, List.length_append, hz]; omega
  unfold rhdrB
  simp only [List.length_append]
  omega

set_option maxRecDepth 100000 in
set_option maxHeartbeats 2000000 in
theorem rid_any (w : World) (x : LRH) (ok : Nat → Prop) (hx : x.At ok w) (hok : TellH x.h) :
    Calls Tryz.prog 89 #[.agg x.cells.toArray] w fun e w' => e = .returned (.string (rid x.h).1) ∧ Below w.heap.size w w' := by
  have HB0 : Hid (Below w.heap.size w (w.alloc (.cells x.cells.toArray 29))) := Lib.hid ((Below.refl _ w).alloc (Nat.le_refl _) _)
  have HG0 : Hid ((w.alloc (.cells x.cells.toArray 29)).heap[w.heap.size]? = some (.cells x.cells.toArray 29 (0, 0))) := Lib.hid (heap_alloc_new w _)
  have HX := Lib.hid (Sl.below hx HB0.out)
  obtain ⟨s, hs⟩ : ∃ s : ByteArray, (⟨(rhdrB x.h).toArray⟩ : ByteArray) = s := ⟨_, rfl⟩
  have hz : s.size ≤ 1099511627776 := by
    rw [← hs]
    have := rhdrB_length hok
    show (rhdrB x.h).toArray.size ≤ _
    rw [List.size_toArray]
    omega
  have hsl : s.data.toList = rhdrB x.h := by rw [← hs]
  obtain ⟨n, hn⟩ : ∃ n : ID, shaF s.data.toList = n := ⟨_, rfl⟩
  have HC : Hid (∀ W, x.At ok W → Calls Tryz.prog 139 #[.agg x.cells.toArray] W fun e w' => e = .returned (.string s) ∧ Below W.heap.size W w') := Lib.hid fun W h => by rw [← hs]; exact rbytes_any W x ok h hok
  have HO : Hid (∀ W, Calls Tryz.prog 138 #[.string s] W fun e w' => e = .returned (.string n.1) ∧ Below W.heap.size W w') := Lib.hid fun W => by rw [← hn]; exact rof_any W s hz
  have HN : Hid (rid x.h = n) := Lib.hid (by rw [rid, ← hsl, hn])
  clear hx hs hsl hn hok
  go_enter Tryz.func89, Tryz.ntmps89
  go_upto_region 1 with fail
  change Code.wp _ _ _ _ (w.alloc (.cells x.cells.toArray 29))
  generalize w.alloc (.cells x.cells.toArray 29) = W0 at HB0 HG0 HX ⊢
  go_wp2_with (first
    | (refine wpl_load rfl 29 (.tmp 1) rfl w.heap.size 0 rfl x.cells _ (fun j u hu => by rw [Nat.zero_add]; exact cell_block HG0.out (by simpa using hu)) Tryz.underlying29 rfl rh_size ?_)
    | (go_at_call 139; refine (HC.out _ HX.out).mono ?_; rintro e w1 ⟨rfl, hb1⟩; have HB1 := Lib.hid (HB0.out.trans (hb1.mono HB0.out.size)); clear hb1)
    | (go_at_call 138; refine (HO.out _).mono ?_; rintro e w2 ⟨rfl, hb2⟩; have HB2 := Lib.hid (HB1.out.trans (hb2.mono HB1.out.size)); clear hb2))
  go_ret
  exact ⟨by rw [HN.out]; rfl, HB2.out⟩

/-- A block as the document keeps it: its name, its header. -/
def rbc (n : ID) (x : LRH) : List Value := .string n.1 :: x.cells
def rbE : Enc LRH := { enc := fun x => rbc (rid x.h) x, k := 8, hk := fun _ => rfl, one := fun x u hu => by rcases List.mem_cons.1 hu with rfl | hu; rfl; exact lrhE.one x u hu, k0 := by decide }
theorem rbc_one (n : ID) (x : LRH) : ∀ u ∈ rbc n x, u.oneCell' = true := fun u hu => by rcases List.mem_cons.1 hu with rfl | hu; rfl; exact lrhE.one x u hu
theorem rb_size : (Tryz.prog.info? 31).map (·.size) = some 8 := by kernel_rfl
def zRB : Array Value := #[.string ⟨#[]⟩, .int .i64 0, .int .i64 0, .string ⟨#[]⟩, .int .i64 0, .int .u64 0, .slice none 0 0, .int .i64 0]
structure MkS (w W : World) (x : LRH) (ok : Nat → Prop) : Prop where
  box : W.heap[w.heap.size]? = some (.cells x.cells.toArray 29 (0, 0))
  res : W.heap[w.heap.size + 1]? = some (.cells zRB 31 (0, 0))
  at_ : x.At ok W
  below : Below w.heap.size w W
theorem MkS.next {w W W' : World} {x : LRH} {ok : Nat → Prop} (h : MkS w W x ok) (hb : Below W.heap.size W W') : MkS w W' x ok where
  box := (hb.block _ (Array.getElem?_eq_some_iff.1 h.box).1).trans h.box
  res := (hb.block _ (Array.getElem?_eq_some_iff.1 h.res).1).trans h.res
  at_ := Sl.below h.at_ hb
  below := h.below.trans (hb.mono h.below.size)
theorem MkS.load {w W : World} {x : LRH} {ok : Nat → Prop} (h : MkS w W x ok) : ∀ j u, x.cells[j]? = some u → W.cell? ⟨w.heap.size, 0 + j, none⟩ = some u := fun j u hu => by
  rw [Nat.zero_add]; exact cell_block h.box (by simpa using hu)
set_option maxRecDepth 100000 in
set_option maxHeartbeats 2000000 in
theorem rmake_any (w : World) (x : LRH) (ok : Nat → Prop) (hx : x.At ok w) (hok : TellH x.h) :
    Calls Tryz.prog 85 #[.agg x.cells.toArray] w fun e w' => e = .returned (.agg (rbc (rid x.h) x).toArray) ∧ Below w.heap.size w w' := by
  obtain ⟨n, hn⟩ : ∃ n, rid x.h = n := ⟨_, rfl⟩
  have HC : Hid (∀ W, x.At ok W → Calls Tryz.prog 89 #[.agg x.cells.toArray] W fun e w' => e = .returned (.string n.1) ∧ Below W.heap.size W w') := Lib.hid fun W h => by rw [← hn]; exact rid_any W x ok h hok
  have HN := Lib.hid hn
  have HS0 : Hid (MkS w ((w.alloc (.cells x.cells.toArray 29)).alloc (.cells zRB 31)) x ok) := Lib.hid ⟨(heap_alloc_old (w.alloc (.cells x.cells.toArray 29)) _ (by simp)).trans (heap_alloc_new w _), by
    have := heap_alloc_new (w.alloc (.cells x.cells.toArray 29)) (.cells zRB 31)
    rwa [World.size_alloc] at this, Sl.below hx (((Below.refl _ w).alloc (Nat.le_refl _) _).alloc (by simp) _), ((Below.refl _ w).alloc (Nat.le_refl _) _).alloc (by simp) _⟩
  rw [hn]
  clear hx hn hok
  go_enter Tryz.func85, Tryz.ntmps85
  go_upto_region 1 with fail
  change Code.wp _ _ _ _ ((w.alloc (.cells x.cells.toArray 29)).alloc (.cells zRB 31))
  generalize (w.alloc (.cells x.cells.toArray 29)).alloc (.cells zRB 31) = W0 at HS0 ⊢
  have HS1 := Lib.hid (HS0.out.next (Below.refl _ W0).drew)
  refine stD_ (S := (fun W' => MkS w W' x ok)) [4] 5 #[false, false, false, false, false] (by kernel_rfl) rfl (by rfl) HS1.out (fun hHeld => ?_)
  refine tkD_ 0 (some 3) #[true, false, false, false, false] rfl rfl (by kernel_rfl) (fun _ _ _ h => h) (yieldsIf_load rfl 29 (.tmp 1) rfl w.heap.size 0 rfl x.cells _ (fun W' h => h.load) Tryz.underlying29 rfl rh_size) hHeld (a' := ?_) ?_ ?_
  rotate_left
  · simp only [Act.put, List.setIfInBounds_toArray, List.set_cons_zero, List.set_cons_succ]
    rfl
  refine tkD_ 2 (some 5) #[true, false, true, false, false] rfl rfl (by kernel_rfl) (fun _ _ _ h => h) (yieldsIf_load rfl 29 (.tmp 1) rfl w.heap.size 0 rfl x.cells _ (fun W' h => h.load) Tryz.underlying29 rfl rh_size) hHeld (a' := ?_) ?_ ?_
  rotate_left
  · simp only [Act.put, List.setIfInBounds_toArray, List.set_cons_zero, List.set_cons_succ]
    rfl
  refine callD_ 1 (some 4) #[true, true, true, false, false] rfl rfl (by kernel_rfl) rfl 89 _ (by kernel_rfl) (HC.out _ hHeld.at_) ?_
  rintro e w1 ⟨rfl, hb1⟩
  have HS2 := Lib.hid (hHeld.next hb1)
  refine ⟨_, rfl, HS2.out, fun hHeld => ⟨?_, ?_, ?_⟩⟩
  rotate_left
  · simp only [Act.put, List.setIfInBounds_toArray, List.set_cons_zero, List.set_cons_succ]
    rfl
  refine tkD_ 3 (some 6) #[true, true, true, true, false] rfl rfl (by kernel_rfl) (fun _ _ _ h => h) (yieldsIf_run (v := .agg (rbc n x).toArray) rfl fun W' => by kernel_rfl) hHeld (a' := ?_) ?_ ?_
  rotate_left
  · simp only [Act.put, List.setIfInBounds_toArray, List.set_cons_zero, List.set_cons_succ]
    rfl
  refine skD_ 4 #[true, true, true, true, true] rfl rfl (by kernel_rfl) rfl ((w1.setRow (w.heap.size + 1) (rbc n x).toArray)) (exec_store 31 (.tmp 2) (.tmp 6) rfl (w.heap.size + 1) 0 rfl _ rfl (run_storeVar_block w1 (w.heap.size + 1) 31 31 (rbc n x) zRB HS2.out.res rfl (rbc_one n x) rb_size)) (fun h => absurd (by decide) h) ?_
  refine doneD_ (by kernel_rfl) ?_ _
  change Exit.then _ _ _ _ _
  go_wp2
  (try simp only [Exit.inBlock, Exit.then])
  refine bodyPost_ret (results_cell_row rfl _ _ (w.heap.size + 1) 31 (rbc n x).toArray (0, 0) _ rfl (setRow_heap _ (w.heap.size + 1) _ _ _ _ HS2.out.res) Tryz.underlying31 rfl (by rw [List.size_toArray]; exact rb_size)) rfl ?_
  exact ⟨rfl, below_setRow HS2.out.below (Nat.le_succ _) _⟩

def rgenL : LRH := ⟨rgenH, none, 0⟩
theorem rgen_tell : TellH rgenH := ⟨⟨by decide, by decide⟩, ⟨by decide, by decide⟩, ⟨by decide, by decide⟩, ⟨by decide, by decide⟩, Nat.zero_le _, Nat.zero_le _, fun s hs => (by cases hs)⟩
set_option maxRecDepth 100000 in
set_option maxHeartbeats 2000000 in
theorem rgenesis_any (w : World) :
    Calls Tryz.prog 15 #[] w fun e w' => e = .returned (.agg (rbc (rid rgenH) rgenL).toArray) ∧ Below w.heap.size w w' := by
  obtain ⟨n, hn⟩ : ∃ n, rid rgenH = n := ⟨_, rfl⟩
  have HC : Hid (∀ W, Calls Tryz.prog 85 #[.agg rgenL.cells.toArray] W fun e w' => e = .returned (.agg (rbc n rgenL).toArray) ∧ Below W.heap.size W w') := Lib.hid fun W => by rw [← hn]; exact rmake_any W rgenL (fun _ => True) (Sl.nil _ _ _) rgen_tell
  rw [hn]
  clear hn
  have HB0 : Hid (Below w.heap.size w (w.alloc (.cells zRB 31))) := Lib.hid ((Below.refl _ w).alloc (Nat.le_refl _) _)
  have HG0 : Hid ((w.alloc (.cells zRB 31)).heap[w.heap.size]? = some (.cells zRB 31 (0, 0))) := Lib.hid (heap_alloc_new w _)
  go_enter Tryz.func15, Tryz.ntmps15
  go_upto_region 1 with fail
  change Code.wp _ _ _ _ (w.alloc (.cells zRB 31))
  generalize w.alloc (.cells zRB 31) = W0 at HB0 HG0 ⊢
  go_wp2_with (first
    | (go_at_call 85; refine (HC.out _).mono ?_; rintro e w1 ⟨rfl, hb1⟩; have HB1 := Lib.hid (HB0.out.trans (hb1.mono HB0.out.size)); have HG1 : Hid (w1.heap[w.heap.size]? = some (.cells zRB 31 (0, 0))) := Lib.hid ((hb1.block _ (Array.getElem?_eq_some_iff.1 HG0.out).1).trans HG0.out); clear hb1)
    | (refine wpl_store_row rfl 31 (.tmp 0) (.tmp 2) rfl w.heap.size rfl (rbc n rgenL) rfl _ 31 HG1.out rfl (rbc_one n rgenL) rb_size ?_))
  (try simp only [Exit.inBlock, Exit.then])
  refine bodyPost_ret (results_cell_row rfl _ _ w.heap.size 31 (rbc n rgenL).toArray (0, 0) _ rfl (setRow_heap _ w.heap.size _ _ _ _ HG1.out) Tryz.underlying31 rfl (by rw [List.size_toArray]; exact rb_size)) rfl ?_
  exact ⟨rfl, below_setRow HB1.out (Nat.le_refl _) _⟩
end Go.Proofs.YtcohdfkdhdhegaaGreatDoor
