/- slices.AppendSeq, slices.Collect, slices.SortedFunc of names over any iterator; all names of the dag. -/
import Derived.Test.YtcohdfkdhdhegaaGreatDoorPbAA
import Derived.Test.YtcohdfkdhdhegaaGreatDoorPbAB
import Derived.Test.YtcohdfkdhdhegaaGreatDoorPbAC
import Derived.Test.YtcohdfkdhdhegaaGreatDoorPbAD
import Derived.Test.YtcohdfkdhdhegaaGreatDoorPbAE
import Derived.Test.YtcohdfkdhdhegaaGreatDoorPbAF
import Derived.Test.YtcohdfkdhdhegaaGreatDoorPbAG
import Derived.Test.YtcohdfkdhdhegaaGreatDoorPbAH
import Derived.Test.YtcohdfkdhdhegaaGreatDoorPbAI
import Derived.Test.YtcohdfkdhdhegaaGreatDoorPbAJ
import Derived.Test.YtcohdfkdhdhegaaGreatDoorPbAK
import Derived.Test.YtcohdfkdhdhegaaGreatDoorPbAL
import Derived.Test.YtcohdfkdhdhegaaGreatDoorPbAM
import Derived.Test.YtcohdfkdhdhegaaGreatDoorPbAN
import Derived.Test.YtcohdfkdhdhegaaGreatDoorPbAO
import Derived.Test.YtcohdfkdhdhegaaGreatDoorPbAP
import Derived.Test.YtcohdfkdhdhegaaGreatDoorPbAQ
import Derived.Test.YtcohdfkdhdhegaaGreatDoorPbAR
import Derived.Test.YtcohdfkdhdhegaaGreatDoorPbAS
import Derived.Test.YtcohdfkdhdhegaaGreatDoorPbAT
import Derived.Test.YtcohdfkdhdhegaaGreatDoorPbAU
import Derived.Test.YtcohdfkdhdhegaaGreatDoorPbAV
import Derived.Test.YtcohdfkdhdhegaaGreatDoorPbAW
import Derived.Test.YtcohdfkdhdhegaaGreatDoorPbAX
import Derived.Test.YtcohdfkdhdhegaaGreatDoorPbAY
import Derived.Test.YtcohdfkdhdhegaaGreatDoorPbAZ
import Derived.Test.YtcohdfkdhdhegaaGreatDoorPbBA
import Derived.Test.YtcohdfkdhdhegaaGreatDoorPbBB
import Derived.Test.YtcohdfkdhdhegaaGreatDoorPbBC
import Derived.Test.YtcohdfkdhdhegaaGreatDoorPbBD
import Derived.Test.YtcohdfkdhdhegaaGreatDoorPbBJ
import Derived.Test.YtcohdfkdhdhegaaGreatDoorPeAA
namespace Go.Proofs.YtcohdfkdhdhegaaGreatDoor
open Go Go.RowKit Go.Maps Go.Shelf
attribute [local go_sem] Oper.semAt_some

section
variable {F : Fence} {n : Nat} {P : Program}
/-- A range over a function whose iterator hands out elements till there are no more, and whose rounds end normally. -/
theorem wpIn_range_gives {α : Type} {g : Operand} {ps : Array Tmp} {assign body : Code} {Q : Exit → Act → World → Prop} {a : Act} {w : World}
    (hro : F.round = none) (h1 : 1 ≤ n) {gf : Nat} {lb : Array Value} (hg : a.eval g = .func (.func gf) #[] lb) (hFg : F.fn gf) (eg : ∀ args w, (callFunc gf args).run P w = .ok (.enter gf args) w)
    {enc : α → Value} {S : List α → Prop} {N : Nat} {w0 : World} (hseq : SeqGives F (n - 1) P gf lb enc S N w0)
    (hb0 : Below w0.heap.size w0 w) (hps : 1 = ps.size)
    (I : List α → World → Prop) (hI : AbidesFrom w.heap.size I) (hIp : ∀ s A o', I s A → w.heap.size + 2 ≤ A.heap.size → I s (A.putObj (w.heap.size + 1) o')) (h0 : I [] w)
    (Ax : List α → α → Act → World → Prop) (hAx : ∀ pre x a' A o', Ax pre x a' A → Ax pre x a' (A.putObj (w.heap.size + 1) o'))
    (hassign : ∀ (l : Nat) (pre : List α) (x : α) (W : World) (K : Act → World → Prop), I pre W → w.heap.size + 2 ≤ W.heap.size → (∀ a' W', Below W.heap.size W W' → Ax pre x a' W' → K a' W') →
      assign.wpIn (F.inRound l) (n - 1 - 1) P (Exit.then K (fun _ _ _ => False)) { tmps := (ps.zip #[enc x]).foldl (fun t (p, v) => t.setIfInBounds p v) a.tmps, defers := [] } W)
    (hbody : ∀ (l : Nat) (pre : List α) (x : α) (a' : Act) (W : World), pre.length < N → w.heap.size + 2 ≤ W.heap.size → I pre W → Ax pre x a' W → body.wpIn (F.inRound l) (n - 1 - 1) P (fun e _ W' => e = .normal ∧ KeepsFrom w.heap.size W W' ∧ KeepsWalks W W' ∧ I (pre ++ [x]) W') a' W)
    (hdone : ∀ (D : Nat) (xs : List α) (W : World), D = w.heap.size → S xs → I xs W → W.heap[D]? = some (.deferred (some [])) → Q .normal { a with defers := { target := .collected D, args := #[] } :: a.defers } W) :
    (Code.rangeFunc g ps assign body).wpIn F n P Q a w := by
  refine wpIn_rangeFunc ?_
  intro fn hfn
  rw [hro]
  obtain ⟨rec, hrec⟩ : ∃ rec : LoopState → Option Code → Loop, rec = fun st pe => { state := st, pending := pe, fn, tmps := a.tmps, params := ps, assign, body, defers := w.heap.size } := ⟨_, rfl⟩
  obtain ⟨W1, hW1⟩ : ∃ W1, (w.alloc (.deferred (some []))).alloc (.loop (rec .ready none)) = W1 := ⟨_, rfl⟩
  have hgr : Below w.heap.size w W1 := by rw [← hW1]; exact ((Below.refl _ w).alloc (Nat.le_refl _) _).alloc (by simp) _
  have hs1 : W1.heap.size = w.heap.size + 2 := by rw [← hW1]; simp
  have hL1 : W1.heap[w.heap.size + 1]? = some (.loop (rec .ready none)) := by
    rw [← hW1]; have := World.alloc_heap_new (w.alloc (.deferred (some []))) (.loop (rec .ready none)); rwa [World.size_alloc] at this
  have hK1 : W1.heap[w.heap.size]? = some (.deferred (some [])) := by
    rw [← hW1]; exact (Below.heap_alloc _ _ _ (by simp)).trans (World.alloc_heap_new w _)
  have hgrow : ∀ s A C, I s A → Below A.heap.size A C → I s C := fun s A C h hb => hI s A C none h (grown_none hb) (fun r e => by cases e)
  have hI1 : I [] W1 := hgrow _ _ _ h0 hgr
  refine ⟨w.heap.size + 1, [{ target := .collected w.heap.size, args := #[] }], W1, { target := .fn (.func gf) lb, args := #[.func (.yield (w.heap.size + 1)) #[] #[]] }, W1, gf,
    #[.func (.yield (w.heap.size + 1)) #[] #[]] ++ lb, W1, ?_, ?_, ?_, ?_, fun _ => h1, ?_⟩
  · rw [← hW1, hrec]; exact run_enterLoop_outer _ _ _ _ _
  · simp only [resolve, hg]
    simp [go_sem]
  · intro f' hf'; simp [Target.leads] at hf'; subst hf'; exact hFg
  · simp [invoke, go_sem, eg]
  · have hlow : ∀ {A C : World} {k : Nat} {o : Obj}, A.heap[k]? = some o → Below A.heap.size A C → C.heap[k]? = some o := fun hk hb => (hb.block _ (Array.getElem?_eq_some_iff.1 hk).1).trans hk
    refine (hseq (w.heap.size + 1)
      (fun pre W => I pre W ∧ W.heap[w.heap.size + 1]? = some (.loop (rec .ready none)) ∧ W.heap[w.heap.size]? = some (.deferred (some [])))
      W1 (hb0.trans (hgr.mono hb0.size))
      (fun s A C row hs hg hr => ⟨hI s A C row hs.1 hg fun r e => ⟨by have := (hr r e).1; omega, (hr r e).2⟩, (grownBy_keeps hg (fun r e => (hr r e).2) hs.2.1 rfl).trans hs.2.1, (grownBy_keeps hg (fun r e => (hr r e).2) hs.2.2 rfl).trans hs.2.2⟩)
      ?_ ⟨hI1, hL1, hK1⟩).mono ?_
    · rintro pre x W ⟨hi, hl, hk⟩ hx
      have hlt : w.heap.size + 1 < W.heap.size := (Array.getElem?_eq_some_iff.1 hl).1
      have hy := run_yield (P := P) (args := #[enc x]) hl (by rw [hrec]; exact hps)
      rw [hrec] at hy
      refine ⟨fn, _, assign, body, hy, roundIn_of_wpIn hfn (hassign _ pre x W _ hi hlt ?_)⟩
      clear hy
      intro a' Wa hba hax
      have hia := hgrow _ _ _ hi hba
      have hla := hlow hl hba
      have hka := hlow hk hba
      have hlta : w.heap.size + 1 < Wa.heap.size := (Array.getElem?_eq_some_iff.1 hla).1
      refine ⟨_, run_beginRound hla (by rw [hrec]), ?_⟩
      have hl2 : (Wa.putObj (w.heap.size + 1) (.loop { rec .ready none with state := .busy })).heap[w.heap.size + 1]? = some (.loop { rec .ready none with state := .busy }) := World.putObj_heap_same hlta
      have hk2 : (Wa.putObj (w.heap.size + 1) (.loop { rec .ready none with state := .busy })).heap[w.heap.size]? = some (.deferred (some [])) := (World.putObj_heap_other (by omega)).trans hka
      have hsz2 : w.heap.size + 2 ≤ (Wa.putObj (w.heap.size + 1) (.loop { rec .ready none with state := .busy })).heap.size := (Array.getElem?_eq_some_iff.1 hl2).1
      refine wpIn_mono (hbody _ pre x a' _ hx hsz2 (hIp _ _ _ hia hlta) (hAx _ _ _ _ _ hax)) ?_
      rintro e a3 W3 ⟨rfl, hk3, hkw, hi3⟩
      have hl3 := hk3.same _ _ (by omega) hl2 rfl
      have hlt3 : w.heap.size + 1 < W3.heap.size := (Array.getElem?_eq_some_iff.1 hl3).1
      have hr := run_endRound (P := P) none hl3
      have hkk : KeepsWalks W (W3.putObj (w.heap.size + 1) (.loop (rec .ready none))) := (((⟨hba.size, fun k o hk' _ => (hba.block k (Array.getElem?_eq_some_iff.1 hk').1).trans hk'⟩ : KeepsWalks W Wa).trans (KeepsWalks.putObj _ hla rfl)).trans hkw).trans (KeepsWalks.putObj _ hl3 rfl)
      rw [hrec] at hr hkk hl3 ⊢
      exact ⟨_, _, hr, rfl, ⟨hIp _ _ _ hi3 hlt3, World.putObj_heap_same hlt3, (World.putObj_heap_other (by omega)).trans (hk3.same _ _ (Nat.le_refl _) hk2 rfl)⟩, hkk⟩
    · rintro e W2 ⟨⟨v, rfl⟩, xs, hS, hi, hl, hk⟩
      exact ⟨none, _, by have := run_endLoop (P := P) hl (by rw [hrec]; simp); rw [hrec] at this; exact this, hdone _ xs _ rfl hS (hIp _ _ _ hi (Array.getElem?_eq_some_iff.1 hl).1) ((World.putObj_heap_other (by omega)).trans hk)⟩
end

/-! ### slices.AppendSeq of nil: what an iterator hands out, in its order -/
/-- What lies while names are gathered: B: the loop's blocks; ob: the variable. -/
structure ApI (w W : World) (ob B : Nat) (pre : List ID) : Prop where
  below : Below w.heap.size w W
  low : w.heap.size ≤ ob ∧ ob < B
  size : B ≤ W.heap.size
  out : ∃ v, W.heap[ob]? = some (.cells #[v] 39 (0, 0)) ∧ W.ownsRow (B + 2) 66 32 v pre.length (idE.flat pre)
section
variable {w W W' : World} {ob B : Nat} {pre : List ID}
theorem ApI.abides (w : World) (ob B : Nat) : AbidesFrom B fun pre W => ApI w W ob B pre := fun s W W' row h hg hrow => by
  have hrow' : ∀ r, row = some r → ∃ o : Obj, W.heap[r]? = some o ∧ o.isWalk = true := fun r e => (hrow r e).2
  obtain ⟨v, hv, hr⟩ := h.out
  exact ⟨h.below.grown hg h.below.size (fun k e => by have := (hrow k e).1; have := h.low; omega), h.low, Nat.le_trans h.size hg.size, v, (grownBy_keeps hg hrow' hv rfl).trans hv, ownsRow_abides_a hr hg hrow'⟩
theorem ApI.put (h : ApI w W ob B pre) (o : Obj) : ApI w (W.putObj (B + 1) o) ob B pre := by
  obtain ⟨v, h1, h2⟩ := h.out
  have := h.low
  refine ⟨h.below.grown (grownBy_putObj_a W _ o) h.below.size (fun k e => by cases e; omega), h.low, by simpa using h.size, v, (World.putObj_heap_other (by omega)).trans h1, ⟨h2.1, h2.2.imp id fun ⟨g, cap, cur, hv, hb, hg, r⟩ => ⟨g, cap, cur, hv, hb, (World.putObj_heap_other (by omega)).trans hg, r⟩⟩⟩
end

set_option maxRecDepth 100000 in
set_option maxHeartbeats 4000000 in
theorem appendI_any (w : World) (gf : Nat) (lb : Array Value) (eg : ∀ args w, (callFunc gf args).run Tryz.prog w = .ok (.enter gf args) w) (S : List ID → Prop) (N : Nat) (hN : N ≤ 1000000) (hseq : ∀ m, 1 ≤ m → SeqGives Fence.wide m Tryz.prog gf lb (fun x : ID => .agg (idc x).toArray) S N w) :
    Calls Tryz.prog 194 #[.slice none 0 0, .func (.func gf) #[] lb] w fun e w' => ∃ v ss, e = .returned v ∧ S ss ∧ w'.ownsRow w.heap.size 66 32 v ss.length (idE.flat ss) ∧ Below w.heap.size w w' := by
  refine (callsIn_wide (n := 5)).1 ?_
  refine callsIn_of_wp_marks Tryz.func194 rfl trivial ?_ rfl
  simp only [Tryz.ntmps194, List.size_toArray, List.length_cons, List.length_nil, Nat.reduceAdd, Nat.reduceSub, Array.replicate_succ, Array.replicate_zero, List.push_toArray, List.append_toArray, List.nil_append, List.cons_append]
  gi_wp2
  obtain ⟨W0, hW0⟩ : ∃ W0, w.alloc (.cells #[.slice none 0 0] 39) = W0 := ⟨_, rfl⟩
  have hs0 : W0.heap.size = w.heap.size + 1 := by rw [← hW0]; simp
  have hv0 : W0.heap[w.heap.size]? = some (.cells #[.slice none 0 0] 39 (0, 0)) := by rw [← hW0]; exact World.alloc_heap_new w _
  have hb0 : Below w.heap.size w W0 := by rw [← hW0]; exact (Below.refl _ w).alloc (Nat.le_refl _) _
  rw [hW0]
  clear hW0
  refine wpIn_range_gives rfl (by decide) (gf := gf) (lb := lb) rfl trivial eg (hseq _ (by decide)) hb0 rfl (fun pre W => ApI w W w.heap.size W0.heap.size pre) (ApI.abides _ _ _) (fun s A o' h _ => h.put o') ⟨hb0, ⟨Nat.le_refl _, by omega⟩, Nat.le_refl _, _, hv0, rfl, .inl ⟨rfl, rfl⟩⟩
    (fun pre x a' W => ∃ bx, W.heap[bx]? = some (.cells (idc x).toArray 66 (0, 0)) ∧ bx ≠ W0.heap.size + 1 ∧ a' = { tmps := #[.slice none 0 0, .func (.func gf) #[] lb, .pointer (some ⟨w.heap.size, 0, none⟩), undef, .slice none 0 0, .pointer (some ⟨bx, 0, none⟩), .func (.func gf) #[] lb, .agg (idc x).toArray, undef, undef, undef, undef, undef], defers := [] })
    ?axp ?assign ?body ?done
  case axp =>
    rintro pre x a' A o' ⟨bx, h1, h2, h3⟩
    exact ⟨bx, (World.putObj_heap_other h2).trans h1, h2, h3⟩
  case assign =>
    intro l pre x W K hi hsz hK
    have HK := Lib.hid hK
    clear hK
    gi_wp2_with (refine wplIn_store_box rfl 66 (.tmp 5) (.tmp 7) rfl W.heap.size rfl (idc x) rfl _ 66 (heap_alloc_new W _) (by rw [idc_length]; rfl) (bytesC_one x.1) (by rw [idc_length]; exact id_size) ?_; intro w3 hw3; have HB3 : Hid (Below W.heap.size W w3) := Lib.hid (by rw [hw3]; exact below_setRow ((Below.refl _ W).alloc (Nat.le_refl _) _) (Nat.le_refl _) _); have HX3 : Hid (w3.heap[W.heap.size]? = some (.cells (idc x).toArray 66 (0, 0))) := Lib.hid (by rw [hw3]; exact setRow_heap _ _ _ _ _ _ (heap_alloc_new W _)); clear hw3)
    exact HK.out _ _ HB3.out ⟨W.heap.size, HX3.out, by omega, rfl⟩
  case body =>
    rintro l pre x a' W hpl hsz hI ⟨bx, hgx, hbx, rfl⟩
    obtain ⟨v, hv1, hv2⟩ := hI.out
    have HG := Lib.hid hgx
    have HV := Lib.hid hv1
    have HO := Lib.hid hv2
    have HI := Lib.hid hI
    have HZ := Lib.hid hs0
    have HSZ := Lib.hid hsz
    have HPL := Lib.hid hpl
    have hcv : W.cell? ⟨w.heap.size, 0, none⟩ = some v := cell_block hv1 rfl
    have hl32 : (pre.length + 1) * 32 ≤ 140737488355328 := by omega
    clear hgx hv1 hv2 hI hs0 hv0 hb0 hsz hpl
    gi_wp2_with (refine listIn_of (by rintro ⟨_, _, h⟩; first | exact h | exact absurd h.1 (by simp)) _ _ _ (by kernel_rfl) ?_)
    go_wp2_with (first
      | (refine wpl_load rfl 66 (.tmp 5) rfl bx 0 rfl (idc x) _ (fun j u hu => by rw [Nat.zero_add]; exact cell_block HG.out (by simpa using hu)) Tryz.underlying66 rfl (by rw [idc_length]; exact id_size) ?_)
      | (refine wpl_slice1 rfl 39 66 (.tmp 9) rfl (idc x).toArray rfl _ 32 32 Tryz.underlying39 id_info idZ_cells (by rw [List.size_toArray, idc_length]) (by decide) (by decide) ?_)
      | (at_builtin; refine wpl_app1 (idc x).toArray (W0.heap.size + 2) rfl (.tmp 8) (.tmp 10) 39 66 _ 32 32 rfl Tryz.underlying39 id_info idZ_cells (by decide) (by decide) v pre.length _ rfl rfl (by rw [List.size_toArray, idc_length]) (fun u hu => idE.one x u hu) HO.out HSZ.out hl32 ?_; intro v1 w5 ho5 hg5 hat5; obtain ⟨A1, c1, rfl, -⟩ := own_slice ho5; have HO5 := Lib.hid ho5; have HG5 := Lib.hid hg5; have HV5 := Lib.hid ((hg5.block _ (Array.getElem?_eq_some_iff.1 HV.out).1 (fun e => by have := (own_lt HO.out _ e.symm).1; have := HI.out.low; omega)).trans HV.out); clear ho5 hg5 hat5)
      | (refine wpl_set1 rfl 39 (.tmp 2) (.tmp 11) rfl w.heap.size rfl (.slice A1 (pre.length + 1) c1) v 39 rfl HV5.out rfl ids_size ?_))
    have hz := HZ.out
    have hlow := HI.out.low
    have hown0 : ∀ i, v.ownBlock = some i → W0.heap.size + 2 ≤ i ∧ i < W.heap.size := fun i hi => own_lt HO.out i hi
    have hown1 : ∀ i, (Value.slice A1 (pre.length + 1) c1).ownBlock = some i → W0.heap.size + 2 ≤ i ∧ i < w5.heap.size := fun i hi => own_lt HO5.out i hi
    have hkeep : ∀ j, j ≠ w.heap.size → some j ≠ v.ownBlock → j < W.heap.size → (w5.setRow w.heap.size #[.slice A1 (pre.length + 1) c1]).heap[j]? = W.heap[j]? := fun j h1 h2 h3 => (heap_setRow_ne _ _ _ _ h1).trans (HG5.out.block j h3 h2)
    have hcell : ∀ (k : Nat) (o : Obj), W.heap[k]? = some o → o.isCells = false → (w5.setRow w.heap.size #[.slice A1 (pre.length + 1) c1]).heap[k]? = some o := fun k o hk hc => by
      refine (hkeep k (fun e => ?_) (fun e => ?_) (Array.getElem?_eq_some_iff.1 hk).1).trans hk
      · subst e; rw [HV.out] at hk; cases hk; cases hc
      · rcases HO.out.2 with ⟨h1, -⟩ | ⟨g, cap, cur, hv, hb, hg, -⟩
        · rw [h1] at e; cases e
        · rw [hv] at e; cases e; rw [hg] at hk; cases hk; cases hc
    have hsz5 : W.heap.size ≤ (w5.setRow w.heap.size #[.slice A1 (pre.length + 1) c1]).heap.size := by simpa using HG5.out.size
    refine ⟨⟨hsz5, fun k o _ hk hc => hcell k o hk hc⟩, ⟨hsz5, fun k o hk hw => hcell k o hk (by cases o <;> first | rfl | cases hw)⟩, below_setRow (below_grown_own HI.out.below HO.out (by omega) HI.out.below.size HG5.out) (Nat.le_refl _) _, hlow, Nat.le_trans HI.out.size hsz5, _, setRow_heap _ _ _ _ _ _ HV5.out, ?_⟩
    rw [List.length_append, idE.flat_append]
    simp only [idE.flat_one]
    exact own_setRow _ HO5.out fun k hk => by have := (hown1 k hk).1; omega
  case done =>
    rintro Db xs W rfl hS hI hK
    obtain ⟨v, hv1, hv2⟩ := hI.out
    have hcv : W.cell? ⟨w.heap.size, 0, none⟩ = some v := cell_block hv1 rfl
    have HI := Lib.hid hI
    have HV := Lib.hid hv2
    have HZ := Lib.hid hs0
    have HK := Lib.hid hK
    clear hI hv1 hv2 hs0 hK hv0 hb0
    gi_wp2
    have hz0 := HZ.out
    refine ⟨by simp, .inl ⟨_, _, rfl, run_takeDeferred HK.out, ?_⟩⟩
    refine ⟨_, results_tmp rfl _ _ _, v, xs, rfl, hS, ?_, HI.out.below.grown (grownBy_putObj_a W _ _) HI.out.below.size (fun k e => by cases e; omega)⟩
    have h2 := own_low HV.out (base' := w.heap.size) (by omega)
    exact ⟨h2.1, HV.out.2.imp id fun ⟨g, cap, cur, hv, hb, hg, r⟩ => ⟨g, cap, cur, hv, by omega, (World.putObj_heap_other (by omega)).trans hg, r⟩⟩

set_option maxRecDepth 100000 in
set_option maxHeartbeats 2000000 in
theorem collectI_any (w : World) (gf : Nat) (lb : Array Value) (eg : ∀ args w, (callFunc gf args).run Tryz.prog w = .ok (.enter gf args) w) (S : List ID → Prop) (N : Nat) (hN : N ≤ 1000000) (hseq : ∀ m, 1 ≤ m → SeqGives Fence.wide m Tryz.prog gf lb (fun x : ID => .agg (idc x).toArray) S N w) :
    Calls Tryz.prog 160 #[.func (.func gf) #[] lb] w fun e w' => ∃ v ss, e = .returned v ∧ S ss ∧ w'.ownsRow w.heap.size 66 32 v ss.length (idE.flat ss) ∧ Below w.heap.size w w' := by
  have HC := Lib.hid (appendI_any w gf lb eg S N hN hseq)
  go_enter Tryz.func160, Tryz.ntmps160
  go_wp2_with (go_at_call 194; refine HC.out.mono ?_; rintro e w1 ⟨v, ss, rfl, h1, h2, h3⟩)
  go_ret
  exact ⟨v, ss, rfl, h1, h2, h3⟩

set_option maxRecDepth 100000 in
set_option maxHeartbeats 2000000 in
/-- slices.SortedFunc of an iterator of names, by dag.compare. -/
theorem sortedI_any (w : World) (gf : Nat) (lb : Array Value) (eg : ∀ args w, (callFunc gf args).run Tryz.prog w = .ok (.enter gf args) w) (S : List ID → Prop) (N : Nat) (hN : N ≤ 1000000) (hSN : ∀ ss, S ss → ss.length ≤ 1000000) (hseq : ∀ m, 1 ≤ m → SeqGives Fence.wide m Tryz.prog gf lb (fun x : ID => .agg (idc x).toArray) S N w) :
    Calls Tryz.prog 115 #[.func (.func gf) #[] lb, .func (.func 109) #[] #[]] w fun e w' => ∃ v ss, e = .returned v ∧ S ss ∧ w'.ownsRow w.heap.size 66 32 v ss.length (idE.flat (sortI ss)) ∧ Below w.heap.size w w' := by
  have HC := Lib.hid (collectI_any w gf lb eg S N hN hseq)
  go_enter Tryz.func115, Tryz.ntmps115
  go_wp2_with (first
    | (go_at_call 160; refine HC.out.mono ?_; rintro e w1 ⟨v, ss, rfl, h1, h2, h3⟩; have HS := Lib.hid (sortD_id w1 v ss _ _ h2 (by have := hSN ss h1; omega)); have H2 := Lib.hid h2; have H3 := Lib.hid h3; clear h2 h3)
    | (go_at_call 108; refine HS.out.mono ?_; rintro e w2 ⟨rfl, ho, hg⟩))
  go_ret
  exact ⟨v, ss, rfl, h1, ho, below_grown_own H3.out H2.out (Nat.le_refl _) H3.out.size hg⟩

set_option maxRecDepth 100000 in
set_option maxHeartbeats 2000000 in
theorem keysMap_any (w : World) (b : Nat) :
    Calls Tryz.prog 116 #[.map (some b)] w fun e w' => e = .returned (.func (.func 161) #[] #[.pointer (some ⟨w.heap.size, 0, none⟩)]) ∧
      w' = w.alloc (.cells #[.map (some b)] 129) := by
  go_enter Tryz.func116, Tryz.ntmps116
  go_wp2
  go_ret
  exact ⟨rfl, rfl⟩

theorem names_perm {D : List LB} (hnd : (D.map LB.id).Nodup) {ss : List ID} (h : ss.Nodup ∧ ∀ x, x ∈ ss ↔ (blkF D (idK x)).isSome = true) : ss.Perm (D.map LB.id) := by
  refine (List.perm_ext_iff_of_nodup h.1 hnd).2 fun x => ?_
  rw [h.2 x, blkF_has]
  unfold hasB
  rw [List.any_eq_true]
  simp only [List.mem_map]
  exact ⟨fun ⟨y, hy, he⟩ => ⟨y, hy, by simpa using he⟩, fun ⟨y, hy, he⟩ => ⟨y, hy, by simpa using he⟩⟩

set_option maxRecDepth 100000 in
set_option maxHeartbeats 2000000 in
/-- dag.Blocks: all names, each greater than the one ahead of it. -/
theorem dnames_any (w : World) (p b1 b2 : Nat) (D : List LB) (ok : Nat → Prop) (h : DagAt ok w p b1 b2 D) (hnd : (D.map LB.id).Nodup) (hlen : D.length ≤ 1000000) :
    Calls Tryz.prog 38 #[.pointer (some ⟨p, 0, none⟩)] w fun e w' => ∃ v, e = .returned v ∧ w'.ownsRow w.heap.size 66 32 v D.length (idE.flat (sortI (D.map LB.id))) ∧ Below w.heap.size w w' := by
  have hc := h.c0
  have HB := Lib.hid h.blocks
  have HN := Lib.hid hnd
  have HL := Lib.hid hlen
  have HW : Hid (Below w.heap.size w (w.alloc (.cells #[.map (some b1)] 129))) := Lib.hid ((Below.refl _ w).alloc (Nat.le_refl _) _)
  have HS : Hid (Calls Tryz.prog 115 #[.func (.func 161) #[] #[.pointer (some ⟨w.heap.size, 0, none⟩)], .func (.func 109) #[] #[]] (w.alloc (.cells #[.map (some b1)] 129)) fun e w' => ∃ v ss, e = .returned v ∧ (ss.Nodup ∧ ∀ x, x ∈ ss ↔ (blkF D (idK x)).isSome = true) ∧ w'.ownsRow (w.alloc (.cells #[.map (some b1)] 129)).heap.size 66 32 v ss.length (idE.flat (sortI ss)) ∧ Below (w.alloc (.cells #[.map (some b1)] 129)).heap.size (w.alloc (.cells #[.map (some b1)] 129)) w') := Lib.hid (
    sortedI_any _ _ _ (enters_of Tryz.func161 (by kernel_rfl) rfl) _ D.length hlen (fun ss hss => by have := (names_perm hnd hss).length_eq; rw [List.length_map] at this; omega)
      fun m hm => keysI_gives m hm w.heap.size b1 D.length (blkF D) _ (by simp) (cell_block (heap_alloc_new w _) rfl) (h.blocks.alloc _))
  clear h hnd hlen
  go_enter Tryz.func38, Tryz.ntmps38
  go_wp2_with (first
    | (go_at_call 116; refine (keysMap_any w b1).mono ?_; rintro e w1 ⟨rfl, rfl⟩)
    | (go_at_call 115; refine HS.out.mono ?_; rintro e w2 ⟨v, ss, rfl, hss, ho, hb⟩))
  go_ret
  have hp := names_perm HN.out hss
  have hll : ss.length = D.length := by have := hp.length_eq; rwa [List.length_map] at this
  rw [hll, sortI_of_perm hp] at ho
  exact ⟨v, rfl, own_low ho (by simp), HW.out.trans (hb.mono (by simp))⟩
end Go.Proofs.YtcohdfkdhdhegaaGreatDoor
