/- path.Paths.above. slices.Reverse at tipsets, in a row of the call's own. -/
import Derived.Test.YtcohdfkdhdhegaaGreatDoorPbAY
import Derived.Test.YtcohdfkdhdhegaaGreatDoorPbBD
import Derived.Shelf.SlicesQ.Reverse
namespace Go.Proofs.YtcohdfkdhdhegaaGreatDoor
open Go Go.RowKit Go.Maps Go.Shelf
attribute [local go_sem] Oper.semAt_some

theorem tip_info : (Tryz.prog.info? 52).map (fun i => (i.zero, i.size, i.bytes)) = some (some (.agg #[.slice none 0 0]), 1, 24) := by kernel_rfl
theorem tips_size : (Tryz.prog.info? 104).map (·.size) = some 1 := by kernel_rfl
theorem own_same {W W' : World} {base : Nat} {e : TypeId} {size : Nat} {v : Value} {n : Nat} {xs : List Value} (h : W.ownsRow base e size v n xs) (hs : ∀ k, v.ownBlock = some k → W'.heap[k]? = W.heap[k]?) : W'.ownsRow base e size v n xs :=
  ⟨h.1, h.2.imp id fun ⟨g, cap, cur, hv, hb, hg, r⟩ => ⟨g, cap, cur, hv, hb, (hs g (by rw [hv]; rfl)).trans hg, r⟩⟩
theorem own_cells {W : World} {base : Nat} {e : TypeId} {size : Nat} {v : Value} {n : Nat} {xs : List Value} (h : W.ownsRow base e size v n xs) {k : Nat} (hk : v.ownBlock = some k) {o : Obj} (ho : W.heap[k]? = some o) : o.isCells = true := by
  rcases h.2 with ⟨h1, -⟩ | ⟨g, cap, cur, hv, hb, hg, -⟩
  · rw [h1] at hk; cases hk
  · rw [hv] at hk
    cases hk
    rw [hg] at ho
    cases ho
    rfl
/-- The block of the row that lies in a variable. -/
def ownOf (ob : Nat) (W : World) : Option Nat := match W.heap[ob]? with | some (.cells cs _ _) => (cs.getD 0 undef).ownBlock | _ => none
theorem ownOf_eq {ob : Nat} {W W' : World} (h : W'.heap[ob]? = W.heap[ob]?) : ownOf ob W' = ownOf ob W := by unfold ownOf; rw [h]
theorem ownOf_box {ob : Nat} {W : World} {v : Value} {T : TypeId} (h : W.heap[ob]? = some (.cells #[v] T (0, 0))) : ownOf ob W = v.ownBlock := by unfold ownOf; rw [h]; rfl
/-- What lies while what is above another one is gathered. -/
structure AbI (w w1 W : World) (G : List Hdr) (okr : Nat → Prop) (C : List ID) (tB ob : Nat) (pre : List (Value × List ID)) : Prop where
  below : Below w.heap.size w W
  far : w.heap.size ≤ tB ∧ w.heap.size ≤ ob ∧ ob < w1.heap.size ∧ tB < w1.heap.size ∧ ob ≠ tB
  size : w1.heap.size ≤ W.heap.size
  same : ∀ j, j < w1.heap.size → j ≠ tB → j ≠ ob → W.heap[j]? = w1.heap[j]?
  out : ∃ v, W.heap[ob]? = some (.cells #[v] 104 (0, 0)) ∧ W.ownsRow (w1.heap.size + 2) 52 1 v pre.length (pre.map Prod.fst) ∧ ∀ x ∈ pre, TipIs (fun j => okr j ∧ j ≠ ob ∧ j ≠ w1.heap.size + 1 ∧ j ≠ tB ∧ some j ≠ v.ownBlock) W G x.1 x.2
  ne : ∀ x ∈ pre, x.2 ≠ C
  tips : ∀ x ∈ pre, TipOf G x.2
section
variable {w w1 W W' : World} {G : List Hdr} {okr : Nat → Prop} {C : List ID} {tB ob : Nat} {pre : List (Value × List ID)}
theorem AbI.grow (h : AbI w w1 W G okr C tB ob pre) (hb : Below W.heap.size W W') : AbI w w1 W' G okr C tB ob pre := by
  obtain ⟨v, h1, h2, h3⟩ := h.out
  exact ⟨h.below.trans (hb.mono h.below.size), h.far, Nat.le_trans h.size hb.size, fun j hj ha hc => (hb.block j (Nat.lt_of_lt_of_le hj h.size)).trans (h.same j hj ha hc), ⟨v, (hb.block _ (Array.getElem?_eq_some_iff.1 h1).1).trans h1, own_below h2 hb, fun x hx => (h3 x hx).below hb⟩, h.ne, h.tips⟩
theorem AbI.set (h : AbI w w1 W G okr C tB ob pre) (cs : Array Value) : AbI w w1 (W.setRow tB cs) G okr C tB ob pre := by
  obtain ⟨v, h1, h2, h3⟩ := h.out
  refine ⟨below_setRow h.below h.far.1 _, h.far, by simpa using h.size, fun j hj ha hc => (heap_setRow_ne _ _ _ _ ha).trans (h.same j hj ha hc), ⟨v, (heap_setRow_ne _ _ _ _ h.far.2.2.2.2).trans h1, own_setRow _ h2 fun k hk => ?_, fun x hx => (h3 x hx).set (fun k hk => hk.2.2.2.1) _⟩, h.ne, h.tips⟩
  have := (own_lt h2 k hk).1
  have := h.far.2.2.2.1
  omega
theorem AbI.put (h : AbI w w1 W G okr C tB ob pre) (o : Obj) : AbI w w1 (W.putObj (w1.heap.size + 1) o) G okr C tB ob pre := by
  obtain ⟨v, h1, h2, h3⟩ := h.out
  have := h.far
  refine ⟨h.below.grown (grownBy_putObj' W _ o) h.below.size (fun k e => by cases e; omega), h.far, by simpa using h.size, fun j hj ha hc => (World.putObj_heap_other (by omega)).trans (h.same j hj ha hc), ⟨v, (World.putObj_heap_other (by omega)).trans h1, own_same h2 fun k hk => World.putObj_heap_other ?_, fun x hx => (h3 x hx).put (fun k hk => hk.2.2.1) _⟩, h.ne, h.tips⟩
  have := (own_lt h2 k hk).1
  omega
end

set_option maxRecDepth 100000 in
set_option maxHeartbeats 4000000 in
theorem above_any (w : World) (pp p b1 b2 : Nat) (D : List LB) (okx ok ok2 : Nat → Prop) (h : PathAt okx w pp p b1 b2 D) (tv : Value) (T : List ID) (hT : TipOf (hdrs D) T) (hw : TipIs ok w (hdrs D) tv T) (cv : Value) (C : List ID) (hC : TipOf (hdrs D) C) (hv : TipIs ok2 w (hdrs D) cv C) (hlen : D.length ≤ 1000000) :
    Calls Tryz.prog 129 #[.pointer (some ⟨pp, 0, none⟩), tipV tv, tipV cv] w fun e w' => ∃ (v : Value) (xs : List (Value × List ID)), e = .returned v ∧ w'.ownsRow w.heap.size 52 1 v xs.length (xs.map Prod.fst) ∧ xs.map Prod.snd = aboveG (hdrs D) T C ∧ (∀ x ∈ xs, TipIs (fun k => (ok k ∨ okx k ∨ k = pp ∨ w.heap.size ≤ k) ∧ some k ≠ v.ownBlock) w' (hdrs D) x.1 x.2 ∧ TipOf (hdrs D) x.2) ∧ Below w.heap.size w w' := by
  have htv : tv.oneCell' = true := hw.one tv (by simp)
  have g := h.good
  have hp := h.toD
  have hCL : (chainG (hdrs D) T).length ≤ 1000000 := Nat.le_trans (g.chain_len hT) (by simpa [hdrs] using hlen)
  refine (callsIn_wide (n := 5)).1 ?_
  refine callsIn_of_wp_marks Tryz.func129 rfl trivial ?_ rfl
  simp only [Tryz.ntmps129, List.size_toArray, List.length_cons, List.length_nil, Nat.reduceAdd, Nat.reduceSub, Array.replicate_succ, Array.replicate_zero, List.push_toArray, List.append_toArray, List.nil_append, List.cons_append]
  obtain ⟨W0, hW0⟩ : ∃ W0, (((w.alloc (.cells #[tv] 52)).alloc (.cells #[cv] 52)).alloc (.cells #[.slice none 0 0] 104)) = W0 := ⟨_, rfl⟩
  have HC := Lib.hid (chain_any W0 pp tv htv)
  have HX := (Box2.mk2 w tv cv).next ((Below.refl _ _).alloc (Nat.le_refl _) (.cells #[.slice none 0 0] 104))
  rw [hW0] at HX
  have HB0 := Lib.hid HX.b0
  have HP : Hid (Below w.heap.size w W0 ∧ W0.heap.size = w.heap.size + 3 ∧ W0.heap[w.heap.size + 1]? = some (.cells #[cv] 52 (0, 0)) ∧ W0.heap[w.heap.size + 2]? = some (.cells #[.slice none 0 0] 104 (0, 0))) := Lib.hid (by
    refine ⟨HX.below, by rw [← hW0]; simp, HX.b1, ?_⟩
    rw [← hW0]
    have h1 := heap_alloc_new ((w.alloc (.cells #[tv] 52)).alloc (.cells #[cv] 52)) (.cells #[.slice none 0 0] 104)
    rw [World.size_alloc, World.size_alloc] at h1
    exact h1)
  clear HX
  gi_wp2_with (first
    | (refine wplIn_load (by kernel_rfl) 52 (.tmp 4) rfl w.heap.size 0 rfl [tv] _ (fun j u hu => by rw [Nat.zero_add]; exact cell_block HB0.out (by simpa using hu)) Tryz.underlying52 rfl tip_size ?_)
    | (refine ⟨trivial, ?_⟩; refine (callsIn_wide.2 HC.out).mono ?_; rintro e w1 ⟨rfl, hw1⟩; have HW1 := Lib.hid hw1; clear hw1))
  have hw1 := HW1.out
  have hz1 : w1.heap.size = W0.heap.size + 2 := by rw [hw1]; simp
  have hb1 : Below W0.heap.size W0 w1 := by rw [hw1]; exact ((Below.refl _ W0).alloc (Nat.le_refl _) _).alloc (by simp) _
  have hbw : Below w.heap.size w w1 := HP.out.1.trans (hb1.mono HP.out.1.size)
  have hz0 := HP.out.2.1
  have hob1 : w1.heap[w.heap.size + 2]? = some (.cells #[.slice none 0 0] 104 (0, 0)) := (hb1.block _ (by omega)).trans HP.out.2.2.2
  obtain ⟨okr, hokr⟩ : ∃ okr : Nat → Prop, okr = fun j => (ok j ∨ okx j ∨ j = pp ∨ w.heap.size ≤ j) ∧ j ≠ w.heap.size + 2 ∧ j ≠ w1.heap.size := ⟨_, rfl⟩
  have hokn : ∀ j, w.heap.size ≤ j → j ≠ w.heap.size + 2 → j ≠ w1.heap.size → okr j := fun j hj hn hn2 => by rw [hokr]; exact ⟨.inr (.inr (.inr hj)), hn, hn2⟩
  have hokob : ∀ j, okr j → j ≠ w.heap.size + 2 := fun j hj => by rw [hokr] at hj; exact hj.2.1
  have HS : Spare (fun W j => ((j ≠ w1.heap.size + 1 ∧ j ≠ w1.heap.size) ∧ okr j) ∧ some j ≠ ownOf (w.heap.size + 2) W ∧ ∀ i, ownOf (w.heap.size + 2) W = some i → i < W.heap.size) (fun A C => A.heap.size ≤ C.heap.size ∧ ((∀ i, ownOf (w.heap.size + 2) A = some i → i < A.heap.size) → ∀ i, ownOf (w.heap.size + 2) C = some i → i < C.heap.size) ∧ ∀ j, j ≠ w1.heap.size + 1 → j ≠ w.heap.size + 2 → some j ≠ ownOf (w.heap.size + 2) A → j < A.heap.size → C.heap[j]? = A.heap[j]? ∧ some j ≠ ownOf (w.heap.size + 2) C) (w1.heap.size + 2) (W0.heap.size + 1) :=
    ⟨fun hK => ⟨hK.1, fun j hj hl => ⟨(hK.2.2 j hj.1.1.1 (hokob j hj.1.2) hj.2.1 hl).1, hj.1, (hK.2.2 j hj.1.1.1 (hokob j hj.1.2) hj.2.1 hl).2, hK.2.1 hj.2.2⟩⟩, fun {A C} hn hv hb j hj hl => by
      obtain ⟨k0, hk0⟩ := hv
      have he : ownOf (w.heap.size + 2) C = ownOf (w.heap.size + 2) A := ownOf_eq (hb.block _ (by omega))
      have hvd : ∀ i, ownOf (w.heap.size + 2) C = some i → i < C.heap.size := fun i hi => Nat.lt_of_lt_of_le (hk0.2.2 i (by rw [← he]; exact hi)) hb.size
      by_cases hlt : j < A.heap.size
      · exact ⟨(hj hlt).1, by rw [he]; exact (hj hlt).2.1, hvd⟩
      · refine ⟨⟨⟨by omega, by omega⟩, hokn j (by omega) (by omega) (by omega)⟩, fun e => ?_, hvd⟩
        rw [he] at e
        have := hk0.2.2 j e.symm
        omega, fun cs k hk => ⟨hk.1, by rw [ownOf_eq (heap_setRow_ne _ _ _ _ (by omega))]; exact hk.2.1, by rw [ownOf_eq (heap_setRow_ne _ _ _ _ (by omega))]; simpa using hk.2.2⟩⟩
  have htb : w1.heap[W0.heap.size + 1]? = some (.cells #[tv] 52 (0, 0)) := by
    rw [hw1]
    have h1 := heap_alloc_new (W0.alloc (.cells #[.pointer (some ⟨pp, 0, none⟩)] 80)) (.cells #[tv] 52)
    rw [World.size_alloc] at h1
    exact h1
  have hpb : w1.cell? ⟨W0.heap.size, 0, none⟩ = some (.pointer (some ⟨pp, 0, none⟩)) := by
    rw [hw1]
    exact cell_block ((heap_alloc_old _ _ (by simp)).trans (heap_alloc_new W0 _)) rfl
  have hlt := cell_lt hp
  have hch : ∀ W, Below w1.heap.size w1 W → w1.heap.size + 2 ≤ W.heap.size → ChS (fun W j => ((j ≠ w1.heap.size + 1 ∧ j ≠ w1.heap.size) ∧ okr j) ∧ some j ≠ ownOf (w.heap.size + 2) W ∧ ∀ i, ownOf (w.heap.size + 2) W = some i → i < W.heap.size) (w1.heap.size + 2) W (W0.heap.size + 1) W0.heap.size pp p b1 b2 D (fun k => okx k ∧ k < w.heap.size) tv T := fun W hb hs => by
    have hbW : Below w.heap.size w W := hbw.trans (hb.mono hbw.size)
    have hno : ownOf (w.heap.size + 2) W = none := ownOf_box ((hb.block _ (by omega)).trans hob1)
    have hnn : ∀ j : Nat, some j ≠ ownOf (w.heap.size + 2) W ∧ ∀ i, ownOf (w.heap.size + 2) W = some i → i < W.heap.size := fun j => by rw [hno]; exact ⟨fun e => (by cases e), fun i e => (by cases e)⟩
    refine ⟨(hb.block _ (by omega)).trans htb, (cell_eq (hb.block _ (by omega)) 0).trans hpb, (hbW.cell hlt).trans hp, h.dag.old.below hbW, (hw.old.below hbW).mono fun j hj => ⟨⟨⟨⟨by have := hj.2; omega, by have := hj.2; omega⟩, by rw [hokr]; exact ⟨.inl hj.1, by have := hj.2; omega, by have := hj.2; omega⟩⟩, hnn j⟩, by have := hj.2; omega, by have := hj.2; omega⟩, ?_, ⟨fun hk => by have := hk.2; omega, by omega, by omega⟩, hs⟩
    rintro j (⟨hx, hj⟩ | rfl | rfl | rfl)
    · exact ⟨by omega, ⟨⟨by omega, by omega⟩, by rw [hokr]; exact ⟨.inr (.inl hx), by omega, by omega⟩⟩, hnn j⟩
    · exact ⟨by omega, ⟨⟨by omega, by omega⟩, hokn _ (by omega) (by omega) (by omega)⟩, hnn _⟩
    · exact ⟨by omega, ⟨⟨by omega, by omega⟩, hokn _ (by omega) (by omega) (by omega)⟩, hnn _⟩
    · exact ⟨by omega, ⟨⟨by omega, by omega⟩, by rw [hokr]; exact ⟨.inr (.inr (.inl rfl)), by omega, by omega⟩⟩, hnn _⟩
  have HOKR := Lib.hid hokr
  clear hw1 hokr
  refine wpIn_range_var rfl (by decide) (gf := 168) (lb := #[.pointer (some ⟨W0.heap.size + 1, 0, none⟩), .pointer (some ⟨W0.heap.size, 0, none⟩)]) rfl trivial (enters_of Tryz.func168 (by kernel_rfl) rfl)
    (chain1_stops _ _ _ _ _ _ pp p b1 b2 HS D _ h.fine g T hT tv w1 hch) (by omega) ?kt ?kb ?kg (Below.refl _ _) (fun _ => rfl)
    (fun pre W => AbI w w1 W (hdrs D) okr C (W0.heap.size + 1) (w.heap.size + 2) pre ∧ pre.length ≤ 1000000)
    (fun c s W => c = .exit 0 ∧ ∃ pre, aboveG (hdrs D) T C = pre.map Prod.snd ∧ AbI w w1 W (hdrs D) okr C (W0.heap.size + 1) (w.heap.size + 2) pre)
    ?bears ?ixp ?h0
    (fun pre x a' W => ∃ bx, w1.heap.size + 2 ≤ bx ∧ W.heap[bx]? = some (.cells #[x.1] 52 (0, 0)) ∧ TipIs (fun j => okr j ∧ j ≠ w.heap.size + 2 ∧ j ≠ w1.heap.size + 1 ∧ j ≠ W0.heap.size + 1 ∧ some j ≠ ownOf (w.heap.size + 2) W) W (hdrs D) x.1 x.2 ∧ TipOf (hdrs D) x.2 ∧ (∃ rest, pre.map Prod.snd ++ x.2 :: rest = chainG (hdrs D) T) ∧ a' = { tmps := #[.pointer (some ⟨pp, 0, none⟩), tipV tv, tipV cv, undef, .pointer (some ⟨w.heap.size, 0, none⟩), .pointer (some ⟨w.heap.size + 1, 0, none⟩), .slice none 0 0, .pointer (some ⟨w.heap.size + 1 + 1, 0, none⟩), .pointer (some ⟨bx, 0, none⟩), .pointer (some ⟨pp, 0, none⟩), .agg #[tv], .func (.func 168) #[] #[.pointer (some ⟨W0.heap.size + 1, 0, none⟩), .pointer (some ⟨W0.heap.size, 0, none⟩)], tipV x.1, undef, undef, undef, undef, undef, undef, undef, undef, undef, undef], defers := [] })
    ?axp ?assign ?body ?done ?stop
  case kt =>
    intro A B E h1 h2
    refine ⟨Nat.le_trans h1.1 h2.1, fun h3 => h2.2.1 (h1.2.1 h3), fun j ha hb hc hl => ?_⟩
    have h3 := h1.2.2 j ha hb hc hl
    have h4 := h2.2.2 j ha hb h3.2 (Nat.lt_of_lt_of_le hl h1.1)
    exact ⟨h4.1.trans h3.1, h4.2⟩
  case kb =>
    intro W o'
    have he : ownOf (w.heap.size + 2) (W.putObj (w1.heap.size + 1) o') = ownOf (w.heap.size + 2) W := ownOf_eq (World.putObj_heap_other (by omega))
    exact ⟨by simp, fun h3 => by rw [he]; simpa using h3, fun j ha hb hc hl => ⟨World.putObj_heap_other ha, by rw [he]; exact hc⟩⟩
  case kg =>
    intro A E hs hb
    have he : ownOf (w.heap.size + 2) E = ownOf (w.heap.size + 2) A := ownOf_eq (hb.block _ (by omega))
    exact ⟨hb.size, fun h3 i hi => Nat.lt_of_lt_of_le (h3 i (by rw [← he]; exact hi)) hb.size, fun j ha hc hd hl => ⟨hb.block j hl, by rw [he]; exact hd⟩⟩
  case bears => exact ⟨fun s A E hs hb => ⟨hs.1.grow hb, hs.2⟩, fun s A cs hs => ⟨hs.1.set cs, hs.2⟩, fun s A o' hs => ⟨hs.1.put o', hs.2⟩⟩
  case ixp =>
    rintro c s A o' ⟨hc, pre, ha, hl⟩
    exact ⟨hc, pre, ha, hl.put o'⟩
  case h0 => exact ⟨⟨hbw, ⟨by omega, by omega, by omega, by omega, by omega⟩, Nat.le_refl _, fun _ _ _ _ => rfl, ⟨_, hob1, ⟨rfl, .inl ⟨rfl, rfl⟩⟩, by simp⟩, by simp, by simp⟩, by simp⟩
  case axp =>
    rintro pre x a' A o' ⟨bx, h1, h2, h3, h4⟩
    have he : ownOf (w.heap.size + 2) (A.putObj (w1.heap.size + 1) o') = ownOf (w.heap.size + 2) A := ownOf_eq (World.putObj_heap_other (by omega))
    exact ⟨bx, h1, (World.putObj_heap_other (by omega)).trans h2, by rw [he]; exact h3.put (fun k hk => hk.2.2.1) o', h4⟩
  case assign =>
    intro l pre x W K hi hx hsz hK
    obtain ⟨hc, htx, hrest⟩ := hx
    have hwl := hc.size
    have HCX := Lib.hid hc.tip.one
    have hb : Below W.heap.size W ((W.alloc (.cells #[.slice none 0 0] 52)).setRow W.heap.size #[x.1]) := below_setRow ((Below.refl _ W).alloc (Nat.le_refl _) _) (Nat.le_refl _) _
    have he : ownOf (w.heap.size + 2) ((W.alloc (.cells #[.slice none 0 0] 52)).setRow W.heap.size #[x.1]) = ownOf (w.heap.size + 2) W := ownOf_eq (hb.block _ (by omega))
    have HK := Lib.hid (hK _ _ hb ⟨W.heap.size, hwl, setRow_heap _ _ _ _ _ _ (heap_alloc_new W _), by
      rw [he]
      refine (((hc.tip.mono (ok' := fun j => (okr j ∧ j ≠ w.heap.size + 2 ∧ j ≠ w1.heap.size + 1 ∧ j ≠ W0.heap.size + 1 ∧ some j ≠ ownOf (w.heap.size + 2) W) ∧ j < W.heap.size) fun j hj => ⟨⟨hj.1.1.2, hokob j hj.1.1.2, hj.1.1.1.1, hj.2.1, hj.1.2.1⟩, hj.2.2⟩).below ((Below.refl _ W).alloc (Nat.le_refl _) _)).set (fun j hj => by have := hj.2; omega) _).mono fun j hj => hj.1, htx, hrest, rfl⟩)
    clear hK hb hz0 hz1 hc he
    gi_wp2_with (refine wplIn_store_row rfl 52 (.tmp 8) (.tmp 12) rfl W.heap.size rfl [x.1] rfl _ 52 (heap_alloc_new W _) rfl HCX.out tip_size ?_)
    exact HK.out
  case body =>
    rintro l pre x a' W hl hsz ⟨hI, hpl⟩ ⟨bx, hbx, hgx, htx, hto, ⟨rest, hrest⟩, rfl⟩
    obtain ⟨v, hv1, hv2, hv3⟩ := hI.out
    have how : ownOf (w.heap.size + 2) W = v.ownBlock := ownOf_box hv1
    rw [how] at htx
    have hWd : Below w.heap.size w W.drew := hI.below.drew
    have hcb : W.heap[w.heap.size + 1]? = some (.cells #[cv] 52 (0, 0)) := (hI.same _ (by omega) (by omega) (by omega)).trans ((hb1.block _ (by omega)).trans HP.out.2.2.1)
    have HG : Hid (W.drew.heap[bx]? = some (.cells #[x.1] 52 (0, 0))) := Lib.hid hgx
    have HCB : Hid (W.drew.heap[w.heap.size + 1]? = some (.cells #[cv] 52 (0, 0))) := Lib.hid hcb
    obtain ⟨ka, hka⟩ : ∃ ka, keyB x.2 = ka := ⟨_, rfl⟩
    obtain ⟨kb, hkb⟩ : ∃ kb, keyB C = kb := ⟨_, rfl⟩
    have HKX : Hid (∀ W', Below W.drew.heap.size W.drew W' → Calls Tryz.prog 54 #[tipV x.1] W' fun e w' => e = .returned (.string ka) ∧ Below W'.heap.size W' w') := Lib.hid fun W' hb => by rw [← hka]; exact key_is ((htx.below (Below.refl _ W).drew).below hb) (.inr hto)
    have HKC : Hid (∀ W', Below W.drew.heap.size W.drew W' → Calls Tryz.prog 54 #[tipV cv] W' fun e w' => e = .returned (.string kb) ∧ Below W'.heap.size W' w') := Lib.hid fun W' hb => by rw [← hkb]; exact key_is ((hv.below hWd).below hb) (.inr hC)
    obtain ⟨q, hq⟩ : ∃ q, (ka.toList == kb.toList) = q := ⟨_, rfl⟩
    have HQ : Hid (q = true ↔ x.2 = C) := Lib.hid (by rw [← hq, ← hka, ← hkb]; exact key_beq (.inr hto) (.inr hC))
    have hKq : q = true → ka = kb := fun e => by rw [← hka, ← hkb, HQ.out.1 e]
    have HHV : Hid (W.heap[w.heap.size + 2]? = some (.cells #[v] 104 (0, 0)) ∧ W.ownsRow (w1.heap.size + 2) 52 1 v pre.length (pre.map Prod.fst) ∧ ∀ y ∈ pre, TipIs (fun j => okr j ∧ j ≠ w.heap.size + 2 ∧ j ≠ w1.heap.size + 1 ∧ j ≠ W0.heap.size + 1 ∧ some j ≠ v.ownBlock) W (hdrs D) y.1 y.2) := Lib.hid ⟨hv1, hv2, hv3⟩
    have HTX := Lib.hid htx
    have HI := Lib.hid hI
    have HZ := Lib.hid (And.intro hz0 hz1)
    have HHOW := Lib.hid how
    clear hI hv1 hv2 hv3 how htx hgx hcb hWd hka hkb hz0 hz1
    cases q with
    | true =>
      obtain rfl : ka = kb := hKq rfl
      have hxc := HQ.out.1 rfl
      clear hq
      gi_wp2
      refine stI_ (S := (fun W' => Below W.drew.heap.size W.drew W')) 5 #[false, false, false, false, false] (by kernel_rfl) rfl (by rfl) (by kernel_rfl) (by rintro ⟨_, _, h⟩; exact h) (Below.refl _ _) (fun hHeld => ?_)
      refine tk_ 0 (some 13) #[true, false, false, false, false] rfl rfl (by kernel_rfl) (fun _ _ _ h => h) (yieldsIf_tipb rfl (.tmp 8) rfl bx rfl x.1 (fun W' h => (h.block _ (Array.getElem?_eq_some_iff.1 HG.out).1).trans HG.out)) hHeld (a' := ?_) ?_ ?_
      rotate_left
      · simp only [Act.put, List.setIfInBounds_toArray, List.set_cons_zero, List.set_cons_succ]
        rfl
      refine tk_ 2 (some 15) #[true, false, true, false, false] rfl rfl (by kernel_rfl) (fun _ _ _ h => h) (yieldsIf_tipb rfl (.tmp 5) rfl (w.heap.size + 1) rfl cv (fun W' h => (h.block _ (Array.getElem?_eq_some_iff.1 HCB.out).1).trans HCB.out)) hHeld (a' := ?_) ?_ ?_
      rotate_left
      · simp only [Act.put, List.setIfInBounds_toArray, List.set_cons_zero, List.set_cons_succ]
        rfl
      refine call_ 1 (some 14) #[true, true, true, false, false] rfl rfl (by kernel_rfl) rfl 54 _ (by kernel_rfl) (HKX.out _ hHeld) ?_
      rintro e w3 ⟨rfl, hb3⟩
      have HB3 := Lib.hid (hHeld.trans (hb3.mono hHeld.size))
      refine ⟨_, rfl, HB3.out, fun hHeld => ⟨?_, ?_, ?_⟩⟩
      rotate_left
      · simp only [Act.put, List.setIfInBounds_toArray, List.set_cons_zero, List.set_cons_succ]
        rfl
      refine call_ 3 (some 16) #[true, true, true, true, false] rfl rfl (by kernel_rfl) rfl 54 _ (by kernel_rfl) (HKC.out _ hHeld) ?_
      rintro e w4 ⟨rfl, hb4⟩
      have HB4 := Lib.hid (hHeld.trans (hb4.mono hHeld.size))
      refine ⟨_, rfl, HB4.out, fun hHeld => ⟨?_, ?_, ?_⟩⟩
      rotate_left
      · simp only [Act.put, List.setIfInBounds_toArray, List.set_cons_zero, List.set_cons_succ]
        rfl
      refine tk_ 4 (some 17) #[true, true, true, true, true] (v := ?_) (a' := ?_) rfl rfl (by kernel_rfl) (fun _ _ _ h => h) (yieldsIf_run rfl ?_) hHeld ?_ ?_
      rotate_left
      · intro w'
        go_simp
        with_reducible rfl
      rotate_left
      · simp only [Act.put, List.setIfInBounds_toArray, List.set_cons_zero, List.set_cons_succ]
        rfl
      refine wpAnyH_done (by kernel_rfl) ?_ _
      have hbW : Below W.heap.size W w4 := (Below.refl _ W).drew.trans HB4.out
      change Exit.then _ _ _ _ _
      gi_wp2
      exact ⟨keeps_below hbW, rfl, pre, aboveG_split (C := C) (by rw [← hxc]; exact hrest) (fun y hy => by obtain ⟨z, hz, rfl⟩ := List.mem_map.1 hy; exact HI.out.ne z hz), HI.out.grow hbW⟩
    | false =>
      have hxc : x.2 ≠ C := fun e => by have := HQ.out.2 e; cases this
      have HKK := Lib.hid hq
      clear hq
      gi_wp2
      refine stI_ (S := (fun W' => Below W.drew.heap.size W.drew W')) 5 #[false, false, false, false, false] (by kernel_rfl) rfl (by rfl) (by kernel_rfl) (by rintro ⟨_, _, h⟩; exact h) (Below.refl _ _) (fun hHeld => ?_)
      refine tk_ 0 (some 13) #[true, false, false, false, false] rfl rfl (by kernel_rfl) (fun _ _ _ h => h) (yieldsIf_tipb rfl (.tmp 8) rfl bx rfl x.1 (fun W' h => (h.block _ (Array.getElem?_eq_some_iff.1 HG.out).1).trans HG.out)) hHeld (a' := ?_) ?_ ?_
      rotate_left
      · simp only [Act.put, List.setIfInBounds_toArray, List.set_cons_zero, List.set_cons_succ]
        rfl
      refine tk_ 2 (some 15) #[true, false, true, false, false] rfl rfl (by kernel_rfl) (fun _ _ _ h => h) (yieldsIf_tipb rfl (.tmp 5) rfl (w.heap.size + 1) rfl cv (fun W' h => (h.block _ (Array.getElem?_eq_some_iff.1 HCB.out).1).trans HCB.out)) hHeld (a' := ?_) ?_ ?_
      rotate_left
      · simp only [Act.put, List.setIfInBounds_toArray, List.set_cons_zero, List.set_cons_succ]
        rfl
      refine call_ 1 (some 14) #[true, true, true, false, false] rfl rfl (by kernel_rfl) rfl 54 _ (by kernel_rfl) (HKX.out _ hHeld) ?_
      rintro e w3 ⟨rfl, hb3⟩
      have HB3 := Lib.hid (hHeld.trans (hb3.mono hHeld.size))
      refine ⟨_, rfl, HB3.out, fun hHeld => ⟨?_, ?_, ?_⟩⟩
      rotate_left
      · simp only [Act.put, List.setIfInBounds_toArray, List.set_cons_zero, List.set_cons_succ]
        rfl
      refine call_ 3 (some 16) #[true, true, true, true, false] rfl rfl (by kernel_rfl) rfl 54 _ (by kernel_rfl) (HKC.out _ hHeld) ?_
      rintro e w4 ⟨rfl, hb4⟩
      have HB4 := Lib.hid (hHeld.trans (hb4.mono hHeld.size))
      refine ⟨_, rfl, HB4.out, fun hHeld => ⟨?_, ?_, ?_⟩⟩
      rotate_left
      · simp only [Act.put, List.setIfInBounds_toArray, List.set_cons_zero, List.set_cons_succ]
        rfl
      refine tk_ 4 (some 17) #[true, true, true, true, true] rfl rfl (by kernel_rfl) (fun _ _ _ h => h) (yieldsIf_run (v := .bool false) rfl fun W' => by go_simp; exact ne_of_beq_false HKK.out) hHeld (a' := ?_) ?_ ?_
      rotate_left
      · simp only [Act.put, List.setIfInBounds_toArray, List.set_cons_zero, List.set_cons_succ]
        rfl
      refine wpAnyH_done (by kernel_rfl) ?_ _
      have hbW : Below W.heap.size W w4 := (Below.refl _ W).drew.trans HB4.out
      have hz0 := HZ.out.1
      have hz1 := HZ.out.2
      have HG4 : Hid (w4.heap[bx]? = some (.cells #[x.1] 52 (0, 0))) := Lib.hid ((HB4.out.block _ (Array.getElem?_eq_some_iff.1 HG.out).1).trans HG.out)
      have HV4 : Hid (w4.heap[w.heap.size + 2]? = some (.cells #[v] 104 (0, 0))) := Lib.hid ((hbW.block _ (Array.getElem?_eq_some_iff.1 HHV.out.1).1).trans HHV.out.1)
      have HO4 := Lib.hid (own_below HHV.out.2.1 hbW)
      clear hz0 hz1
      change Exit.then _ _ _ _ _
      gi_wp2_with (refine listIn_of (by rintro ⟨_, _, h⟩; exact h) _ _ _ (by kernel_rfl) ?_)
      have hbase : w1.heap.size + 2 ≤ w4.heap.size := by have := (Array.getElem?_eq_some_iff.1 HG4.out).1; omega
      have hnob : some (w.heap.size + 2) ≠ v.ownBlock := fun e => by have := (own_lt HO4.out _ e.symm).1; have := HI.out.far.2.2.1; omega
      have hl24 : (pre.length + 1) * 24 ≤ 140737488355328 := by omega
      have hpl2 : (pre ++ [x]).length ≤ 1000000 := by have := congrArg List.length hrest; simp at this; simp; omega
      have hcv : w4.cell? ⟨w.heap.size + 2, 0, none⟩ = some v := cell_block HV4.out rfl
      go_wp2_with (first
        | (refine wpl_tip rfl _ rfl _ rfl _ HG4.out ?_)
        | (refine wpl_slice1 rfl 104 52 (.tmp 19) rfl #[x.1] rfl _ 1 24 Tryz.underlying104 tip_info (by kernel_rfl) rfl (by decide) (by decide) ?_)
        | (at_builtin; refine wpl_app1 #[x.1] (w1.heap.size + 2) rfl (.tmp 18) (.tmp 20) 104 52 _ 1 24 rfl Tryz.underlying104 tip_info (by kernel_rfl) (by decide) (by decide) v pre.length _ rfl rfl rfl (by simpa using HTX.out.one) HO4.out hbase hl24 ?_; intro v1 w5 ho5 hg5 hat5; obtain ⟨A1, c1, rfl, -⟩ := own_slice ho5; have HO5 := Lib.hid ho5; have HG5 := Lib.hid hg5; have HAT5 := Lib.hid hat5; have HV5 := Lib.hid ((hg5.block _ (Array.getElem?_eq_some_iff.1 HV4.out).1 hnob).trans HV4.out); clear ho5 hg5 hat5)
        | (refine wpl_set1 rfl 104 (.tmp 7) (.tmp 21) rfl (w.heap.size + 2) rfl (.slice A1 (pre.length + 1) c1) v 104 rfl HV5.out rfl tips_size ?_))
      have hz0 := HZ.out.1
      have hz1 := HZ.out.2
      have hHI := HI.out
      have hsz5 : w4.heap.size ≤ w5.heap.size := HG5.out.size
      have hszW := hbW.size
      have hown1 : ∀ i, (Value.slice A1 (pre.length + 1) c1).ownBlock = some i → w1.heap.size + 2 ≤ i ∧ i < w5.heap.size := fun i hi => own_lt HO5.out i hi
      have hown0 : ∀ i, v.ownBlock = some i → w1.heap.size + 2 ≤ i ∧ i < W.heap.size := fun i hi => own_lt HHV.out.2.1 i hi
      have how6 : ownOf (w.heap.size + 2) (w5.setRow (w.heap.size + 2) #[.slice A1 (pre.length + 1) c1]) = (Value.slice A1 (pre.length + 1) c1).ownBlock := ownOf_box (setRow_heap _ _ _ _ _ _ HV5.out)
      have hkeep : ∀ j, j ≠ w.heap.size + 2 → some j ≠ v.ownBlock → j < W.heap.size → (w5.setRow (w.heap.size + 2) #[.slice A1 (pre.length + 1) c1]).heap[j]? = W.heap[j]? := fun j h1 h2 h3 => (heap_setRow_ne _ _ _ _ h1).trans ((HG5.out.block j (Nat.lt_of_lt_of_le h3 hszW) h2).trans (hbW.block j h3))
      have hnew : ∀ j, j < w4.heap.size → some j ≠ v.ownBlock → some j ≠ (Value.slice A1 (pre.length + 1) c1).ownBlock := fun j h1 h2 => by
        rcases HAT5.out with he | ⟨b, he, hb⟩
        · rw [he]; exact h2
        · rw [he]; intro e; cases e; omega
      have hmv : ∀ y : Value × List ID, TipIs (fun j => okr j ∧ j ≠ w.heap.size + 2 ∧ j ≠ w1.heap.size + 1 ∧ j ≠ W0.heap.size + 1 ∧ some j ≠ v.ownBlock) W (hdrs D) y.1 y.2 → TipIs (fun j => okr j ∧ j ≠ w.heap.size + 2 ∧ j ≠ w1.heap.size + 1 ∧ j ≠ W0.heap.size + 1 ∧ some j ≠ (Value.slice A1 (pre.length + 1) c1).ownBlock) (w5.setRow (w.heap.size + 2) #[.slice A1 (pre.length + 1) c1]) (hdrs D) y.1 y.2 := fun y hy =>
        (((hy.below hbW).old.fr (Fr.grown HG5.out fun k hk => hk.1.2.2.2.2)).set (fun k hk => hk.1.2.1) _).mono fun k hk => ⟨hk.1.1, hk.1.2.1, hk.1.2.2.1, hk.1.2.2.2.1, hnew k hk.2 hk.1.2.2.2.2⟩
      refine ⟨⟨by simp; omega, fun k o hB hk hc => (hkeep k (by omega) (fun e => ?_) (Array.getElem?_eq_some_iff.1 hk).1).trans hk⟩, ⟨by simp; omega, fun _ i hi => ?_, fun j h1 h2 h3 h4 => ?_⟩, ⟨?_, hHI.far, by simp; have := hHI.size; omega, fun j h1 h2 h3 => (hkeep j h3 (fun e => by have := (hown0 j e.symm).1; omega) (Nat.lt_of_lt_of_le h1 hHI.size)).trans (hHI.same j h1 h2 h3), ⟨_, setRow_heap _ _ _ _ _ _ HV5.out, ?_, fun y hy => ?_⟩, fun y hy => ?_, fun y hy => ?_⟩, hpl2⟩
      · rw [own_cells HHV.out.2.1 e.symm hk] at hc; cases hc
      · rw [how6] at hi
        simpa using (hown1 i hi).2
      · rw [HHOW.out] at h3
        exact ⟨hkeep j h2 h3 h4, by rw [how6]; exact hnew j (by omega) h3⟩
      · exact below_setRow (below_grown_own (hHI.below.trans (hbW.mono hHI.below.size)) HO4.out (by omega) (by have := hHI.below.size; omega) HG5.out) (by omega) _
      · rw [List.length_append, List.map_append]
        exact own_setRow _ HO5.out fun k hk => by have := (hown1 k hk).1; omega
      · rcases List.mem_append.1 hy with hy | hy
        · exact hmv y (HHV.out.2.2 y hy)
        · rw [List.mem_singleton.1 hy]; exact hmv x HTX.out
      · rcases List.mem_append.1 hy with hy | hy
        · exact hHI.ne y hy
        · rw [List.mem_singleton.1 hy]; exact hxc
      · rcases List.mem_append.1 hy with hy | hy
        · exact hHI.tips y hy
        · rw [List.mem_singleton.1 hy]; exact hto
  case done =>
    rintro Db xs W rfl hS ⟨hI, hpl⟩ hK
    have hall : aboveG (hdrs D) T C = xs.map Prod.snd := by
      rw [hS]
      refine aboveG_all fun y hy => ?_
      rw [← hS] at hy
      obtain ⟨z, hz, rfl⟩ := List.mem_map.1 hy
      exact hI.ne z hz
    obtain ⟨v, hv1, hv2, hv3⟩ := hI.out
    have hcv : W.cell? ⟨w.heap.size + 2, 0, none⟩ = some v := cell_block hv1 rfl
    have HALL := Lib.hid hall
    have HI := Lib.hid hI
    have HV := Lib.hid (And.intro hv2 hv3)
    have HZ := Lib.hid (And.intro hz0 hz1)
    have HK := Lib.hid hK
    clear hall hI hv1 hv2 hv3 hz0 hz1 hK
    gi_wp2
    have hz0 := HZ.out.1
    have hz1 := HZ.out.2
    refine ⟨by simp, .inl ⟨_, _, rfl, run_takeDeferred HK.out, ?_⟩⟩
    refine ⟨_, results_tmp rfl _ _ _, v, xs, rfl, own_same (own_low HV.out.1 (by omega)) fun k hk => World.putObj_heap_other (by have := (own_lt HV.out.1 k hk).1; omega), HALL.out.symm, fun x hx => ⟨((HV.out.2 x hx).put (fun k hk => ?_) _).mono fun k hk => ⟨?_, hk.2.2.2.2⟩, HI.out.tips x hx⟩, HI.out.below.grown (grownBy_putObj' W _ _) HI.out.below.size (fun k e => by cases e; omega)⟩
    · have h2 := hk.1
      rw [HOKR.out] at h2
      exact h2.2.2
    · have h2 := hk.1
      rw [HOKR.out] at h2
      exact h2.1
  case stop =>
    rintro Db c s W rfl - ⟨rfl, pre, hall, hI⟩ hK
    obtain ⟨v, hv1, hv2, hv3⟩ := hI.out
    have hcv : W.cell? ⟨w.heap.size + 2, 0, none⟩ = some v := cell_block hv1 rfl
    have HALL := Lib.hid hall
    have HI := Lib.hid hI
    have HV := Lib.hid (And.intro hv2 hv3)
    have HZ := Lib.hid (And.intro hz0 hz1)
    have HK := Lib.hid hK
    clear hall hI hv1 hv2 hv3 hz0 hz1 hK
    gi_wp2
    have hz0 := HZ.out.1
    have hz1 := HZ.out.2
    refine ⟨by simp, .inl ⟨_, _, rfl, run_takeDeferred HK.out, ?_⟩⟩
    refine ⟨_, results_tmp rfl _ _ _, v, pre, rfl, own_same (own_low HV.out.1 (by omega)) fun k hk => World.putObj_heap_other (by have := (own_lt HV.out.1 k hk).1; omega), HALL.out.symm, fun x hx => ⟨((HV.out.2 x hx).put (fun k hk => ?_) _).mono fun k hk => ⟨?_, hk.2.2.2.2⟩, HI.out.tips x hx⟩, HI.out.below.grown (grownBy_putObj' W _ _) HI.out.below.size (fun k e => by cases e; omega)⟩
    · have h2 := hk.1
      rw [HOKR.out] at h2
      exact h2.2.2
    · have h2 := hk.1
      rw [HOKR.out] at h2
      exact h2.1
end Go.Proofs.YtcohdfkdhdhegaaGreatDoor
namespace Go.Proofs.YtcohdfkdhdhegaaGreatDoor
open Go.Shelf Go.RowKit Go.Sort

def lrT_ren : Go.Shelf.Ren := ⟨fun | 35 => 130 | n => n, fun | 0 => 0 | 3 => 3 | 4 => 4 | 22 => 104 | 23 => 52 | n => n, fun | n => n⟩
theorem lrT : Go.Proofs.SlLaysE0.n35 Tryz.prog lrT_ren := {
  mixed := by kernel_rfl
  f35 := ⟨Tryz.f130.name, by decide, Tryz.func130.trans (congrArg some (by kernel_rfl))⟩
  t0 := Tryz.underlying0
  a0 := Tryz.isAgg0
  z0 := Tryz.sizeOf0
  v0 := Tryz.zeroValue0
  t3 := Tryz.underlying3
  a3 := Tryz.isAgg3
  z3 := Tryz.sizeOf3
  v3 := Tryz.zeroValue3
  t4 := Tryz.underlying4
  a4 := Tryz.isAgg4
  z4 := Tryz.sizeOf4
  v4 := Tryz.zeroValue4
  t22 := Tryz.underlying104
  a22 := Tryz.isAgg104
  z22 := Tryz.sizeOf104
  v22 := Tryz.zeroValue104 }
section
variable {P : Program} {ρ : Ren} {β : Type} {E : Enc β} {w : World}
theorem reverse_gen [Inhabited β] (L : SlLaysE0.n35 P ρ) (aE : ∀ w, (isAgg (ρ.t 23)).run P w = .ok true w) (zE : ∀ w, (Go.sizeOf (ρ.t 23)).run P w = .ok E.k w) {base : Nat} {T : TypeId} {v : Value} {ys : List β} (h : w.ownsRow base T E.k v ys.length (E.flat ys)) (hsz : ys.length ≤ 9223372036854775807) :
    Calls P (ρ.f 35) #[v] w fun e w' => e = .returned (.tuple #[]) ∧ w'.ownsRow base T E.k v ys.length (E.flat ys.reverse) ∧ w.grownBy w' v.ownBlock := by
  rcases h.2 with ⟨rfl, h0⟩ | ⟨b, cap, cur, rfl, hb, hg, -⟩
  · rw [h0]
    refine (AnyQ.slices_Reverse_empty L none 0 w).mono ?_
    rintro e w' ⟨rfl, rfl⟩
    obtain rfl := List.eq_nil_of_length_eq_zero h0
    exact ⟨rfl, h, ⟨rfl, rfl, rfl, Nat.le_refl _, fun _ _ _ => rfl⟩⟩
  · have hS := AnyQ.slices_Reverse L E.k aE zE E.enc E.hk E.one b 0 cap ys.toArray w (own_holds h rfl) (by simpa using hsz)
    simp only [List.size_toArray] at hS
    refine hS.mono ?_
    rintro e w' ⟨rfl, n, rfl⟩
    have hw : sortWorldK E.enc E.k w b 0 n ys.toArray.reverse #[] = putRowK E.enc E.k (Sort.ahead w n) b 0 ys.toArray.reverse := by
      unfold sortWorldK grow
      simp
    obtain ⟨ho, hgr⟩ := own_sorted (m := n) (os := #[]) (d := ys.toArray.reverse) h rfl (by simp)
    rw [hw] at ho hgr
    refine ⟨rfl, ?_, hgr⟩
    simpa using ho
end
/-- A tipset in a row. -/
def tpE : Enc (Value × List ID) := { enc := fun x => [if x.1.oneCell' = true then x.1 else .bool false], k := 1, hk := fun _ => rfl, one := fun x u hu => by rw [List.mem_singleton] at hu; subst hu; split; assumption; rfl, k0 := by decide }
theorem tpE_flat : ∀ {xs : List (Value × List ID)}, (∀ x ∈ xs, x.1.oneCell' = true) → tpE.flat xs = xs.map Prod.fst
  | [], _ => rfl
  | x :: xs, h => by
    have h1 : tpE.flat (x :: xs) = tpE.enc x ++ tpE.flat xs := rfl
    rw [h1, tpE_flat fun y hy => h y (List.mem_cons_of_mem _ hy)]
    show [if x.1.oneCell' = true then x.1 else .bool false] ++ _ = _
    rw [if_pos (h x List.mem_cons_self)]
    rfl
theorem reverse_tips (w : World) (base : Nat) (v : Value) (xs : List (Value × List ID)) (h1 : ∀ x ∈ xs, x.1.oneCell' = true) (h : w.ownsRow base 52 1 v xs.length (xs.map Prod.fst)) (hsz : xs.length ≤ 9223372036854775807) :
    Calls Tryz.prog 130 #[v] w fun e w' => e = .returned (.tuple #[]) ∧ w'.ownsRow base 52 1 v xs.length (xs.reverse.map Prod.fst) ∧ w.grownBy w' v.ownBlock := by
  rw [← tpE_flat h1] at h
  have h2 := reverse_gen (E := tpE) (β := Value × List ID) lrT Tryz.isAgg52 Tryz.sizeOf52 h hsz
  rw [tpE_flat (xs := xs.reverse) fun x hx => h1 x (List.mem_reverse.1 hx)] at h2
  exact h2
end Go.Proofs.YtcohdfkdhdhegaaGreatDoor
