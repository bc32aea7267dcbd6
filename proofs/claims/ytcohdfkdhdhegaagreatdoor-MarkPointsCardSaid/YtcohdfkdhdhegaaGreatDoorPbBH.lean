/- path.Paths.Weight of the genesis tipset, over a cache that was just made. -/
import Derived.Test.YtcohdfkdhdhegaaGreatDoorPbBG
namespace Go.Proofs.YtcohdfkdhdhegaaGreatDoor
open Go Go.RowKit Go.Maps Go.Shelf
attribute [local go_sem] Oper.semAt_some

def okW (w1 : World) (tB wy pc hd mb : Nat) (j : Nat) : Prop := (j ≠ tB ∧ j ≠ w1.heap.size + 1 ∧ j ≠ w1.heap.size ∧ j ≠ wy) ∧ j ≠ pc ∧ j ≠ hd ∧ j ≠ mb
/-- What lies while those behind the genesis are gathered. -/
structure WgI (w w1 W : World) (pc hd mb : Nat) (most : Int) (tB wy : Nat) (G : List Hdr) (pre : List (Value × List ID)) : Prop where
  chg : Chg (fun k => k = pc) w W
  far : w.heap.size ≤ tB ∧ w.heap.size ≤ wy ∧ wy < w1.heap.size ∧ tB < w1.heap.size ∧ wy ≠ tB ∧ w.heap.size ≤ w1.heap.size
  lows : pc < w.heap.size ∧ hd < w.heap.size ∧ mb < w.heap.size
  size : w1.heap.size ≤ W.heap.size
  same : ∀ j, j < w1.heap.size → j ≠ tB → j ≠ wy → j ≠ pc → W.heap[j]? = w1.heap[j]?
  cache : Cache0 W pc hd mb most
  out : (pre = [] ∧ W.heap[wy]? = some (.cells #[.slice none 0 0] 104 (0, 0))) ∨
    ∃ x b c, pre = [x] ∧ w1.heap.size + 2 ≤ b ∧ W.heap[wy]? = some (.cells #[.slice (some ⟨b, 0, none⟩) 1 c] 104 (0, 0)) ∧ W.cell? ⟨b, 0, none⟩ = some x.1 ∧ TipIs (okW w1 tB wy pc hd mb) W G x.1 x.2
section
variable {w w1 W W' : World} {pc hd mb : Nat} {most : Int} {tB wy : Nat} {G : List Hdr} {pre : List (Value × List ID)}
theorem WgI.grow (h : WgI w w1 W pc hd mb most tB wy G pre) (hb : Below W.heap.size W W') : WgI w w1 W' pc hd mb most tB wy G pre := by
  refine ⟨h.chg.step (Chg.of_below (S := fun k => k = pc) hb) (fun k hk => .inl hk), h.far, h.lows, Nat.le_trans h.size hb.size, fun j hj h1 h2 h3 => (hb.block j (Nat.lt_of_lt_of_le hj h.size)).trans (h.same j hj h1 h2 h3), h.cache.below hb, ?_⟩
  rcases h.out with ⟨h1, h2⟩ | ⟨x, b, c, h1, h2, h3, h4, h5⟩
  · exact .inl ⟨h1, (hb.block _ (Array.getElem?_eq_some_iff.1 h2).1).trans h2⟩
  · exact .inr ⟨x, b, c, h1, h2, (hb.block _ (Array.getElem?_eq_some_iff.1 h3).1).trans h3, (hb.cell (cell_lt h4)).trans h4, h5.below hb⟩
theorem WgI.set (h : WgI w w1 W pc hd mb most tB wy G pre) (cs : Array Value) : WgI w w1 (W.setRow tB cs) pc hd mb most tB wy G pre := by
  have hfr : Fr (okW w1 tB wy pc hd mb) W (W.setRow tB cs) := ⟨by simp, fun k hk _ => heap_setRow_ne _ _ _ _ hk.1.1⟩
  have hf := h.far
  have hl := h.lows
  refine ⟨⟨h.chg.os, h.chg.tape, h.chg.output, by have := h.chg.size; simpa using this, fun k hk hs => (heap_setRow_ne _ _ _ _ (by omega)).trans (h.chg.block k hk hs)⟩, h.far, h.lows, by simpa using h.size, fun j hj h1 h2 h3 => (heap_setRow_ne _ _ _ _ h1).trans (h.same j hj h1 h2 h3), h.cache.fr (ok := fun k => k ≠ tB) ⟨by simp, fun k hk _ => heap_setRow_ne _ _ _ _ hk⟩ (by omega) (by omega) (by omega), ?_⟩
  rcases h.out with ⟨h1, h2⟩ | ⟨x, b, c, h1, h2, h3, h4, h5⟩
  · exact .inl ⟨h1, (heap_setRow_ne _ _ _ _ hf.2.2.2.2.1).trans h2⟩
  · exact .inr ⟨x, b, c, h1, h2, (heap_setRow_ne _ _ _ _ hf.2.2.2.2.1).trans h3, (cell_eq (heap_setRow_ne _ _ _ _ (by omega)) 0).trans h4, h5.fr hfr⟩
theorem WgI.put (h : WgI w w1 W pc hd mb most tB wy G pre) (o : Obj) : WgI w w1 (W.putObj (w1.heap.size + 1) o) pc hd mb most tB wy G pre := by
  have hf := h.far
  have hl := h.lows
  have hg := grownBy_putObj' W (w1.heap.size + 1) o
  refine ⟨⟨hg.os.trans h.chg.os, hg.tape.trans h.chg.tape, hg.output.trans h.chg.output, by have := h.chg.size; simpa using this, fun k hk hs => (World.putObj_heap_other (by omega)).trans (h.chg.block k hk hs)⟩, h.far, h.lows, by simpa using h.size, fun j hj h1 h2 h3 => (World.putObj_heap_other (by omega)).trans (h.same j hj h1 h2 h3), h.cache.fr (ok := fun k => k ≠ w1.heap.size + 1) ⟨by simp, fun k hk _ => World.putObj_heap_other hk⟩ (by omega) (by omega) (by omega), ?_⟩
  rcases h.out with ⟨h1, h2⟩ | ⟨x, b, c, h1, h2, h3, h4, h5⟩
  · exact .inl ⟨h1, (World.putObj_heap_other (by omega)).trans h2⟩
  · exact .inr ⟨x, b, c, h1, h2, (World.putObj_heap_other (by omega)).trans h3, (cell_eq (World.putObj_heap_other (by omega)) 0).trans h4, h5.put (fun k hk => hk.1.2.1) o⟩
end
theorem root_chain {G : List Hdr} (g : GoodG G) : chainG G [rootID] = [[rootID]] := by
  have hh : headG G [rootID] = some genH := g.root_get
  refine g.chain_root g.root_tip ?_
  unfold parG
  rw [hh]
  rfl
/-- A cache that is asked. -/
def CgS (pc hd mb : Nat) (most : Int) (A W : World) : Prop := Cache0 W pc hd mb most ∧ Chg (fun k => k = pc) A W
section
variable {pc hd mb : Nat} {most : Int} {A W W' : World}
theorem CgS.step (h : CgS pc hd mb most A W) (h1 : Cache0 W' pc hd mb most) (h2 : Chg (fun k => k = pc) W W') : CgS pc hd mb most A W' := ⟨h1, h.2.step h2 fun _k hk => .inl hk⟩
theorem CgS.next (h : CgS pc hd mb most A W) (hb : Below W.heap.size W W') : CgS pc hd mb most A W' := h.step (h.1.below hb) (Chg.of_below hb)
theorem CgS.set (h : CgS pc hd mb most A W) {g : Nat} (hg : A.heap.size ≤ g) (hl : pc < A.heap.size ∧ hd < A.heap.size ∧ mb < A.heap.size) (cs : Array Value) : CgS pc hd mb most A (W.setRow g cs) :=
  ⟨h.1.fr (ok := fun k => k ≠ g) ⟨by simp, fun k hk _ => heap_setRow_ne _ _ _ _ hk⟩ (by omega) (by omega) (by omega), ⟨h.2.os, h.2.tape, h.2.output, by have := h.2.size; simpa using this, fun k hk hs => (heap_setRow_ne _ _ _ _ (by omega)).trans (h.2.block k hk hs)⟩⟩
theorem CgS.blk (h : CgS pc hd mb most A W) {k : Nat} {o : Obj} (hk : A.heap[k]? = some o) (hn : k ≠ pc) : W.heap[k]? = some o := (h.2.block k (Array.getElem?_eq_some_iff.1 hk).1 hn).trans hk
theorem CgS.cell (h : CgS pc hd mb most A W) {k off : Nat} {v : Value} (hk : A.cell? ⟨k, off, none⟩ = some v) (hn : k ≠ pc) : W.cell? ⟨k, off, none⟩ = some v := (cell_eq (h.2.block k (cell_lt hk) hn) off).trans hk
end

/-- What lies while weights are kept. -/
structure WgJ (w w2 W : World) (pc hd mb : Nat) (most : Int) (tB : Nat) (pre : List Unit) : Prop where
  chg : Chg (fun k => k = pc ∨ k = hd ∨ k = mb) w W
  far : w.heap.size ≤ tB ∧ tB < w2.heap.size ∧ w.heap.size ≤ w2.heap.size
  lows : pc < w.heap.size ∧ hd < w.heap.size ∧ mb < w.heap.size
  size : w2.heap.size ≤ W.heap.size
  same : ∀ j, j < w2.heap.size → j ≠ tB → j ≠ pc → j ≠ hd → j ≠ mb → W.heap[j]? = w2.heap[j]?
  cache : pre = [] → Cache0 W pc hd mb most
section
variable {w w2 W W' : World} {pc hd mb : Nat} {most : Int} {tB : Nat} {pre : List Unit}
theorem WgJ.grow (h : WgJ w w2 W pc hd mb most tB pre) (hb : Below W.heap.size W W') : WgJ w w2 W' pc hd mb most tB pre :=
  ⟨h.chg.step (Chg.of_below (S := fun k => k = pc ∨ k = hd ∨ k = mb) hb) (fun _k hk => .inl hk), h.far, h.lows, Nat.le_trans h.size hb.size, fun j hj h1 h2 h3 h4 => (hb.block j (Nat.lt_of_lt_of_le hj h.size)).trans (h.same j hj h1 h2 h3 h4), fun e => (h.cache e).below hb⟩
theorem WgJ.set (h : WgJ w w2 W pc hd mb most tB pre) (cs : Array Value) : WgJ w w2 (W.setRow tB cs) pc hd mb most tB pre := by
  have hf := h.far
  have hl := h.lows
  exact ⟨⟨h.chg.os, h.chg.tape, h.chg.output, by have := h.chg.size; simpa using this, fun k hk hs => (heap_setRow_ne _ _ _ _ (by omega)).trans (h.chg.block k hk hs)⟩, h.far, h.lows, by simpa using h.size, fun j hj h1 h2 h3 h4 => (heap_setRow_ne _ _ _ _ h1).trans (h.same j hj h1 h2 h3 h4), fun e => (h.cache e).fr (ok := fun k => k ≠ tB) ⟨by simp, fun k hk _ => heap_setRow_ne _ _ _ _ hk⟩ (by omega) (by omega) (by omega)⟩
theorem WgJ.put (h : WgJ w w2 W pc hd mb most tB pre) (o : Obj) : WgJ w w2 (W.putObj (w2.heap.size + 1) o) pc hd mb most tB pre := by
  have hf := h.far
  have hl := h.lows
  have hg := grownBy_putObj' W (w2.heap.size + 1) o
  exact ⟨⟨hg.os.trans h.chg.os, hg.tape.trans h.chg.tape, hg.output.trans h.chg.output, by have := h.chg.size; simpa using this, fun k hk hs => (World.putObj_heap_other (by omega)).trans (h.chg.block k hk hs)⟩, h.far, h.lows, by simpa using h.size, fun j hj h1 h2 h3 h4 => (World.putObj_heap_other (by omega)).trans (h.same j hj h1 h2 h3 h4), fun e => (h.cache e).fr (ok := fun k => k ≠ w2.heap.size + 1) ⟨by simp, fun k hk _ => World.putObj_heap_other hk⟩ (by omega) (by omega) (by omega)⟩
end
theorem root_par {G : List Hdr} (g : GoodG G) : parG G [rootID] = [] := by
  have hh : headG G [rootID] = some genH := g.root_get
  unfold parG
  rw [hh]
  rfl
theorem Chg.wide {S T : Nat → Prop} {w w1 : World} (h : Chg S w w1) (hS : ∀ k, S k → T k) : Chg T w w1 := ⟨h.os, h.tape, h.output, h.size, fun k hk ht => h.block k hk fun hs => ht (hS k hs)⟩

set_option maxRecDepth 100000 in
set_option maxHeartbeats 4000000 in
theorem weight0_any (w : World) (pp p b1 b2 : Nat) (D : List LB) (okx : Nat → Prop) (pc hd mb : Nat) (most : Int) (hp : w.heap[pp]? = some (.cells #[.pointer (some ⟨p, 0, none⟩), .pointer (some ⟨pc, 0, none⟩)] 180 (0, 0))) (h : DagAt okx w p b1 b2 D) (hf : FineD D) (g : GoodG (hdrs D)) (tv : Value) (ok : Nat → Prop) (hw : TipIs ok w (hdrs D) tv [rootID]) (hc : Cache0 w pc hd mb most) (hm : 1 ≤ most) (hok : ∀ k, (ok k ∨ okx k ∨ k = pp) → k ≠ pc ∧ k ≠ hd ∧ k ≠ mb) :
    Calls Tryz.prog 126 #[.pointer (some ⟨pp, 0, none⟩), tipV tv] w fun e w' => e = .returned (.agg #[.slice none 0 0]) ∧ Chg (fun k => k = pc ∨ k = hd ∨ k = mb) w w' := by
  have htv : tv.oneCell' = true := hw.one tv (by simp)
  have hT : TipOf (hdrs D) [rootID] := g.root_tip
  have hlow := hc.lt
  have hppl := (Array.getElem?_eq_some_iff.1 hp).1
  refine (callsIn_wide (n := 5)).1 ?_
  refine callsIn_of_wp_marks Tryz.func126 rfl trivial ?_ rfl
  simp only [Tryz.ntmps126, List.size_toArray, List.length_cons, List.length_nil, Nat.reduceAdd, Nat.reduceSub, Array.replicate_succ, Array.replicate_zero, List.push_toArray, List.append_toArray, List.nil_append, List.cons_append]
  obtain ⟨W0, hW0⟩ : ∃ W0, (((((w.alloc (.cells #[.pointer (some ⟨pp, 0, none⟩)] 80)).alloc (.cells #[tv] 52)).alloc (.cells #[.slice none 0 0] 178)).alloc (.cells #[.slice none 0 0] 104)).alloc (.cells #[.slice none 0 0] 178)) = W0 := ⟨_, rfl⟩
  have HC := Lib.hid (chain_any W0 pp tv htv)
  have HP : Hid (Below w.heap.size w W0 ∧ W0.heap.size = w.heap.size + 5 ∧ W0.heap[w.heap.size]? = some (.cells #[.pointer (some ⟨pp, 0, none⟩)] 80 (0, 0)) ∧ W0.heap[w.heap.size + 1]? = some (.cells #[tv] 52 (0, 0)) ∧ W0.heap[w.heap.size + 2]? = some (.cells #[.slice none 0 0] 178 (0, 0)) ∧ W0.heap[w.heap.size + 3]? = some (.cells #[.slice none 0 0] 104 (0, 0)) ∧ W0.heap[w.heap.size + 4]? = some (.cells #[.slice none 0 0] 178 (0, 0))) := Lib.hid (by
    rw [← hW0]
    refine ⟨(((((Below.refl _ w).alloc (Nat.le_refl _) _).alloc (by simp) _).alloc (by simp; omega) _).alloc (by simp; omega) _).alloc (by simp; omega) _, by simp, ?_, ?_, ?_, ?_, ?_⟩ <;> (simp only [heap_alloc_if, World.size_alloc]; repeat (first | rfl | (rw [if_pos (by omega)]) | (rw [if_neg (by omega)]))))
  have hcp0 : W0.cell? ⟨w.heap.size, 0, none⟩ = some (.pointer (some ⟨pp, 0, none⟩)) := cell_block HP.out.2.2.1 rfl
  gi_wp2_with (first
    | (refine wplIn_load (by kernel_rfl) 52 (.tmp 3) rfl (w.heap.size + 1) 0 rfl [tv] _ (fun j u hu => by rw [Nat.zero_add]; exact cell_block HP.out.2.2.2.1 (by simpa using hu)) Tryz.underlying52 rfl tip_size ?_)
    | (refine ⟨trivial, ?_⟩; refine (callsIn_wide.2 HC.out).mono ?_; rintro e w1 ⟨rfl, hw1⟩; have HW1 := Lib.hid hw1; clear hw1))
  have hw1 := HW1.out
  have hz1 : w1.heap.size = W0.heap.size + 2 := by rw [hw1]; simp
  have hb1 : Below W0.heap.size W0 w1 := by rw [hw1]; exact ((Below.refl _ W0).alloc (Nat.le_refl _) _).alloc (by simp) _
  have hbw : Below w.heap.size w w1 := HP.out.1.trans (hb1.mono HP.out.1.size)
  have hz0 := HP.out.2.1
  have HS : Spare (fun _ j => (j ≠ w1.heap.size + 1 ∧ j ≠ w1.heap.size ∧ j ≠ w.heap.size + 3) ∧ j ≠ pc ∧ j ≠ hd ∧ j ≠ mb) (fun A C => A.heap.size ≤ C.heap.size ∧ ∀ j, j ≠ w1.heap.size + 1 → j ≠ w.heap.size + 3 → j ≠ pc → j < A.heap.size → C.heap[j]? = A.heap[j]?) (w1.heap.size + 2) (W0.heap.size + 1) :=
    ⟨fun hK => ⟨hK.1, fun j hj hl => ⟨hK.2 j hj.1.1 hj.1.2.2 hj.2.1 hl, hj⟩⟩, fun {A C} hn _ hb j hj hl => by
      by_cases hlt : j < A.heap.size
      · exact hj hlt
      · exact ⟨⟨by omega, by omega, by omega⟩, by omega, by omega, by omega⟩, fun _ _ hk => hk⟩
  have htb : w1.heap[W0.heap.size + 1]? = some (.cells #[tv] 52 (0, 0)) := by
    rw [hw1]
    have h1 := heap_alloc_new (W0.alloc (.cells #[.pointer (some ⟨pp, 0, none⟩)] 80)) (.cells #[tv] 52)
    rw [World.size_alloc] at h1
    exact h1
  have hpb : w1.cell? ⟨W0.heap.size, 0, none⟩ = some (.pointer (some ⟨pp, 0, none⟩)) := by
    rw [hw1]
    exact cell_block ((heap_alloc_old _ _ (by simp)).trans (heap_alloc_new W0 _)) rfl
  have hpo := hok pp (.inr (.inr rfl))
  have hp0 : w.cell? ⟨pp, 0, none⟩ = some (.pointer (some ⟨p, 0, none⟩)) := cell_block hp rfl
  have hch : ∀ W, Below w1.heap.size w1 W → w1.heap.size + 2 ≤ W.heap.size → ChS (fun _ j => (j ≠ w1.heap.size + 1 ∧ j ≠ w1.heap.size ∧ j ≠ w.heap.size + 3) ∧ j ≠ pc ∧ j ≠ hd ∧ j ≠ mb) (w1.heap.size + 2) W (W0.heap.size + 1) W0.heap.size pp p b1 b2 D (fun k => okx k ∧ k < w.heap.size) tv [rootID] := fun W hb hs => by
    have hbW : Below w.heap.size w W := hbw.trans (hb.mono hbw.size)
    refine ⟨(hb.block _ (by omega)).trans htb, (cell_eq (hb.block _ (by omega)) 0).trans hpb, (hbW.cell (cell_lt hp0)).trans hp0, h.old.below hbW, (hw.old.below hbW).mono fun j hj => ⟨⟨⟨by have := hj.2; omega, by have := hj.2; omega, by have := hj.2; omega⟩, hok j (.inl hj.1)⟩, by have := hj.2; omega, by have := hj.2; omega⟩, ?_, ⟨fun hk => by have := hk.2; omega, by omega, by omega⟩, hs⟩
    rintro j (⟨hx, hj⟩ | rfl | rfl | rfl)
    · exact ⟨by omega, ⟨by omega, by omega, by omega⟩, hok j (.inr (.inl hx))⟩
    · exact ⟨by omega, ⟨by omega, by omega, by omega⟩, by omega, by omega, by omega⟩
    · exact ⟨by omega, ⟨by omega, by omega, by omega⟩, by omega, by omega, by omega⟩
    · exact ⟨by omega, ⟨by omega, by omega, by omega⟩, hpo⟩
  clear hw1
  refine wpIn_range_var rfl (by decide) (gf := 168) (lb := #[.pointer (some ⟨W0.heap.size + 1, 0, none⟩), .pointer (some ⟨W0.heap.size, 0, none⟩)]) rfl trivial (enters_of Tryz.func168 (by kernel_rfl) rfl)
    (chain1_stops _ _ _ _ _ _ pp p b1 b2 HS D _ hf g [rootID] hT tv w1 hch) (by omega) ?kt ?kb ?kg (Below.refl _ _) (fun _ => rfl)
    (fun pre W => WgI w w1 W pc hd mb most (W0.heap.size + 1) (w.heap.size + 3) (hdrs D) pre)
    (fun _ _ _ => False)
    ?bears ?ixp ?h0
    (fun pre x a' W => ∃ bx, w1.heap.size + 2 ≤ bx ∧ W.heap[bx]? = some (.cells #[x.1] 52 (0, 0)) ∧ TipIs (okW w1 (W0.heap.size + 1) (w.heap.size + 3) pc hd mb) W (hdrs D) x.1 x.2 ∧ (pre = [] ∧ x.2 = [rootID]) ∧ a' = { tmps := #[.pointer (some ⟨pp, 0, none⟩), tipV tv, .pointer (some ⟨w.heap.size, 0, none⟩), .pointer (some ⟨w.heap.size + 1, 0, none⟩), .pointer (some ⟨w.heap.size + 1 + 1, 0, none⟩), .pointer (some ⟨w.heap.size + 1 + 1 + 1, 0, none⟩), .pointer (some ⟨w.heap.size + 1 + 1 + 1 + 1, 0, none⟩), .pointer (some ⟨bx, 0, none⟩), undef, undef, undef, undef, .pointer (some ⟨pp, 0, none⟩), .agg #[tv], .func (.func 168) #[] #[.pointer (some ⟨W0.heap.size + 1, 0, none⟩), .pointer (some ⟨W0.heap.size, 0, none⟩)], tipV x.1, undef, undef, undef, undef, undef, undef, undef, undef, undef, undef, undef, undef, undef, undef, undef, undef, undef, undef, undef, undef, undef, undef, undef, undef, undef, undef, undef, undef, undef, undef, undef, undef, undef, undef, undef, undef, undef, undef, undef], defers := [] })
    ?axp ?assign ?body ?done ?stop
  case kt => exact fun h1 h2 => ⟨Nat.le_trans h1.1 h2.1, fun j ha hb hc hl => (h2.2 j ha hb hc (Nat.lt_of_lt_of_le hl h1.1)).trans (h1.2 j ha hb hc hl)⟩
  case kb => exact fun W o' => ⟨by simp, fun j hj _ _ _ => World.putObj_heap_other hj⟩
  case kg => exact fun hs hb => ⟨hb.size, fun j _ _ _ hl => hb.block j hl⟩
  case bears => exact ⟨fun s A C hs hb => hs.grow hb, fun s A cs hs => hs.set cs, fun s A o' hs => hs.put o'⟩
  case ixp => exact fun _ _ _ _ h => h
  case h0 => exact ⟨Chg.of_below hbw, ⟨by omega, by omega, by omega, by omega, by omega, by omega⟩, hlow, Nat.le_refl _, fun _ _ _ _ _ => rfl, hc.below hbw, .inl ⟨rfl, (hb1.block _ (by omega)).trans HP.out.2.2.2.2.2.1⟩⟩
  case axp =>
    rintro pre x a' A o' ⟨bx, h1, h2, h3, h4⟩
    exact ⟨bx, h1, (World.putObj_heap_other (by omega)).trans h2, h3.put (fun k hk => hk.1.2.1) o', h4⟩
  case assign =>
    intro l pre x W K hi hx hsz hK
    obtain ⟨hc1, htx, rest, hrest⟩ := hx
    have hwl := hc1.size
    have HCX := Lib.hid hc1.tip.one
    have hpre : pre = [] ∧ x.2 = [rootID] := by
      rw [root_chain g] at hrest
      cases pre with
      | nil => exact ⟨rfl, (List.cons.inj hrest).1⟩
      | cons y l => simp at hrest
    have hb : Below W.heap.size W ((W.alloc (.cells #[.slice none 0 0] 52)).setRow W.heap.size #[x.1]) := below_setRow ((Below.refl _ W).alloc (Nat.le_refl _) _) (Nat.le_refl _) _
    have HK := Lib.hid (hK _ _ hb ⟨W.heap.size, hwl, setRow_heap _ _ _ _ _ _ (heap_alloc_new W _), (((hc1.tip.mono (ok' := fun j => okW w1 (W0.heap.size + 1) (w.heap.size + 3) pc hd mb j ∧ j < W.heap.size) fun j hj => ⟨⟨⟨hj.2.1, hj.1.1.1, hj.1.1.2.1, hj.1.1.2.2⟩, hj.1.2⟩, hj.2.2⟩).below ((Below.refl _ W).alloc (Nat.le_refl _) _)).set (fun j hj => by have := hj.2; omega) _).mono fun j hj => hj.1, hpre, rfl⟩)
    clear hK hb hz0 hz1 hc1
    gi_wp2_with (refine wplIn_store_row rfl 52 (.tmp 7) (.tmp 15) rfl W.heap.size rfl [x.1] rfl _ 52 (heap_alloc_new W _) rfl HCX.out tip_size ?_)
    exact HK.out
  case body =>
    rintro l pre x a' W hl hsz hI ⟨bx, hbx, hgx, htx, ⟨rfl, hxr⟩, rfl⟩
    have hwy : W.heap[w.heap.size + 3]? = some (.cells #[.slice none 0 0] 104 (0, 0)) := by
      rcases hI.out with ⟨-, h2⟩ | ⟨x', b, c, h1, -⟩
      · exact h2
      · cases h1
    have hp1 : W.heap[pp]? = some (.cells #[.pointer (some ⟨p, 0, none⟩), .pointer (some ⟨pc, 0, none⟩)] 180 (0, 0)) := (hI.chg.block pp hppl hpo.1).trans hp
    have hpb1 : W.heap[w.heap.size]? = some (.cells #[.pointer (some ⟨pp, 0, none⟩)] 80 (0, 0)) := (hI.same _ (by omega) (by omega) (by omega) (by omega)).trans ((hb1.block _ (by omega)).trans HP.out.2.2.1)
    have HWY : Hid (W.drew.heap[w.heap.size + 3]? = some (.cells #[.slice none 0 0] 104 (0, 0))) := Lib.hid hwy
    have HG : Hid (W.drew.heap[bx]? = some (.cells #[x.1] 52 (0, 0))) := Lib.hid hgx
    have HPB : Hid (W.drew.cell? ⟨w.heap.size, 0, none⟩ = some (.pointer (some ⟨pp, 0, none⟩))) := Lib.hid (cell_block hpb1 rfl)
    have HPC : Hid (W.drew.cell? ⟨pp, 1, none⟩ = some (.pointer (some ⟨pc, 0, none⟩))) := Lib.hid (cell_block hp1 rfl)
    have HCG : Hid (CgS pc hd mb most W.drew W.drew) := Lib.hid ⟨hI.cache.below (Below.refl _ W).drew, Chg.of_below (Below.refl _ _)⟩
    have HLW : Hid (pc < W.drew.heap.size ∧ hd < W.drew.heap.size ∧ mb < W.drew.heap.size) := Lib.hid hI.cache.lt
    have HTX := Lib.hid htx
    have HI := Lib.hid hI
    have hsI := hI.size
    obtain ⟨kx, hkx⟩ : ∃ kx, keyB x.2 = kx := ⟨_, rfl⟩
    have hks : kx.size ≤ maxLen := by rw [← hkx, keyB_size, hxr]; decide
    have HK : Hid (∀ W', CgS pc hd mb most W.drew W' → Calls Tryz.prog 54 #[tipV x.1] W' fun e w' => e = .returned (.string kx) ∧ Below W'.heap.size W' w') := Lib.hid fun W' h => by rw [← hkx]; exact key_is ((HTX.out.below (Below.refl _ W).drew).fr (h.2.fr fun k hk => hk.2.1)) (.inr (by rw [hxr]; exact hT))
    have HGT : Hid (∀ W', CgS pc hd mb most W.drew W' → Calls Tryz.prog 163 #[.pointer (some ⟨pc, 0, none⟩), .string kx] W' fun e w' => e = .returned (.tuple #[.agg #[.slice none 0 0], .bool false]) ∧ Cache0 w' pc hd mb most ∧ Chg (fun k => k = pc) W' w') := Lib.hid fun W' h => get0_any W' pc hd mb most h.1 kx hks
    have HFIN : Hid (∀ (W5 w6 : World) (A1 : Option Addr) (c1 : Nat), CgS pc hd mb most W.drew W5 → w6.ownsRow (w1.heap.size + 2) 52 1 (.slice A1 (0 + 1) c1) (0 + 1) ([] ++ [x.1]) → W5.grownBy w6 none → w6.heap[w.heap.size + 3]? = some (.cells #[.slice none 0 0] 104 (0, 0)) →
        rangeEnd w1.heap.size (fun A C => A.heap.size ≤ C.heap.size ∧ ∀ j, j ≠ w1.heap.size + 1 → j ≠ w.heap.size + 3 → j ≠ pc → j < A.heap.size → C.heap[j]? = A.heap[j]?) (fun pre W => WgI w w1 W pc hd mb most (W0.heap.size + 1) (w.heap.size + 3) (hdrs D) pre) (fun _ _ _ => False) ([] ++ [x]) W .normal ⟨#[], []⟩ (w6.setRow (w.heap.size + 3) #[.slice A1 (0 + 1) c1])) := Lib.hid fun W5 w6 A1 c1 hs ho hg hv => by
      have hz2 : W.heap.size ≤ W5.heap.size := hs.2.size
      have hz3 : W5.heap.size ≤ w6.heap.size := hg.size
      have hsm : ∀ j, j ≠ w.heap.size + 3 → j ≠ pc → j < W.heap.size → (w6.setRow (w.heap.size + 3) #[.slice A1 (0 + 1) c1]).heap[j]? = W.heap[j]? := fun j h1 h2 h3 => (heap_setRow_ne _ _ _ _ h1).trans ((hg.block j (Nat.lt_of_lt_of_le h3 hz2) (by intro e; cases e)).trans (hs.2.block j h3 h2))
      obtain ⟨b, c, e, hbl⟩ : ∃ b c, (Value.slice A1 (0 + 1) c1) = .slice (some ⟨b, 0, none⟩) 1 c ∧ w1.heap.size + 2 ≤ b ∧ w6.cell? ⟨b, 0, none⟩ = some x.1 := by
        rcases ho.2 with ⟨h1, -⟩ | ⟨g', cap, cur, hv', hb', hg', hr⟩
        · cases h1
        · obtain ⟨h1, h2, h3, h4⟩ := hr
          cases hv'
          refine ⟨g', _, rfl, hb', cell_block hg' ?_⟩
          have h5 := congrArg (fun l => l[0]?) h4
          simpa using h5
      rw [e] at hsm ⊢
      have hle := hI.far
      have hlw := hI.lows
      have hsz := hI.size
      have hwl := hI.chg.size
      refine ⟨⟨by simp; omega, fun k o hB hk _ => (hsm k (by omega) (by omega) (Array.getElem?_eq_some_iff.1 hk).1).trans hk⟩, ⟨by simp; omega, fun j _ h2 h3 h4 => hsm j h2 h3 h4⟩, ⟨hg.os.trans (hs.2.os.trans hI.chg.os), hg.tape.trans (hs.2.tape.trans hI.chg.tape), hg.output.trans (hs.2.output.trans hI.chg.output), by simp; omega, fun k hk hs' => (hsm k (by omega) hs' (Nat.lt_of_lt_of_le hk hwl)).trans (hI.chg.block k hk hs')⟩, hI.far, hI.lows, by simp; omega, fun j hj h1 h2 h3 => (hsm j h2 h3 (Nat.lt_of_lt_of_le hj hsz)).trans (hI.same j hj h1 h2 h3), ?_, .inr ⟨x, b, c, rfl, hbl.1, setRow_heap _ _ _ _ _ _ hv, (cell_eq (heap_setRow_ne _ _ _ _ (by omega)) 0).trans hbl.2, ?_⟩⟩
      · exact hs.1.fr (ok := fun k => k < w.heap.size) ⟨by simp; omega, fun k hk hl => (heap_setRow_ne _ _ _ _ (by omega)).trans (hg.block k hl (by intro e; cases e))⟩ hlw.1 hlw.2.1 hlw.2.2
      · have h6 := ((HTX.out.below (Below.refl _ W).drew).fr (hs.2.fr fun k hk => hk.2.1)).old
        have h7 := (h6.fr (Fr.grown hg fun k hk => by intro e; cases e)).set (b := w.heap.size + 3) (fun k hk => hk.1.1.2.2.2) #[.slice (some ⟨b, 0, none⟩) 1 c]
        exact h7.mono fun k hk => hk.1
    clear hI htx hgx hwy hp1 hpb1 hkx
    gi_wp2
    refine stDI_ (S := (fun W' => CgS pc hd mb most W.drew W')) [12] 13 (bt 0 13) (by kernel_rfl) rfl (by rfl) (by kernel_rfl) (by rintro ⟨_, _, h⟩; exact h) HCG.out (fun hHeld => ?_)
    refine tkD_ 0 (some 17) (bt 1 12) rfl rfl (by kernel_rfl) (fun _ _ _ h => h) (yieldsIf_cell rfl 80 (.tmp 2) rfl ⟨w.heap.size, 0, none⟩ rfl (.pointer (some ⟨pp, 0, none⟩)) _ (fun W' h => h.cell HPB.out (by omega)) Tryz.underlying80 rfl) hHeld (a' := ?_) ?_ ?_
    rotate_left
    · simp only [Act.put, List.setIfInBounds_toArray, List.set_cons_zero, List.set_cons_succ]
      rfl
    refine tkD_ 1 (some 18) (bt 2 11) (v := ?_) (a' := ?_) rfl rfl (by kernel_rfl) (fun _ _ _ h => h) (yieldsIf_run rfl ?_) hHeld ?_ ?_
    rotate_left
    · intro w'
      go_simp
      with_reducible rfl
    rotate_left
    · simp only [Act.put, List.setIfInBounds_toArray, List.set_cons_zero, List.set_cons_succ]
      rfl
    refine tkD_ 2 (some 19) (bt 3 10) (v := ?_) (a' := ?_) rfl rfl (by kernel_rfl) (fun _ _ _ h => h) (yieldsIf_run rfl ?_) hHeld ?_ ?_
    rotate_left
    · intro w'
      go_simp
      with_reducible rfl
    rotate_left
    · simp only [Act.put, List.setIfInBounds_toArray, List.set_cons_zero, List.set_cons_succ]
      rfl
    refine tkD_ 3 (some 20) (bt 4 9) rfl rfl (by kernel_rfl) (fun _ _ _ h => h) (yieldsIf_cell rfl 174 (.tmp 19) rfl ⟨pp, 1, none⟩ rfl (.pointer (some ⟨pc, 0, none⟩)) _ (fun W' h => h.cell HPC.out hpo.1) Tryz.underlying174 rfl) hHeld (a' := ?_) ?_ ?_
    rotate_left
    · simp only [Act.put, List.setIfInBounds_toArray, List.set_cons_zero, List.set_cons_succ]
      rfl
    refine tkD_ 4 (some 21) (bt 5 8) rfl rfl (by kernel_rfl) (fun _ _ _ h => h) (yieldsIf_tipb rfl (.tmp 7) rfl bx rfl x.1 (fun W' h => h.blk HG.out (by omega))) hHeld (a' := ?_) ?_ ?_
    rotate_left
    · simp only [Act.put, List.setIfInBounds_toArray, List.set_cons_zero, List.set_cons_succ]
      rfl
    refine forkD_ 5 10 (by kernel_rfl) ?_ ?_
    · refine fcallD_ 5 (some 22) #[true, true, true, true, true, true, false, false, false, false, false, false, false] rfl rfl (by kernel_rfl) rfl 54 _ (by kernel_rfl) (HK.out _ hHeld) ?_
      rintro e w2 ⟨rfl, hb2⟩
      have HS2 := Lib.hid (hHeld.next hb2)
      have hHeld := HS2.out
      refine ⟨_, rfl, fun _ => hHeld, ?_, ?_, ?_⟩
      rotate_left
      · simp only [Act.put, List.setIfInBounds_toArray, List.set_cons_zero, List.set_cons_succ]
        rfl
      refine forkD_ 6 10 (by kernel_rfl) ?_ ?_
      · refine fcallD_ 6 (some 23) #[true, true, true, true, true, true, true, false, false, false, false, false, false] rfl rfl (by kernel_rfl) rfl 163 _ (by kernel_rfl) (HGT.out _ hHeld) ?_
        rintro e w3 ⟨rfl, hk3, hc3⟩
        have HS3 := Lib.hid (hHeld.step hk3 hc3)
        have hHeld := HS3.out
        refine ⟨_, rfl, fun _ => hHeld, ?_, ?_, ?_⟩
        rotate_left
        · simp only [Act.put, List.setIfInBounds_toArray, List.set_cons_zero, List.set_cons_succ]
          rfl
        refine tkD_ 7 (some 16) (bt 8 5) (v := ?_) (a' := ?_) rfl rfl (by kernel_rfl) (fun _ _ _ h => h) (yieldsIf_run rfl ?_) hHeld ?_ ?_
        rotate_left
        · intro w'
          go_simp
          with_reducible rfl
        rotate_left
        · simp only [Act.put, List.setIfInBounds_toArray, List.set_cons_zero, List.set_cons_succ]
          rfl
        refine tkD_ 8 (some 24) (bt 9 4) (v := ?_) (a' := ?_) rfl rfl (by kernel_rfl) (fun _ _ _ h => h) (yieldsIf_run rfl ?_) hHeld ?_ ?_
        rotate_left
        · intro w'
          go_simp
          with_reducible rfl
        rotate_left
        · simp only [Act.put, List.setIfInBounds_toArray, List.set_cons_zero, List.set_cons_succ]
          rfl
        refine tkD_ 9 (some 25) (bt 10 3) (v := ?_) (a' := ?_) rfl rfl (by kernel_rfl) (fun _ _ _ h => h) (yieldsIf_run rfl ?_) hHeld ?_ ?_
        rotate_left
        · intro w'
          go_simp
          with_reducible rfl
        rotate_left
        · simp only [Act.put, List.setIfInBounds_toArray, List.set_cons_zero, List.set_cons_succ]
          rfl
        have HS4 := Lib.hid (HS3.out.next ((Below.refl _ _).alloc (Nat.le_refl _) (.cells #[.slice none 0 0] 178)))
        have hHeld := HS4.out
        refine valD_ 10 (some 8) (bt 11 2) rfl rfl (by kernel_rfl) rfl ((.pointer (some ⟨w3.heap.size, 0, none⟩))) ((w3.alloc (.cells #[.slice none 0 0] 178))) (by kernel_rfl) (fun _ => hHeld) (a' := ?_) ?_ ?_
        rotate_left
        · simp only [Act.put, List.setIfInBounds_toArray, List.set_cons_zero, List.set_cons_succ]
          rfl
        have HS5x := Lib.hid (HS4.out.set HS3.out.2.size HLW.out #[.slice none 0 0])
        have hHeld := HS5x.out
        refine skD_ 11 (bt 12 1) rfl rfl (by kernel_rfl) rfl (((w3.alloc (.cells #[.slice none 0 0] 178)).setRow w3.heap.size #[.slice none 0 0])) (exec_store 178 (.tmp 8) (.tmp 24) rfl w3.heap.size 0 rfl _ rfl (run_storeVar_block (w3.alloc (.cells #[.slice none 0 0] 178)) w3.heap.size 178 178 [.slice none 0 0] #[.slice none 0 0] (heap_alloc_new w3 _) rfl (by simp [Value.oneCell']) nat_size)) (fun _ => hHeld) ?_
        refine valD_ 12 (some 9) (bt 13 0) rfl rfl (by kernel_rfl) rfl ((.bool false)) (_) (rfl) (fun h => absurd (by decide) h) (a' := ?_) ?_ ?_
        rotate_left
        · simp only [Act.put, List.setIfInBounds_toArray, List.set_cons_zero, List.set_cons_succ]
          rfl
        refine doneD_ (by kernel_rfl) ?_ _
        have HV4 : Hid (((w3.alloc (.cells #[.slice none 0 0] 178)).setRow w3.heap.size #[.slice none 0 0]).heap[w.heap.size + 3]? = some (.cells #[.slice none 0 0] 104 (0, 0))) := Lib.hid (HS5x.out.blk HWY.out (by omega))
        have HG4 : Hid (((w3.alloc (.cells #[.slice none 0 0] 178)).setRow w3.heap.size #[.slice none 0 0]).heap[bx]? = some (.cells #[x.1] 52 (0, 0))) := Lib.hid (HS5x.out.blk HG.out (by omega))
        have hcv : ((w3.alloc (.cells #[.slice none 0 0] 178)).setRow w3.heap.size #[.slice none 0 0]).cell? ⟨w.heap.size + 3, 0, none⟩ = some (.slice none 0 0) := cell_block HV4.out rfl
        have hbase : w1.heap.size + 2 ≤ ((w3.alloc (.cells #[.slice none 0 0] 178)).setRow w3.heap.size #[.slice none 0 0]).heap.size := by have := (Array.getElem?_eq_some_iff.1 HG4.out).1; omega
        have HS5 := HS5x
        clear hz0 hz1
        generalize ((w3.alloc (.cells #[.slice none 0 0] 178)).setRow w3.heap.size #[.slice none 0 0]) = W5 at HV4 HG4 hcv hbase HS5 ⊢
        change Exit.then _ _ _ _ _
        gi_wp2_with (refine listIn_of (by rintro ⟨_, _, h⟩; exact h) _ _ _ (by kernel_rfl) ?_)
        go_wp2_with (first | (refine wpl_tip rfl _ rfl _ rfl _ HG4.out ?_) | (refine wpl_slice1 rfl 104 52 (.tmp 29) rfl #[x.1] rfl _ 1 24 Tryz.underlying104 tip_info (by kernel_rfl) rfl (by decide) (by decide) ?_) | (at_builtin; go_loud (refine wpl_app1 #[x.1] (w1.heap.size + 2) rfl (.tmp 28) (.tmp 30) 104 52 _ 1 24 rfl Tryz.underlying104 tip_info (by kernel_rfl) (by decide) (by decide) (.slice none 0 0) 0 [] rfl rfl rfl (by simpa using HTX.out.one) (World.ownsRow_nil _ _ _ _) hbase (by decide) ?_); intro v1 w6 ho6 hg6 hat6; obtain ⟨A1, c1, rfl, -⟩ := own_slice ho6; have HO6 := Lib.hid ho6; have HG6 := Lib.hid hg6; have HV6 := Lib.hid ((hg6.block _ (Array.getElem?_eq_some_iff.1 HV4.out).1 (by simp [Value.ownBlock])).trans HV4.out); clear ho6 hg6 hat6) | (refine wpl_set1 rfl 104 (.tmp 5) (.tmp 31) rfl (w.heap.size + 3) rfl (.slice A1 (0 + 1) c1) (.slice none 0 0) 104 rfl HV6.out rfl tips_size ?_))
        exact HFIN.out _ _ A1 c1 HS5.out HO6.out HG6.out HV6.out
      · have hHeld := hHeld.next ((Below.refl _ _).alloc (Nat.le_refl _) (.cells #[.slice none 0 0] 178))
        refine fvalD_ 10 (some 8) #[true, true, true, true, true, true, false, false, false, false, true, false, false] rfl rfl (by kernel_rfl) rfl ((.pointer (some ⟨w2.heap.size, 0, none⟩))) ((w2.alloc (.cells #[.slice none 0 0] 178))) (by kernel_rfl) (fun _ => hHeld) (a' := ?_) ?_ ?_
        rotate_left
        · simp only [Act.put, List.setIfInBounds_toArray, List.set_cons_zero, List.set_cons_succ]
          rfl
        refine callD_ 6 (some 23) #[true, true, true, true, true, true, true, false, false, false, true, false, false] rfl rfl (by kernel_rfl) rfl 163 _ (by kernel_rfl) (HGT.out _ hHeld) ?_
        rintro e w3 ⟨rfl, hk3, hc3⟩
        have HS3 := Lib.hid (hHeld.step hk3 hc3)
        have HG3 : Hid (w3.heap[w2.heap.size]? = some (.cells #[.slice none 0 0] 178 (0, 0))) := Lib.hid ((hc3.block _ (by simp) (by have := HLW.out; have := HS2.out.2.size; omega)).trans (heap_alloc_new w2 _))
        refine ⟨_, rfl, HS3.out, fun hHeld => ⟨?_, ?_, ?_⟩⟩
        rotate_left
        · simp only [Act.put, List.setIfInBounds_toArray, List.set_cons_zero, List.set_cons_succ]
          rfl
        refine tkD_ 7 (some 16) #[true, true, true, true, true, true, true, true, false, false, true, false, false] (v := ?_) (a' := ?_) rfl rfl (by kernel_rfl) (fun _ _ _ h => h) (yieldsIf_run rfl ?_) hHeld ?_ ?_
        rotate_left
        · intro w'
          go_simp
          with_reducible rfl
        rotate_left
        · simp only [Act.put, List.setIfInBounds_toArray, List.set_cons_zero, List.set_cons_succ]
          rfl
        refine tkD_ 8 (some 24) #[true, true, true, true, true, true, true, true, true, false, true, false, false] (v := ?_) (a' := ?_) rfl rfl (by kernel_rfl) (fun _ _ _ h => h) (yieldsIf_run rfl ?_) hHeld ?_ ?_
        rotate_left
        · intro w'
          go_simp
          with_reducible rfl
        rotate_left
        · simp only [Act.put, List.setIfInBounds_toArray, List.set_cons_zero, List.set_cons_succ]
          rfl
        refine tkD_ 9 (some 25) (bt 11 2) (v := ?_) (a' := ?_) rfl rfl (by kernel_rfl) (fun _ _ _ h => h) (yieldsIf_run rfl ?_) hHeld ?_ ?_
        rotate_left
        · intro w'
          go_simp
          with_reducible rfl
        rotate_left
        · simp only [Act.put, List.setIfInBounds_toArray, List.set_cons_zero, List.set_cons_succ]
          rfl
        have HS4 := Lib.hid (HS3.out.set HS2.out.2.size HLW.out #[.slice none 0 0])
        have hHeld := HS4.out
        refine skD_ 11 (bt 12 1) rfl rfl (by kernel_rfl) rfl ((w3.setRow w2.heap.size #[.slice none 0 0])) (exec_store 178 (.tmp 8) (.tmp 24) rfl w2.heap.size 0 rfl _ rfl (run_storeVar_block w3 w2.heap.size 178 178 [.slice none 0 0] #[.slice none 0 0] HG3.out rfl (by simp [Value.oneCell']) nat_size)) (fun _ => hHeld) ?_
        refine valD_ 12 (some 9) (bt 13 0) rfl rfl (by kernel_rfl) rfl ((.bool false)) (_) (rfl) (fun h => absurd (by decide) h) (a' := ?_) ?_ ?_
        rotate_left
        · simp only [Act.put, List.setIfInBounds_toArray, List.set_cons_zero, List.set_cons_succ]
          rfl
        refine doneD_ (by kernel_rfl) ?_ _
        have HV4 : Hid ((w3.setRow w2.heap.size #[.slice none 0 0]).heap[w.heap.size + 3]? = some (.cells #[.slice none 0 0] 104 (0, 0))) := Lib.hid (HS4.out.blk HWY.out (by omega))
        have HG4 : Hid ((w3.setRow w2.heap.size #[.slice none 0 0]).heap[bx]? = some (.cells #[x.1] 52 (0, 0))) := Lib.hid (HS4.out.blk HG.out (by omega))
        have hcv : (w3.setRow w2.heap.size #[.slice none 0 0]).cell? ⟨w.heap.size + 3, 0, none⟩ = some (.slice none 0 0) := cell_block HV4.out rfl
        have hbase : w1.heap.size + 2 ≤ (w3.setRow w2.heap.size #[.slice none 0 0]).heap.size := by have := (Array.getElem?_eq_some_iff.1 HG4.out).1; omega
        have HS5 := HS4
        clear hz0 hz1
        generalize (w3.setRow w2.heap.size #[.slice none 0 0]) = W5 at HV4 HG4 hcv hbase HS5 ⊢
        change Exit.then _ _ _ _ _
        gi_wp2_with (refine listIn_of (by rintro ⟨_, _, h⟩; exact h) _ _ _ (by kernel_rfl) ?_)
        go_wp2_with (first | (refine wpl_tip rfl _ rfl _ rfl _ HG4.out ?_) | (refine wpl_slice1 rfl 104 52 (.tmp 29) rfl #[x.1] rfl _ 1 24 Tryz.underlying104 tip_info (by kernel_rfl) rfl (by decide) (by decide) ?_) | (at_builtin; go_loud (refine wpl_app1 #[x.1] (w1.heap.size + 2) rfl (.tmp 28) (.tmp 30) 104 52 _ 1 24 rfl Tryz.underlying104 tip_info (by kernel_rfl) (by decide) (by decide) (.slice none 0 0) 0 [] rfl rfl rfl (by simpa using HTX.out.one) (World.ownsRow_nil _ _ _ _) hbase (by decide) ?_); intro v1 w6 ho6 hg6 hat6; obtain ⟨A1, c1, rfl, -⟩ := own_slice ho6; have HO6 := Lib.hid ho6; have HG6 := Lib.hid hg6; have HV6 := Lib.hid ((hg6.block _ (Array.getElem?_eq_some_iff.1 HV4.out).1 (by simp [Value.ownBlock])).trans HV4.out); clear ho6 hg6 hat6) | (refine wpl_set1 rfl 104 (.tmp 5) (.tmp 31) rfl (w.heap.size + 3) rfl (.slice A1 (0 + 1) c1) (.slice none 0 0) 104 rfl HV6.out rfl tips_size ?_))
        exact HFIN.out _ _ A1 c1 HS5.out HO6.out HG6.out HV6.out
    · have hHeld := hHeld.next ((Below.refl _ _).alloc (Nat.le_refl _) (.cells #[.slice none 0 0] 178))
      refine fvalD_ 10 (some 8) #[true, true, true, true, true, false, false, false, false, false, true, false, false] rfl rfl (by kernel_rfl) rfl ((.pointer (some ⟨W.drew.heap.size, 0, none⟩))) ((W.drew.alloc (.cells #[.slice none 0 0] 178))) (by kernel_rfl) (fun _ => hHeld) (a' := ?_) ?_ ?_
      rotate_left
      · simp only [Act.put, List.setIfInBounds_toArray, List.set_cons_zero, List.set_cons_succ]
        rfl
      refine callD_ 5 (some 22) #[true, true, true, true, true, true, false, false, false, false, true, false, false] rfl rfl (by kernel_rfl) rfl 54 _ (by kernel_rfl) (HK.out _ hHeld) ?_
      rintro e w2 ⟨rfl, hb2⟩
      have HS2 := Lib.hid (hHeld.next hb2)
      have HG2 : Hid (w2.heap[W.drew.heap.size]? = some (.cells #[.slice none 0 0] 178 (0, 0))) := Lib.hid ((hb2.block _ (by simp)).trans (heap_alloc_new W.drew _))
      refine ⟨_, rfl, HS2.out, fun hHeld => ⟨?_, ?_, ?_⟩⟩
      rotate_left
      · simp only [Act.put, List.setIfInBounds_toArray, List.set_cons_zero, List.set_cons_succ]
        rfl
      refine callD_ 6 (some 23) #[true, true, true, true, true, true, true, false, false, false, true, false, false] rfl rfl (by kernel_rfl) rfl 163 _ (by kernel_rfl) (HGT.out _ hHeld) ?_
      rintro e w3 ⟨rfl, hk3, hc3⟩
      have HS3 := Lib.hid (hHeld.step hk3 hc3)
      have HG3 : Hid (w3.heap[W.drew.heap.size]? = some (.cells #[.slice none 0 0] 178 (0, 0))) := Lib.hid ((hc3.block _ (Array.getElem?_eq_some_iff.1 HG2.out).1 (by have := HLW.out; omega)).trans HG2.out)
      refine ⟨_, rfl, HS3.out, fun hHeld => ⟨?_, ?_, ?_⟩⟩
      rotate_left
      · simp only [Act.put, List.setIfInBounds_toArray, List.set_cons_zero, List.set_cons_succ]
        rfl
      refine tkD_ 7 (some 16) #[true, true, true, true, true, true, true, true, false, false, true, false, false] (v := ?_) (a' := ?_) rfl rfl (by kernel_rfl) (fun _ _ _ h => h) (yieldsIf_run rfl ?_) hHeld ?_ ?_
      rotate_left
      · intro w'
        go_simp
        with_reducible rfl
      rotate_left
      · simp only [Act.put, List.setIfInBounds_toArray, List.set_cons_zero, List.set_cons_succ]
        rfl
      refine tkD_ 8 (some 24) #[true, true, true, true, true, true, true, true, true, false, true, false, false] (v := ?_) (a' := ?_) rfl rfl (by kernel_rfl) (fun _ _ _ h => h) (yieldsIf_run rfl ?_) hHeld ?_ ?_
      rotate_left
      · intro w'
        go_simp
        with_reducible rfl
      rotate_left
      · simp only [Act.put, List.setIfInBounds_toArray, List.set_cons_zero, List.set_cons_succ]
        rfl
      refine tkD_ 9 (some 25) (bt 11 2) (v := ?_) (a' := ?_) rfl rfl (by kernel_rfl) (fun _ _ _ h => h) (yieldsIf_run rfl ?_) hHeld ?_ ?_
      rotate_left
      · intro w'
        go_simp
        with_reducible rfl
      rotate_left
      · simp only [Act.put, List.setIfInBounds_toArray, List.set_cons_zero, List.set_cons_succ]
        rfl
      have HS4 := Lib.hid (HS3.out.set (Nat.le_refl _) HLW.out #[.slice none 0 0])
      have hHeld := HS4.out
      refine skD_ 11 (bt 12 1) rfl rfl (by kernel_rfl) rfl ((w3.setRow W.drew.heap.size #[.slice none 0 0])) (exec_store 178 (.tmp 8) (.tmp 24) rfl W.drew.heap.size 0 rfl _ rfl (run_storeVar_block w3 W.drew.heap.size 178 178 [.slice none 0 0] #[.slice none 0 0] HG3.out rfl (by simp [Value.oneCell']) nat_size)) (fun _ => hHeld) ?_
      refine valD_ 12 (some 9) (bt 13 0) rfl rfl (by kernel_rfl) rfl ((.bool false)) (_) (rfl) (fun h => absurd (by decide) h) (a' := ?_) ?_ ?_
      rotate_left
      · simp only [Act.put, List.setIfInBounds_toArray, List.set_cons_zero, List.set_cons_succ]
        rfl
      refine doneD_ (by kernel_rfl) ?_ _
      have HV4 : Hid ((w3.setRow W.drew.heap.size #[.slice none 0 0]).heap[w.heap.size + 3]? = some (.cells #[.slice none 0 0] 104 (0, 0))) := Lib.hid (HS4.out.blk HWY.out (by omega))
      have HG4 : Hid ((w3.setRow W.drew.heap.size #[.slice none 0 0]).heap[bx]? = some (.cells #[x.1] 52 (0, 0))) := Lib.hid (HS4.out.blk HG.out (by omega))
      have hcv : (w3.setRow W.drew.heap.size #[.slice none 0 0]).cell? ⟨w.heap.size + 3, 0, none⟩ = some (.slice none 0 0) := cell_block HV4.out rfl
      have hbase : w1.heap.size + 2 ≤ (w3.setRow W.drew.heap.size #[.slice none 0 0]).heap.size := by have := (Array.getElem?_eq_some_iff.1 HG4.out).1; omega
      have HS5 := HS4
      clear hz0 hz1
      generalize (w3.setRow W.drew.heap.size #[.slice none 0 0]) = W5 at HV4 HG4 hcv hbase HS5 ⊢
      change Exit.then _ _ _ _ _
      gi_wp2_with (refine listIn_of (by rintro ⟨_, _, h⟩; exact h) _ _ _ (by kernel_rfl) ?_)
      go_wp2_with (first | (refine wpl_tip rfl _ rfl _ rfl _ HG4.out ?_) | (refine wpl_slice1 rfl 104 52 (.tmp 29) rfl #[x.1] rfl _ 1 24 Tryz.underlying104 tip_info (by kernel_rfl) rfl (by decide) (by decide) ?_) | (at_builtin; go_loud (refine wpl_app1 #[x.1] (w1.heap.size + 2) rfl (.tmp 28) (.tmp 30) 104 52 _ 1 24 rfl Tryz.underlying104 tip_info (by kernel_rfl) (by decide) (by decide) (.slice none 0 0) 0 [] rfl rfl rfl (by simpa using HTX.out.one) (World.ownsRow_nil _ _ _ _) hbase (by decide) ?_); intro v1 w6 ho6 hg6 hat6; obtain ⟨A1, c1, rfl, -⟩ := own_slice ho6; have HO6 := Lib.hid ho6; have HG6 := Lib.hid hg6; have HV6 := Lib.hid ((hg6.block _ (Array.getElem?_eq_some_iff.1 HV4.out).1 (by simp [Value.ownBlock])).trans HV4.out); clear ho6 hg6 hat6) | (refine wpl_set1 rfl 104 (.tmp 5) (.tmp 31) rfl (w.heap.size + 3) rfl (.slice A1 (0 + 1) c1) (.slice none 0 0) 104 rfl HV6.out rfl tips_size ?_))
      exact HFIN.out _ _ A1 c1 HS5.out HO6.out HG6.out HV6.out
  case done =>
    rintro Db xs W rfl hS hI hK
    rw [root_chain g] at hS
    obtain ⟨x, b, c, rfl, hbb, hwy, hcx, htx⟩ : ∃ x b c, xs = [x] ∧ w1.heap.size + 2 ≤ b ∧ W.heap[w.heap.size + 3]? = some (.cells #[.slice (some ⟨b, 0, none⟩) 1 c] 104 (0, 0)) ∧ W.cell? ⟨b, 0, none⟩ = some x.1 ∧ TipIs (okW w1 (W0.heap.size + 1) (w.heap.size + 3) pc hd mb) W (hdrs D) x.1 x.2 := by
      rcases hI.out with ⟨rfl, -⟩ | ⟨x', b, c, h1, h2, h3, h4, h5⟩
      · cases hS
      · exact ⟨x', b, c, h1, h2, h3, h4, h5⟩
    have hxr : x.2 = [rootID] := (List.cons.inj hS).1
    have hcv : W.cell? ⟨w.heap.size + 3, 0, none⟩ = some (.slice (some ⟨b, 0, none⟩) 1 c) := cell_block hwy rfl
    have HBW := Lib.hid (backward_any W b c)
    have HI := Lib.hid hI
    have HK := Lib.hid hK
    have HZ := Lib.hid (And.intro hz0 hz1)
    have HTX := Lib.hid htx
    have HCX := Lib.hid hcx
    have HBB := Lib.hid hbb
    clear hz0 hz1 hI hK htx hcx hbb
    gi_wp2_with (refine ⟨trivial, ?_⟩; refine (callsIn_wide.2 HBW.out).mono ?_; rintro e w2 ⟨rfl, hw2⟩; have HW2 := Lib.hid hw2; clear hw2)
    have hz0 := HZ.out.1
    have hz1 := HZ.out.2
    have hw2 := HW2.out
    have hz2 : w2.heap.size = W.heap.size + 1 := by rw [hw2]; simp
    have hb2 : Below W.heap.size W w2 := by rw [hw2]; exact (Below.refl _ W).alloc (Nat.le_refl _) _
    have hsb : w2.heap[W.heap.size]? = some (.cells #[.slice (some ⟨b, 0, none⟩) 1 c] 104 (0, 0)) := by rw [hw2]; exact heap_alloc_new W _
    have hcx2 : w2.cell? ⟨b, 0, none⟩ = some x.1 := (hb2.cell (cell_lt HCX.out)).trans HCX.out
    have hsW := HI.out.size
    have hx1 : x.1.oneCell' = true := HTX.out.one x.1 (by simp)
    have HI2 := HI.out.grow hb2
    have HTX2 := Lib.hid (HTX.out.below hb2)
    clear hw2
    refine wpIn_range_var rfl (by decide) (gf := 198) (lb := #[.pointer (some ⟨W.heap.size, 0, none⟩)]) rfl trivial (enters_of Tryz.func198 (by kernel_rfl) rfl)
      (back1_stops _ W.heap.size b c x.1 hx1 (W0.heap.size + 1) w2 hsb hcx2) (by omega) ?kt2 ?kb2 ?kg2 (Below.refl _ _) (fun _ => rfl)
      (fun pre V => WgJ w w2 V pc hd mb most (W0.heap.size + 1) pre)
      (fun _ _ _ => False)
      ?bears2 ?ixp2 ?h02
      (fun pre _ a' V => ∃ bx, w2.heap.size + 2 ≤ bx ∧ V.heap[bx]? = some (.cells #[x.1] 52 (0, 0)) ∧ TipIs (okW w2 (W0.heap.size + 1) (w.heap.size + 3) pc hd mb) V (hdrs D) x.1 x.2 ∧ pre = [] ∧ a' = { tmps := #[.pointer (some ⟨pp, 0, none⟩), tipV tv, .pointer (some ⟨w.heap.size, 0, none⟩), .pointer (some ⟨w.heap.size + 1, 0, none⟩), .pointer (some ⟨w.heap.size + 1 + 1, 0, none⟩), .pointer (some ⟨w.heap.size + 1 + 1 + 1, 0, none⟩), .pointer (some ⟨w.heap.size + 1 + 1 + 1 + 1, 0, none⟩), undef, undef, undef, undef, .pointer (some ⟨bx, 0, none⟩), .pointer (some ⟨pp, 0, none⟩), .agg #[tv], .func (.func 168) #[] #[.pointer (some ⟨W0.heap.size + 1, 0, none⟩), .pointer (some ⟨W0.heap.size, 0, none⟩)], undef, undef, undef, undef, undef, undef, undef, undef, undef, undef, undef, undef, undef, undef, undef, undef, undef, .slice (some ⟨b, 0, none⟩) 1 c, .func (.func 198) #[] #[.pointer (some ⟨W.heap.size, 0, none⟩)], .int .i64 0, tipV x.1, undef, undef, undef, undef, undef, undef, undef, undef, undef, undef, undef, undef, undef, undef, undef, undef, undef, undef, undef], defers := [] })
      ?axp2 ?assign2 ?body2 ?done2 ?stop2
    case kt2 => exact fun _ _ => trivial
    case kb2 => exact fun _ _ => trivial
    case kg2 => exact fun _ _ => trivial
    case bears2 => exact ⟨fun s A C hs hb => hs.grow hb, fun s A cs hs => hs.set cs, fun s A o' hs => hs.put o'⟩
    case ixp2 => exact fun _ _ _ _ h => h
    case h02 => exact ⟨HI2.chg.step (S := fun k => k = pc) (Chg.of_below (S := fun k => k = pc) (Below.refl _ w2)) (fun k hk => .inl hk) |>.wide fun k hk => .inl hk, ⟨by omega, by omega, by have := HI.out.far; omega⟩, HI.out.lows, Nat.le_refl _, fun _ _ _ _ _ _ => rfl, fun _ => HI2.cache⟩
    case axp2 =>
      rintro pre _ a' A o' ⟨bx, h1, h2, h3, h4⟩
      exact ⟨bx, h1, (World.putObj_heap_other (by omega)).trans h2, h3.put (fun k hk => hk.1.2.1) o', h4⟩
    case assign2 =>
      intro l pre _ V K hi hx hsz hK
      obtain ⟨hx0, hv2⟩ : pre = [] ∧ w2.heap.size + 2 ≤ V.heap.size := hx
      subst hx0
      have hvs := hi.size
      have htV : TipIs (fun j => okW w2 (W0.heap.size + 1) (w.heap.size + 3) pc hd mb j ∧ j < V.heap.size) V (hdrs D) x.1 x.2 := (HTX2.out.old.fr ⟨hvs, fun k hk _ => hi.same k hk.2 hk.1.1.1 hk.1.2.1 hk.1.2.2.1 hk.1.2.2.2⟩).mono fun k hk => ⟨⟨⟨hk.1.1.1, by have := hk.2; omega, by have := hk.2; omega, hk.1.1.2.2.2⟩, hk.1.2⟩, by have := hk.2; omega⟩
      have hb : Below V.heap.size V ((V.alloc (.cells #[.slice none 0 0] 52)).setRow V.heap.size #[x.1]) := below_setRow ((Below.refl _ V).alloc (Nat.le_refl _) _) (Nat.le_refl _) _
      have HK := Lib.hid (hK _ _ hb ⟨V.heap.size, by omega, setRow_heap _ _ _ _ _ _ (heap_alloc_new V _), ((htV.below ((Below.refl _ V).alloc (Nat.le_refl _) _)).set (fun j hj => by have := hj.2; omega) _).mono fun j hj => hj.1, rfl, rfl⟩)
      clear hK hb hz0 hz1 hz2 hb2
      gi_wp2_with (refine wplIn_store_row rfl 52 (.tmp 11) (.tmp 35) rfl V.heap.size rfl [x.1] rfl _ 52 (heap_alloc_new V _) rfl HTX.out.one tip_size ?_)
      exact HK.out
    case body2 =>
      rintro l pre _ a' V hl hsz hJ ⟨bx, hbx, hgx, htx, rfl, rfl⟩
      have hlw := hJ.lows
      have hff := hJ.far
      have hfW := HI.out.far
      have hlo : ∀ j, j < w2.heap.size → j ≠ W0.heap.size + 1 → j ≠ pc → j ≠ hd → j ≠ mb → V.heap[j]? = w2.heap[j]? := hJ.same
      have hp1 : V.heap[pp]? = some (.cells #[.pointer (some ⟨p, 0, none⟩), .pointer (some ⟨pc, 0, none⟩)] 180 (0, 0)) := (hJ.chg.block pp hppl (by rintro (h | h | h); exact hpo.1 h; exact hpo.2.1 h; exact hpo.2.2 h)).trans hp
      have hlowW : ∀ j, w.heap.size ≤ j → j < w1.heap.size → j ≠ W0.heap.size + 1 → j ≠ w.heap.size + 3 → V.heap[j]? = w1.heap[j]? := fun j h1 h2 h3 h4 => (hlo j (by omega) h3 (by omega) (by omega) (by omega)).trans ((hb2.block j (by omega)).trans (HI.out.same j h2 h3 h4 (by omega)))
      have hpb1 : V.heap[w.heap.size]? = some (.cells #[.pointer (some ⟨pp, 0, none⟩)] 80 (0, 0)) := (hlowW _ (by omega) (by omega) (by omega) (by omega)).trans ((hb1.block _ (by omega)).trans HP.out.2.2.1)
      have hsum : V.heap[w.heap.size + 4]? = some (.cells #[.slice none 0 0] 178 (0, 0)) := (hlowW _ (by omega) (by omega) (by omega) (by omega)).trans ((hb1.block _ (by omega)).trans HP.out.2.2.2.2.2.2)
      have HG : Hid (V.heap[bx]? = some (.cells #[x.1] 52 (0, 0))) := Lib.hid hgx
      have HJ := Lib.hid hJ
      have HTV := Lib.hid htx
      obtain ⟨kx, hkx⟩ : ∃ kx, keyB x.2 = kx := ⟨_, rfl⟩
      have hks : kx.size ≤ maxLen := by rw [← hkx, keyB_size, hxr]; decide
      have HPA : Hid (Calls Tryz.prog 100 #[tipV x.1] V fun e w' => e = .returned (.string ⟨#[]⟩) ∧ Below V.heap.size V w') := Lib.hid (by
        obtain ⟨ls, hl1, hl2, hl3, hl4⟩ := HTV.out.okay hf
        have h3 := parents_any V x.1 ls _ _ hl1 hl2
        rw [(first_is (by rw [hxr]; exact hT) hl3 hl4).1, hxr, root_par g] at h3
        exact h3)
      have HKX : Hid (∀ V', Below V.heap.size V V' → Calls Tryz.prog 54 #[tipV x.1] V' fun e w' => e = .returned (.string kx) ∧ Below V'.heap.size V' w') := Lib.hid fun V' hb => by rw [← hkx]; exact key_is (HTV.out.below hb) (.inr (by rw [hxr]; exact hT))
      have HPUT : Hid (∀ V', Below V.heap.size V V' → Calls Tryz.prog 167 #[.pointer (some ⟨pc, 0, none⟩), .string kx, .agg #[.slice none 0 0]] V' fun e w' => e = .returned (.tuple #[]) ∧ Chg (fun k => k = pc ∨ k = hd ∨ k = mb) V' w') := Lib.hid fun V' hb => put0_any V' pc hd mb most ((HJ.out.cache rfl).below hb) hm kx hks (.slice none 0 0) rfl
      clear htx hgx hJ
      gi_wp2_with (first
        | (refine wplIn_load (by kernel_rfl) 52 (.tmp 11) rfl bx 0 rfl [x.1] _ (fun j u hu => by rw [Nat.zero_add]; exact cell_block HG.out (by simpa using hu)) Tryz.underlying52 rfl tip_size ?_)
        | (refine ⟨trivial, ?_⟩; refine (CallsIn.inRound l (callsIn_wide.2 HPA.out)).mono ?_; rintro e w3 ⟨rfl, hb3⟩; have HB3 := Lib.hid hb3; clear hb3))
      have hV : ∀ k (o : Obj), V.heap[k]? = some o → w3.drew.heap[k]? = some o := fun k o h => (HB3.out.block k (Array.getElem?_eq_some_iff.1 h).1).trans h
      have HPB : Hid (w3.drew.heap[w.heap.size]? = some (.cells #[.pointer (some ⟨pp, 0, none⟩)] 80 (0, 0))) := Lib.hid (hV _ _ hpb1)
      have HP3 : Hid (w3.drew.heap[pp]? = some (.cells #[.pointer (some ⟨p, 0, none⟩), .pointer (some ⟨pc, 0, none⟩)] 180 (0, 0))) := Lib.hid (hV _ _ hp1)
      have HG3 : Hid (w3.drew.heap[bx]? = some (.cells #[x.1] 52 (0, 0))) := Lib.hid (hV _ _ HG.out)
      have HSM : Hid (w3.drew.heap[w.heap.size + 4]? = some (.cells #[.slice none 0 0] 178 (0, 0))) := Lib.hid (hV _ _ hsum)
      have hCH : ∀ (V' : World) (k : Nat) (o : Obj), Chg (fun k => k = pc ∨ k = hd ∨ k = mb) w3.drew V' → w3.drew.heap[k]? = some o → (k ≠ pc ∧ k ≠ hd ∧ k ≠ mb) → V'.heap[k]? = some o := fun V' k o h hk hn => (h.block k (Array.getElem?_eq_some_iff.1 hk).1 (by rintro (e | e | e); exact hn.1 e; exact hn.2.1 e; exact hn.2.2 e)).trans hk
      have hn0 : w.heap.size ≠ pc ∧ w.heap.size ≠ hd ∧ w.heap.size ≠ mb := by omega
      have hn4 : w.heap.size + 4 ≠ pc ∧ w.heap.size + 4 ≠ hd ∧ w.heap.size + 4 ≠ mb := by omega
      have hnb : bx ≠ pc ∧ bx ≠ hd ∧ bx ≠ mb := by omega
      clear hV hp1 hpb1 hsum
      refine stI_ (S := (fun V' => Chg (fun k => k = pc ∨ k = hd ∨ k = mb) w3.drew V')) 8 (bt 0 8) (by kernel_rfl) rfl (by rfl) (by kernel_rfl) (by rintro ⟨_, _, h⟩; exact h) (Chg.of_below (Below.refl _ _)) (fun hHeld => ?_)
      refine tk_ 0 (some 46) (bt 1 7) rfl rfl (by kernel_rfl) (fun _ _ _ h => h) (yieldsIf_cell rfl 80 (.tmp 2) rfl ⟨w.heap.size, 0, none⟩ rfl (.pointer (some ⟨pp, 0, none⟩)) _ (fun V' h => cell_block (hCH V' _ _ h HPB.out hn0) rfl) Tryz.underlying80 rfl) hHeld (a' := ?_) ?_ ?_
      rotate_left
      · simp only [Act.put, List.setIfInBounds_toArray, List.set_cons_zero, List.set_cons_succ]
        rfl
      refine tk_ 1 (some 47) (bt 2 6) (v := ?_) (a' := ?_) rfl rfl (by kernel_rfl) (fun _ _ _ h => h) (yieldsIf_run rfl ?_) hHeld ?_ ?_
      rotate_left
      · intro w'
        go_simp
        with_reducible rfl
      rotate_left
      · simp only [Act.put, List.setIfInBounds_toArray, List.set_cons_zero, List.set_cons_succ]
        rfl
      refine tk_ 2 (some 48) (bt 3 5) (v := ?_) (a' := ?_) rfl rfl (by kernel_rfl) (fun _ _ _ h => h) (yieldsIf_run rfl ?_) hHeld ?_ ?_
      rotate_left
      · intro w'
        go_simp
        with_reducible rfl
      rotate_left
      · simp only [Act.put, List.setIfInBounds_toArray, List.set_cons_zero, List.set_cons_succ]
        rfl
      refine tk_ 3 (some 49) (bt 4 4) rfl rfl (by kernel_rfl) (fun _ _ _ h => h) (yieldsIf_cell rfl 174 (.tmp 48) rfl ⟨pp, 1, none⟩ rfl (.pointer (some ⟨pc, 0, none⟩)) _ (fun V' h => cell_block (hCH V' _ _ h HP3.out hpo) rfl) Tryz.underlying174 rfl) hHeld (a' := ?_) ?_ ?_
      rotate_left
      · simp only [Act.put, List.setIfInBounds_toArray, List.set_cons_zero, List.set_cons_succ]
        rfl
      refine tk_ 4 (some 50) (bt 5 3) rfl rfl (by kernel_rfl) (fun _ _ _ h => h) (yieldsIf_tipb rfl (.tmp 11) rfl bx rfl x.1 (fun V' h => hCH V' _ _ h HG3.out hnb)) hHeld (a' := ?_) ?_ ?_
      rotate_left
      · simp only [Act.put, List.setIfInBounds_toArray, List.set_cons_zero, List.set_cons_succ]
        rfl
      refine tk_ 6 (some 52) #[true, true, true, true, true, false, true, false] rfl rfl (by kernel_rfl) (fun _ _ _ h => h) (yieldsIf_load rfl 178 (.tmp 6) rfl (w.heap.size + 4) 0 rfl [.slice none 0 0] _ (fun V' h j u hu => by rw [Nat.zero_add]; exact cell_block (hCH V' _ _ h HSM.out hn4) (by simpa using hu)) Tryz.underlying178 rfl nat_size) hHeld (a' := ?_) ?_ ?_
      rotate_left
      · simp only [Act.put, List.setIfInBounds_toArray, List.set_cons_zero, List.set_cons_succ]
        rfl
      refine call_ 5 (some 51) (bt 7 1) rfl rfl (by kernel_rfl) rfl 54 _ (by kernel_rfl) (HKX.out _ HB3.out.drew) ?_
      rintro e w4 ⟨rfl, hb4⟩
      have HB4 := Lib.hid (HB3.out.drew.trans (hb4.mono HB3.out.size))
      have HC4 : Hid (Chg (fun k => k = pc ∨ k = hd ∨ k = mb) w3.drew w4) := Lib.hid (Chg.of_below hb4)
      refine ⟨_, rfl, HC4.out, fun hHeld => ⟨?_, ?_, ?_⟩⟩
      rotate_left
      · simp only [Act.put, List.setIfInBounds_toArray, List.set_cons_zero, List.set_cons_succ]
        rfl
      refine call_ 7 (some 53) (bt 8 0) rfl rfl (by kernel_rfl) rfl 167 _ (by kernel_rfl) (HPUT.out _ HB4.out) ?_
      rintro e w5 ⟨rfl, hc5⟩
      have HC5 := Lib.hid (HC4.out.step hc5 fun k hk => .inl hk)
      refine ⟨_, rfl, HC5.out, fun hHeld => ⟨?_, ?_, ?_⟩⟩
      rotate_left
      · simp only [Act.put, List.setIfInBounds_toArray, List.set_cons_zero, List.set_cons_succ]
        rfl
      refine wpAnyH_done (by kernel_rfl) ?_ _
      (try change Exit.inBlock _ _ _ _ _)
      gi_wp2
      have hz3 : V.heap.size ≤ w3.heap.size := HB3.out.size
      have hz5 : w3.heap.size ≤ w5.heap.size := HC5.out.size
      have hst : ∀ k, k < V.heap.size → k ≠ pc → k ≠ hd → k ≠ mb → w5.heap[k]? = V.heap[k]? := fun k h1 h2 h3 h4 => (HC5.out.block k (Nat.lt_of_lt_of_le h1 hz3) (by rintro (e | e | e); exact h2 e; exact h3 e; exact h4 e)).trans (HB3.out.block k h1)
      refine ⟨⟨by omega, fun k o hB hk _ => (hst k (Array.getElem?_eq_some_iff.1 hk).1 (by omega) (by omega) (by omega)).trans hk⟩, trivial, (HJ.out.chg.step (Chg.of_below (S := fun k => k = pc ∨ k = hd ∨ k = mb) HB3.out) (fun k hk => .inl hk)).step (S := fun k => k = pc ∨ k = hd ∨ k = mb) ⟨HC5.out.os, HC5.out.tape, HC5.out.output, HC5.out.size, HC5.out.block⟩ (fun k hk => .inl hk), HJ.out.far, HJ.out.lows, by have := HJ.out.size; omega, fun j hj h1 h2 h3 h4 => (hst j (Nat.lt_of_lt_of_le hj HJ.out.size) h2 h3 h4).trans (HJ.out.same j hj h1 h2 h3 h4), fun e => by simp at e⟩
    case done2 =>
      rintro D2 xs2 W3 rfl hS2 hJ hK2
      have hlw := hJ.lows
      have hff := hJ.far
      have hfW := HI.out.far
      have hsJ := hJ.size
      have hlowW : ∀ j, w.heap.size ≤ j → j < w1.heap.size → j ≠ W0.heap.size + 1 → j ≠ w.heap.size + 3 → W3.heap[j]? = w1.heap[j]? := fun j h1 h2 h3 h4 => (hJ.same j (by omega) h3 (by omega) (by omega) (by omega)).trans ((hb2.block j (by omega)).trans (HI.out.same j h2 h3 h4 (by omega)))
      have HSM : Hid (W3.heap[w.heap.size + 4]? = some (.cells #[.slice none 0 0] 178 (0, 0))) := Lib.hid ((hlowW _ (by omega) (by omega) (by omega) (by omega)).trans ((hb1.block _ (by omega)).trans HP.out.2.2.2.2.2.2))
      have HRS : Hid (W3.heap[w.heap.size + 2]? = some (.cells #[.slice none 0 0] 178 (0, 0))) := Lib.hid ((hlowW _ (by omega) (by omega) (by omega) (by omega)).trans ((hb1.block _ (by omega)).trans HP.out.2.2.2.2.1))
      have HK1 : Hid (W3.heap[w1.heap.size]? = some (.deferred (some []))) := Lib.hid ((hJ.same _ (by have := (Array.getElem?_eq_some_iff.1 HK.out).1; omega) (by omega) (by omega) (by omega) (by omega)).trans ((hb2.block _ (Array.getElem?_eq_some_iff.1 HK.out).1).trans HK.out))
      have HK2 := Lib.hid hK2
      have HJ := Lib.hid hJ
      have HZ2 := Lib.hid (And.intro hz2 hsW)
      clear hz0 hz1 hz2 hlowW hJ hK2
      gi_wp2_with (first
        | (refine wplIn_load rfl 178 (.tmp 6) rfl (w.heap.size + 4) 0 rfl [.slice none 0 0] _ (fun j u hu => by rw [Nat.zero_add]; exact cell_block HSM.out (by simpa using hu)) Tryz.underlying178 rfl nat_size ?_)
        | (refine wplIn_store_row rfl 178 (.tmp 4) (.tmp 54) rfl (w.heap.size + 2) rfl [.slice none 0 0] rfl _ 178 HRS.out rfl (by simp [Value.oneCell']) nat_size ?_))
      have hz0 := HZ.out.1
      have hz1 := HZ.out.2
      have hz2 := HZ2.out.1
      have hsW := HZ2.out.2
      have hff := HJ.out.far
      have hfW := HI.out.far
      have hsJ := HJ.out.size
      have hDl := (Array.getElem?_eq_some_iff.1 HK.out).1
      have hch := HJ.out.chg
      refine ⟨by simp, .inl ⟨_, _, rfl, run_takeDeferred ((heap_setRow_ne _ _ _ _ (by omega)).trans HK2.out), by simp, .inl ⟨_, _, rfl, run_takeDeferred ((World.putObj_heap_other (by omega)).trans ((heap_setRow_ne _ _ _ _ (by omega)).trans HK1.out)), ?_⟩⟩⟩
      refine ⟨_, results_cell_row rfl _ _ (w.heap.size + 2) 178 #[.slice none 0 0] (0, 0) _ rfl ((World.putObj_heap_other (by omega)).trans ((World.putObj_heap_other (by omega)).trans (setRow_heap _ _ _ _ _ _ HRS.out))) Tryz.underlying178 rfl nat_size, rfl, ?_⟩
      have g1 := grownBy_putObj' (W3.setRow (w.heap.size + 2) #[.slice none 0 0]) w2.heap.size (.deferred none)
      have g2 := grownBy_putObj' ((W3.setRow (w.heap.size + 2) #[.slice none 0 0]).putObj w2.heap.size (.deferred none)) w1.heap.size (.deferred none)
      exact ⟨g2.os.trans (g1.os.trans hch.os), g2.tape.trans (g1.tape.trans hch.tape), g2.output.trans (g1.output.trans hch.output), by have := hch.size; simpa using this, fun k hk hs => (World.putObj_heap_other (by omega)).trans ((World.putObj_heap_other (by omega)).trans ((heap_setRow_ne _ _ _ _ (by omega)).trans (hch.block k hk hs)))⟩
    case stop2 =>
      rintro Db c s W rfl - h
      exact h.elim
  case stop =>
    rintro Db c s W rfl - h
    exact h.elim
end Go.Proofs.YtcohdfkdhdhegaaGreatDoor
