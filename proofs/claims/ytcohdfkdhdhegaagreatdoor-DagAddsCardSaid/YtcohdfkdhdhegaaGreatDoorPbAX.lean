/- path.Paths.chain, At. A tipset in a variable: loads and stores, told by its block alone. coxswainref13.Find, Headers. -/
import Derived.Test.YtcohdfkdhdhegaaGreatDoorPbAL
import Derived.Test.YtcohdfkdhdhegaaGreatDoorPbAS
import Derived.Test.YtcohdfkdhdhegaaGreatDoorPbAU
import Derived.Test.YtcohdfkdhdhegaaGreatDoorPbAV
import Derived.Test.YtcohdfkdhdhegaaGreatDoorPbAW
namespace Go.Proofs.YtcohdfkdhdhegaaGreatDoor
open Go Go.RowKit Go.Maps Go.Shelf
attribute [local go_sem] Oper.semAt_some

set_option maxRecDepth 100000 in
set_option maxHeartbeats 1000000 in
theorem chain_any (w : World) (pp : Nat) (tv : Value) (_hv : tv.oneCell' = true) :
    Calls Tryz.prog 128 #[.pointer (some ⟨pp, 0, none⟩), tipV tv] w fun e w' => e = .returned (.func (.func 168) #[] #[.pointer (some ⟨w.heap.size + 1, 0, none⟩), .pointer (some ⟨w.heap.size, 0, none⟩)]) ∧
      w' = (w.alloc (.cells #[.pointer (some ⟨pp, 0, none⟩)] 80)).alloc (.cells #[tv] 52) := by
  go_enter Tryz.func128, Tryz.ntmps128
  go_wp2
  go_ret
  exact ⟨rfl, rfl⟩

theorem TipIs.put {ok : Nat → Prop} {w : World} {G : List Hdr} {t : Value} {T : List ID} (h : TipIs ok w G t T) {b : Nat} (hb : ∀ k, ok k → k ≠ b) (o : Obj) : TipIs ok (w.putObj b o) G t T := h.fr ⟨by simp, fun k hk _ => World.putObj_heap_other (hb k hk)⟩
theorem keeps_below {B : Nat} {W W' : World} (hb : Below W.heap.size W W') : KeepsFrom B W W' := ⟨hb.size, fun k _o _ hk _ => (hb.block k (Array.getElem?_eq_some_iff.1 hk).1).trans hk⟩
theorem keeps_set {B : Nat} (W : World) {g : Nat} (hg : g < B) (cs : Array Value) : KeepsFrom B W (W.setRow g cs) := ⟨by simp, fun k o hB hk _ => (heap_setRow_ne _ _ _ _ (by omega)).trans hk⟩
/-- What lies ahead of At's loop stays, but for the iterator's variable and the result. -/
structure AtLow (w W1 W : World) (tB rB : Nat) : Prop where
  below : Below w.heap.size w W
  far : w.heap.size ≤ tB ∧ w.heap.size ≤ rB ∧ w.heap.size ≤ W1.heap.size
  size : W1.heap.size ≤ W.heap.size
  same : ∀ j, j < W1.heap.size → j ≠ tB → j ≠ rB → W.heap[j]? = W1.heap[j]?

section
variable {w W1 W C : World} {tB rB : Nat}
theorem AtLow.grow (h : AtLow w W1 W tB rB) (hb : Below W.heap.size W C) : AtLow w W1 C tB rB := ⟨h.below.trans (hb.mono (Nat.le_trans h.far.2.2 h.size)), h.far, Nat.le_trans h.size hb.size, fun j hj h1 h2 => (hb.block j (Nat.lt_of_lt_of_le hj h.size)).trans (h.same j hj h1 h2)⟩
theorem AtLow.set (h : AtLow w W1 W tB rB) (cs : Array Value) : AtLow w W1 (W.setRow tB cs) tB rB := ⟨below_setRow h.below h.far.1 _, h.far, by simpa using h.size, fun j hj h1 h2 => (heap_setRow_ne _ _ _ _ h1).trans (h.same j hj h1 h2)⟩
theorem AtLow.res (h : AtLow w W1 W tB rB) (cs : Array Value) : AtLow w W1 (W.setRow rB cs) tB rB := ⟨below_setRow h.below h.far.2.1 _, h.far, by simpa using h.size, fun j hj h1 h2 => (heap_setRow_ne _ _ _ _ h2).trans (h.same j hj h1 h2)⟩
theorem AtLow.put (h : AtLow w W1 W tB rB) (o : Obj) : AtLow w W1 (W.putObj (W1.heap.size + 1) o) tB rB := ⟨h.below.grown (grownBy_putObj' W _ o) h.below.size (fun k e => by cases e; have := h.far.2.2; omega), h.far, by simpa using h.size, fun j hj h1 h2 => (World.putObj_heap_other (by omega)).trans (h.same j hj h1 h2)⟩
end
set_option maxRecDepth 100000 in
set_option maxHeartbeats 2000000 in
theorem at_any (w : World) (pp p b1 b2 : Nat) (D : List LB) (okx ok : Nat → Prop) (hp : w.cell? ⟨pp, 0, none⟩ = some (.pointer (some ⟨p, 0, none⟩))) (h : DagAt okx w p b1 b2 D) (hf : FineD D) (g : GoodG (hdrs D)) (tv : Value) (T : List ID) (ht : TipOf (hdrs D) T) (hw : TipIs ok w (hdrs D) tv T) (k : Int) :
    Calls Tryz.prog 60 #[.pointer (some ⟨pp, 0, none⟩), tipV tv, .int .i64 k] w fun e w' => ∃ t2, e = .returned (tipV t2) ∧ TipIs (fun j => ok j ∨ okx j ∨ j = pp ∨ w.heap.size ≤ j) w' (hdrs D) t2 (atG (hdrs D) T k) ∧ Below w.heap.size w w' := by
  have hv : tv.oneCell' = true := hw.one tv (by simp)
  refine (callsIn_wide (n := 5)).1 ?_
  refine callsIn_of_wp_marks Tryz.func60 rfl trivial ?_ rfl
  simp only [Tryz.ntmps60, List.size_toArray, List.length_cons, List.length_nil, Nat.reduceAdd, Nat.reduceSub, Array.replicate_succ, Array.replicate_zero, List.push_toArray, List.append_toArray, List.nil_append, List.cons_append]
  obtain ⟨W0, hW0⟩ : ∃ W0, (((w.alloc (.cells #[tv] 52)).alloc (.cells #[.int .i64 k] 3)).alloc (.cells #[.slice none 0 0] 52)) = W0 := ⟨_, rfl⟩
  have HC := Lib.hid (chain_any W0 pp tv hv)
  have HB0 : Hid (W0.heap[w.heap.size]? = some (.cells #[tv] 52 (0, 0))) := Lib.hid (by rw [← hW0]; exact (heap_alloc_old _ _ (by simp; omega)).trans ((heap_alloc_old _ _ (by simp)).trans (heap_alloc_new w _)))
  have HP : Hid (Below w.heap.size w W0 ∧ W0.heap.size = w.heap.size + 3 ∧ W0.heap[w.heap.size + 1]? = some (.cells #[.int .i64 k] 3 (0, 0)) ∧ W0.heap[w.heap.size + 2]? = some (.cells #[.slice none 0 0] 52 (0, 0))) := Lib.hid (by
    rw [← hW0]
    refine ⟨(((Below.refl _ w).alloc (Nat.le_refl _) _).alloc (by simp) _).alloc (by simp; omega) _, by simp, ?_, ?_⟩
    · have h1 := heap_alloc_new (w.alloc (.cells #[tv] 52)) (.cells #[.int .i64 k] 3)
      rw [World.size_alloc] at h1
      exact (heap_alloc_old _ _ (by simp)).trans h1
    · have h1 := heap_alloc_new ((w.alloc (.cells #[tv] 52)).alloc (.cells #[.int .i64 k] 3)) (.cells #[.slice none 0 0] 52)
      rw [World.size_alloc, World.size_alloc] at h1
      exact h1)
  gi_wp2_with (first
    | (refine wplIn_load (by kernel_rfl) 52 (.tmp 4) rfl w.heap.size 0 rfl [tv] _ (fun j u hu => by rw [Nat.zero_add]; exact cell_block HB0.out (by simpa using hu)) Tryz.underlying52 rfl tip_size ?_)
    | (refine ⟨trivial, ?_⟩; refine (callsIn_wide.2 HC.out).mono ?_; rintro e w1 ⟨rfl, hw1⟩; have HW1 := Lib.hid hw1; clear hw1))
  have hw1 := HW1.out
  have hz1 : w1.heap.size = W0.heap.size + 2 := by rw [hw1]; simp
  have hb1 : Below W0.heap.size W0 w1 := by rw [hw1]; exact ((Below.refl _ W0).alloc (Nat.le_refl _) _).alloc (by simp) _
  have hbw : Below w.heap.size w w1 := HP.out.1.trans (hb1.mono HP.out.1.size)
  have hz0 := HP.out.2.1
  obtain ⟨okr, hokr⟩ : ∃ okr : Nat → Prop, okr = fun j => (ok j ∨ okx j ∨ j = pp ∨ w.heap.size ≤ j) ∧ j ≠ w.heap.size + 2 := ⟨_, rfl⟩
  have hokn : ∀ j, w.heap.size ≤ j → j ≠ w.heap.size + 2 → okr j := fun j hj hn => by rw [hokr]; exact ⟨.inr (.inr (.inr hj)), hn⟩
  have HS : Spare (fun _ j => (j ≠ w1.heap.size + 1 ∧ j ≠ w1.heap.size) ∧ okr j) (fun A C => A.heap.size ≤ C.heap.size ∧ ∀ j, j ≠ w1.heap.size + 1 → j < A.heap.size → C.heap[j]? = A.heap[j]?) (w1.heap.size + 2) (W0.heap.size + 1) :=
    ⟨fun hK => ⟨hK.1, fun j hj hl => ⟨hK.2 j hj.1.1 hl, hj⟩⟩, fun {A C} hn _ hb j hj hl => by
      by_cases hlt : j < A.heap.size
      · exact hj hlt
      · exact ⟨⟨by omega, by omega⟩, hokn j (by omega) (by omega)⟩, fun _ _ hk => hk⟩
  have htb : w1.heap[W0.heap.size + 1]? = some (.cells #[tv] 52 (0, 0)) := by
    rw [hw1]
    have h1 := heap_alloc_new (W0.alloc (.cells #[.pointer (some ⟨pp, 0, none⟩)] 80)) (.cells #[tv] 52)
    rw [World.size_alloc] at h1
    exact h1
  have hpb : w1.cell? ⟨W0.heap.size, 0, none⟩ = some (.pointer (some ⟨pp, 0, none⟩)) := by
    rw [hw1]
    exact cell_block ((heap_alloc_old _ _ (by simp)).trans (heap_alloc_new W0 _)) rfl
  have hlt := cell_lt hp
  have hch : ∀ W, Below w1.heap.size w1 W → w1.heap.size + 2 ≤ W.heap.size → ChS (fun _ j => (j ≠ w1.heap.size + 1 ∧ j ≠ w1.heap.size) ∧ okr j) (w1.heap.size + 2) W (W0.heap.size + 1) W0.heap.size pp p b1 b2 D (fun k => okx k ∧ k < w.heap.size) tv T := fun W hb hs => by
    have hbW : Below w.heap.size w W := hbw.trans (hb.mono hbw.size)
    refine ⟨(hb.block _ (by omega)).trans htb, (cell_eq (hb.block _ (by omega)) 0).trans hpb, (hbW.cell hlt).trans hp, h.old.below hbW, (hw.old.below hbW).mono fun j hj => ⟨⟨⟨by have := hj.2; omega, by have := hj.2; omega⟩, by rw [hokr]; exact ⟨.inl hj.1, by have := hj.2; omega⟩⟩, by have := hj.2; omega, by have := hj.2; omega⟩, ?_, ⟨fun hk => by have := hk.2; omega, by omega, by omega⟩, hs⟩
    rintro j (⟨hx, hj⟩ | rfl | rfl | rfl)
    · exact ⟨by omega, ⟨by omega, by omega⟩, by rw [hokr]; exact ⟨.inr (.inl hx), by omega⟩⟩
    · exact ⟨by omega, ⟨by omega, by omega⟩, hokn _ (by omega) (by omega)⟩
    · exact ⟨by omega, ⟨by omega, by omega⟩, hokn _ (by omega) (by omega)⟩
    · exact ⟨by omega, ⟨by omega, by omega⟩, by rw [hokr]; exact ⟨.inr (.inr (.inl rfl)), by omega⟩⟩
  clear hw1
  refine wpIn_range_var rfl (by decide) (gf := 168) (lb := #[.pointer (some ⟨W0.heap.size + 1, 0, none⟩), .pointer (some ⟨W0.heap.size, 0, none⟩)]) rfl trivial (enters_of Tryz.func168 (by kernel_rfl) rfl)
    (chain1_stops _ _ _ _ _ _ pp p b1 b2 HS D _ hf g T ht tv w1 hch) (by omega) ?kt ?kb ?kg (Below.refl _ _) (fun _ => rfl)
    (fun pre W => (∀ x ∈ pre, k < hgtG (hdrs D) x.2) ∧ AtLow w w1 W (W0.heap.size + 1) (w.heap.size + 2) ∧ W.heap[w.heap.size + 2]? = some (.cells #[.slice none 0 0] 52 (0, 0)))
    (fun c pre W => c = .ret ∧ ∃ (x : Value × List ID), atG (hdrs D) T k = x.2 ∧ AtLow w w1 W (W0.heap.size + 1) (w.heap.size + 2) ∧ W.heap[w.heap.size + 2]? = some (.cells #[x.1] 52 (0, 0)) ∧ TipIs (fun j => (j ≠ w1.heap.size + 1 ∧ j ≠ w1.heap.size) ∧ okr j) W (hdrs D) x.1 x.2)
    ?bears ?ixp ?h0
    (fun pre x a' W => ∃ bx, w1.heap.size + 2 ≤ bx ∧ W.heap[bx]? = some (.cells #[x.1] 52 (0, 0)) ∧ TipIs (fun j => (j ≠ w1.heap.size + 1 ∧ j ≠ w1.heap.size) ∧ okr j) W (hdrs D) x.1 x.2 ∧ TipOf (hdrs D) x.2 ∧ (∃ rest, pre.map Prod.snd ++ x.2 :: rest = chainG (hdrs D) T) ∧ a' = { tmps := #[.pointer (some ⟨pp, 0, none⟩), tipV tv, .int .i64 k, undef, .pointer (some ⟨w.heap.size, 0, none⟩), .pointer (some ⟨w.heap.size + 1, 0, none⟩), .pointer (some ⟨w.heap.size + 1 + 1, 0, none⟩), .pointer (some ⟨bx, 0, none⟩), .pointer (some ⟨pp, 0, none⟩), .agg #[tv], .func (.func 168) #[] #[.pointer (some ⟨W0.heap.size + 1, 0, none⟩), .pointer (some ⟨W0.heap.size, 0, none⟩)], tipV x.1, undef, undef, undef, undef, undef, undef], defers := [] })
    ?axp ?assign ?body ?done ?stop
  case kt => exact fun h1 h2 => ⟨Nat.le_trans h1.1 h2.1, fun j hj hl => (h2.2 j hj (Nat.lt_of_lt_of_le hl h1.1)).trans (h1.2 j hj hl)⟩
  case kb => exact fun W o' => ⟨by simp, fun j hj _ => World.putObj_heap_other hj⟩
  case kg => exact fun hs hb => ⟨hb.size, fun j _ hl => hb.block j hl⟩
  case bears =>
    exact ⟨fun s A C hs hb => ⟨hs.1, hs.2.1.grow hb, (hb.block _ (Array.getElem?_eq_some_iff.1 hs.2.2).1).trans hs.2.2⟩, fun s A cs hs => ⟨hs.1, hs.2.1.set cs, (heap_setRow_ne _ _ _ _ (by omega)).trans hs.2.2⟩,
      fun s A o' hs => ⟨hs.1, hs.2.1.put o', (World.putObj_heap_other (by omega)).trans hs.2.2⟩⟩
  case ixp =>
    rintro c s A o' ⟨hc, x, ha, hl, hr, ht⟩
    exact ⟨hc, x, ha, hl.put o', (World.putObj_heap_other (by omega)).trans hr, ht.put (fun k hk => hk.1.1) o'⟩
  case h0 => exact ⟨by simp, ⟨hbw, ⟨by omega, by omega, by omega⟩, Nat.le_refl _, fun _ _ _ _ => rfl⟩, (hb1.block _ (by omega)).trans HP.out.2.2.2⟩
  case axp =>
    rintro pre x a' A o' ⟨bx, h1, h2, h3, h4⟩
    exact ⟨bx, h1, (World.putObj_heap_other (by omega)).trans h2, h3.put (fun k hk => hk.1.1) o', h4⟩
  case assign =>
    intro l pre x W K hi hx hsz hK
    obtain ⟨hc, htx, hrest⟩ := hx
    have HCX := Lib.hid hc
    have hb : Below W.heap.size W ((W.alloc (.cells #[.slice none 0 0] 52)).setRow W.heap.size #[x.1]) := below_setRow ((Below.refl _ W).alloc (Nat.le_refl _) _) (Nat.le_refl _) _
    have HK := Lib.hid (hK _ _ hb ⟨W.heap.size, hc.size, setRow_heap _ _ _ _ _ _ (heap_alloc_new W _), (((hc.tip.mono (ok' := fun j => (j ≠ w1.heap.size + 1 ∧ j ≠ w1.heap.size) ∧ okr j) fun j hj => hj.1).old.below ((Below.refl _ W).alloc (Nat.le_refl _) _)).set (fun j hj => by have := hj.2; omega) _).mono fun j hj => hj.1, htx, hrest, rfl⟩)
    clear hK hb hz0 hz1 hc
    gi_wp2_with (refine wplIn_store_row rfl 52 (.tmp 7) (.tmp 11) rfl W.heap.size rfl [x.1] rfl _ 52 (heap_alloc_new W _) rfl HCX.out.tip.one tip_size ?_)
    exact HK.out
  case body =>
    rintro l pre x a' W hl hsz ⟨hall, hlow, hr⟩ ⟨bx, hbx, hgx, htx, hto, ⟨rest, hrest⟩, rfl⟩
    obtain ⟨hx, hhx⟩ : ∃ hx, hgtG (hdrs D) x.2 = hx := ⟨_, rfl⟩
    have HH := Lib.hid (height_is (htx.below (Below.refl _ W).drew) hto)
    rw [hhx] at HH
    have hk1 : W.cell? ⟨w.heap.size + 1, 0, none⟩ = some (.int .i64 k) := by
      have h1 : W.heap[w.heap.size + 1]? = some (.cells #[.int .i64 k] 3 (0, 0)) := (hlow.same _ (by omega) (by omega) (by omega)).trans ((hb1.block _ (by omega)).trans HP.out.2.2.1)
      exact cell_block h1 rfl
    have HG := Lib.hid hgx
    have HZ := Lib.hid (And.intro hz0 hz1)
    have HR := Lib.hid hr
    have HL := Lib.hid hlow
    have HTX := Lib.hid htx
    clear hz0 hz1 hr hlow htx hgx
    gi_wp2
    refine stI_ (S := (fun W' => Below W.drew.heap.size W.drew W')) 4 #[false, false, false, false] (by kernel_rfl) rfl (by rfl) (by kernel_rfl) (by rintro ⟨_, _, h⟩; exact h) (Below.refl _ _) (fun hHeld => ?_)
    refine tk_ 0 (some 12) #[true, false, false, false] rfl rfl (by kernel_rfl) (fun _ _ _ h => h) (yieldsIf_load rfl 52 (.tmp 7) rfl bx 0 rfl [x.1] _ (fun W' h j u hu => by rw [Nat.zero_add]; exact (h.cell (cell_lt (cell_block (W := W) HG.out (by simpa using hu)))).trans (cell_block (W := W) HG.out (by simpa using hu))) Tryz.underlying52 rfl tip_size) hHeld (a' := ?_) ?_ ?_
    rotate_left
    · simp only [Act.put, List.setIfInBounds_toArray, List.set_cons_zero, List.set_cons_succ]
      rfl
    refine tk_ 2 (some 14) #[true, false, true, false] rfl rfl (by kernel_rfl) (fun _ _ _ h => h) (yieldsIf_cell rfl 3 (.tmp 5) rfl ⟨w.heap.size + 1, 0, none⟩ rfl (.int .i64 k) _ (fun W' h => (h.cell (cell_lt (W := W) hk1)).trans hk1) Tryz.underlying3 rfl) hHeld (a' := ?_) ?_ ?_
    rotate_left
    · simp only [Act.put, List.setIfInBounds_toArray, List.set_cons_zero, List.set_cons_succ]
      rfl
    refine call_ 1 (some 13) #[true, true, true, false] rfl rfl (by kernel_rfl) rfl 41 _ (by kernel_rfl) (HH.out) ?_
    rintro e w1 ⟨rfl, hb1⟩
    have HB1 := Lib.hid hb1
    have HG1 : Hid (w1.heap[bx]? = some (.cells #[x.1] 52 (0, 0))) := Lib.hid ((hb1.block _ (Array.getElem?_eq_some_iff.1 HG.out).1).trans HG.out)
    have HR1 : Hid (w1.heap[w.heap.size + 2]? = some (.cells #[.slice none 0 0] 52 (0, 0))) := Lib.hid ((hb1.block _ (Array.getElem?_eq_some_iff.1 HR.out).1).trans HR.out)
    refine ⟨_, rfl, hb1, fun hHeld => ⟨?_, ?_, ?_⟩⟩
    rotate_left
    · simp only [Act.put, List.setIfInBounds_toArray, List.set_cons_zero, List.set_cons_succ]
      rfl
    refine tk_ 3 (some 15) #[true, true, true, true] (v := ?_) (a' := ?_) rfl rfl (by kernel_rfl) (fun _ _ _ h => h) (yieldsIf_run rfl ?_) hHeld ?_ ?_
    rotate_left
    · intro w'
      go_simp
      with_reducible rfl
    rotate_left
    · simp only [Act.put, List.setIfInBounds_toArray, List.set_cons_zero, List.set_cons_succ]
      rfl
    refine wpAnyH_done (by kernel_rfl) ?_ _
    change Exit.then _ _ _ _ _
    have hbW : Below W.heap.size W w1 := (Below.refl _ W).drew.trans HB1.out
    have HLc := Lib.hid (HL.out.grow hbW)
    have HTc := Lib.hid (HTX.out.below hbW)
    gi_wp2_with (first
      | (refine wplIn_load rfl 52 (.tmp 7) rfl bx 0 rfl [x.1] _ (fun j u hu => by rw [Nat.zero_add]; exact cell_block HG1.out (by simpa using hu)) Tryz.underlying52 rfl tip_size ?_)
      | (refine wplIn_store_row rfl 52 (.tmp 6) (.tmp 16) rfl (w.heap.size + 2) rfl [x.1] rfl _ 52 HR1.out rfl HTX.out.one tip_size ?_))
    · rename_i hle
      have hz0 := HZ.out.1
      have hz1 := HZ.out.2
      have hat : atG (hdrs D) T k = x.2 := atG_split hrest (fun y hy => by obtain ⟨z, hz, rfl⟩ := List.mem_map.1 hy; exact hall z hz) (by rw [hhx]; exact hle)
      refine ⟨(keeps_below hbW).trans (keeps_set _ (by omega) _), rfl, x, hat, HLc.out.res _, setRow_heap _ _ _ _ _ _ HR1.out, HTc.out.set (fun j hj => ?_) _⟩
      have h2 := hj.2
      rw [hokr] at h2
      exact h2.2
    · rename_i hle
      refine ⟨keeps_below hbW, ⟨hbW.size, fun j _ hl => hbW.block j hl⟩, ?_, HLc.out, HR1.out⟩
      intro y hy
      rcases List.mem_append.1 hy with hy | hy
      · exact hall y hy
      · rw [List.mem_singleton.1 hy, hhx]; omega
  case done =>
    rintro Db xs W rfl hS ⟨hall, hl, hr⟩ hK
    have hnone : atG (hdrs D) T k = [] := by
      unfold atG
      rw [← hS, List.find?_map, List.find?_eq_none.2 fun x hx => by have := hall x hx; simp; omega]
      rfl
    have HZ := Lib.hid (And.intro hz0 hz1)
    have HR := Lib.hid hr
    have HL := Lib.hid hl
    have HK := Lib.hid hK
    have HN := Lib.hid hnone
    clear hz0 hz1 hl hr hK hnone hS hall
    gi_wp2_with (refine wplIn_store_row rfl 52 (.tmp 6) (.tmp 17) rfl (w.heap.size + 2) rfl [.slice none 0 0] rfl _ 52 HR.out rfl (by simp [Value.oneCell']) tip_size ?_)
    have hz0 := HZ.out.1
    have hz1 := HZ.out.2
    refine ⟨by simp, .inl ⟨_, _, rfl, run_takeDeferred ((heap_setRow_ne _ _ _ _ (by omega)).trans HK.out), ?_⟩⟩
    refine ⟨_, results_cell_row rfl _ _ (w.heap.size + 2) 52 #[.slice none 0 0] (0, 0) _ rfl ((World.putObj_heap_other (by omega)).trans (setRow_heap _ _ _ _ _ _ HR.out)) Tryz.underlying52 rfl tip_size, .slice none 0 0, rfl, ?_, ?_⟩
    · rw [HN.out]; exact TipIs.zero
    · exact (HL.out.res _).below.grown (grownBy_putObj' _ _ _) (HL.out.res _).below.size (fun k e => by cases e; omega)
  case stop =>
    rintro Db c pre W rfl - ⟨rfl, x, ha, hl, hr, htx⟩ hK
    have HZ := Lib.hid (And.intro hz0 hz1)
    have HR := Lib.hid hr
    have HBW := Lib.hid hl.below
    have hrb : w.heap.size + 1 + 1 = w.heap.size + 2 := rfl
    clear hz0 hz1 hl hr
    gi_wp2
    refine ⟨by simp, .inl ⟨_, _, rfl, run_takeDeferred hK, ?_⟩⟩
    have hz0 := HZ.out.1
    have hz1 := HZ.out.2
    refine ⟨_, results_cell_row rfl _ _ (w.heap.size + 2) 52 #[x.1] (0, 0) _ rfl ((World.putObj_heap_other (by omega)).trans HR.out) Tryz.underlying52 rfl tip_size, x.1, rfl, ?_, ?_⟩
    · try rw [ha]
      exact (htx.put (fun k hk => hk.1.2) _).mono fun j hj => by have h2 := hj.2; rw [hokr] at h2; exact h2.1
    · exact HBW.out.grown (grownBy_putObj' W _ _) HBW.out.size (fun k e => by cases e; omega)
end Go.Proofs.YtcohdfkdhdhegaaGreatDoor
namespace Go.Proofs.YtcohdfkdhdhegaaGreatDoor
open Go.RowKit

section
variable {ops : Array Oper} {rest : List Oper} {o : Oper} {a : Act} {w : World} {Q : Exit → Act → World → Prop}
theorem wpl_tip (hgd : Region.wanted o (yielded ops a.tmps) = true) (x : Operand) (ho : o.op = .load 52 x) (b : Nat) (hx : a.eval x = .pointer (some ⟨b, 0, none⟩)) (v : Value) (hb : w.heap[b]? = some (.cells #[v] 52 (0, 0)))
    (h : wpList Tryz.prog ops Q rest (a.put o.dst (tipV v)) w) : wpList Tryz.prog ops Q (o :: rest) a w :=
  wpl_load_on hgd 52 x ho b 0 hx [v] _ (fun j u hu => by rw [Nat.zero_add]; exact cell_block hb (by simpa using hu)) Tryz.underlying52 rfl tip_size h
theorem wpl_tip_set (hgd : o.guard = none) (x y : Operand) (ho : o.op = .store 52 x y) (g : Nat) (hx : a.eval x = .pointer (some ⟨g, 0, none⟩)) (v u : Value) (hy : a.eval y = tipV v) (hg : w.heap[g]? = some (.cells #[u] 52 (0, 0))) (h1 : ∀ u ∈ [v], u.oneCell' = true)
    (h : wpList Tryz.prog ops Q rest (a.put o.dst undef) (w.setRow g #[v])) : wpList Tryz.prog ops Q (o :: rest) a w :=
  wpl_store_row hgd 52 x y ho g hx [v] hy _ 52 hg rfl h1 tip_size h
end
theorem run_storeVar_1 {P : Program} (w : World) (g : Nat) (ty T : TypeId) (v u : Value) (hg : w.heap[g]? = some (.cells #[u] T (0, 0))) (h1 : v.oneCell' = true) (hi : (P.info? ty).map (·.size) = some 1) :
    (storeVar ty ⟨g, 0, none⟩ v).run P w = .ok () (w.setRow g #[v]) := by
  have hv : v.cells = #[v] := by cases v <;> first | rfl | cases h1
  cases hq : P.info? ty with
  | none => simp [hq] at hi
  | some i =>
    have hs : i.size = [v].length := by simpa [hq] using hi
    have := run_storeCells_from (P := P) g T [v] 0 #[u] w hg (by simp) (fun u hu => by rw [List.mem_singleton.1 hu]; exact h1)
    simpa [storeVar, sizeOf, typeInfo, hq, hs, hv] using this
section
variable {P : Program} {ops : Array Oper} {rest : List Oper} {o : Oper} {a : Act} {w : World} {Q : Exit → Act → World → Prop}
/-- A value of one cell, stored into a variable of its own. -/
theorem wpl_set1 (hgd : o.guard = none) (ty : TypeId) (x y : Operand) (ho : o.op = .store ty x y) (g : Nat) (hx : a.eval x = .pointer (some ⟨g, 0, none⟩)) (v u : Value) (T : TypeId) (hy : a.eval y = v) (hg : w.heap[g]? = some (.cells #[u] T (0, 0))) (h1 : v.oneCell' = true) (hi : (P.info? ty).map (·.size) = some 1)
    (h : wpList P ops Q rest (a.put o.dst undef) (w.setRow g #[v])) : wpList P ops Q (o :: rest) a w :=
  wpList_plain hgd fun K hK => by
    unfold Oper.wp execOp
    simp only [ho, hx, hy, Instr.storeAt, Instr.sureAddr, Sem.run_bind, Sem.run_pure, Result.andThen_ok, run_storeVar_1 w g ty T v u hg h1 hi]
    exact hK _ _ h
/-- A cell loaded. -/
theorem wpl_get1 (hgd : Region.wanted o (yielded ops a.tmps) = true) (ty : TypeId) (x : Operand) (ho : o.op = .load ty x) (ad : Addr) (hx : a.eval x = .pointer (some ad)) (v : Value) (d : TypeDesc) (hc : w.cell? ad = some v) (hu : P.underlying ty = some d) (hd : (match d with | .struct _ | .array _ _ => true | _ => false) = false)
    (h : wpList P ops Q rest (a.put o.dst v) w) : wpList P ops Q (o :: rest) a w :=
  wpList_on hgd fun K hK => by
    unfold Oper.wp execOp
    simp only [ho, hx, Instr.loadAt, Instr.sureAddr, Sem.run_bind, Sem.run_pure, Result.andThen_ok, run_loadVar_cell w ty ad v d hc hu hd]
    exact hK _ _ h
end
section
variable {S : World → Prop} {ops : Array Oper}
theorem yieldsIf_tipb {o : Oper} {a : Act} (hw : Region.wanted o (yielded ops a.tmps) = true) (x : Operand) (ho : o.op = .load 52 x) (b : Nat) (hx : a.eval x = .pointer (some ⟨b, 0, none⟩)) (v : Value) (hc : ∀ w, S w → w.heap[b]? = some (.cells #[v] 52 (0, 0))) : YieldsIf Tryz.prog ops S o (tipV v) a :=
  yieldsIf_load hw 52 x ho b 0 hx [v] _ (fun w hS j u hu => by rw [Nat.zero_add]; exact cell_block (hc w hS) (by simpa using hu)) Tryz.underlying52 rfl tip_size
end
/-- Two tipsets in two variables that were just made. -/
structure Box2 (w W : World) (v u : Value) : Prop where
  below : Below w.heap.size w W
  b0 : W.heap[w.heap.size]? = some (.cells #[v] 52 (0, 0))
  b1 : W.heap[w.heap.size + 1]? = some (.cells #[u] 52 (0, 0))
  lt : w.heap.size + 1 < W.heap.size
theorem Box2.next {w W W' : World} {v u : Value} (h : Box2 w W v u) (hb : Below W.heap.size W W') : Box2 w W' v u :=
  ⟨h.below.trans (hb.mono h.below.size), (hb.block _ (Nat.lt_of_succ_lt h.lt)).trans h.b0, (hb.block _ h.lt).trans h.b1, Nat.lt_of_lt_of_le h.lt hb.size⟩
theorem Box2.mk2 (w : World) (v u : Value) : Box2 w ((w.alloc (.cells #[v] 52)).alloc (.cells #[u] 52)) v u :=
  ⟨((Below.refl _ w).alloc (Nat.le_refl _) _).alloc (by simp) _, (heap_alloc_old _ _ (by simp)).trans (heap_alloc_new w _), by have := heap_alloc_new (w.alloc (.cells #[v] 52)) (.cells #[u] 52); rw [World.size_alloc] at this; exact this, by simp⟩
end Go.Proofs.YtcohdfkdhdhegaaGreatDoor
namespace Go.Proofs.YtcohdfkdhdhegaaGreatDoor
open Go.RowKit

def rhs (L : List LRH) : List RH := L.map LRH.h
theorem rget_at {n : ByteArray} : ∀ {L : List RH} {i : Nat} {x : RH}, L[i]? = some x → (rid x).1 = n → (∀ (j : Nat) (y : RH), j < i → L[j]? = some y → (rid y).1 ≠ n) → rget L n = some x
  | [], _, _, hx, _, _ => by simp at hx
  | z :: L, 0, x, hx, hn, _ => by
    obtain rfl : z = x := by simpa using hx
    unfold rget
    rw [List.find?_cons, decide_eq_true hn]
  | z :: L, i + 1, x, hx, hn, hall => by
    have h0 : (rid z).1 ≠ n := hall 0 z (by omega) rfl
    have h1 := rget_at (L := L) (i := i) (by simpa using hx) hn fun j y hj hy => hall (j + 1) y (by omega) (by simpa using hy)
    unfold rget at *
    rw [List.find?_cons, decide_eq_false h0]
    exact h1
theorem rhas_none {n : ByteArray} {L : List RH} (hall : ∀ (j : Nat) (y : RH), L[j]? = some y → (rid y).1 ≠ n) : rhas L n = false := by
  unfold rhas
  rw [List.any_eq_false]
  intro x hx
  obtain ⟨j, hj⟩ := List.getElem?_of_mem hx
  simpa using hall j x hj
theorem rget_none {n : ByteArray} {L : List RH} (h : rhas L n = false) : rget L n = none := by
  have := rget_has L n
  rw [h] at this
  simpa using this
theorem str_beq (s t : ByteArray) : (s.toList == t.toList) = decide (s = t) := by
  rw [ByteArray.toList_eq, ByteArray.toList_eq]
  rw [Bool.eq_iff_iff, beq_iff_eq, decide_eq_true_eq]
  exact ⟨fun h => ByteArray.ext (Array.toList_inj.1 h), fun h => by rw [h]⟩
/-- Where a name is. -/
def FoundAt (L : List LRH) (n : ByteArray) (k : Int) : Prop :=
  (k = -1 ∧ rhas (rhs L) n = false) ∨ ∃ (i : Nat) (x : LRH), k = (i : Int) ∧ L[i]? = some x ∧ rget (rhs L) n = some x.h ∧ rhas (rhs L) n = true

set_option maxRecDepth 100000 in
set_option maxHeartbeats 2000000 in
theorem rfind_any (w : World) (v : Value) (L : List LRH) (ok : Nat → Prop) (hl : Sl rbE ok w v L) (n : ByteArray) :
    Calls Tryz.prog 88 #[v, .string n] w fun e w' => ∃ k, e = .returned (.int .i64 k) ∧ FoundAt L n k ∧ Below w.heap.size w w' := by
  obtain ⟨A, c, rfl, hc, hm⟩ := hl.form
  have HL := Lib.hid hl
  clear hl
  go_enter Tryz.func88, Tryz.ntmps88
  go_wp2
  go_loopw [9] (fun c9 W => ∃ i : Nat, i ≤ L.length ∧ c9 = .int .i64 (i : Int) ∧ (∀ j y, j < i → L[j]? = some y → (rid y.h).1 ≠ n) ∧ Below w.heap.size w W) (fun c9 _ => L.length - (intOf c9).toNat)
  case atStart => exact ⟨0, by omega, rfl, fun j y h => by omega, Below.refl _ _⟩
  case round =>
    obtain ⟨i, hi, rfl, hr, hB⟩ := hrel
    have HR := Lib.hid hr
    have HB := Lib.hid hB
    clear hr hB
    by_cases hil : i < L.length
    · obtain ⟨x, hx⟩ : ∃ x, L[i]? = some x := ⟨_, List.getElem?_eq_getElem hil⟩
      obtain ⟨b, off, rfl, -, -, hcx⟩ := (HL.out.below HB.out).at_ i x hx
      obtain ⟨s, hs⟩ : ∃ s, rid x.h = s := ⟨_, rfl⟩
      have hcx2 : ∀ j u, (rbc s x)[j]? = some u → wr.cell? ⟨b, off + i * 8 + j, none⟩ = some u := fun j u hu => hcx j u (by rw [← hs] at hu; exact hu)
      have HCX := Lib.hid hcx2
      have HX := Lib.hid hx
      have HS := Lib.hid hs
      have hg := heap_alloc_new wr (.cells (rbc s x).toArray 31)
      have hc0 : (wr.alloc (.cells (rbc s x).toArray 31)).cell? ⟨wr.heap.size, 0, none⟩ = some (.string s.1) := cell_block hg rfl
      clear hcx hcx2 hx hs hg
      go_upto_region 4 with (first
        | (refine wpl_load rfl 31 (.tmp 12) rfl b _ rfl (rbc s x) _ HCX.out Tryz.underlying31 rfl rb_size ?_)
        | (refine wpl_store_new rfl 31 _ _ rfl rfl (rbc s x) rfl _ _ rfl (rbc_one s x) rb_size ?_))
      have HBx : Hid (Below w.heap.size w (wr.alloc (.cells (rbc s x).toArray 31))) := Lib.hid (HB.out.alloc HB.out.size _)
      by_cases hsn : s.1 = n
      · have heq : (s.1.toList == n.toList) = true := by rw [str_beq]; exact decide_eq_true hsn
        go_wp2
        go_ret
        refine ⟨i, rfl, .inr ⟨i, x, rfl, HX.out, ?_, ?_⟩, HBx.out⟩
        · refine rget_at (i := i) (by rw [rhs, List.getElem?_map, HX.out]; rfl) (by rw [HS.out, hsn]) fun j y hj hy => ?_
          rw [rhs, List.getElem?_map] at hy
          obtain ⟨z, hz, rfl⟩ := Option.map_eq_some_iff.1 hy
          exact HR.out j z hj hz
        · unfold rhas
          exact List.any_eq_true.2 ⟨x.h, List.mem_map.2 ⟨x, List.mem_of_getElem? HX.out, rfl⟩, by rw [HS.out]; simpa using hsn⟩
      · have heq : (s.1.toList == n.toList) = false := by rw [str_beq]; exact decide_eq_false hsn
        go_wp2
        go_roundw
        case rel =>
          refine ⟨i + 1, by omega, by go_num, fun j y hj hy => ?_, HBx.out⟩
          rcases Nat.lt_or_eq_of_le (Nat.le_of_lt_succ hj) with h | h
          · exact HR.out j y h hy
          · subst h
            rw [HX.out] at hy
            injection hy with hy
            rw [← hy, HS.out]
            exact hsn
        case measure => simp [intOf]; omega
    · have hii : i = L.length := by omega
      subst hii
      go_wp2
      go_ret
      refine ⟨-1, rfl, .inl ⟨rfl, rhas_none fun j y hy => ?_⟩, HB.out⟩
      rw [rhs, List.getElem?_map] at hy
      obtain ⟨z, hz, rfl⟩ := Option.map_eq_some_iff.1 hy
      exact HR.out j z (List.getElem?_eq_some_iff.1 hz).1 hz

/-- What Headers has so far. -/
structure HeadsR (w wr : World) (L : List LRH) (ns : List ByteArray) (i : Nat) (v : Value) (ys : List LRH) : Prop where
  own : wr.ownsRow w.heap.size 29 7 v ys.length (lrhE.flat ys)
  vals : ys.map LRH.h = (ns.take i).filterMap (rget (rhs L))
  mem : ∀ y ∈ ys, y ∈ L
  all : ∀ n ∈ ns.take i, rhas (rhs L) n = true
  below : Below w.heap.size w wr
set_option maxRecDepth 100000 in
set_option maxHeartbeats 2000000 in
theorem rheads_any (w : World) (v : Value) (L : List LRH) (ok : Nat → Prop) (hl : Sl rbE ok w v L) (v2 : Value) (ns : List ByteArray) (ok2 : Nat → Prop) (hn : Sl strE ok2 w v2 ns) (hlen : ns.length ≤ 1000) :
    Calls Tryz.prog 27 #[v, v2] w fun e w' => Below w.heap.size w w' ∧
      ((rheads (rhs L) ns = none ∧ e = .returned (.tuple #[.slice none 0 0, .bool false])) ∨
       ∃ u ys, rheads (rhs L) ns = some (rhs ys) ∧ (∀ y ∈ ys, y ∈ L) ∧ ys.length = ns.length ∧ e = .returned (.tuple #[u, .bool true]) ∧ w'.ownsRow w.heap.size 29 7 u ys.length (lrhE.flat ys)) := by
  obtain ⟨A2, c2, rfl, hc2, hm2⟩ := hn.form
  obtain ⟨A, c, rfl, hc, hm⟩ := hl.form
  have HL := Lib.hid hl
  have HN := Lib.hid hn
  clear hl hn
  have hB0 : Below w.heap.size w (w.alloc (.cells #[] 29)) := (Below.refl _ w).alloc (Nat.le_refl _) _
  have HR0 : Hid (HeadsR w (w.alloc (.cells #[] 29)) L ns 0 (.slice (some ⟨w.heap.size, 0, none⟩) 0 0) []) := Lib.hid ⟨own_empty w w.heap.size _ 7 (Nat.le_refl _), rfl, by simp, by simp, hB0⟩
  clear hB0
  go_enter Tryz.func27, Tryz.ntmps27
  go_wp2
  go_loopw [6, 13] (fun c6 c13 W => ∃ (i : Nat) (ys : List LRH), i ≤ ns.length ∧ c13 = .int .i64 (i : Int) ∧ ys.length = i ∧ HeadsR w W L ns i c6 ys) (fun _ c13 _ => ns.length - (intOf c13).toNat)
  case atStart => exact ⟨0, [], by omega, rfl, rfl, HR0.out⟩
  case round =>
    obtain ⟨i, ys, hi, rfl, hyl, hR⟩ := hrel
    have HR := Lib.hid hR
    have HYL := Lib.hid hyl
    clear hR hyl
    by_cases hil : i < ns.length
    · obtain ⟨n, hnn⟩ : ∃ n, ns[i]? = some n := ⟨_, List.getElem?_eq_getElem hil⟩
      obtain ⟨bn, on, rfl, -, -, hcn⟩ := (HN.out.below HR.out.below).at_ i n hnn
      have hcell : wr.cell? ⟨bn, on + i, none⟩ = some (.string n) := by have := hcn 0 _ rfl; rwa [Nat.add_zero, show strE.k = 1 from rfl, Nat.mul_one] at this
      have HNN := Lib.hid hnn
      have HFI : Hid (Calls Tryz.prog 88 #[.slice A L.length c, .string n] wr fun e w' => ∃ k, e = .returned (.int .i64 k) ∧ FoundAt L n k ∧ Below wr.heap.size wr w') := Lib.hid (rfind_any wr _ L ok (HL.out.below HR.out.below) n)
      clear hcn hnn
      go_upto_region 6 with (go_at_call 88; refine HFI.out.mono ?_; rintro e w1 ⟨k, rfl, hk, hb1⟩; have HK := Lib.hid hk; have HB1 := Lib.hid hb1; clear hk hb1)
      rcases HK.out with ⟨rfl, hno⟩ | ⟨p, x, rfl, hx, hg, hh⟩
      · go_wp2
        (try simp only [Exit.inBlock, Exit.then])
        refine ⟨rfl, .tuple #[.slice none 0 0, .bool false], by kernel_rfl, HR.out.below.trans (HB1.out.mono HR.out.below.size), .inl ⟨?_, rfl⟩⟩
        unfold rheads
        rw [if_neg]
        intro ha
        have := List.all_eq_true.1 ha n (List.mem_of_getElem? HNN.out)
        rw [hno] at this
        cases this
      · have hpl : p < L.length := (List.getElem?_eq_some_iff.1 hx).1
        obtain ⟨b, off, rfl, -, -, hcx⟩ := ((HL.out.below HR.out.below).below HB1.out).at_ p x hx
        have hcx2 : ∀ j u, x.cells[j]? = some u → w1.cell? ⟨b, off + p * 8 + 1 + j, none⟩ = some u := fun j u hu => by
          have := hcx (1 + j) u (by show (rbc (rid x.h) x)[1 + j]? = some u; rw [Nat.add_comm]; exact hu)
          rw [show off + p * rbE.k + (1 + j) = off + p * 8 + 1 + j by show off + p * 8 + (1 + j) = _; omega] at this
          exact this
        have HCX := Lib.hid hcx2
        have HXX := Lib.hid (And.intro hx (And.intro hg hh))
        have HO1 := Lib.hid (own_below HR.out.own HB1.out)
        have HBB := Lib.hid (HR.out.below.trans (HB1.out.mono HR.out.below.size))
        clear hcx hcx2 hx hg hh
        go_wp2_with (first
          | (refine wpl_load rfl 29 (.tmp 26) rfl b _ rfl x.cells _ HCX.out Tryz.underlying29 rfl rh_size ?_)
          | (refine wpl_slice1 rfl 34 29 (.tmp 27) rfl x.cells.toArray rfl _ 7 80 Tryz.underlying34 rh_info rhZ_cells rfl (by decide) (by decide) ?_)
          | (at_builtin; refine wpl_app1 x.cells.toArray w.heap.size rfl (.tmp 22) (.tmp 28) 34 29 _ 7 80 rfl Tryz.underlying34 rh_info rhZ_cells (by decide) (by decide) u6 ys.length _ rfl rfl rfl (lrhE.one x) HO1.out HBB.out.size (by have := HYL.out; omega) ?_; intro v3 w3 ho3 hg3 hat3))
        go_roundw
        case rel =>
          have hx := HXX.out.1
          refine ⟨i + 1, ys ++ [x], by omega, by go_num, by rw [List.length_append, HYL.out]; rfl, ?_⟩
          refine ⟨by rw [lrhE.flat_append, lrhE.flat_one, List.length_append]; exact ho3, ?_, fun y hy => ?_, fun m hm => ?_, below_grown_own HBB.out HO1.out (Nat.le_refl _) HBB.out.size hg3⟩
          · rw [List.take_add_one, HNN.out, List.map_append, HR.out.vals, List.filterMap_append]
            simp [HXX.out.2.1]
          · rcases List.mem_append.1 hy with hy | hy
            · exact HR.out.mem y hy
            · rw [List.mem_singleton.1 hy]; exact List.mem_of_getElem? hx
          · rw [List.take_add_one, HNN.out] at hm
            rcases List.mem_append.1 hm with hm | hm
            · exact HR.out.all m hm
            · rw [show m = n by simpa using hm]; exact HXX.out.2.2
        case measure => simp [intOf]; omega
    · have hii : i = ns.length := by omega
      subst hii
      go_wp2
      (try simp only [Exit.inBlock, Exit.then])
      refine ⟨rfl, .tuple #[u6, .bool true], by kernel_rfl, HR.out.below, .inr ⟨u6, ys, ?_, HR.out.mem, HYL.out, rfl, HR.out.own⟩⟩
      have ha := HR.out.all
      have hv := HR.out.vals
      rw [List.take_length] at ha hv
      unfold rheads
      rw [if_pos (List.all_eq_true.2 ha), ← hv]
      rfl
end Go.Proofs.YtcohdfkdhdhegaaGreatDoor
