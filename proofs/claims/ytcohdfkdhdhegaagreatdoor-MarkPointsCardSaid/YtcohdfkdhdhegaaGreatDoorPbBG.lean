/- A cache of weights that was just made: New, Get of what isn't there, front, Put of the first one. slices.Backward of a row of one tipset. -/
import Derived.Test.YtcohdfkdhdhegaaGreatDoorPbAW
import Derived.Test.YtcohdfkdhdhegaaGreatDoorPbBD
import Derived.Test.YtcohdfkdhdhegaaGreatDoorPbBE
import Derived.Test.YtcohdfkdhdhegaaGreatDoorPbBF
namespace Go.Proofs.YtcohdfkdhdhegaaGreatDoor
open Go.RowKit Go.Maps

/-- A cache in which nothing lies. -/
structure Cache0 (W : World) (pc hd mb : Nat) (most : Int) : Prop where
  blk : ∃ h g : Int, W.heap[pc]? = some (.cells #[.map (some mb), .pointer (some ⟨hd, 0, none⟩), .int .i64 most, .int .i64 h, .int .i64 g] 230 (0, 0))
  map : MapV Tryz.prog 9 W mb 0 fun _ => none
  ring : W.heap[hd]? = some (.cells #[.string ⟨#[]⟩, .slice none 0 0, .pointer (some ⟨hd, 0, none⟩), .pointer (some ⟨hd, 0, none⟩)] 227 (0, 0))
  ne : pc ≠ hd ∧ pc ≠ mb ∧ hd ≠ mb
section
variable {W W' : World} {pc hd mb : Nat} {most : Int}
theorem Cache0.fr {ok : Nat → Prop} (h : Cache0 W pc hd mb most) (hf : Fr ok W W') (h1 : ok pc) (h2 : ok hd) (h3 : ok mb) : Cache0 W' pc hd mb most := by
  obtain ⟨a, g, hb⟩ := h.blk
  exact ⟨⟨a, g, (hf.2 pc h1 (Array.getElem?_eq_some_iff.1 hb).1).trans hb⟩, h.map.fr hf h3, (hf.2 hd h2 (Array.getElem?_eq_some_iff.1 h.ring).1).trans h.ring, h.ne⟩
theorem Cache0.below (h : Cache0 W pc hd mb most) (hb : Below W.heap.size W W') : Cache0 W' pc hd mb most := h.fr (ok := fun _ => True) (Fr.of_below hb) trivial trivial trivial
theorem Cache0.lt (h : Cache0 W pc hd mb most) : pc < W.heap.size ∧ hd < W.heap.size ∧ mb < W.heap.size := by
  obtain ⟨a, g, hb⟩ := h.blk
  exact ⟨(Array.getElem?_eq_some_iff.1 hb).1, (Array.getElem?_eq_some_iff.1 h.ring).1, h.map.lt⟩
end
theorem nat_size : (Tryz.prog.info? 178).map (·.size) = some 1 := by kernel_rfl

set_option maxRecDepth 100000 in
set_option maxHeartbeats 2000000 in
theorem cnew0_any (w : World) (n : Int) :
    Calls Tryz.prog 123 #[.int .i64 n] w fun e w' => ∃ pc hd mb most, e = .returned (.pointer (some ⟨pc, 0, none⟩)) ∧ Cache0 w' pc hd mb most ∧ most = max 1 (min n 1024) ∧ (w.heap.size ≤ pc ∧ w.heap.size ≤ hd ∧ w.heap.size ≤ mb) ∧ Below w.heap.size w w' := by
  have hmm := @run_makeMap Tryz.prog
  go_enter Tryz.func123, Tryz.ntmps123
  go_wp2
  go_ret
  have hm := MapV.made Tryz.prog 9 (w.alloc (.cells #[.string ⟨#[]⟩, .slice none 0 0, .pointer (some ⟨w.heap.size, 0, none⟩), .pointer (some ⟨w.heap.size, 0, none⟩)] 227))
  rw [World.size_alloc] at hm
  refine ⟨w.heap.size + 1 + 1, w.heap.size, w.heap.size + 1, _, rfl, ⟨⟨0, 0, ?_⟩, hm.alloc _, ?_, by omega, by omega, by omega⟩, rfl, ⟨by omega, by omega, by omega⟩, (((Below.refl _ w).alloc (Nat.le_refl _) _).alloc (by simp) _).alloc (by simp; omega) _⟩
  · simp only [heap_alloc_if, World.size_alloc]
    simp
  · simp only [heap_alloc_if, World.size_alloc]
    simp <;> omega

set_option maxRecDepth 100000 in
set_option maxHeartbeats 2000000 in
theorem get0_any (w : World) (pc hd mb : Nat) (most : Int) (h : Cache0 w pc hd mb most) (key : ByteArray) (hk : key.size ≤ maxLen) :
    Calls Tryz.prog 163 #[.pointer (some ⟨pc, 0, none⟩), .string key] w fun e w' => e = .returned (.tuple #[.agg #[.slice none 0 0], .bool false]) ∧ Cache0 w' pc hd mb most ∧ Chg (fun k => k = pc) w w' := by
  obtain ⟨hh, gg, hblk⟩ := h.blk
  obtain ⟨g1, hg1⟩ : ∃ g1, wrap64 (gg + 1) = g1 := ⟨_, rfl⟩
  have hlt := h.lt
  have hne := h.ne
  have HK := Lib.hid (keyOf_str key hk)
  have hb0 : Below w.heap.size w (w.alloc (.cells #[.slice none 0 0] 178)) := (Below.refl _ w).alloc (Nat.le_refl _) _
  have HH := Lib.hid (h.below hb0)
  have HB : Hid ((w.alloc (.cells #[.slice none 0 0] 178)).heap[pc]? = some (.cells #[.map (some mb), .pointer (some ⟨hd, 0, none⟩), .int .i64 most, .int .i64 hh, .int .i64 gg] 230 (0, 0))) := Lib.hid ((hb0.block _ hlt.1).trans hblk)
  have HR : Hid ((w.alloc (.cells #[.slice none 0 0] 178)).heap[w.heap.size]? = some (.cells #[.slice none 0 0] 178 (0, 0))) := Lib.hid (heap_alloc_new w _)
  have HBB := Lib.hid hb0
  clear h hblk hb0
  go_enter Tryz.func163, Tryz.ntmps163
  go_upto_region 1 with fail
  generalize w.alloc (.cells #[.slice none 0 0] 178) = W0 at HH HB HR HBB ⊢
  have hc4 : W0.cell? ⟨pc, 4, none⟩ = some (.int .i64 gg) := cell_block HB.out rfl
  go_upto_region 2 with (refine wpl_setC rfl 3 (.tmp 15) _ rfl pc 4 rfl (.int .i64 g1) (congrArg (Value.int .i64) hg1) rfl _ _ HB.out _ rfl int_size #[.map (some mb), .pointer (some ⟨hd, 0, none⟩), .int .i64 most, .int .i64 hh, .int .i64 g1] rfl ?_)
  have HX : Hid (Cache0 (W0.setRow pc #[.map (some mb), .pointer (some ⟨hd, 0, none⟩), .int .i64 most, .int .i64 hh, .int .i64 g1]) pc hd mb most ∧ Chg (fun k => k = pc) w (W0.setRow pc #[.map (some mb), .pointer (some ⟨hd, 0, none⟩), .int .i64 most, .int .i64 hh, .int .i64 g1]) ∧ (W0.setRow pc #[.map (some mb), .pointer (some ⟨hd, 0, none⟩), .int .i64 most, .int .i64 hh, .int .i64 g1]).heap[w.heap.size]? = some (.cells #[.slice none 0 0] 178 (0, 0)) ∧ (W0.setRow pc #[.map (some mb), .pointer (some ⟨hd, 0, none⟩), .int .i64 most, .int .i64 hh, .int .i64 g1]).cell? ⟨pc, 0, none⟩ = some (.map (some mb))) := Lib.hid (by
    have hr : (W0.setRow pc #[.map (some mb), .pointer (some ⟨hd, 0, none⟩), .int .i64 most, .int .i64 hh, .int .i64 g1]).heap[pc]? = some (.cells #[.map (some mb), .pointer (some ⟨hd, 0, none⟩), .int .i64 most, .int .i64 hh, .int .i64 g1] 230 (0, 0)) := setRow_heap _ _ _ _ _ _ HB.out
    refine ⟨⟨⟨hh, _, hr⟩, HH.out.map.same (heap_setRow_ne _ _ _ _ (by omega)), (heap_setRow_ne _ _ _ _ (by omega)).trans HH.out.ring, hne⟩, ⟨HBB.out.os, HBB.out.tape, HBB.out.output, by have := HBB.out.size; simpa using this, fun k hk hs => (heap_setRow_ne _ _ _ _ hs).trans (HBB.out.block k hk)⟩, (heap_setRow_ne _ _ _ _ (by omega)).trans HR.out, cell_block hr rfl⟩)
  generalize W0.setRow pc #[.map (some mb), .pointer (some ⟨hd, 0, none⟩), .int .i64 most, .int .i64 hh, .int .i64 g1] = W1 at HX ⊢
  clear HH HB HR HBB hc4
  have hc0 := HX.out.2.2.2
  go_upto_region 3 with (refine wpl_lookokV HX.out.1.map lawStr Tryz.underlying228 (Tryz.zeroValue225 _) rfl (.tmp 20) (.tmp 21) rfl rfl rfl HK.out ?_)
  go_upto_region 5 with fail
  have hb2 : Below W1.heap.size W1 (W1.alloc (.cells #[.slice none 0 0] 178)) := (Below.refl _ W1).alloc (Nat.le_refl _) _
  have HX2 : Hid (Cache0 (W1.alloc (.cells #[.slice none 0 0] 178)) pc hd mb most ∧ Chg (fun k => k = pc) w (W1.alloc (.cells #[.slice none 0 0] 178)) ∧ (W1.alloc (.cells #[.slice none 0 0] 178)).heap[w.heap.size]? = some (.cells #[.slice none 0 0] 178 (0, 0)) ∧ (W1.alloc (.cells #[.slice none 0 0] 178)).heap[W1.heap.size]? = some (.cells #[.slice none 0 0] 178 (0, 0))) := Lib.hid ⟨HX.out.1.below hb2, HX.out.2.1.step (Chg.of_below (S := fun k => k = pc) hb2) fun k hk => .inl hk, (hb2.block _ (Array.getElem?_eq_some_iff.1 HX.out.2.2.1).1).trans HX.out.2.2.1, heap_alloc_new W1 _⟩
  generalize W1.alloc (.cells #[.slice none 0 0] 178) = W2 at HX2 ⊢
  clear HX hb2 hc0
  go_wp2_with (first
    | (refine wpl_load rfl 178 (.tmp 8) rfl W1.heap.size 0 rfl [.slice none 0 0] _ (fun j u hu => by rw [Nat.zero_add]; exact cell_block HX2.out.2.2.2 (by simpa using hu)) Tryz.underlying178 rfl nat_size ?_)
    | (refine wpl_store_row rfl 178 (.tmp 4) (.tmp 27) rfl w.heap.size rfl [.slice none 0 0] rfl _ 178 HX2.out.2.2.1 rfl (by simp [Value.oneCell']) nat_size ?_))
  (try simp only [Exit.inBlock, Exit.then])
  refine bodyPost_ret (results_row_tmp rfl _ _ w.heap.size 178 #[.slice none 0 0] (0, 0) _ rfl (setRow_heap _ _ _ _ _ _ HX2.out.2.2.1) Tryz.underlying178 rfl nat_size _ rfl) rfl ?_
  exact ⟨rfl, HX2.out.1.fr (ok := fun k => k ≠ w.heap.size) ⟨by simp, fun k hk _ => heap_setRow_ne _ _ _ _ hk⟩ (by omega) (by omega) (by omega), ⟨HX2.out.2.1.os, HX2.out.2.1.tape, HX2.out.2.1.output, by have := HX2.out.2.1.size; simpa using this, fun k hk hs => (heap_setRow_ne _ _ _ _ (by omega)).trans (HX2.out.2.1.block k hk hs)⟩⟩

/-- The first one behind the head. -/
def ringA (w : World) (x hd : Nat) (key : ByteArray) (v : Value) : Prop := w.heap[x]? = some (.cells #[.string key, v, .pointer none, .pointer none] 227 (0, 0)) ∧ w.heap[hd]? = some (.cells #[.string ⟨#[]⟩, .slice none 0 0, .pointer (some ⟨hd, 0, none⟩), .pointer (some ⟨hd, 0, none⟩)] 227 (0, 0))
theorem ptrE_size : (Tryz.prog.info? 225).map (·.size) = some 1 := by kernel_rfl
theorem exec_setC {P : Program} {o : Oper} {a : Act} {w : World} (ty : TypeId) (x y : Operand) (ho : o.op = .store ty x y) (b i : Nat) (hx : a.eval x = .pointer (some ⟨b, i, none⟩)) (v : Value) (hy : a.eval y = v) (h1 : v.oneCell' = true) (cs : Array Value) (T : TypeId) (hb : w.heap[b]? = some (.cells cs T (0, 0))) (u : Value) (hi : cs[i]? = some u) (hs : (P.info? ty).map (·.size) = some 1) (cs' : Array Value) (hc : cs.setIfInBounds i v = cs') : (execOp a.eval o).run P w = .ok .skip (w.setRow b cs') := by
  have h2 := run_storeVar_cell (P := P) w ty b i v u h1 hs (cell_block hb hi) (Lib.frozen_of_heap hb i)
  rw [setCell_eq_setRow w b i _ _ _ v hb, hc] at h2
  exact exec_store ty x y ho b i hx v hy h2

set_option maxRecDepth 100000 in
set_option maxHeartbeats 2000000 in
theorem front0_any (w : World) (pc hd x : Nat) (most hh gg : Int) (mv : Value) (key : ByteArray) (v : Value) (hp : w.heap[pc]? = some (.cells #[mv, .pointer (some ⟨hd, 0, none⟩), .int .i64 most, .int .i64 hh, .int .i64 gg] 230 (0, 0))) (hr : ringA w x hd key v) (hne : x ≠ hd ∧ pc ≠ x ∧ pc ≠ hd) :
    Calls Tryz.prog 197 #[.pointer (some ⟨pc, 0, none⟩), .pointer (some ⟨x, 0, none⟩)] w fun e w' => e = .returned (.tuple #[]) ∧ Chg (fun k => k = x ∨ k = hd) w w' := by
  have HP := Lib.hid hp
  have HX := Lib.hid hr.1
  have HD := Lib.hid hr.2
  clear hp hr
  go_enter Tryz.func197, Tryz.ntmps197
  go_upto_region 0 with fail
  refine st_ (S := (fun W' => W'.cell? ⟨pc, 1, none⟩ = some (.pointer (some ⟨hd, 0, none⟩)) ∧ W'.cell? ⟨hd, 3, none⟩ = some (.pointer (some ⟨hd, 0, none⟩)))) 19 (bt 0 19) (by kernel_rfl) rfl (by rfl) ⟨cell_block HP.out rfl, cell_block HD.out rfl⟩ (fun hHeld => ?_)
  refine tk_ 0 (some 4) (bt 1 18) (v := ?_) (a' := ?_) rfl rfl (by kernel_rfl) (fun _ _ _ h => h) (yieldsIf_run rfl ?_) hHeld ?_ ?_
  rotate_left
  · intro w'
    go_simp
    with_reducible rfl
  rotate_left
  · simp only [Act.put, List.setIfInBounds_toArray, List.set_cons_zero, List.set_cons_succ]
    rfl
  refine tk_ 1 (some 5) (bt 2 17) (v := ?_) (a' := ?_) rfl rfl (by kernel_rfl) (fun _ _ _ h => h) (yieldsIf_run rfl ?_) hHeld ?_ ?_
  rotate_left
  · intro w'
    go_simp
    with_reducible rfl
  rotate_left
  · simp only [Act.put, List.setIfInBounds_toArray, List.set_cons_zero, List.set_cons_succ]
    rfl
  refine tk_ 2 (some 6) (bt 3 16) (v := ?_) (a' := ?_) rfl rfl (by kernel_rfl) (fun _ _ _ h => h) (yieldsIf_run rfl ?_) hHeld ?_ ?_
  rotate_left
  · intro w'
    go_simp
    with_reducible rfl
  rotate_left
  · simp only [Act.put, List.setIfInBounds_toArray, List.set_cons_zero, List.set_cons_succ]
    rfl
  refine tk_ 3 (some 7) (bt 4 15) (v := ?_) (a' := ?_) rfl rfl (by kernel_rfl) (fun _ _ _ h => h) (yieldsIf_run rfl ?_) hHeld ?_ ?_
  rotate_left
  · intro w'
    go_simp
    with_reducible rfl
  rotate_left
  · simp only [Act.put, List.setIfInBounds_toArray, List.set_cons_zero, List.set_cons_succ]
    rfl
  refine tk_ 4 (some 8) (bt 5 14) (v := ?_) (a' := ?_) rfl rfl (by kernel_rfl) (fun _ _ _ h => h) (yieldsIf_run rfl ?_) hHeld ?_ ?_
  rotate_left
  · intro w'
    go_simp
    with_reducible rfl
  rotate_left
  · simp only [Act.put, List.setIfInBounds_toArray, List.set_cons_zero, List.set_cons_succ]
    rfl
  refine tk_ 5 (some 9) (bt 6 13) rfl rfl (by kernel_rfl) (fun _ _ _ h => h) (yieldsIf_cell rfl 225 (.tmp 8) rfl ⟨pc, 1, none⟩ rfl (.pointer (some ⟨hd, 0, none⟩)) _ (fun W' h => h.1) Tryz.underlying225 rfl) hHeld (a' := ?_) ?_ ?_
  rotate_left
  · simp only [Act.put, List.setIfInBounds_toArray, List.set_cons_zero, List.set_cons_succ]
    rfl
  refine tk_ 6 (some 10) (bt 7 12) (v := ?_) (a' := ?_) rfl rfl (by kernel_rfl) (fun _ _ _ h => h) (yieldsIf_run rfl ?_) hHeld ?_ ?_
  rotate_left
  · intro w'
    go_simp
    with_reducible rfl
  rotate_left
  · simp only [Act.put, List.setIfInBounds_toArray, List.set_cons_zero, List.set_cons_succ]
    rfl
  refine tk_ 7 (some 11) (bt 8 11) (v := ?_) (a' := ?_) rfl rfl (by kernel_rfl) (fun _ _ _ h => h) (yieldsIf_run rfl ?_) hHeld ?_ ?_
  rotate_left
  · intro w'
    go_simp
    with_reducible rfl
  rotate_left
  · simp only [Act.put, List.setIfInBounds_toArray, List.set_cons_zero, List.set_cons_succ]
    rfl
  refine tk_ 8 (some 12) (bt 9 10) (v := ?_) (a' := ?_) rfl rfl (by kernel_rfl) (fun _ _ _ h => h) (yieldsIf_run rfl ?_) hHeld ?_ ?_
  rotate_left
  · intro w'
    go_simp
    with_reducible rfl
  rotate_left
  · simp only [Act.put, List.setIfInBounds_toArray, List.set_cons_zero, List.set_cons_succ]
    rfl
  refine tk_ 9 (some 13) (bt 10 9) rfl rfl (by kernel_rfl) (fun _ _ _ h => h) (yieldsIf_cell rfl 225 (.tmp 12) rfl ⟨pc, 1, none⟩ rfl (.pointer (some ⟨hd, 0, none⟩)) _ (fun W' h => h.1) Tryz.underlying225 rfl) hHeld (a' := ?_) ?_ ?_
  rotate_left
  · simp only [Act.put, List.setIfInBounds_toArray, List.set_cons_zero, List.set_cons_succ]
    rfl
  refine tk_ 10 (some 14) (bt 11 8) (v := ?_) (a' := ?_) rfl rfl (by kernel_rfl) (fun _ _ _ h => h) (yieldsIf_run rfl ?_) hHeld ?_ ?_
  rotate_left
  · intro w'
    go_simp
    with_reducible rfl
  rotate_left
  · simp only [Act.put, List.setIfInBounds_toArray, List.set_cons_zero, List.set_cons_succ]
    rfl
  refine tk_ 11 (some 15) (bt 12 7) (v := ?_) (a' := ?_) rfl rfl (by kernel_rfl) (fun _ _ _ h => h) (yieldsIf_run rfl ?_) hHeld ?_ ?_
  rotate_left
  · intro w'
    go_simp
    with_reducible rfl
  rotate_left
  · simp only [Act.put, List.setIfInBounds_toArray, List.set_cons_zero, List.set_cons_succ]
    rfl
  refine tk_ 12 (some 16) (bt 13 6) rfl rfl (by kernel_rfl) (fun _ _ _ h => h) (yieldsIf_cell rfl 225 (.tmp 15) rfl ⟨hd, 3, none⟩ rfl (.pointer (some ⟨hd, 0, none⟩)) _ (fun W' h => h.2) Tryz.underlying225 rfl) hHeld (a' := ?_) ?_ ?_
  rotate_left
  · simp only [Act.put, List.setIfInBounds_toArray, List.set_cons_zero, List.set_cons_succ]
    rfl
  refine tk_ 13 (some 17) (bt 14 5) (v := ?_) (a' := ?_) rfl rfl (by kernel_rfl) (fun _ _ _ h => h) (yieldsIf_run rfl ?_) hHeld ?_ ?_
  rotate_left
  · intro w'
    go_simp
    with_reducible rfl
  rotate_left
  · simp only [Act.put, List.setIfInBounds_toArray, List.set_cons_zero, List.set_cons_succ]
    rfl
  refine tk_ 14 (some 18) (bt 15 4) (v := ?_) (a' := ?_) rfl rfl (by kernel_rfl) (fun _ _ _ h => h) (yieldsIf_run rfl ?_) hHeld ?_ ?_
  rotate_left
  · intro w'
    go_simp
    with_reducible rfl
  rotate_left
  · simp only [Act.put, List.setIfInBounds_toArray, List.set_cons_zero, List.set_cons_succ]
    rfl
  have HX1 : Hid ((w.drew.setRow x #[.string key, v, .pointer (some ⟨hd, 0, none⟩), .pointer none]).heap[x]? = some (.cells #[.string key, v, .pointer (some ⟨hd, 0, none⟩), .pointer none] 227 (0, 0))) := Lib.hid (setRow_heap _ _ _ _ _ _ HX.out)
  have hHeld := (show (w.drew.setRow x #[.string key, v, .pointer (some ⟨hd, 0, none⟩), .pointer none]).cell? ⟨pc, 1, none⟩ = some (.pointer (some ⟨hd, 0, none⟩)) ∧ (w.drew.setRow x #[.string key, v, .pointer (some ⟨hd, 0, none⟩), .pointer none]).cell? ⟨hd, 3, none⟩ = some (.pointer (some ⟨hd, 0, none⟩)) from ⟨(cell_eq (heap_setRow_ne _ _ _ _ hne.2.1) 1).trans hHeld.1, (cell_eq (heap_setRow_ne _ _ _ _ (Ne.symm hne.1)) 3).trans hHeld.2⟩)
  refine sk_ 15 (bt 16 3) rfl rfl (by kernel_rfl) rfl ((w.drew.setRow x #[.string key, v, .pointer (some ⟨hd, 0, none⟩), .pointer none])) (exec_setC (w := w.drew) 225 (.tmp 18) (.tmp 9) rfl x 2 rfl (.pointer (some ⟨hd, 0, none⟩)) rfl rfl #[.string key, v, .pointer none, .pointer none] _ HX.out _ rfl ptrE_size _ rfl) hHeld ?_
  refine tk_ 16 (some 19) (bt 17 2) (v := ?_) (a' := ?_) rfl rfl (by kernel_rfl) (fun _ _ _ h => h) (yieldsIf_run rfl ?_) hHeld ?_ ?_
  rotate_left
  · intro w'
    go_simp
    with_reducible rfl
  rotate_left
  · simp only [Act.put, List.setIfInBounds_toArray, List.set_cons_zero, List.set_cons_succ]
    rfl
  refine tk_ 17 (some 20) (bt 18 1) (v := ?_) (a' := ?_) rfl rfl (by kernel_rfl) (fun _ _ _ h => h) (yieldsIf_run rfl ?_) hHeld ?_ ?_
  rotate_left
  · intro w'
    go_simp
    with_reducible rfl
  rotate_left
  · simp only [Act.put, List.setIfInBounds_toArray, List.set_cons_zero, List.set_cons_succ]
    rfl
  have hHeld := (show ((w.drew.setRow x #[.string key, v, .pointer (some ⟨hd, 0, none⟩), .pointer none]).setRow x #[.string key, v, .pointer (some ⟨hd, 0, none⟩), .pointer (some ⟨hd, 0, none⟩)]).cell? ⟨pc, 1, none⟩ = some (.pointer (some ⟨hd, 0, none⟩)) ∧ ((w.drew.setRow x #[.string key, v, .pointer (some ⟨hd, 0, none⟩), .pointer none]).setRow x #[.string key, v, .pointer (some ⟨hd, 0, none⟩), .pointer (some ⟨hd, 0, none⟩)]).cell? ⟨hd, 3, none⟩ = some (.pointer (some ⟨hd, 0, none⟩)) from ⟨(cell_eq (heap_setRow_ne _ _ _ _ hne.2.1) 1).trans hHeld.1, (cell_eq (heap_setRow_ne _ _ _ _ (Ne.symm hne.1)) 3).trans hHeld.2⟩)
  refine sk_ 18 (bt 19 0) rfl rfl (by kernel_rfl) rfl (((w.drew.setRow x #[.string key, v, .pointer (some ⟨hd, 0, none⟩), .pointer none]).setRow x #[.string key, v, .pointer (some ⟨hd, 0, none⟩), .pointer (some ⟨hd, 0, none⟩)])) (exec_setC 225 (.tmp 20) (.tmp 16) rfl x 3 rfl (.pointer (some ⟨hd, 0, none⟩)) rfl rfl #[.string key, v, .pointer (some ⟨hd, 0, none⟩), .pointer none] _ HX1.out _ rfl ptrE_size _ rfl) hHeld ?_
  refine wpAnyH_done (by kernel_rfl) ?_ _
  change Exit.then _ _ _ _ _
  have HY : Hid (((w.drew.setRow x #[.string key, v, .pointer (some ⟨hd, 0, none⟩), .pointer none]).setRow x #[.string key, v, .pointer (some ⟨hd, 0, none⟩), .pointer (some ⟨hd, 0, none⟩)]).heap[x]? = some (.cells #[.string key, v, .pointer (some ⟨hd, 0, none⟩), .pointer (some ⟨hd, 0, none⟩)] 227 (0, 0)) ∧ ((w.drew.setRow x #[.string key, v, .pointer (some ⟨hd, 0, none⟩), .pointer none]).setRow x #[.string key, v, .pointer (some ⟨hd, 0, none⟩), .pointer (some ⟨hd, 0, none⟩)]).heap[hd]? = some (.cells #[.string ⟨#[]⟩, .slice none 0 0, .pointer (some ⟨hd, 0, none⟩), .pointer (some ⟨hd, 0, none⟩)] 227 (0, 0)) ∧ Chg (fun k => k = x ∨ k = hd) w ((w.drew.setRow x #[.string key, v, .pointer (some ⟨hd, 0, none⟩), .pointer none]).setRow x #[.string key, v, .pointer (some ⟨hd, 0, none⟩), .pointer (some ⟨hd, 0, none⟩)])) := Lib.hid ⟨setRow_heap _ _ _ _ _ _ HX1.out, (heap_setRow_ne _ _ _ _ (Ne.symm hne.1)).trans ((heap_setRow_ne _ _ _ _ (Ne.symm hne.1)).trans HD.out), ⟨rfl, rfl, rfl, by simp, fun k _ hs => (heap_setRow_ne _ _ _ _ fun e => hs (.inl e)).trans (heap_setRow_ne _ _ _ _ fun e => hs (.inl e))⟩⟩
  generalize (w.drew.setRow x #[.string key, v, .pointer (some ⟨hd, 0, none⟩), .pointer none]).setRow x #[.string key, v, .pointer (some ⟨hd, 0, none⟩), .pointer (some ⟨hd, 0, none⟩)] = W1 at HY ⊢
  go_upto_region 1 with fail
  refine st_ (S := (fun W' => W'.cell? ⟨x, 2, none⟩ = some (.pointer (some ⟨hd, 0, none⟩)) ∧ W'.cell? ⟨x, 3, none⟩ = some (.pointer (some ⟨hd, 0, none⟩)))) 16 (bt 0 16) (by kernel_rfl) rfl (by rfl) ⟨cell_block HY.out.1 rfl, cell_block HY.out.1 rfl⟩ (fun hHeld => ?_)
  refine tk_ 0 (some 21) (bt 1 15) (v := ?_) (a' := ?_) rfl rfl (by kernel_rfl) (fun _ _ _ h => h) (yieldsIf_run rfl ?_) hHeld ?_ ?_
  rotate_left
  · intro w'
    go_simp
    with_reducible rfl
  rotate_left
  · simp only [Act.put, List.setIfInBounds_toArray, List.set_cons_zero, List.set_cons_succ]
    rfl
  refine tk_ 1 (some 22) (bt 2 14) (v := ?_) (a' := ?_) rfl rfl (by kernel_rfl) (fun _ _ _ h => h) (yieldsIf_run rfl ?_) hHeld ?_ ?_
  rotate_left
  · intro w'
    go_simp
    with_reducible rfl
  rotate_left
  · simp only [Act.put, List.setIfInBounds_toArray, List.set_cons_zero, List.set_cons_succ]
    rfl
  refine tk_ 2 (some 23) (bt 3 13) (v := ?_) (a' := ?_) rfl rfl (by kernel_rfl) (fun _ _ _ h => h) (yieldsIf_run rfl ?_) hHeld ?_ ?_
  rotate_left
  · intro w'
    go_simp
    with_reducible rfl
  rotate_left
  · simp only [Act.put, List.setIfInBounds_toArray, List.set_cons_zero, List.set_cons_succ]
    rfl
  refine tk_ 3 (some 24) (bt 4 12) rfl rfl (by kernel_rfl) (fun _ _ _ h => h) (yieldsIf_cell rfl 225 (.tmp 23) rfl ⟨x, 2, none⟩ rfl (.pointer (some ⟨hd, 0, none⟩)) _ (fun W' h => h.1) Tryz.underlying225 rfl) hHeld (a' := ?_) ?_ ?_
  rotate_left
  · simp only [Act.put, List.setIfInBounds_toArray, List.set_cons_zero, List.set_cons_succ]
    rfl
  refine tk_ 4 (some 25) (bt 5 11) (v := ?_) (a' := ?_) rfl rfl (by kernel_rfl) (fun _ _ _ h => h) (yieldsIf_run rfl ?_) hHeld ?_ ?_
  rotate_left
  · intro w'
    go_simp
    with_reducible rfl
  rotate_left
  · simp only [Act.put, List.setIfInBounds_toArray, List.set_cons_zero, List.set_cons_succ]
    rfl
  refine tk_ 5 (some 26) (bt 6 10) (v := ?_) (a' := ?_) rfl rfl (by kernel_rfl) (fun _ _ _ h => h) (yieldsIf_run rfl ?_) hHeld ?_ ?_
  rotate_left
  · intro w'
    go_simp
    with_reducible rfl
  rotate_left
  · simp only [Act.put, List.setIfInBounds_toArray, List.set_cons_zero, List.set_cons_succ]
    rfl
  refine tk_ 6 (some 27) (bt 7 9) (v := ?_) (a' := ?_) rfl rfl (by kernel_rfl) (fun _ _ _ h => h) (yieldsIf_run rfl ?_) hHeld ?_ ?_
  rotate_left
  · intro w'
    go_simp
    with_reducible rfl
  rotate_left
  · simp only [Act.put, List.setIfInBounds_toArray, List.set_cons_zero, List.set_cons_succ]
    rfl
  refine tk_ 7 (some 28) (bt 8 8) rfl rfl (by kernel_rfl) (fun _ _ _ h => h) (yieldsIf_cell rfl 225 (.tmp 27) rfl ⟨x, 3, none⟩ rfl (.pointer (some ⟨hd, 0, none⟩)) _ (fun W' h => h.2) Tryz.underlying225 rfl) hHeld (a' := ?_) ?_ ?_
  rotate_left
  · simp only [Act.put, List.setIfInBounds_toArray, List.set_cons_zero, List.set_cons_succ]
    rfl
  refine tk_ 8 (some 29) (bt 9 7) (v := ?_) (a' := ?_) rfl rfl (by kernel_rfl) (fun _ _ _ h => h) (yieldsIf_run rfl ?_) hHeld ?_ ?_
  rotate_left
  · intro w'
    go_simp
    with_reducible rfl
  rotate_left
  · simp only [Act.put, List.setIfInBounds_toArray, List.set_cons_zero, List.set_cons_succ]
    rfl
  refine tk_ 9 (some 30) (bt 10 6) (v := ?_) (a' := ?_) rfl rfl (by kernel_rfl) (fun _ _ _ h => h) (yieldsIf_run rfl ?_) hHeld ?_ ?_
  rotate_left
  · intro w'
    go_simp
    with_reducible rfl
  rotate_left
  · simp only [Act.put, List.setIfInBounds_toArray, List.set_cons_zero, List.set_cons_succ]
    rfl
  refine tk_ 10 (some 31) (bt 11 5) (v := ?_) (a' := ?_) rfl rfl (by kernel_rfl) (fun _ _ _ h => h) (yieldsIf_run rfl ?_) hHeld ?_ ?_
  rotate_left
  · intro w'
    go_simp
    with_reducible rfl
  rotate_left
  · simp only [Act.put, List.setIfInBounds_toArray, List.set_cons_zero, List.set_cons_succ]
    rfl
  refine tk_ 11 (some 32) (bt 12 4) (v := ?_) (a' := ?_) rfl rfl (by kernel_rfl) (fun _ _ _ h => h) (yieldsIf_run rfl ?_) hHeld ?_ ?_
  rotate_left
  · intro w'
    go_simp
    with_reducible rfl
  rotate_left
  · simp only [Act.put, List.setIfInBounds_toArray, List.set_cons_zero, List.set_cons_succ]
    rfl
  have HD1 : Hid ((W1.drew.setRow hd #[.string ⟨#[]⟩, .slice none 0 0, .pointer (some ⟨hd, 0, none⟩), .pointer (some ⟨x, 0, none⟩)]).heap[hd]? = some (.cells #[.string ⟨#[]⟩, .slice none 0 0, .pointer (some ⟨hd, 0, none⟩), .pointer (some ⟨x, 0, none⟩)] 227 (0, 0))) := Lib.hid (setRow_heap _ _ _ _ _ _ HY.out.2.1)
  have hHeld := (show (W1.drew.setRow hd #[.string ⟨#[]⟩, .slice none 0 0, .pointer (some ⟨hd, 0, none⟩), .pointer (some ⟨x, 0, none⟩)]).cell? ⟨x, 2, none⟩ = some (.pointer (some ⟨hd, 0, none⟩)) ∧ (W1.drew.setRow hd #[.string ⟨#[]⟩, .slice none 0 0, .pointer (some ⟨hd, 0, none⟩), .pointer (some ⟨x, 0, none⟩)]).cell? ⟨x, 3, none⟩ = some (.pointer (some ⟨hd, 0, none⟩)) from ⟨(cell_eq (heap_setRow_ne _ _ _ _ hne.1) 2).trans hHeld.1, (cell_eq (heap_setRow_ne _ _ _ _ hne.1) 3).trans hHeld.2⟩)
  refine sk_ 12 (bt 13 3) rfl rfl (by kernel_rfl) rfl ((W1.drew.setRow hd #[.string ⟨#[]⟩, .slice none 0 0, .pointer (some ⟨hd, 0, none⟩), .pointer (some ⟨x, 0, none⟩)])) (exec_setC (w := W1.drew) 225 (.tmp 32) (.tmp 29) rfl hd 3 rfl (.pointer (some ⟨x, 0, none⟩)) rfl rfl #[.string ⟨#[]⟩, .slice none 0 0, .pointer (some ⟨hd, 0, none⟩), .pointer (some ⟨hd, 0, none⟩)] _ HY.out.2.1 _ rfl ptrE_size _ rfl) hHeld ?_
  refine tk_ 13 (some 33) (bt 14 2) (v := ?_) (a' := ?_) rfl rfl (by kernel_rfl) (fun _ _ _ h => h) (yieldsIf_run rfl ?_) hHeld ?_ ?_
  rotate_left
  · intro w'
    go_simp
    with_reducible rfl
  rotate_left
  · simp only [Act.put, List.setIfInBounds_toArray, List.set_cons_zero, List.set_cons_succ]
    rfl
  refine tk_ 14 (some 34) (bt 15 1) (v := ?_) (a' := ?_) rfl rfl (by kernel_rfl) (fun _ _ _ h => h) (yieldsIf_run rfl ?_) hHeld ?_ ?_
  rotate_left
  · intro w'
    go_simp
    with_reducible rfl
  rotate_left
  · simp only [Act.put, List.setIfInBounds_toArray, List.set_cons_zero, List.set_cons_succ]
    rfl
  have hHeld := (show ((W1.drew.setRow hd #[.string ⟨#[]⟩, .slice none 0 0, .pointer (some ⟨hd, 0, none⟩), .pointer (some ⟨x, 0, none⟩)]).setRow hd #[.string ⟨#[]⟩, .slice none 0 0, .pointer (some ⟨x, 0, none⟩), .pointer (some ⟨x, 0, none⟩)]).cell? ⟨x, 2, none⟩ = some (.pointer (some ⟨hd, 0, none⟩)) ∧ ((W1.drew.setRow hd #[.string ⟨#[]⟩, .slice none 0 0, .pointer (some ⟨hd, 0, none⟩), .pointer (some ⟨x, 0, none⟩)]).setRow hd #[.string ⟨#[]⟩, .slice none 0 0, .pointer (some ⟨x, 0, none⟩), .pointer (some ⟨x, 0, none⟩)]).cell? ⟨x, 3, none⟩ = some (.pointer (some ⟨hd, 0, none⟩)) from ⟨(cell_eq (heap_setRow_ne _ _ _ _ hne.1) 2).trans hHeld.1, (cell_eq (heap_setRow_ne _ _ _ _ hne.1) 3).trans hHeld.2⟩)
  refine sk_ 15 (bt 16 0) rfl rfl (by kernel_rfl) rfl (((W1.drew.setRow hd #[.string ⟨#[]⟩, .slice none 0 0, .pointer (some ⟨hd, 0, none⟩), .pointer (some ⟨x, 0, none⟩)]).setRow hd #[.string ⟨#[]⟩, .slice none 0 0, .pointer (some ⟨x, 0, none⟩), .pointer (some ⟨x, 0, none⟩)])) (exec_setC 225 (.tmp 34) (.tmp 30) rfl hd 2 rfl (.pointer (some ⟨x, 0, none⟩)) rfl rfl #[.string ⟨#[]⟩, .slice none 0 0, .pointer (some ⟨hd, 0, none⟩), .pointer (some ⟨x, 0, none⟩)] _ HD1.out _ rfl ptrE_size _ rfl) hHeld ?_
  refine wpAnyH_done (by kernel_rfl) ?_ _
  (try simp only [Exit.inBlock, Exit.then])
  go_end0
  have hc := HY.out.2.2
  exact ⟨rfl, ⟨hc.os, hc.tape, hc.output, by have := hc.size; simpa using this, fun k hk hs => (heap_setRow_ne _ _ _ _ fun e => hs (.inr e)).trans ((heap_setRow_ne _ _ _ _ fun e => hs (.inr e)).trans (hc.block k hk hs))⟩⟩

set_option maxRecDepth 100000 in
set_option maxHeartbeats 2000000 in
theorem put0_any (w : World) (pc hd mb : Nat) (most : Int) (h : Cache0 w pc hd mb most) (hm : 1 ≤ most) (key : ByteArray) (hk : key.size ≤ maxLen) (v : Value) (h1 : v.oneCell' = true) :
    Calls Tryz.prog 167 #[.pointer (some ⟨pc, 0, none⟩), .string key, .agg #[v]] w fun e w' => e = .returned (.tuple #[]) ∧ Chg (fun k => k = pc ∨ k = hd ∨ k = mb) w w' := by
  obtain ⟨hh, gg, hblk⟩ := h.blk
  have hlt := h.lt
  have hne := h.ne
  have HK := Lib.hid (keyOf_str key hk)
  have hb0 : Below w.heap.size w (w.alloc (.cells #[v] 178)) := (Below.refl _ w).alloc (Nat.le_refl _) _
  have HH := Lib.hid (h.below hb0)
  have HB : Hid ((w.alloc (.cells #[v] 178)).heap[pc]? = some (.cells #[.map (some mb), .pointer (some ⟨hd, 0, none⟩), .int .i64 most, .int .i64 hh, .int .i64 gg] 230 (0, 0))) := Lib.hid ((hb0.block _ hlt.1).trans hblk)
  have HR : Hid ((w.alloc (.cells #[v] 178)).heap[w.heap.size]? = some (.cells #[v] 178 (0, 0))) := Lib.hid (heap_alloc_new w _)
  have HBB := Lib.hid hb0
  have HSZ : Hid ((w.alloc (.cells #[v] 178)).heap.size = w.heap.size + 1) := Lib.hid (by simp)
  have HO : Hid (∀ u ∈ [v], u.oneCell' = true) := Lib.hid fun u hu => by rw [List.mem_singleton.1 hu]; exact h1
  clear h hblk hb0
  go_enter Tryz.func167, Tryz.ntmps167
  go_upto_region 1 with fail
  generalize w.alloc (.cells #[v] 178) = W0 at HH HB HR HBB HSZ ⊢
  have hc0 : W0.cell? ⟨pc, 0, none⟩ = some (.map (some mb)) := cell_block HB.out rfl
  go_upto_region 2 with (refine wpl_lookokV HH.out.map lawStr Tryz.underlying228 (Tryz.zeroValue225 _) rfl (.tmp 14) (.tmp 15) rfl rfl rfl HK.out ?_)
  go_upto_region 5 with (refine wpl_load rfl 178 (.tmp 5) rfl w.heap.size 0 rfl [v] _ (fun j u hu => by rw [Nat.zero_add]; exact cell_block HR.out (by simpa using hu)) Tryz.underlying178 rfl nat_size ?_)
  have hb2 : Below W0.heap.size W0 (W0.alloc (.cells #[.string key, v, .pointer none, .pointer none] 227)) := (Below.refl _ W0).alloc (Nat.le_refl _) _
  have HX : Hid (Cache0 (W0.alloc (.cells #[.string key, v, .pointer none, .pointer none] 227)) pc hd mb most ∧ (W0.alloc (.cells #[.string key, v, .pointer none, .pointer none] 227)).heap[pc]? = some (.cells #[.map (some mb), .pointer (some ⟨hd, 0, none⟩), .int .i64 most, .int .i64 hh, .int .i64 gg] 230 (0, 0)) ∧ (W0.alloc (.cells #[.string key, v, .pointer none, .pointer none] 227)).heap[W0.heap.size]? = some (.cells #[.string key, v, .pointer none, .pointer none] 227 (0, 0)) ∧ Below w.heap.size w (W0.alloc (.cells #[.string key, v, .pointer none, .pointer none] 227))) := Lib.hid ⟨HH.out.below hb2, (hb2.block _ (Array.getElem?_eq_some_iff.1 HB.out).1).trans HB.out, heap_alloc_new W0 _, HBB.out.trans (hb2.mono HBB.out.size)⟩
  have hx0 : w.heap.size < W0.heap.size := by have := HSZ.out; omega
  clear hb2 HH HB HR HBB HSZ hc0
  generalize W0.alloc (.cells #[.string key, v, .pointer none, .pointer none] 227) = W1 at HX ⊢
  generalize W0.heap.size = x at HX hx0 ⊢
  have hc1 : W1.cell? ⟨pc, 0, none⟩ = some (.map (some mb)) := cell_block HX.out.2.1 rfl
  go_upto_region 6 with (refine wpl_updV (key := .string key) (v := .pointer (some ⟨x, 0, none⟩)) HX.out.1.map lawStr Tryz.underlying228 (by decide) rfl (.tmp 29) (.tmp 30) (.tmp 31) rfl rfl rfl HK.out rfl ?_; intro w2 hm2 hg2 hz2)
  have HM2 := Lib.hid hm2
  have HP2 : Hid (w2.heap[pc]? = some (.cells #[.map (some mb), .pointer (some ⟨hd, 0, none⟩), .int .i64 most, .int .i64 hh, .int .i64 gg] 230 (0, 0)) ∧ ringA w2 x hd key v ∧ Chg (fun k => k = pc ∨ k = hd ∨ k = mb) w w2) := Lib.hid (by
    have hl := fun (k : Nat) (o : Obj) (h : W1.heap[k]? = some o) => (Array.getElem?_eq_some_iff.1 h).1
    have hxm : x ≠ mb := by omega
    refine ⟨(hg2.block _ (hl _ _ HX.out.2.1) (by intro e; cases e; exact hne.2.1 rfl)).trans HX.out.2.1, ⟨(hg2.block _ (hl _ _ HX.out.2.2.1) (by intro e; cases e; exact hxm rfl)).trans HX.out.2.2.1, (hg2.block _ (hl _ _ HX.out.1.ring) (by intro e; cases e; exact hne.2.2 rfl)).trans HX.out.1.ring⟩, ?_⟩
    exact (Chg.of_below (S := fun k => k = pc ∨ k = hd ∨ k = mb) HX.out.2.2.2).step (Chg.grown (S := fun k => k = mb) hg2 rfl) fun k hk => .inl (.inr (.inr hk)))
  clear hm2 hg2 hz2 HX hc1
  have HFR := Lib.hid (front0_any w2 pc hd x most hh gg (.map (some mb)) key v HP2.out.1 HP2.out.2.1 ⟨by omega, by omega, hne.1⟩)
  go_upto_region 7 with (go_at_call 197; refine HFR.out.mono ?_; rintro e w3 ⟨rfl, hc3⟩; have HC3 := Lib.hid hc3; clear hc3)
  have hpl := (Array.getElem?_eq_some_iff.1 HP2.out.1).1
  have HF3 : Hid (w3.heap[pc]? = some (.cells #[.map (some mb), .pointer (some ⟨hd, 0, none⟩), .int .i64 most, .int .i64 hh, .int .i64 gg] 230 (0, 0)) ∧ MapV Tryz.prog 9 w3 mb 1 (updF (fun _ => none) (strK key) (.pointer (some ⟨x, 0, none⟩))) ∧ Chg (fun k => k = pc ∨ k = hd ∨ k = mb) w w3) := Lib.hid ⟨(HC3.out.block _ hpl (by omega)).trans HP2.out.1, HM2.out.same (HC3.out.block _ HM2.out.lt (by omega)), HP2.out.2.2.step HC3.out fun k hk => by rcases hk with rfl | rfl; exact .inr (by omega); exact .inl (.inr (.inl rfl))⟩
  clear HM2 HP2 HFR HC3
  refine st_ (S := (fun W' => W'.heap = w3.heap)) 10 (bt 0 10) (by kernel_rfl) rfl (by rfl) rfl (fun hHeld => ?_)
  refine tk_ 0 (some 35) (bt 1 9) (v := ?_) (a' := ?_) rfl rfl (by kernel_rfl) (fun _ _ _ h => h) (yieldsIf_run rfl ?_) hHeld ?_ ?_
  rotate_left
  · intro w'
    go_simp
    with_reducible rfl
  rotate_left
  · simp only [Act.put, List.setIfInBounds_toArray, List.set_cons_zero, List.set_cons_succ]
    rfl
  refine tk_ 1 (some 36) (bt 2 8) (v := ?_) (a' := ?_) rfl rfl (by kernel_rfl) (fun _ _ _ h => h) (yieldsIf_run rfl ?_) hHeld ?_ ?_
  rotate_left
  · intro w'
    go_simp
    with_reducible rfl
  rotate_left
  · simp only [Act.put, List.setIfInBounds_toArray, List.set_cons_zero, List.set_cons_succ]
    rfl
  refine tk_ 2 (some 37) (bt 3 7) (v := ?_) (a' := ?_) rfl rfl (by kernel_rfl) (fun _ _ _ h => h) (yieldsIf_run rfl ?_) hHeld ?_ ?_
  rotate_left
  · intro w'
    go_simp
    with_reducible rfl
  rotate_left
  · simp only [Act.put, List.setIfInBounds_toArray, List.set_cons_zero, List.set_cons_succ]
    rfl
  refine tk_ 3 (some 38) (bt 4 6) rfl rfl (by kernel_rfl) (fun _ _ _ h => h) (yieldsIf_cell rfl 228 (.tmp 37) rfl ⟨pc, 0, none⟩ rfl (.map (some mb)) _ (fun W' h => (cell_eq (by rw [h]) 0).trans (cell_block HF3.out.1 rfl)) Tryz.underlying228 rfl) hHeld (a' := ?_) ?_ ?_
  rotate_left
  · simp only [Act.put, List.setIfInBounds_toArray, List.set_cons_zero, List.set_cons_succ]
    rfl
  refine tk_ 4 (some 39) (bt 5 5) rfl rfl (by kernel_rfl) (fun _ _ _ h => h) (yieldsIf_of (v := .int .i64 1) rfl fun W' h => by have hl := fun ty => (HF3.out.2.1.same (show W'.heap[mb]? = w3.heap[mb]? by rw [h])).len Tryz.underlying228 ty; go_simp) hHeld (a' := ?_) ?_ ?_
  rotate_left
  · simp only [Act.put, List.setIfInBounds_toArray, List.set_cons_zero, List.set_cons_succ]
    rfl
  refine tk_ 5 (some 40) (bt 6 4) (v := ?_) (a' := ?_) rfl rfl (by kernel_rfl) (fun _ _ _ h => h) (yieldsIf_run rfl ?_) hHeld ?_ ?_
  rotate_left
  · intro w'
    go_simp
    with_reducible rfl
  rotate_left
  · simp only [Act.put, List.setIfInBounds_toArray, List.set_cons_zero, List.set_cons_succ]
    rfl
  refine tk_ 6 (some 41) (bt 7 3) (v := ?_) (a' := ?_) rfl rfl (by kernel_rfl) (fun _ _ _ h => h) (yieldsIf_run rfl ?_) hHeld ?_ ?_
  rotate_left
  · intro w'
    go_simp
    with_reducible rfl
  rotate_left
  · simp only [Act.put, List.setIfInBounds_toArray, List.set_cons_zero, List.set_cons_succ]
    rfl
  refine tk_ 7 (some 42) (bt 8 2) (v := ?_) (a' := ?_) rfl rfl (by kernel_rfl) (fun _ _ _ h => h) (yieldsIf_run rfl ?_) hHeld ?_ ?_
  rotate_left
  · intro w'
    go_simp
    with_reducible rfl
  rotate_left
  · simp only [Act.put, List.setIfInBounds_toArray, List.set_cons_zero, List.set_cons_succ]
    rfl
  refine tk_ 8 (some 43) (bt 9 1) rfl rfl (by kernel_rfl) (fun _ _ _ h => h) (yieldsIf_cell rfl 3 (.tmp 42) rfl ⟨pc, 2, none⟩ rfl (.int .i64 most) _ (fun W' h => (cell_eq (by rw [h]) 2).trans (cell_block HF3.out.1 rfl)) Tryz.underlying3 rfl) hHeld (a' := ?_) ?_ ?_
  rotate_left
  · simp only [Act.put, List.setIfInBounds_toArray, List.set_cons_zero, List.set_cons_succ]
    rfl
  refine tk_ 9 (some 44) (bt 10 0) rfl rfl (by kernel_rfl) (fun _ _ _ h => h) (yieldsIf_run (v := .bool false) rfl fun W' => by go_simp) hHeld (a' := ?_) ?_ ?_
  rotate_left
  · simp only [Act.put, List.setIfInBounds_toArray, List.set_cons_zero, List.set_cons_succ]
    rfl
  refine wpAnyH_done (by kernel_rfl) ?_ _
  change Exit.then _ _ _ _ _
  go_wp2
  go_end0
  exact ⟨rfl, ⟨HF3.out.2.2.os, HF3.out.2.2.tape, HF3.out.2.2.output, HF3.out.2.2.size, HF3.out.2.2.block⟩⟩
end Go.Proofs.YtcohdfkdhdhegaaGreatDoor
namespace Go.Proofs.YtcohdfkdhdhegaaGreatDoor
open Go Go.RowKit Go.Maps Go.Shelf
attribute [local go_sem] Oper.semAt_some

set_option maxRecDepth 100000 in
set_option maxHeartbeats 2000000 in
theorem backward_any (w : World) (b c : Nat) :
    Calls Tryz.prog 164 #[.slice (some ⟨b, 0, none⟩) 1 c] w fun e w' => e = .returned (.func (.func 198) #[] #[.pointer (some ⟨w.heap.size, 0, none⟩)]) ∧
      w' = w.alloc (.cells #[.slice (some ⟨b, 0, none⟩) 1 c] 104) := by
  go_enter Tryz.func164, Tryz.ntmps164
  go_wp2
  go_ret
  exact ⟨rfl, rfl⟩

set_option maxRecDepth 100000 in
set_option maxHeartbeats 2000000 in
theorem back1_stops (n : Nat) (sb b c : Nat) (tv : Value) (_h1 : tv.oneCell' = true) (tB : Nat) (w : World) (hs : w.heap[sb]? = some (.cells #[.slice (some ⟨b, 0, none⟩) 1 c] 104 (0, 0))) (hc : w.cell? ⟨b, 0, none⟩ = some tv) :
    SeqVar Fence.wide n Tryz.prog 198 #[.pointer (some ⟨sb, 0, none⟩)] (fun _ : Unit => #[.int .i64 0, tipV tv]) (fun pre _ V => pre = [] ∧ w.heap.size + 2 ≤ V.heap.size) (fun _ _ => True) (fun xs => xs = [()]) (fun _ => True) tB w := by
  intro l J Jx W hb hsz hJ1 hJ2 hY h0
  have hsb : W.cell? ⟨sb, 0, none⟩ = some (.slice (some ⟨b, 0, none⟩) 1 c) := cell_block ((hb.block _ (Array.getElem?_eq_some_iff.1 hs).1).trans hs) rfl
  have HCB : Hid (W.cell? ⟨b, 0, none⟩ = some tv) := Lib.hid ((hb.cell (cell_lt hc)).trans hc)
  have HSB := Lib.hid hsb
  have HY := Lib.hid hY
  have HSZ := Lib.hid hsz
  clear hb hsz hY hs hc
  refine callsIn_of_wp Tryz.func198 rfl trivial ?_ rfl
  simp only [Tryz.ntmps198, List.size_toArray, List.length_cons, List.length_nil, Nat.reduceAdd, Nat.reduceSub, Array.replicate_succ, Array.replicate_zero, List.push_toArray, List.append_toArray, List.nil_append, List.cons_append]
  gi_wp2
  gi_loopw [3] (fun c3 wr => (c3 = .int .i64 0 ∧ wr = W) ∨ (c3 = .int .i64 (-1) ∧ J [()] wr)) (fun c3 _ => (intOf c3 + 1).toNat)
  case atStart => exact .inl ⟨rfl, rfl⟩
  case round =>
    rcases hrel with ⟨rfl, rfl⟩ | ⟨rfl, hj⟩
    · have hsb := HSB.out
      obtain ⟨fn, tmps, assign, body, hy, hR⟩ := HY.out [] () wr h0 ⟨rfl, HSZ.out⟩
      gi_wp2_with (first
        | (refine wplIn_load rfl 52 (.tmp 15) rfl b 0 rfl [tv] _ (fun j u hu => by cases j with | zero => injection hu with hu; subst hu; exact HCB.out | succ j => cases hu) Tryz.underlying52 rfl tip_size ?_))
      refine ⟨fun h => (by cases h), ?_⟩
      refine hR.mono ?_
      rintro e W2 (⟨rfl, hj2, -⟩ | ⟨rfl, hjx⟩)
      · gi_wp2
        go_roundw
        case rel => exact .inr ⟨rfl, hj2⟩
        case measure => simp [intOf]
      · gi_wp2
        exact bodyPost_ret (results_none rfl _ _ _) rfl ⟨⟨_, rfl⟩, .inr ⟨_, trivial, hjx⟩⟩
    · gi_wp2
      go_end0
      exact ⟨⟨_, rfl⟩, .inl ⟨_, rfl, hj⟩⟩
end Go.Proofs.YtcohdfkdhdhegaaGreatDoor
