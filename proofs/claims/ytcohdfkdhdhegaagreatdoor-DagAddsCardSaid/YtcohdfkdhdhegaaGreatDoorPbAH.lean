/- tipset.New. -/
import Derived.Test.YtcohdfkdhdhegaaGreatDoorPbAG
namespace Go.Proofs.YtcohdfkdhdhegaaGreatDoor
open Go.RowKit

def lbZ : LB := ⟨⟨⟨(List.replicate 32 0).toArray⟩, by rfl⟩, ⟨⟨0, 0, ⟨#[]⟩, 0, 0, [], 0⟩, none, 0⟩⟩
abbrev tipV (t : Value) : Value := .agg #[t]
/-- Blocks whose headers lie somewhere, and may be. -/
def Okay (ok : Nat → Prop) (w : World) (l : List LB) : Prop := ∀ x ∈ l, x.x.At ok w ∧ x.x.h.Ok ∧ x.x.h.parents.Nodup
theorem Okay.fr {ok : Nat → Prop} {w w' : World} {l : List LB} (h : Okay ok w l) (hf : Fr ok w w') : Okay ok w' l := fun x hx => ⟨(h x hx).1.fr hf, (h x hx).2⟩
theorem Okay.below {ok : Nat → Prop} {w w' : World} {l : List LB} (h : Okay ok w l) (hb : Below w.heap.size w w') : Okay ok w' l := h.fr (Fr.of_below hb)
theorem Okay.perm {ok : Nat → Prop} {w : World} {l l' : List LB} (h : Okay ok w l) (hp : l'.Perm l) : Okay ok w l' := fun x hx => h x (hp.mem_iff.1 hx)
theorem LB.cells_miner (x : LB) : x.cells[33]? = some (.int .i64 x.x.h.miner) := x.cells_hdr 1 _ rfl
theorem tip_size : (Tryz.prog.info? 52).map (·.size) = some 1 := by kernel_rfl

set_option maxRecDepth 100000 in
set_option maxHeartbeats 2000000 in
theorem new_big (w : World) (v : Value) (l : List LB) (ok : Nat → Prop) (hl : Sl lbE ok w v l) (h5 : 5 < l.length) :
    Calls Tryz.prog 92 #[v] w fun e w' => e = .returned (.tuple #[tipV (.slice none 0 0), .int .i64 4]) ∧ Below w.heap.size w w' := by
  obtain ⟨A, c, rfl, hc, hm⟩ := hl.form
  clear hl
  go_enter Tryz.func92, Tryz.ntmps92
  go_wp2_with (refine wpl_store_row rfl 52 (.tmp 2) (.tmp 11) rfl w.heap.size rfl [.slice none 0 0] rfl _ 52 (heap_alloc_new w _) rfl (by simp [Value.oneCell']) tip_size ?_)
  (try simp only [Exit.inBlock, Exit.then])
  refine bodyPost_ret (results_row_tmp rfl _ _ w.heap.size 52 #[.slice none 0 0] (0, 0) _ rfl (setRow_heap _ w.heap.size _ _ _ _ (heap_alloc_new w _)) Tryz.underlying52 rfl tip_size _ rfl) rfl ?_
  exact ⟨rfl, below_setRow ((Below.refl _ w).alloc (Nat.le_refl _) _) (Nat.le_refl _) _⟩

theorem Okay.old {ok : Nat → Prop} {w : World} {l : List LB} (h : Okay ok w l) : Okay (fun k => ok k ∧ k < w.heap.size) w l := fun x hx => ⟨Sl.old (h x hx).1, (h x hx).2⟩
/-- What holds at the head of the loop. -/
structure NewR (w wr : World) (mB : Nat) (A1 : Option Addr) (c1 : Nat) (ok : Nat → Prop) (zs : List LB) (i : Nat) : Prop where
  map : MapI wr mB i fun m => (minerC zs i m : Int)
  sl : Sl lbE (fun k => w.heap.size < k ∧ k < mB) wr (.slice A1 zs.length c1) zs
  okay : Okay (fun k => ok k ∧ k < w.heap.size) wr zs
  cell : wr.heap[w.heap.size]? = some (.cells #[.slice none 0 0] 52 (0, 0))
  below : Below w.heap.size w wr
  lt : w.heap.size < mB
/-- .. and behind one block's being laid and counted. -/
structure NewA (w wr W : World) (mB : Nat) (A1 : Option Addr) (c1 : Nat) (ok : Nat → Prop) (zs : List LB) (i : Nat) (f : Int → Int) (x : LB) : Prop where
  map : MapI W mB i f
  sl : Sl lbE (fun k => w.heap.size < k ∧ k < mB) W (.slice A1 zs.length c1) zs
  okay : Okay (fun k => ok k ∧ k < w.heap.size) W zs
  cell : W.heap[w.heap.size]? = some (.cells #[.slice none 0 0] 52 (0, 0))
  below : Below w.heap.size w W
  lt : w.heap.size < mB
  hold : HoldB W wr.heap.size x
  size : wr.heap.size < W.heap.size
  mlt : mB < wr.heap.size
section
variable {w wr W W' : World} {mB : Nat} {A1 : Option Addr} {c1 : Nat} {ok : Nat → Prop} {zs : List LB} {i j : Nat} {f f' : Int → Int} {x : LB}
theorem NewR.start (h : NewR w wr mB A1 c1 ok zs i) (x : LB) : NewA w wr (wr.alloc (.cells x.cells.toArray 71)) mB A1 c1 ok zs i (fun m => (minerC zs i m : Int)) x where
  map := h.map.alloc _
  sl := h.sl.fr ((Fr.refl _ _).alloc _)
  okay := h.okay.fr ((Fr.refl _ _).alloc _)
  cell := (heap_alloc_old wr _ (by have := h.lt; have := h.map.lt; omega)).trans h.cell
  below := h.below.alloc h.below.size _
  lt := h.lt
  hold := fun j u hu => cell_block (fr := (0, 0)) (T := 71) (heap_alloc_new wr _) (by simpa using hu)
  size := by simp
  mlt := h.map.lt
theorem NewA.step (h : NewA w wr W mB A1 c1 ok zs i f x) (hm : MapI W' mB j f') (hg : W.grownBy W' (some mB)) : NewA w wr W' mB A1 c1 ok zs j f' x where
  map := hm
  sl := h.sl.fr (Fr.grown hg fun k hk e => by injection e with e; omega)
  okay := h.okay.fr (Fr.grown hg fun k hk e => by injection e with e; have := h.lt; omega)
  cell := (hg.block _ (by have := h.lt; have := h.mlt; have := h.size; omega) (fun e => by injection e with e; have := h.lt; omega)).trans h.cell
  below := h.below.grown hg h.below.size fun k hk => by injection hk with hk; have := h.lt; omega
  lt := h.lt
  hold := fun j u hu => (World.cell?_of_block (a := ⟨wr.heap.size, j, none⟩) (hg.block _ h.size (fun e => by injection e with e; have e : wr.heap.size = mB := e; have := h.mlt; omega))).trans (h.hold j u hu)
  size := Nat.lt_of_lt_of_le h.size hg.size
  mlt := h.mlt
theorem NewA.under (h : NewA w wr W mB A1 c1 ok zs i f x) (hb : Below W.heap.size W W') : NewA w wr W' mB A1 c1 ok zs i f x where
  map := h.map.below hb
  sl := h.sl.below hb
  okay := h.okay.below hb
  cell := (hb.block _ (by have := h.lt; have := h.mlt; have := h.size; omega)).trans h.cell
  below := h.below.trans (hb.mono h.below.size)
  lt := h.lt
  hold := h.hold.below hb h.size
  size := Nat.lt_of_lt_of_le h.size hb.size
  mlt := h.mlt
theorem NewA.drew (h : NewA w wr W mB A1 c1 ok zs i f x) : NewA w wr W.drew mB A1 c1 ok zs i f x := ⟨h.map, h.sl, h.okay, h.cell, h.below.drew, h.lt, h.hold, h.size, h.mlt⟩
theorem NewA.ended (h : NewA w wr W mB A1 c1 ok zs (i + 1) (fun m => (minerC zs (i + 1) m : Int)) x) : NewR w W mB A1 c1 ok zs (i + 1) := ⟨h.map, h.sl, h.okay, h.cell, h.below, h.lt⟩
end
theorem minerC_fun (zs : List LB) (i : Nat) (x : LB) (hx : zs[i]? = some x) (c : Int) (hc : c = (minerC zs i x.x.h.miner : Int) + 1) : (fun y => if y = x.x.h.miner then c else (minerC zs i y : Int)) = fun m => (minerC zs (i + 1) m : Int) := by
  funext m
  rw [minerC_succ zs i x hx]
  split
  · rename_i h; subst h; rw [hc]; rfl
  · rfl

set_option maxRecDepth 100000 in
set_option maxHeartbeats 4000000 in
theorem new_few (w : World) (v : Value) (l : List LB) (ok : Nat → Prop) (hl : Sl lbE ok w v l) (hok : Okay ok w l) (h5 : l.length ≤ 5) :
    Calls Tryz.prog 92 #[v] w fun e w' => ∃ zs t, zs.Perm l ∧ Risen cmpL zs ∧ Below w.heap.size w w' ∧
      ((goodB zs = true ∧ e = .returned (.tuple #[tipV t, .int .i64 0]) ∧ Sl lbE (fun k => w.heap.size ≤ k) w' t zs) ∨ (goodB zs = false ∧ e = .returned (.tuple #[tipV (.slice none 0 0), .int .i64 15]))) := by
  obtain ⟨A, c, rfl, hc, hm⟩ := hl.form
  have HL := Lib.hid hl
  have HK := Lib.hid hok
  have hn5 : ¬ 5 < l.length := by omega
  clear hl hok
  have hmm := @run_makeMap Tryz.prog
  go_enter Tryz.func92, Tryz.ntmps92
  go_wp2_with (first
    | (go_at_call 140; refine (clone_blocks _ _ l ok (HL.out.below ((Below.refl _ w).alloc (Nat.le_refl _) _)) (by omega)).mono ?_; rintro e w1 ⟨v1, rfl, ho1, hb1⟩; obtain ⟨A1, c1, rfl, hc1⟩ := own_slice ho1; have HO1 := Lib.hid ho1; have HB1 := Lib.hid hb1; clear ho1 hb1)
    | (go_at_call 141; refine (sort_blocks _ _ l _ _ HO1.out (by omega)).mono ?_; rintro e w2 ⟨rfl, zs, hp, hr, ho2, hg2⟩; have HP := Lib.hid hp; have HR := Lib.hid hr; have HO2 := Lib.hid ho2; have HG2 := Lib.hid hg2; clear hp hr ho2 hg2))
  have hB1' : Below w.heap.size w w1 := ((Below.refl _ w).alloc (Nat.le_refl _) _).trans (HB1.out.mono (by simp))
  have hB2 : Below w.heap.size w w2 := below_grown_own hB1' HO1.out (by simp) hB1'.size HG2.out
  have hk1 : w1.heap[w.heap.size]? = some (.cells #[.slice none 0 0] 52 (0, 0)) := (HB1.out.block _ (by simp)).trans (heap_alloc_new w _)
  have hlt1 : w.heap.size < w1.heap.size := (Array.getElem?_eq_some_iff.1 hk1).1
  have hk2 : w2.heap[w.heap.size]? = some (.cells #[.slice none 0 0] 52 (0, 0)) := (HG2.out.block _ hlt1 (fun e => by have := (own_lt HO1.out _ e.symm).1; simp only [World.size_alloc] at this; omega)).trans hk1
  have hzl : zs.length = l.length := HP.out.length_eq
  have hlt2 : w.heap.size < w2.heap.size := (Array.getElem?_eq_some_iff.1 hk2).1
  have hS2 : Sl lbE (fun k => w.heap.size < k ∧ k < w2.heap.size) w2 (.slice A1 zs.length c1) zs := by
    have ho := HO2.out
    rw [← hzl] at ho
    exact (Sl.of_own (E := lbE) ho).mono fun k hk => by have := own_lt ho k hk; simp only [World.size_alloc] at this; omega
  have hK2 : Okay (fun k => ok k ∧ k < w.heap.size) w2 zs := (HK.out.old.fr (Fr.below hB2 fun k hk _ => hk.2)).perm HP.out
  have hR0 : NewR w (w2.alloc (.map #[] 0)) w2.heap.size A1 c1 ok zs 0 := ⟨MapI.made w2, hS2.fr ((Fr.refl _ _).alloc _), hK2.fr ((Fr.refl _ _).alloc _), (heap_alloc_old w2 _ hlt2).trans hk2, hB2.alloc hB2.size _, hlt2⟩
  have hg0 : decide (0 < l.length) = goodN zs 0 := by rw [goodN, hzl]
  have HR0 := Lib.hid hR0
  have HG0 := Lib.hid hg0
  have HZ := Lib.hid hzl
  obtain ⟨mB, hmB⟩ : ∃ mB, mB = w2.heap.size := ⟨_, rfl⟩
  rw [← hmB] at HR0
  simp only [← hmB]
  have HMB := Lib.hid hmB
  clear hB1' hB2 hk1 hlt1 hk2 hzl hlt2 hS2 hK2 hR0 hg0 hmB
  go_loopw [5, 22] (fun g ci wr => ∃ i : Nat, i ≤ l.length ∧ g = .bool (goodN zs i) ∧ ci = .int .i64 i ∧ NewR w wr mB A1 c1 ok zs i) (fun _ ci _ => l.length - (intOf ci).toNat)
  case atStart => exact ⟨0, Nat.zero_le _, by rw [HG0.out], rfl, HR0.out⟩
  case round =>
    obtain ⟨i, hi, rfl, rfl, hR⟩ := hrel
    have HRR := Lib.hid hR
    clear hR
    by_cases hlt : i < l.length
    · obtain ⟨x, hx⟩ : ∃ x, zs[i]? = some x := ⟨_, List.getElem?_eq_getElem (by have := HZ.out; omega)⟩
      obtain ⟨b, off, rfl, hbl, hbk, hcx⟩ := HRR.out.sl.at_ i x hx
      obtain ⟨hax, hox, hnx⟩ := HRR.out.okay x (List.mem_of_getElem? hx)
      obtain ⟨hm0, hm1⟩ : I64 x.x.h.miner := hox.miner
      have hcnt := minerC_le zs i x.x.h.miner
      have hA := HRR.out.start x
      have HA := Lib.hid hA
      have HX := Lib.hid hcx
      have HXI := Lib.hid hx
      have HOX := Lib.hid hox
      have HNX := Lib.hid hnx
      clear hA hcx hx hax hox hnx hbk
      go_wp2_with (first
        | (refine wpl_load rfl 71 (.tmp 25) rfl b _ rfl x.cells _ HX.out Tryz.underlying71 rfl (by rw [LB.cells_length]; exact block_size) ?_)
        | (refine wpl_store_new rfl 71 _ _ rfl rfl x.cells rfl _ _ (by rw [LB.cells_length]; rfl) x.cells_one (by rw [LB.cells_length]; exact block_size) ?_; generalize (wr.alloc (.cells x.cells.toArray 71)) = W1 at HA ⊢; have hcm : W1.cell? ⟨wr.heap.size, 33, none⟩ = some (.int .i64 x.x.h.miner) := HA.out.hold 33 _ x.cells_miner)
        | (refine wpl_lookupI HA.out.map rfl (.tmp 27) (.tmp 30) rfl rfl x.x.h.miner rfl hm0 hm1 ?_)
        | (refine wpl_updateI HA.out.map rfl (.tmp 27) (.tmp 30) (.tmp 32) rfl rfl x.x.h.miner _ rfl rfl hm0 hm1 (by omega) (by omega) (by omega) ?_; intro w3 hm3 hg3))
      simp only [Act.put]
      have hA3 := (HA.out.step hm3 hg3).drew
      rw [minerC_fun zs i x HXI.out _ rfl] at hA3
      have HA3 := Lib.hid hA3
      clear hm3 hg3 hA3 HA hcm
      by_cases hgd : goodN zs i = false
      · have HGF := Lib.hid hgd
        clear hgd
        refine st_ (S := (fun w' => NewA w wr w' mB (some ⟨b, off, none⟩) c1 ok zs (i + 1) (fun m => (minerC zs (i + 1) m : Int)) x)) 23 (bt 0 23) (by kernel_rfl) rfl (by rfl) HA3.out (fun hHeld => ?_)
        refine tk_ 0 (some 33) (bt 1 22) rfl rfl (by kernel_rfl) (fun _ _ _ h => h) (yieldsIf_run (v := .bool false) rfl fun w' => (show _ = Result.ok (Next.value (.bool (goodN zs i))) w' from rfl).trans (by rw [HGF.out])) hHeld (a' := ?_) ?_ ?_
        rotate_left
        · simp only [Act.put, List.setIfInBounds_toArray, List.set_cons_zero, List.set_cons_succ]
          rfl
        refine tk_ 1 (some 34) (bt 2 21) (v := ?_) (a' := ?_) rfl rfl (by kernel_rfl) (fun _ _ _ h => h) (yieldsIf_run rfl ?_) hHeld ?_ ?_
        rotate_left
        · intro w'
          go_simp
          with_reducible rfl
        rotate_left
        · simp only [Act.put, List.setIfInBounds_toArray, List.set_cons_zero, List.set_cons_succ]
          rfl
        refine tk_ 2 (some 35) (bt 3 20) rfl rfl (by kernel_rfl) (fun _ _ _ h => h) (yieldsIf_off rfl) hHeld (a' := ?_) ?_ ?_
        rotate_left
        · simp only [Act.put, List.setIfInBounds_toArray, List.set_cons_zero, List.set_cons_succ]
          rfl
        refine tk_ 3 (some 36) (bt 4 19) rfl rfl (by kernel_rfl) (fun _ _ _ h => h) (yieldsIf_off rfl) hHeld (a' := ?_) ?_ ?_
        rotate_left
        · simp only [Act.put, List.setIfInBounds_toArray, List.set_cons_zero, List.set_cons_succ]
          rfl
        refine tk_ 4 (some 37) (bt 5 18) rfl rfl (by kernel_rfl) (fun _ _ _ h => h) (yieldsIf_off rfl) hHeld (a' := ?_) ?_ ?_
        rotate_left
        · simp only [Act.put, List.setIfInBounds_toArray, List.set_cons_zero, List.set_cons_succ]
          rfl
        refine tk_ 5 (some 38) (bt 6 17) rfl rfl (by kernel_rfl) (fun _ _ _ h => h) (yieldsIf_off rfl) hHeld (a' := ?_) ?_ ?_
        rotate_left
        · simp only [Act.put, List.setIfInBounds_toArray, List.set_cons_zero, List.set_cons_succ]
          rfl
        refine tk_ 6 (some 39) (bt 7 16) rfl rfl (by kernel_rfl) (fun _ _ _ h => h) (yieldsIf_off rfl) hHeld (a' := ?_) ?_ ?_
        rotate_left
        · simp only [Act.put, List.setIfInBounds_toArray, List.set_cons_zero, List.set_cons_succ]
          rfl
        refine tk_ 7 (some 40) (bt 8 15) rfl rfl (by kernel_rfl) (fun _ _ _ h => h) (yieldsIf_off rfl) hHeld (a' := ?_) ?_ ?_
        rotate_left
        · simp only [Act.put, List.setIfInBounds_toArray, List.set_cons_zero, List.set_cons_succ]
          rfl
        refine tk_ 8 (some 41) (bt 9 14) (v := ?_) (a' := ?_) rfl rfl (by kernel_rfl) (fun _ _ _ h => h) (yieldsIf_run rfl ?_) hHeld ?_ ?_
        rotate_left
        · intro w'
          go_simp
          with_reducible rfl
        rotate_left
        · simp only [Act.put, List.setIfInBounds_toArray, List.set_cons_zero, List.set_cons_succ]
          rfl
        refine tk_ 9 (some 42) (bt 10 13) (v := ?_) (a' := ?_) rfl rfl (by kernel_rfl) (fun _ _ _ h => h) (yieldsIf_run rfl ?_) hHeld ?_ ?_
        rotate_left
        · intro w'
          go_simp
          with_reducible rfl
        rotate_left
        · simp only [Act.put, List.setIfInBounds_toArray, List.set_cons_zero, List.set_cons_succ]
          rfl
        refine tk_ 10 (some 43) (bt 11 12) rfl rfl (by kernel_rfl) (fun _ _ _ h => h) (yieldsIf_off rfl) hHeld (a' := ?_) ?_ ?_
        rotate_left
        · simp only [Act.put, List.setIfInBounds_toArray, List.set_cons_zero, List.set_cons_succ]
          rfl
        refine tk_ 11 (some 44) (bt 12 11) rfl rfl (by kernel_rfl) (fun _ _ _ h => h) (yieldsIf_off rfl) hHeld (a' := ?_) ?_ ?_
        rotate_left
        · simp only [Act.put, List.setIfInBounds_toArray, List.set_cons_zero, List.set_cons_succ]
          rfl
        refine tk_ 12 (some 45) (bt 13 10) rfl rfl (by kernel_rfl) (fun _ _ _ h => h) (yieldsIf_off rfl) hHeld (a' := ?_) ?_ ?_
        rotate_left
        · simp only [Act.put, List.setIfInBounds_toArray, List.set_cons_zero, List.set_cons_succ]
          rfl
        refine tk_ 13 (some 46) (bt 14 9) rfl rfl (by kernel_rfl) (fun _ _ _ h => h) (yieldsIf_off rfl) hHeld (a' := ?_) ?_ ?_
        rotate_left
        · simp only [Act.put, List.setIfInBounds_toArray, List.set_cons_zero, List.set_cons_succ]
          rfl
        refine tk_ 14 (some 47) (bt 15 8) rfl rfl (by kernel_rfl) (fun _ _ _ h => h) (yieldsIf_off rfl) hHeld (a' := ?_) ?_ ?_
        rotate_left
        · simp only [Act.put, List.setIfInBounds_toArray, List.set_cons_zero, List.set_cons_succ]
          rfl
        refine tk_ 15 (some 48) (bt 16 7) rfl rfl (by kernel_rfl) (fun _ _ _ h => h) (yieldsIf_off rfl) hHeld (a' := ?_) ?_ ?_
        rotate_left
        · simp only [Act.put, List.setIfInBounds_toArray, List.set_cons_zero, List.set_cons_succ]
          rfl
        refine tk_ 16 (some 49) (bt 17 6) rfl rfl (by kernel_rfl) (fun _ _ _ h => h) (yieldsIf_off rfl) hHeld (a' := ?_) ?_ ?_
        rotate_left
        · simp only [Act.put, List.setIfInBounds_toArray, List.set_cons_zero, List.set_cons_succ]
          rfl
        refine tk_ 17 (some 50) (bt 18 5) rfl rfl (by kernel_rfl) (fun _ _ _ h => h) (yieldsIf_off rfl) hHeld (a' := ?_) ?_ ?_
        rotate_left
        · simp only [Act.put, List.setIfInBounds_toArray, List.set_cons_zero, List.set_cons_succ]
          rfl
        refine tk_ 18 (some 51) (bt 19 4) rfl rfl (by kernel_rfl) (fun _ _ _ h => h) (yieldsIf_off rfl) hHeld (a' := ?_) ?_ ?_
        rotate_left
        · simp only [Act.put, List.setIfInBounds_toArray, List.set_cons_zero, List.set_cons_succ]
          rfl
        refine tk_ 19 (some 52) (bt 20 3) rfl rfl (by kernel_rfl) (fun _ _ _ h => h) (yieldsIf_off rfl) hHeld (a' := ?_) ?_ ?_
        rotate_left
        · simp only [Act.put, List.setIfInBounds_toArray, List.set_cons_zero, List.set_cons_succ]
          rfl
        refine tk_ 20 (some 53) (bt 21 2) rfl rfl (by kernel_rfl) (fun _ _ _ h => h) (yieldsIf_off rfl) hHeld (a' := ?_) ?_ ?_
        rotate_left
        · simp only [Act.put, List.setIfInBounds_toArray, List.set_cons_zero, List.set_cons_succ]
          rfl
        refine tk_ 21 (some 54) (bt 22 1) (v := ?_) (a' := ?_) rfl rfl (by kernel_rfl) (fun _ _ _ h => h) (yieldsIf_run rfl ?_) hHeld ?_ ?_
        rotate_left
        · intro w'
          go_simp
          with_reducible rfl
        rotate_left
        · simp only [Act.put, List.setIfInBounds_toArray, List.set_cons_zero, List.set_cons_succ]
          rfl
        refine tk_ 22 (some 5) (bt 23 0) (v := ?_) (a' := ?_) rfl rfl (by kernel_rfl) (fun _ _ _ h => h) (yieldsIf_run rfl ?_) hHeld ?_ ?_
        rotate_left
        · intro w'
          go_simp
          with_reducible rfl
        rotate_left
        · simp only [Act.put, List.setIfInBounds_toArray, List.set_cons_zero, List.set_cons_succ]
          rfl
        refine wpAnyH_done (by kernel_rfl) ?_ _
        change Exit.inBlock _ _ _ _ w3.drew
        generalize w3.drew = w4 at HA3 hHeld
        have HE := Lib.hid (goodN_off HGF.out)
        go_wp2
        go_roundw
        case rel => exact ⟨i + 1, by omega, by rw [HE.out], by go_num, HA3.out.ended⟩
        case measure => simp [intOf]; omega
      · have hgt : goodN zs i = true := by simpa using hgd
        have HGF := Lib.hid hgt
        clear hgd hgt
        by_cases hc1' : minerC zs (i + 1) x.x.h.miner = 1
        · have HC1 := Lib.hid hc1'
          clear hc1'
          rcases Nat.eq_zero_or_pos i with hi0 | hip
          · subst hi0
            have HE := Lib.hid (goodN_first HGF.out HXI.out HC1.out)
            refine st_ (S := (fun w' => NewA w wr w' mB (some ⟨b, off, none⟩) c1 ok zs (0 + 1) (fun m => (minerC zs (0 + 1) m : Int)) x)) 23 (bt 0 23) (by kernel_rfl) rfl (by rfl) HA3.out (fun hHeld => ?_)
            refine tk_ 0 (some 33) (bt 1 22) rfl rfl (by kernel_rfl) (fun _ _ _ h => h) (yieldsIf_run (v := .bool true) rfl fun w' => (show _ = Result.ok (Next.value (.bool (goodN zs (0)))) w' from rfl).trans (by rw [HGF.out])) hHeld (a' := ?_) ?_ ?_
            rotate_left
            · simp only [Act.put, List.setIfInBounds_toArray, List.set_cons_zero, List.set_cons_succ]
              rfl
            refine tk_ 1 (some 34) (bt 2 21) (v := ?_) (a' := ?_) rfl rfl (by kernel_rfl) (fun _ _ _ h => h) (yieldsIf_run rfl ?_) hHeld ?_ ?_
            rotate_left
            · intro w'
              go_simp
              with_reducible rfl
            rotate_left
            · simp only [Act.put, List.setIfInBounds_toArray, List.set_cons_zero, List.set_cons_succ]
              rfl
            refine tk_ 2 (some 35) (bt 3 20) (v := ?_) (a' := ?_) rfl rfl (by kernel_rfl) (fun _ _ _ h => h) (yieldsIf_run rfl ?_) hHeld ?_ ?_
            rotate_left
            · intro w'
              go_simp
              with_reducible rfl
            rotate_left
            · simp only [Act.put, List.setIfInBounds_toArray, List.set_cons_zero, List.set_cons_succ]
              rfl
            refine tk_ 3 (some 36) (bt 4 19) (v := ?_) (a' := ?_) rfl rfl (by kernel_rfl) (fun _ _ _ h => h) (yieldsIf_run rfl ?_) hHeld ?_ ?_
            rotate_left
            · intro w'
              go_simp
              with_reducible rfl
            rotate_left
            · simp only [Act.put, List.setIfInBounds_toArray, List.set_cons_zero, List.set_cons_succ]
              rfl
            refine tk_ 4 (some 37) (bt 5 18) (v := ?_) (a' := ?_) rfl rfl (by kernel_rfl) (fun _ _ _ h => h) (yieldsIf_run rfl ?_) hHeld ?_ ?_
            rotate_left
            · intro w'
              go_simp
              with_reducible rfl
            rotate_left
            · simp only [Act.put, List.setIfInBounds_toArray, List.set_cons_zero, List.set_cons_succ]
              rfl
            refine tk_ 5 (some 38) (bt 6 17) rfl rfl (by kernel_rfl) (fun _ _ _ h => h) (yieldsIf_cell rfl 3 (.tmp 37) rfl ⟨wr.heap.size, 33, none⟩ rfl (.int .i64 x.x.h.miner) _ (fun w' h => h.hold 33 _ x.cells_miner) Tryz.underlying3 rfl) hHeld (a' := ?_) ?_ ?_
            rotate_left
            · simp only [Act.put, List.setIfInBounds_toArray, List.set_cons_zero, List.set_cons_succ]
              rfl
            refine tk_ 6 (some 39) (bt 7 16) rfl rfl (by kernel_rfl) (fun _ _ _ h => h) (yieldsIf_of (v := .int .i64 1) rfl fun w' h => (exec_lookupI h.map (.tmp 35) (.tmp 38) rfl rfl x.x.h.miner rfl hm0 hm1).trans (by rw [HC1.out]; rfl)) hHeld (a' := ?_) ?_ ?_
            rotate_left
            · simp only [Act.put, List.setIfInBounds_toArray, List.set_cons_zero, List.set_cons_succ]
              rfl
            refine tk_ 7 (some 40) (bt 8 15) (v := ?_) (a' := ?_) rfl rfl (by kernel_rfl) (fun _ _ _ h => h) (yieldsIf_run rfl ?_) hHeld ?_ ?_
            rotate_left
            · intro w'
              go_simp
              with_reducible rfl
            rotate_left
            · simp only [Act.put, List.setIfInBounds_toArray, List.set_cons_zero, List.set_cons_succ]
              rfl
            refine tk_ 8 (some 41) (bt 9 14) (v := ?_) (a' := ?_) rfl rfl (by kernel_rfl) (fun _ _ _ h => h) (yieldsIf_run rfl ?_) hHeld ?_ ?_
            rotate_left
            · intro w'
              go_simp
              with_reducible rfl
            rotate_left
            · simp only [Act.put, List.setIfInBounds_toArray, List.set_cons_zero, List.set_cons_succ]
              rfl
            refine tk_ 9 (some 42) (bt 10 13) (v := ?_) (a' := ?_) rfl rfl (by kernel_rfl) (fun _ _ _ h => h) (yieldsIf_run rfl ?_) hHeld ?_ ?_
            rotate_left
            · intro w'
              go_simp
              with_reducible rfl
            rotate_left
            · simp only [Act.put, List.setIfInBounds_toArray, List.set_cons_zero, List.set_cons_succ]
              rfl
            refine tk_ 10 (some 43) (bt 11 12) (v := ?_) (a' := ?_) rfl rfl (by kernel_rfl) (fun _ _ _ h => h) (yieldsIf_run rfl ?_) hHeld ?_ ?_
            rotate_left
            · intro w'
              go_simp
              with_reducible rfl
            rotate_left
            · simp only [Act.put, List.setIfInBounds_toArray, List.set_cons_zero, List.set_cons_succ]
              rfl
            refine tk_ 11 (some 44) (bt 12 11) rfl rfl (by kernel_rfl) (fun _ _ _ h => h) (yieldsIf_run (v := .bool true) rfl fun w' => (show _ = Result.ok (Next.value (.bool (((0 : Nat) : Int) == 0))) w' from rfl)) hHeld (a' := ?_) ?_ ?_
            rotate_left
            · simp only [Act.put, List.setIfInBounds_toArray, List.set_cons_zero, List.set_cons_succ]
              rfl
            refine tk_ 12 (some 45) (bt 13 10) (v := ?_) (a' := ?_) rfl rfl (by kernel_rfl) (fun _ _ _ h => h) (yieldsIf_run rfl ?_) hHeld ?_ ?_
            rotate_left
            · intro w'
              go_simp
              with_reducible rfl
            rotate_left
            · simp only [Act.put, List.setIfInBounds_toArray, List.set_cons_zero, List.set_cons_succ]
              rfl
            refine tk_ 13 (some 46) (bt 14 9) rfl rfl (by kernel_rfl) (fun _ _ _ h => h) (yieldsIf_off rfl) hHeld (a' := ?_) ?_ ?_
            rotate_left
            · simp only [Act.put, List.setIfInBounds_toArray, List.set_cons_zero, List.set_cons_succ]
              rfl
            refine tk_ 14 (some 47) (bt 15 8) rfl rfl (by kernel_rfl) (fun _ _ _ h => h) (yieldsIf_off rfl) hHeld (a' := ?_) ?_ ?_
            rotate_left
            · simp only [Act.put, List.setIfInBounds_toArray, List.set_cons_zero, List.set_cons_succ]
              rfl
            refine tk_ 15 (some 48) (bt 16 7) rfl rfl (by kernel_rfl) (fun _ _ _ h => h) (yieldsIf_off rfl) hHeld (a' := ?_) ?_ ?_
            rotate_left
            · simp only [Act.put, List.setIfInBounds_toArray, List.set_cons_zero, List.set_cons_succ]
              rfl
            refine tk_ 16 (some 49) (bt 17 6) rfl rfl (by kernel_rfl) (fun _ _ _ h => h) (yieldsIf_off rfl) hHeld (a' := ?_) ?_ ?_
            rotate_left
            · simp only [Act.put, List.setIfInBounds_toArray, List.set_cons_zero, List.set_cons_succ]
              rfl
            refine tk_ 17 (some 50) (bt 18 5) rfl rfl (by kernel_rfl) (fun _ _ _ h => h) (yieldsIf_off rfl) hHeld (a' := ?_) ?_ ?_
            rotate_left
            · simp only [Act.put, List.setIfInBounds_toArray, List.set_cons_zero, List.set_cons_succ]
              rfl
            refine tk_ 18 (some 51) (bt 19 4) rfl rfl (by kernel_rfl) (fun _ _ _ h => h) (yieldsIf_off rfl) hHeld (a' := ?_) ?_ ?_
            rotate_left
            · simp only [Act.put, List.setIfInBounds_toArray, List.set_cons_zero, List.set_cons_succ]
              rfl
            refine tk_ 19 (some 52) (bt 20 3) rfl rfl (by kernel_rfl) (fun _ _ _ h => h) (yieldsIf_off rfl) hHeld (a' := ?_) ?_ ?_
            rotate_left
            · simp only [Act.put, List.setIfInBounds_toArray, List.set_cons_zero, List.set_cons_succ]
              rfl
            refine tk_ 20 (some 53) (bt 21 2) (v := ?_) (a' := ?_) rfl rfl (by kernel_rfl) (fun _ _ _ h => h) (yieldsIf_run rfl ?_) hHeld ?_ ?_
            rotate_left
            · intro w'
              go_simp
              with_reducible rfl
            rotate_left
            · simp only [Act.put, List.setIfInBounds_toArray, List.set_cons_zero, List.set_cons_succ]
              rfl
            refine tk_ 21 (some 54) (bt 22 1) (v := ?_) (a' := ?_) rfl rfl (by kernel_rfl) (fun _ _ _ h => h) (yieldsIf_run rfl ?_) hHeld ?_ ?_
            rotate_left
            · intro w'
              go_simp
              with_reducible rfl
            rotate_left
            · simp only [Act.put, List.setIfInBounds_toArray, List.set_cons_zero, List.set_cons_succ]
              rfl
            refine tk_ 22 (some 5) (bt 23 0) (v := ?_) (a' := ?_) rfl rfl (by kernel_rfl) (fun _ _ _ h => h) (yieldsIf_run rfl ?_) hHeld ?_ ?_
            rotate_left
            · intro w'
              go_simp
              with_reducible rfl
            rotate_left
            · simp only [Act.put, List.setIfInBounds_toArray, List.set_cons_zero, List.set_cons_succ]
              rfl
            refine wpAnyH_done (by kernel_rfl) ?_ _
            change Exit.inBlock _ _ _ _ w3.drew
            generalize w3.drew = w4 at HA3 hHeld
            go_wp2
            go_roundw
            case rel => exact ⟨0 + 1, by omega, by rw [HE.out], by go_num, HA3.out.ended⟩
            case measure => simp [intOf]; omega
          · obtain ⟨p, rfl⟩ : ∃ p, i = p + 1 := ⟨i - 1, by omega⟩
            obtain ⟨y, hy⟩ : ∃ y, zs[p]? = some y := ⟨_, List.getElem?_eq_getElem (by have := HZ.out; omega)⟩
            have HE := Lib.hid (goodN_next HGF.out HXI.out hy HC1.out)
            have hyc : ∀ w', NewA w wr w' mB (some ⟨b, off, none⟩) c1 ok zs (p + 1 + 1) (fun m => (minerC zs (p + 1 + 1) m : Int)) x → ∀ j u, y.cells[j]? = some u → w'.cell? ⟨b, off + p * 39 + j, none⟩ = some u := fun w' h => by
              obtain ⟨b', off', he, -, -, hc'⟩ := h.sl.at_ p y hy
              injection he with he
              injection he with e1 e2
              subst e1; subst e2
              exact hc'
            have HYC := Lib.hid hyc
            have HYI := Lib.hid hy
            have hwp : IntKind.i64.wrap (((p + 1 : Nat) : Int) - 1) = (p : Int) := by rw [IntWalk.i64_in _ (by omega)]; omega
            have HWP := Lib.hid hwp
            have hpl : p < l.length := by omega
            clear hyc hy hwp
            refine st_ (S := (fun w' => NewA w wr w' mB (some ⟨b, off, none⟩) c1 ok zs (p + 1 + 1) (fun m => (minerC zs (p + 1 + 1) m : Int)) x)) 23 (bt 0 23) (by kernel_rfl) rfl (by rfl) HA3.out (fun hHeld => ?_)
            refine tk_ 0 (some 33) (bt 1 22) rfl rfl (by kernel_rfl) (fun _ _ _ h => h) (yieldsIf_run (v := .bool true) rfl fun w' => (show _ = Result.ok (Next.value (.bool (goodN zs (p + 1)))) w' from rfl).trans (by rw [HGF.out])) hHeld (a' := ?_) ?_ ?_
            rotate_left
            · simp only [Act.put, List.setIfInBounds_toArray, List.set_cons_zero, List.set_cons_succ]
              rfl
            refine tk_ 1 (some 34) (bt 2 21) (v := ?_) (a' := ?_) rfl rfl (by kernel_rfl) (fun _ _ _ h => h) (yieldsIf_run rfl ?_) hHeld ?_ ?_
            rotate_left
            · intro w'
              go_simp
              with_reducible rfl
            rotate_left
            · simp only [Act.put, List.setIfInBounds_toArray, List.set_cons_zero, List.set_cons_succ]
              rfl
            refine tk_ 2 (some 35) (bt 3 20) (v := ?_) (a' := ?_) rfl rfl (by kernel_rfl) (fun _ _ _ h => h) (yieldsIf_run rfl ?_) hHeld ?_ ?_
            rotate_left
            · intro w'
              go_simp
              with_reducible rfl
            rotate_left
            · simp only [Act.put, List.setIfInBounds_toArray, List.set_cons_zero, List.set_cons_succ]
              rfl
            refine tk_ 3 (some 36) (bt 4 19) (v := ?_) (a' := ?_) rfl rfl (by kernel_rfl) (fun _ _ _ h => h) (yieldsIf_run rfl ?_) hHeld ?_ ?_
            rotate_left
            · intro w'
              go_simp
              with_reducible rfl
            rotate_left
            · simp only [Act.put, List.setIfInBounds_toArray, List.set_cons_zero, List.set_cons_succ]
              rfl
            refine tk_ 4 (some 37) (bt 5 18) (v := ?_) (a' := ?_) rfl rfl (by kernel_rfl) (fun _ _ _ h => h) (yieldsIf_run rfl ?_) hHeld ?_ ?_
            rotate_left
            · intro w'
              go_simp
              with_reducible rfl
            rotate_left
            · simp only [Act.put, List.setIfInBounds_toArray, List.set_cons_zero, List.set_cons_succ]
              rfl
            refine tk_ 5 (some 38) (bt 6 17) rfl rfl (by kernel_rfl) (fun _ _ _ h => h) (yieldsIf_cell rfl 3 (.tmp 37) rfl ⟨wr.heap.size, 33, none⟩ rfl (.int .i64 x.x.h.miner) _ (fun w' h => h.hold 33 _ x.cells_miner) Tryz.underlying3 rfl) hHeld (a' := ?_) ?_ ?_
            rotate_left
            · simp only [Act.put, List.setIfInBounds_toArray, List.set_cons_zero, List.set_cons_succ]
              rfl
            refine tk_ 6 (some 39) (bt 7 16) rfl rfl (by kernel_rfl) (fun _ _ _ h => h) (yieldsIf_of (v := .int .i64 1) rfl fun w' h => (exec_lookupI h.map (.tmp 35) (.tmp 38) rfl rfl x.x.h.miner rfl hm0 hm1).trans (by rw [HC1.out]; rfl)) hHeld (a' := ?_) ?_ ?_
            rotate_left
            · simp only [Act.put, List.setIfInBounds_toArray, List.set_cons_zero, List.set_cons_succ]
              rfl
            refine tk_ 7 (some 40) (bt 8 15) (v := ?_) (a' := ?_) rfl rfl (by kernel_rfl) (fun _ _ _ h => h) (yieldsIf_run rfl ?_) hHeld ?_ ?_
            rotate_left
            · intro w'
              go_simp
              with_reducible rfl
            rotate_left
            · simp only [Act.put, List.setIfInBounds_toArray, List.set_cons_zero, List.set_cons_succ]
              rfl
            refine tk_ 8 (some 41) (bt 9 14) (v := ?_) (a' := ?_) rfl rfl (by kernel_rfl) (fun _ _ _ h => h) (yieldsIf_run rfl ?_) hHeld ?_ ?_
            rotate_left
            · intro w'
              go_simp
              with_reducible rfl
            rotate_left
            · simp only [Act.put, List.setIfInBounds_toArray, List.set_cons_zero, List.set_cons_succ]
              rfl
            refine tk_ 9 (some 42) (bt 10 13) (v := ?_) (a' := ?_) rfl rfl (by kernel_rfl) (fun _ _ _ h => h) (yieldsIf_run rfl ?_) hHeld ?_ ?_
            rotate_left
            · intro w'
              go_simp
              with_reducible rfl
            rotate_left
            · simp only [Act.put, List.setIfInBounds_toArray, List.set_cons_zero, List.set_cons_succ]
              rfl
            refine tk_ 10 (some 43) (bt 11 12) (v := ?_) (a' := ?_) rfl rfl (by kernel_rfl) (fun _ _ _ h => h) (yieldsIf_run rfl ?_) hHeld ?_ ?_
            rotate_left
            · intro w'
              go_simp
              with_reducible rfl
            rotate_left
            · simp only [Act.put, List.setIfInBounds_toArray, List.set_cons_zero, List.set_cons_succ]
              rfl
            refine tk_ 11 (some 44) (bt 12 11) rfl rfl (by kernel_rfl) (fun _ _ _ h => h) (yieldsIf_run (v := .bool false) rfl fun w' => (show _ = Result.ok (Next.value (.bool (((p + 1 : Nat) : Int) == 0))) w' from rfl).trans (by rw [show (((p + 1 : Nat) : Int) == 0) = false from by rw [beq_eq_false_iff_ne]; omega])) hHeld (a' := ?_) ?_ ?_
            rotate_left
            · simp only [Act.put, List.setIfInBounds_toArray, List.set_cons_zero, List.set_cons_succ]
              rfl
            refine tk_ 12 (some 45) (bt 13 10) (v := ?_) (a' := ?_) rfl rfl (by kernel_rfl) (fun _ _ _ h => h) (yieldsIf_run rfl ?_) hHeld ?_ ?_
            rotate_left
            · intro w'
              go_simp
              with_reducible rfl
            rotate_left
            · simp only [Act.put, List.setIfInBounds_toArray, List.set_cons_zero, List.set_cons_succ]
              rfl
            refine tk_ 13 (some 46) (bt 14 9) (v := ?_) (a' := ?_) rfl rfl (by kernel_rfl) (fun _ _ _ h => h) (yieldsIf_run rfl ?_) hHeld ?_ ?_
            rotate_left
            · intro w'
              go_simp
              with_reducible rfl
            rotate_left
            · simp only [Act.put, List.setIfInBounds_toArray, List.set_cons_zero, List.set_cons_succ]
              rfl
            refine tk_ 14 (some 47) (bt 15 8) (v := ?_) (a' := ?_) rfl rfl (by kernel_rfl) (fun _ _ _ h => h) (yieldsIf_run rfl ?_) hHeld ?_ ?_
            rotate_left
            · intro w'
              go_simp
              with_reducible rfl
            rotate_left
            · simp only [Act.put, List.setIfInBounds_toArray, List.set_cons_zero, List.set_cons_succ]
              rfl
            refine tk_ 15 (some 48) (bt 16 7) rfl rfl (by kernel_rfl) (fun _ _ _ h => h) (yieldsIf_run (v := .int .i64 p) rfl fun w' => (show _ = Result.ok (Next.value (.int .i64 (IntKind.i64.wrap (((p + 1 : Nat) : Int) - 1)))) w' from rfl).trans (by rw [HWP.out])) hHeld (a' := ?_) ?_ ?_
            rotate_left
            · simp only [Act.put, List.setIfInBounds_toArray, List.set_cons_zero, List.set_cons_succ]
              rfl
            refine tk_ 16 (some 49) (bt 17 6) rfl rfl (by kernel_rfl) (fun _ _ _ h => h) (yieldsIf_run (v := .pointer (some ⟨b, off + p * 39, none⟩)) rfl fun w' => by go_simp) hHeld (a' := ?_) ?_ ?_
            rotate_left
            · simp only [Act.put, List.setIfInBounds_toArray, List.set_cons_zero, List.set_cons_succ]
              rfl
            refine tk_ 17 (some 50) (bt 18 5) rfl rfl (by kernel_rfl) (fun _ _ _ h => h) (yieldsIf_load rfl 71 (.tmp 49) rfl b _ rfl y.cells _ HYC.out Tryz.underlying71 rfl (by rw [LB.cells_length]; exact block_size)) hHeld (a' := ?_) ?_ ?_
            rotate_left
            · simp only [Act.put, List.setIfInBounds_toArray, List.set_cons_zero, List.set_cons_succ]
              rfl
            refine tk_ 18 (some 51) (bt 19 4) rfl rfl (by kernel_rfl) (fun _ _ _ h => h) (yieldsIf_load rfl 71 (.tmp 7) rfl wr.heap.size 0 rfl x.cells _ (fun w' h j u hu => by rw [Nat.zero_add]; exact h.hold j u hu) Tryz.underlying71 rfl (by rw [LB.cells_length]; exact block_size)) hHeld (a' := ?_) ?_ ?_
            rotate_left
            · simp only [Act.put, List.setIfInBounds_toArray, List.set_cons_zero, List.set_cons_succ]
              rfl
            refine call_ 19 (some 52) (bt 20 3) rfl rfl (by kernel_rfl) rfl 144 _ (by kernel_rfl) (fits_any _ y x _ (HA3.out.okay y (List.mem_of_getElem? HYI.out)).1 (HA3.out.okay x (List.mem_of_getElem? HXI.out)).1 (HA3.out.okay y (List.mem_of_getElem? HYI.out)).2.1 HOX.out (HA3.out.okay y (List.mem_of_getElem? HYI.out)).2.2 HNX.out) ?_
            rintro e w4 ⟨rfl, hb4⟩
            have HA4 := Lib.hid (HA3.out.under hb4)
            refine ⟨_, rfl, HA4.out, fun hHeld => ⟨?_, ?_, ?_⟩⟩
            rotate_left
            · simp only [Act.put, List.setIfInBounds_toArray, List.set_cons_zero, List.set_cons_succ]
              rfl
            refine tk_ 20 (some 53) (bt 21 2) (v := ?_) (a' := ?_) rfl rfl (by kernel_rfl) (fun _ _ _ h => h) (yieldsIf_run rfl ?_) hHeld ?_ ?_
            rotate_left
            · intro w'
              go_simp
              with_reducible rfl
            rotate_left
            · simp only [Act.put, List.setIfInBounds_toArray, List.set_cons_zero, List.set_cons_succ]
              rfl
            refine tk_ 21 (some 54) (bt 22 1) (v := ?_) (a' := ?_) rfl rfl (by kernel_rfl) (fun _ _ _ h => h) (yieldsIf_run rfl ?_) hHeld ?_ ?_
            rotate_left
            · intro w'
              go_simp
              with_reducible rfl
            rotate_left
            · simp only [Act.put, List.setIfInBounds_toArray, List.set_cons_zero, List.set_cons_succ]
              rfl
            refine tk_ 22 (some 5) (bt 23 0) (v := ?_) (a' := ?_) rfl rfl (by kernel_rfl) (fun _ _ _ h => h) (yieldsIf_run rfl ?_) hHeld ?_ ?_
            rotate_left
            · intro w'
              go_simp
              with_reducible rfl
            rotate_left
            · simp only [Act.put, List.setIfInBounds_toArray, List.set_cons_zero, List.set_cons_succ]
              rfl
            refine wpAnyH_done (by kernel_rfl) ?_ _
            change Exit.inBlock _ _ _ _ w4
            go_wp2
            go_roundw
            case rel => exact ⟨p + 1 + 1, by omega, by rw [HE.out], by go_num, HA4.out.ended⟩
            case measure => simp [intOf]; omega
        · have hcb : ((minerC zs (i + 1) x.x.h.miner : Int) == 1) = false := by rw [beq_eq_false_iff_ne]; omega
          have HCB := Lib.hid hcb
          have HE := Lib.hid (goodN_twice HXI.out hc1')
          clear hcb hc1'
          refine st_ (S := (fun w' => NewA w wr w' mB (some ⟨b, off, none⟩) c1 ok zs (i + 1) (fun m => (minerC zs (i + 1) m : Int)) x)) 23 (bt 0 23) (by kernel_rfl) rfl (by rfl) HA3.out (fun hHeld => ?_)
          refine tk_ 0 (some 33) (bt 1 22) rfl rfl (by kernel_rfl) (fun _ _ _ h => h) (yieldsIf_run (v := .bool true) rfl fun w' => (show _ = Result.ok (Next.value (.bool (goodN zs i))) w' from rfl).trans (by rw [HGF.out])) hHeld (a' := ?_) ?_ ?_
          rotate_left
          · simp only [Act.put, List.setIfInBounds_toArray, List.set_cons_zero, List.set_cons_succ]
            rfl
          refine tk_ 1 (some 34) (bt 2 21) (v := ?_) (a' := ?_) rfl rfl (by kernel_rfl) (fun _ _ _ h => h) (yieldsIf_run rfl ?_) hHeld ?_ ?_
          rotate_left
          · intro w'
            go_simp
            with_reducible rfl
          rotate_left
          · simp only [Act.put, List.setIfInBounds_toArray, List.set_cons_zero, List.set_cons_succ]
            rfl
          refine tk_ 2 (some 35) (bt 3 20) (v := ?_) (a' := ?_) rfl rfl (by kernel_rfl) (fun _ _ _ h => h) (yieldsIf_run rfl ?_) hHeld ?_ ?_
          rotate_left
          · intro w'
            go_simp
            with_reducible rfl
          rotate_left
          · simp only [Act.put, List.setIfInBounds_toArray, List.set_cons_zero, List.set_cons_succ]
            rfl
          refine tk_ 3 (some 36) (bt 4 19) (v := ?_) (a' := ?_) rfl rfl (by kernel_rfl) (fun _ _ _ h => h) (yieldsIf_run rfl ?_) hHeld ?_ ?_
          rotate_left
          · intro w'
            go_simp
            with_reducible rfl
          rotate_left
          · simp only [Act.put, List.setIfInBounds_toArray, List.set_cons_zero, List.set_cons_succ]
            rfl
          refine tk_ 4 (some 37) (bt 5 18) (v := ?_) (a' := ?_) rfl rfl (by kernel_rfl) (fun _ _ _ h => h) (yieldsIf_run rfl ?_) hHeld ?_ ?_
          rotate_left
          · intro w'
            go_simp
            with_reducible rfl
          rotate_left
          · simp only [Act.put, List.setIfInBounds_toArray, List.set_cons_zero, List.set_cons_succ]
            rfl
          refine tk_ 5 (some 38) (bt 6 17) rfl rfl (by kernel_rfl) (fun _ _ _ h => h) (yieldsIf_cell rfl 3 (.tmp 37) rfl ⟨wr.heap.size, 33, none⟩ rfl (.int .i64 x.x.h.miner) _ (fun w' h => h.hold 33 _ x.cells_miner) Tryz.underlying3 rfl) hHeld (a' := ?_) ?_ ?_
          rotate_left
          · simp only [Act.put, List.setIfInBounds_toArray, List.set_cons_zero, List.set_cons_succ]
            rfl
          refine tk_ 6 (some 39) (bt 7 16) rfl rfl (by kernel_rfl) (fun _ _ _ h => h) (yieldsIf_of (v := .int .i64 (minerC zs (i + 1) x.x.h.miner : Nat)) rfl fun w' h => exec_lookupI h.map (.tmp 35) (.tmp 38) rfl rfl x.x.h.miner rfl hm0 hm1) hHeld (a' := ?_) ?_ ?_
          rotate_left
          · simp only [Act.put, List.setIfInBounds_toArray, List.set_cons_zero, List.set_cons_succ]
            rfl
          refine tk_ 7 (some 40) (bt 8 15) rfl rfl (by kernel_rfl) (fun _ _ _ h => h) (yieldsIf_run (v := .bool false) rfl fun w' => (show _ = Result.ok (Next.value (.bool ((minerC zs (i + 1) x.x.h.miner : Int) == 1))) w' from rfl).trans (by rw [HCB.out])) hHeld (a' := ?_) ?_ ?_
          rotate_left
          · simp only [Act.put, List.setIfInBounds_toArray, List.set_cons_zero, List.set_cons_succ]
            rfl
          refine tk_ 8 (some 41) (bt 9 14) (v := ?_) (a' := ?_) rfl rfl (by kernel_rfl) (fun _ _ _ h => h) (yieldsIf_run rfl ?_) hHeld ?_ ?_
          rotate_left
          · intro w'
            go_simp
            with_reducible rfl
          rotate_left
          · simp only [Act.put, List.setIfInBounds_toArray, List.set_cons_zero, List.set_cons_succ]
            rfl
          refine tk_ 9 (some 42) (bt 10 13) (v := ?_) (a' := ?_) rfl rfl (by kernel_rfl) (fun _ _ _ h => h) (yieldsIf_run rfl ?_) hHeld ?_ ?_
          rotate_left
          · intro w'
            go_simp
            with_reducible rfl
          rotate_left
          · simp only [Act.put, List.setIfInBounds_toArray, List.set_cons_zero, List.set_cons_succ]
            rfl
          refine tk_ 10 (some 43) (bt 11 12) rfl rfl (by kernel_rfl) (fun _ _ _ h => h) (yieldsIf_off rfl) hHeld (a' := ?_) ?_ ?_
          rotate_left
          · simp only [Act.put, List.setIfInBounds_toArray, List.set_cons_zero, List.set_cons_succ]
            rfl
          refine tk_ 11 (some 44) (bt 12 11) rfl rfl (by kernel_rfl) (fun _ _ _ h => h) (yieldsIf_off rfl) hHeld (a' := ?_) ?_ ?_
          rotate_left
          · simp only [Act.put, List.setIfInBounds_toArray, List.set_cons_zero, List.set_cons_succ]
            rfl
          refine tk_ 12 (some 45) (bt 13 10) rfl rfl (by kernel_rfl) (fun _ _ _ h => h) (yieldsIf_off rfl) hHeld (a' := ?_) ?_ ?_
          rotate_left
          · simp only [Act.put, List.setIfInBounds_toArray, List.set_cons_zero, List.set_cons_succ]
            rfl
          refine tk_ 13 (some 46) (bt 14 9) rfl rfl (by kernel_rfl) (fun _ _ _ h => h) (yieldsIf_off rfl) hHeld (a' := ?_) ?_ ?_
          rotate_left
          · simp only [Act.put, List.setIfInBounds_toArray, List.set_cons_zero, List.set_cons_succ]
            rfl
          refine tk_ 14 (some 47) (bt 15 8) rfl rfl (by kernel_rfl) (fun _ _ _ h => h) (yieldsIf_off rfl) hHeld (a' := ?_) ?_ ?_
          rotate_left
          · simp only [Act.put, List.setIfInBounds_toArray, List.set_cons_zero, List.set_cons_succ]
            rfl
          refine tk_ 15 (some 48) (bt 16 7) rfl rfl (by kernel_rfl) (fun _ _ _ h => h) (yieldsIf_off rfl) hHeld (a' := ?_) ?_ ?_
          rotate_left
          · simp only [Act.put, List.setIfInBounds_toArray, List.set_cons_zero, List.set_cons_succ]
            rfl
          refine tk_ 16 (some 49) (bt 17 6) rfl rfl (by kernel_rfl) (fun _ _ _ h => h) (yieldsIf_off rfl) hHeld (a' := ?_) ?_ ?_
          rotate_left
          · simp only [Act.put, List.setIfInBounds_toArray, List.set_cons_zero, List.set_cons_succ]
            rfl
          refine tk_ 17 (some 50) (bt 18 5) rfl rfl (by kernel_rfl) (fun _ _ _ h => h) (yieldsIf_off rfl) hHeld (a' := ?_) ?_ ?_
          rotate_left
          · simp only [Act.put, List.setIfInBounds_toArray, List.set_cons_zero, List.set_cons_succ]
            rfl
          refine tk_ 18 (some 51) (bt 19 4) rfl rfl (by kernel_rfl) (fun _ _ _ h => h) (yieldsIf_off rfl) hHeld (a' := ?_) ?_ ?_
          rotate_left
          · simp only [Act.put, List.setIfInBounds_toArray, List.set_cons_zero, List.set_cons_succ]
            rfl
          refine tk_ 19 (some 52) (bt 20 3) rfl rfl (by kernel_rfl) (fun _ _ _ h => h) (yieldsIf_off rfl) hHeld (a' := ?_) ?_ ?_
          rotate_left
          · simp only [Act.put, List.setIfInBounds_toArray, List.set_cons_zero, List.set_cons_succ]
            rfl
          refine tk_ 20 (some 53) (bt 21 2) rfl rfl (by kernel_rfl) (fun _ _ _ h => h) (yieldsIf_off rfl) hHeld (a' := ?_) ?_ ?_
          rotate_left
          · simp only [Act.put, List.setIfInBounds_toArray, List.set_cons_zero, List.set_cons_succ]
            rfl
          refine tk_ 21 (some 54) (bt 22 1) (v := ?_) (a' := ?_) rfl rfl (by kernel_rfl) (fun _ _ _ h => h) (yieldsIf_run rfl ?_) hHeld ?_ ?_
          rotate_left
          · intro w'
            go_simp
            with_reducible rfl
          rotate_left
          · simp only [Act.put, List.setIfInBounds_toArray, List.set_cons_zero, List.set_cons_succ]
            rfl
          refine tk_ 22 (some 5) (bt 23 0) (v := ?_) (a' := ?_) rfl rfl (by kernel_rfl) (fun _ _ _ h => h) (yieldsIf_run rfl ?_) hHeld ?_ ?_
          rotate_left
          · intro w'
            go_simp
            with_reducible rfl
          rotate_left
          · simp only [Act.put, List.setIfInBounds_toArray, List.set_cons_zero, List.set_cons_succ]
            rfl
          refine wpAnyH_done (by kernel_rfl) ?_ _
          change Exit.inBlock _ _ _ _ w3.drew
          generalize w3.drew = w4 at HA3 hHeld
          go_wp2
          go_roundw
          case rel => exact ⟨i + 1, by omega, by rw [HE.out], by go_num, HA3.out.ended⟩
          case measure => simp [intOf]; omega
    · have hin : i = l.length := by omega
      subst hin
      rcases hgd : goodN zs l.length with _ | _
      · have HGB : Hid (goodB zs = false) := Lib.hid (by rw [goodB, HZ.out]; exact hgd)
        clear hgd
        go_wp2_with (refine wpl_store_row rfl 52 (.tmp 2) (.tmp 58) rfl w.heap.size rfl [.slice none 0 0] rfl _ 52 HRR.out.cell rfl (by simp [Value.oneCell']) tip_size ?_)
        (try simp only [Exit.inBlock, Exit.then])
        refine bodyPost_ret (results_row_tmp rfl _ _ w.heap.size 52 #[.slice none 0 0] (0, 0) _ rfl (setRow_heap wr w.heap.size _ _ _ _ HRR.out.cell) Tryz.underlying52 rfl tip_size _ rfl) rfl ?_
        exact ⟨zs, .slice none 0 0, HP.out, HR.out, below_setRow HRR.out.below (Nat.le_refl _) _, .inr ⟨HGB.out, rfl⟩⟩
      · have HGB : Hid (goodB zs = true) := Lib.hid (by rw [goodB, HZ.out]; exact hgd)
        clear hgd
        go_wp2_with (refine wpl_store_row rfl 52 (.tmp 2) (.tmp 60) rfl w.heap.size rfl [.slice A1 l.length c1] rfl _ 52 HRR.out.cell rfl (by simp [Value.oneCell']) tip_size ?_)
        (try simp only [Exit.inBlock, Exit.then])
        refine bodyPost_ret (results_row_tmp rfl _ _ w.heap.size 52 #[.slice A1 l.length c1] (0, 0) _ rfl (setRow_heap wr w.heap.size _ _ _ _ HRR.out.cell) Tryz.underlying52 rfl tip_size _ rfl) rfl ?_
        refine ⟨zs, .slice A1 l.length c1, HP.out, HR.out, below_setRow HRR.out.below (Nat.le_refl _) _, .inl ⟨HGB.out, rfl, ?_⟩⟩
        have hs := HRR.out.sl
        rw [HZ.out] at hs
        exact (hs.fr (ok := fun k => w.heap.size < k ∧ k < mB) ⟨by simp, fun k hk _ => heap_setRow_ne _ _ _ _ (by omega)⟩).mono fun k hk => by omega
end Go.Proofs.YtcohdfkdhdhegaaGreatDoor
