/- feed.Fold, over the document's ways. A slice is asked whether it is none. coxswainlaw23.FeedRefuses. -/
import Derived.Test.YtpehmlfghddnaaaGreatDoorReBI
import Derived.Laws.Cover3
namespace Go.Proofs.YtpehmlfghddnaaaGreatDoor
open Go.RowKit Go.Maps

/-- The head behind events. -/
def foldE (ways : ByteArray → ByteArray) : ByteArray → List Ev → Option ByteArray
  | h, [] => some h
  | h, x :: l => if x.kind = 3 ∨ (x.kind = 2 ∧ ways x.key = h) then foldE ways x.key l else if x.kind = 1 ∧ x.key = h then foldE ways (ways h) l else none

set_option maxRecDepth 100000 in
set_option maxHeartbeats 4000000 in
theorem fold_any (w : World) (gb : Nat) (vl : Value) (L : List LRH) (ok : Nat → Prop) (hg : w.cell? ⟨gb, 0, none⟩ = some vl) (hl : Sl rbE ok w vl L) (hat : ∀ y ∈ L, y.At ok w) (htl : ∀ y ∈ L, TellH y.h) (head : ByteArray) (v : Value) (evs : List Ev) (oke : Nat → Prop) (he : Sl evE oke w v evs) :
    Calls Tryz.prog 91 #[.func (.func 173) #[] #[.pointer (some ⟨gb, 0, none⟩)], .string head, v] w fun e w' => e = .returned (.tuple #[.string ((foldE (wayB (rhs L)) head evs).getD ⟨#[]⟩), .bool (foldE (wayB (rhs L)) head evs).isSome]) ∧ Below w.heap.size w w' := by
  obtain ⟨A, c, rfl, hc, hm⟩ := he.form
  have HE := Lib.hid he
  obtain ⟨ways, hways⟩ : ∃ f, wayB (rhs L) = f := ⟨_, rfl⟩
  have HW := Lib.hid fun (W : World) (hb : Below w.heap.size w W) (key : ByteArray) => (show Calls Tryz.prog 173 #[.string key, .pointer (some ⟨gb, 0, none⟩)] W fun e w' => e = .returned (.string (ways key)) ∧ Below W.heap.size W w' from by
    rw [← hways]
    exact ways1_any W gb vl L ok ((hb.cell (cell_lt hg)).trans hg) (hl.below hb) (fun y hy => Sl.below (hat y hy) hb) htl key)
  rw [hways]
  clear he hl hat htl hways hg
  obtain ⟨r, hr⟩ : ∃ r, foldE ways head evs = r := ⟨_, rfl⟩
  rw [hr]
  have HR := Lib.hid hr
  clear hr
  go_enter Tryz.func91, Tryz.ntmps91
  go_wp2
  go_loopw [1, 12] (fun c1 c12 W => ∃ (i : Nat) (h : ByteArray), i ≤ evs.length ∧ c1 = .string h ∧ c12 = .int .i64 (i : Int) ∧ foldE ways h (evs.drop i) = r ∧ Below w.heap.size w W) (fun _ c12 _ => evs.length - (intOf c12).toNat)
  case atStart => exact ⟨0, head, by omega, rfl, rfl, HR.out, Below.refl _ _⟩
  case round =>
    obtain ⟨i, h, hi, rfl, rfl, hf, hB⟩ := hrel
    have HF := Lib.hid hf
    have HB := Lib.hid hB
    clear hf hB HR
    by_cases hil : i < evs.length
    · obtain ⟨x, hx⟩ : ∃ x, evs[i]? = some x := ⟨_, List.getElem?_eq_getElem hil⟩
      obtain ⟨b, off, rfl, -, -, hcx⟩ := (HE.out.below HB.out).at_ i x hx
      obtain ⟨kd, key, ht⟩ := x
      have HCX : Hid (∀ (j : Nat) (u : Value), [Value.int .i64 kd, .string key, .int .i64 ht][j]? = some u → wr.cell? ⟨b, off + i * 3 + j, none⟩ = some u) := Lib.hid fun j u hu => hcx j u hu
      have hdr : evs.drop i = ⟨kd, key, ht⟩ :: evs.drop (i + 1) := by
        rw [List.drop_eq_getElem_cons hil]
        rw [List.getElem?_eq_getElem hil] at hx
        rw [Option.some.inj hx]
      rw [hdr] at HF
      have HF2 : Hid ((if kd = 3 ∨ (kd = 2 ∧ ways key = h) then foldE ways key (evs.drop (i + 1)) else if kd = 1 ∧ key = h then foldE ways (ways h) (evs.drop (i + 1)) else none) = r) := Lib.hid HF.out
      have hgn := heap_alloc_new wr (.cells #[.int .i64 kd, .string key, .int .i64 ht] 117)
      have hc0 : (wr.alloc (.cells #[.int .i64 kd, .string key, .int .i64 ht] 117)).cell? ⟨wr.heap.size, 0, none⟩ = some (.int .i64 kd) := cell_block hgn rfl
      have hc1 : (wr.alloc (.cells #[.int .i64 kd, .string key, .int .i64 ht] 117)).cell? ⟨wr.heap.size, 1, none⟩ = some (.string key) := cell_block hgn rfl
      have HB1 : Hid (Below w.heap.size w (wr.alloc (.cells #[.int .i64 kd, .string key, .int .i64 ht] 117))) := Lib.hid (HB.out.alloc HB.out.size _)
      clear hcx hdr hx HF hgn
      go_upto_region 5 with (first
        | (refine wpl_load rfl 117 (.tmp 14) rfl b _ rfl [.int .i64 kd, .string key, .int .i64 ht] _ HCX.out Tryz.underlying117 rfl ev_size ?_)
        | (refine wpl_store_new rfl 117 _ _ rfl rfl [.int .i64 kd, .string key, .int .i64 ht] rfl _ _ rfl (evE.one ⟨kd, key, ht⟩) ev_size ?_))
      generalize wr.alloc (.cells #[.int .i64 kd, .string key, .int .i64 ht] 117) = W1 at hc0 hc1 HB1 ⊢
      generalize wr.heap.size = ge at hc0 hc1 ⊢
      clear HCX HB
      by_cases h3 : kd = 3
      · subst h3
        rw [if_pos (.inl rfl)] at HF2
        go_wp2
        go_roundw
        case rel => exact ⟨i + 1, key, by omega, rfl, by go_num, HF2.out, HB1.out⟩
        case measure => simp [intOf]; omega
      · by_cases h2 : kd = 2
        · subst h2
          by_cases hw : ways key = h
          · have heq : ((ways key).toList == h.toList) = true := by rw [str_beq]; exact decide_eq_true hw
            rw [if_pos (.inr ⟨rfl, hw⟩)] at HF2
            go_wp2_with (go_at_call 173; refine (HW.out _ HB1.out key).mono ?_; rintro e w2 ⟨rfl, hb2⟩; have HB2 := Lib.hid (HB1.out.trans (hb2.mono HB1.out.size)); have hd0 := (hb2.cell (cell_lt hc0)).trans hc0; have hd1 := (hb2.cell (cell_lt hc1)).trans hc1; clear hb2)
            go_roundw
            case rel => exact ⟨i + 1, key, by omega, rfl, by go_num, HF2.out, HB2.out⟩
            case measure => simp [intOf]; omega
          · have heq : ((ways key).toList == h.toList) = false := by rw [str_beq]; exact decide_eq_false hw
            rw [if_neg (by rintro (e | ⟨-, e⟩); exact h3 e; exact hw e), if_neg (by rintro ⟨e, -⟩; exact absurd e (by decide))] at HF2
            go_wp2_with (go_at_call 173; refine (HW.out _ HB1.out key).mono ?_; rintro e w2 ⟨rfl, hb2⟩; have HB2 := Lib.hid (HB1.out.trans (hb2.mono HB1.out.size)); have hd0 := (hb2.cell (cell_lt hc0)).trans hc0; have hd1 := (hb2.cell (cell_lt hc1)).trans hc1; clear hb2)
            (try simp only [Exit.inBlock, Exit.then])
            refine bodyPost_ret (results_tmp2 rfl _ _ _) rfl ?_
            exact ⟨by rw [← HF2.out]; rfl, HB2.out⟩
        · by_cases h1 : kd = 1
          · subst h1
            by_cases hk : key = h
            · have heq : (key.toList == h.toList) = true := by rw [str_beq]; exact decide_eq_true hk
              rw [if_neg (by rintro (e | ⟨e, -⟩); exact h3 e; exact h2 e), if_pos ⟨rfl, hk⟩] at HF2
              go_wp2_with (go_at_call 173; refine (HW.out _ HB1.out h).mono ?_; rintro e w2 ⟨rfl, hb2⟩; have HB2 := Lib.hid (HB1.out.trans (hb2.mono HB1.out.size)); have hd0 := (hb2.cell (cell_lt hc0)).trans hc0; have hd1 := (hb2.cell (cell_lt hc1)).trans hc1; clear hb2)
              go_roundw
              case rel => exact ⟨i + 1, ways h, by omega, rfl, by go_num, HF2.out, HB2.out⟩
              case measure => simp [intOf]; omega
            · have heq : (key.toList == h.toList) = false := by rw [str_beq]; exact decide_eq_false hk
              rw [if_neg (by rintro (e | ⟨e, -⟩); exact h3 e; exact h2 e), if_neg (by rintro ⟨-, e⟩; exact hk e)] at HF2
              go_wp2
              (try simp only [Exit.inBlock, Exit.then])
              refine bodyPost_ret (results_tmp2 rfl _ _ _) rfl ?_
              exact ⟨by rw [← HF2.out]; rfl, HB1.out⟩
          · rw [if_neg (by rintro (e | ⟨e, -⟩); exact h3 e; exact h2 e), if_neg (by rintro ⟨e, -⟩; exact h1 e)] at HF2
            go_wp2
            (try simp only [Exit.inBlock, Exit.then])
            refine bodyPost_ret (results_tmp2 rfl _ _ _) rfl ?_
            exact ⟨by rw [← HF2.out]; rfl, HB1.out⟩
    · have hie : i = evs.length := by omega
      subst hie
      have hr : r = some h := by rw [← HF.out, List.drop_length]; rfl
      subst hr
      go_wp2
      (try simp only [Exit.inBlock, Exit.then])
      refine bodyPost_ret (results_tmp2 rfl _ _ _) rfl ?_
      exact ⟨rfl, HB.out⟩
end Go.Proofs.YtpehmlfghddnaaaGreatDoor
namespace Go.Proofs.YtpehmlfghddnaaaGreatDoor
open Go.RowKit Go.Maps
theorem exec_nil {P : Program} {o : Oper} {a : Act} {w : World} (t e T : TypeId) (px : Operand) (ho : o.op = .binOp .eql t px (.const (.slice none 0 0)) T) (A : Option Addr) (n c : Nat) (hx : a.eval px = .slice A n c) (hu : P.underlying t = some (.slice e)) :
    (execOp a.eval o).run P w = .ok (.value (.bool A.isNone)) w := by
  have h1 := Go.run_equal_slice_nil (P := P) w t e A n c hu
  have h2 : a.eval (.const (.slice none 0 0)) = .slice none 0 0 := rfl
  unfold execOp
  simp only [ho, hx, h2, eqGuard, binOp]
  simp [h1]
end Go.Proofs.YtpehmlfghddnaaaGreatDoor
namespace Go.Proofs.YtpehmlfghddnaaaGreatDoor
open Go.RowKit Go.Maps

theorem named_small {L : List LRH} (h : ∀ y ∈ L, TellH y.h) {ns : List ByteArray} (hn : NamedIn L ns) : ns.length ≤ 1000 ∧ ∀ s ∈ ns, s.size ≤ 1000000 := by
  obtain ⟨b, hb, ⟨rfl, -⟩ | rfl⟩ := hn
  · exact ⟨by have := (h b hb).parents; omega, fun s hs => Nat.le_trans ((h b hb).names s hs) (by decide)⟩
  · refine ⟨by simp, fun s hs => ?_⟩
    rw [List.mem_singleton.1 hs, (rid b.h).2]
    decide

set_option maxRecDepth 100000 in
set_option maxHeartbeats 1000000 in
theorem refuses_any (w : World) (t : Value) (l : List LSD) (ok ok' : Nat → Prop) (hl : Sl sdE ok w t l) (hf : ∀ y ∈ l, y.At ok' w ∧ SeedOk y.s) (ht : Tab w) (xf xt kd : Int) (key : ByteArray) (hgt : Int) :
    Calls Tryz.prog 12 #[.agg #[t, .int .i64 xf, .int .i64 xt, .int .i64 kd, .string key, .int .i64 hgt]] w fun e w' => e = .returned (.bool true) ∧ Below w.heap.size w w' := by
  obtain ⟨A, c, rfl, hc, hm⟩ := hl.form
  have hb0 : Below w.heap.size w (w.alloc (.cells #[.slice A l.length c, .int .i64 xf, .int .i64 xt, .int .i64 kd, .string key, .int .i64 hgt] 123)) := (Below.refl _ w).alloc (Nat.le_refl _) _
  have HL := Lib.hid hl
  have HF := Lib.hid hf
  have HT := Lib.hid ht
  have HB0 := Lib.hid hb0
  have HG0 : Hid ((w.alloc (.cells #[.slice A l.length c, .int .i64 xf, .int .i64 xt, .int .i64 kd, .string key, .int .i64 hgt] 123)).heap[w.heap.size]? = some (.cells #[.slice A l.length c, .int .i64 xf, .int .i64 xt, .int .i64 kd, .string key, .int .i64 hgt] 123 (0, 0))) := Lib.hid (heap_alloc_new w _)
  clear hl hf ht hb0 hc hm
  go_enter Tryz.func12, Tryz.ntmps12
  go_upto_region 1 with fail
  generalize w.alloc (.cells #[.slice A l.length c, .int .i64 xf, .int .i64 xt, .int .i64 kd, .string key, .int .i64 hgt] 123) = W0 at HB0 HG0 ⊢
  go_upto_region 3 with (go_at_call 79; refine (awake23_any _ (HT.out.below HB0.out)).mono ?_; rintro e w1 ⟨rfl, hb1⟩; have HB1 := Lib.hid (HB0.out.trans (hb1.mono HB0.out.size)); have HG1 := Lib.hid ((hb1.block _ (Array.getElem?_eq_some_iff.1 HG0.out).1).trans HG0.out); clear hb1)
  clear HB0 HG0
  refine st_ (S := (fun W' => Below w1.heap.size w1 W')) 13 #[false, false, false, false, false, false, false, false, false, false, false, false, false] (by kernel_rfl) rfl (by rfl) (Below.refl _ w1).drew (fun hHeld => ?_)
  refine tk_ 0 (some 17) #[true, false, false, false, false, false, false, false, false, false, false, false, false] (v := ?_) (a' := ?_) rfl rfl (by kernel_rfl) (fun _ _ _ h => h) (yieldsIf_run rfl ?_) hHeld ?_ ?_
  rotate_left
  · intro w'
    go_simp
    with_reducible rfl
  rotate_left
  · simp only [Act.put, List.setIfInBounds_toArray, List.set_cons_zero, List.set_cons_succ]
    rfl
  refine tk_ 1 (some 18) #[true, true, false, false, false, false, false, false, false, false, false, false, false] rfl rfl (by kernel_rfl) (fun _ _ _ h => h) (yieldsIf_cell rfl 40 (.tmp 17) rfl ⟨w.heap.size, 0, none⟩ rfl (.slice A l.length c) _ (fun W' h => (h.cell (Array.getElem?_eq_some_iff.1 HG1.out).1).trans (cell_block HG1.out rfl)) Tryz.underlying40 rfl) hHeld (a' := ?_) ?_ ?_
  rotate_left
  · simp only [Act.put, List.setIfInBounds_toArray, List.set_cons_zero, List.set_cons_succ]
    rfl
  refine tk_ 2 (some 19) #[true, true, true, false, false, false, false, false, false, false, false, false, false] (v := ?_) (a' := ?_) rfl rfl (by kernel_rfl) (fun _ _ _ h => h) (yieldsIf_run rfl ?_) hHeld ?_ ?_
  rotate_left
  · intro w'
    go_simp
    with_reducible rfl
  rotate_left
  · simp only [Act.put, List.setIfInBounds_toArray, List.set_cons_zero, List.set_cons_succ]
    rfl
  refine tk_ 3 (some 20) #[true, true, true, true, false, false, false, false, false, false, false, false, false] rfl rfl (by kernel_rfl) (fun _ _ _ h => h) (yieldsIf_cell rfl 3 (.tmp 19) rfl ⟨w.heap.size, 1, none⟩ rfl (.int .i64 xf) _ (fun W' h => (h.cell (Array.getElem?_eq_some_iff.1 HG1.out).1).trans (cell_block HG1.out rfl)) Tryz.underlying3 rfl) hHeld (a' := ?_) ?_ ?_
  rotate_left
  · simp only [Act.put, List.setIfInBounds_toArray, List.set_cons_zero, List.set_cons_succ]
    rfl
  refine tk_ 4 (some 21) #[true, true, true, true, true, false, false, false, false, false, false, false, false] (v := ?_) (a' := ?_) rfl rfl (by kernel_rfl) (fun _ _ _ h => h) (yieldsIf_run rfl ?_) hHeld ?_ ?_
  rotate_left
  · intro w'
    go_simp
    with_reducible rfl
  rotate_left
  · simp only [Act.put, List.setIfInBounds_toArray, List.set_cons_zero, List.set_cons_succ]
    rfl
  refine tk_ 5 (some 22) #[true, true, true, true, true, true, false, false, false, false, false, false, false] rfl rfl (by kernel_rfl) (fun _ _ _ h => h) (yieldsIf_cell rfl 3 (.tmp 21) rfl ⟨w.heap.size, 2, none⟩ rfl (.int .i64 xt) _ (fun W' h => (h.cell (Array.getElem?_eq_some_iff.1 HG1.out).1).trans (cell_block HG1.out rfl)) Tryz.underlying3 rfl) hHeld (a' := ?_) ?_ ?_
  rotate_left
  · simp only [Act.put, List.setIfInBounds_toArray, List.set_cons_zero, List.set_cons_succ]
    rfl
  refine tk_ 6 (some 23) #[true, true, true, true, true, true, true, false, false, false, false, false, false] (v := ?_) (a' := ?_) rfl rfl (by kernel_rfl) (fun _ _ _ h => h) (yieldsIf_run rfl ?_) hHeld ?_ ?_
  rotate_left
  · intro w'
    go_simp
    with_reducible rfl
  rotate_left
  · simp only [Act.put, List.setIfInBounds_toArray, List.set_cons_zero, List.set_cons_succ]
    rfl
  refine tk_ 7 (some 24) #[true, true, true, true, true, true, true, true, false, false, false, false, false] rfl rfl (by kernel_rfl) (fun _ _ _ h => h) (yieldsIf_load rfl 117 (.tmp 23) rfl w.heap.size 3 rfl [.int .i64 kd, .string key, .int .i64 hgt] _ (fun W' h j u hu => (h.cell (Array.getElem?_eq_some_iff.1 HG1.out).1).trans (cell_block HG1.out (by rcases j with _ | _ | _ | j <;> first | exact hu | cases hu))) Tryz.underlying117 rfl ev_size) hHeld (a' := ?_) ?_ ?_
  rotate_left
  · simp only [Act.put, List.setIfInBounds_toArray, List.set_cons_zero, List.set_cons_succ]
    rfl
  have hHeld := (hHeld.alloc (Nat.le_refl _) (.cells #[.int .i64 0, .string ⟨#[]⟩, .int .i64 0] 117))
  refine val_ 8 (some 6) #[true, true, true, true, true, true, true, true, true, false, false, false, false] rfl rfl (by kernel_rfl) rfl ((.pointer (some ⟨w1.heap.size, 0, none⟩))) ((w1.drew.alloc (.cells #[.int .i64 0, .string ⟨#[]⟩, .int .i64 0] 117))) (by kernel_rfl) hHeld (a' := ?_) ?_ ?_
  rotate_left
  · simp only [Act.put, List.setIfInBounds_toArray, List.set_cons_zero, List.set_cons_succ]
    rfl
  refine tk_ 9 (some 3) #[true, true, true, true, true, true, true, true, true, true, false, false, false] (v := ?_) (a' := ?_) rfl rfl (by kernel_rfl) (fun _ _ _ h => h) (yieldsIf_run rfl ?_) hHeld ?_ ?_
  rotate_left
  · intro w'
    go_simp
    with_reducible rfl
  rotate_left
  · simp only [Act.put, List.setIfInBounds_toArray, List.set_cons_zero, List.set_cons_succ]
    rfl
  refine tk_ 10 (some 4) #[true, true, true, true, true, true, true, true, true, true, true, false, false] (v := ?_) (a' := ?_) rfl rfl (by kernel_rfl) (fun _ _ _ h => h) (yieldsIf_run rfl ?_) hHeld ?_ ?_
  rotate_left
  · intro w'
    go_simp
    with_reducible rfl
  rotate_left
  · simp only [Act.put, List.setIfInBounds_toArray, List.set_cons_zero, List.set_cons_succ]
    rfl
  refine tk_ 11 (some 5) #[true, true, true, true, true, true, true, true, true, true, true, true, false] (v := ?_) (a' := ?_) rfl rfl (by kernel_rfl) (fun _ _ _ h => h) (yieldsIf_run rfl ?_) hHeld ?_ ?_
  rotate_left
  · intro w'
    go_simp
    with_reducible rfl
  rotate_left
  · simp only [Act.put, List.setIfInBounds_toArray, List.set_cons_zero, List.set_cons_succ]
    rfl
  have hHeld := ((Below.refl _ w1).drew.alloc (Nat.le_refl _) (.cells #[.int .i64 kd, .string key, .int .i64 hgt] 117))
  refine sk_ 12 #[true, true, true, true, true, true, true, true, true, true, true, true, true] rfl rfl (by kernel_rfl) rfl ((w1.drew.alloc (.cells #[.int .i64 kd, .string key, .int .i64 hgt] 117))) (exec_store_new (W := w1.drew) 117 (.tmp 6) (.tmp 24) rfl rfl [.int .i64 kd, .string key, .int .i64 hgt] rfl #[.int .i64 0, .string ⟨#[]⟩, .int .i64 0] 117 rfl (evE.one ⟨kd, key, hgt⟩) ev_size) hHeld ?_
  refine wpAnyH_done (by kernel_rfl) ?_ _
  change Exit.then _ _ _ _ _
  have HX : Hid (Below w.heap.size w (w1.drew.alloc (.cells #[.int .i64 kd, .string key, .int .i64 hgt] 117)) ∧ (w1.drew.alloc (.cells #[.int .i64 kd, .string key, .int .i64 hgt] 117)).heap[w1.heap.size]? = some (.cells #[.int .i64 kd, .string key, .int .i64 hgt] 117 (0, 0)) ∧ w.heap.size ≤ w1.heap.size) := Lib.hid ⟨HB1.out.drew.alloc HB1.out.size _, heap_alloc_new w1.drew _, HB1.out.size⟩
  generalize w1.drew.alloc (.cells #[.int .i64 kd, .string key, .int .i64 hgt] 117) = W4 at HX ⊢
  generalize w1.heap.size = ge at HX ⊢
  clear HG1 HB1
  go_upto_region 5 with (go_at_call 64; refine (made_any2 W4 _ l ok ok' (HL.out.below HX.out.1) (fun y hy => ⟨(HF.out y hy).1.below HX.out.1, (HF.out y hy).2⟩) 12 (by decide) (HT.out.below HX.out.1)).mono ?_; rintro e w5 ⟨p, b1, b2, D, vh, hs, vl, L, va, all, rfl, hmd, -, hva, hall, hpos, hlen⟩; have HLS := Lib.hid (show Sl rbE (fun k => W4.heap.size ≤ k) w5 vl L ∧ (∀ y ∈ L, y.At (fun k => W4.heap.size ≤ k) w5) ∧ 0 < L.length ∧ (∀ y ∈ L, TellH y.h) from ⟨hmd.list, hmd.lat, hmd.both.pos, fun y hy => (hmd.both.inl y hy).2⟩); have HAL := Lib.hid (And.intro hva (And.intro hall (And.intro hpos hlen))); have HSZ := Lib.hid hmd.below.size; have HB5 := Lib.hid (HX.out.1.trans (hmd.below.mono HX.out.1.size)); have HG5 := Lib.hid ((hmd.below.block _ (Array.getElem?_eq_some_iff.1 HX.out.2.1).1).trans HX.out.2.1); clear hmd hva hall hpos hlen)
  have hge : ge < W4.heap.size := (Array.getElem?_eq_some_iff.1 HX.out.2.1).1
  have hgew : w.heap.size ≤ ge := HX.out.2.2
  obtain ⟨y0, hy0⟩ : ∃ y0, L[0]? = some y0 := ⟨_, List.getElem?_eq_getElem HLS.out.2.2.1⟩
  obtain ⟨Al, cl, rfl, -, -⟩ := HLS.out.1.form
  obtain ⟨bl, ol, rfl, -, -, -⟩ := HLS.out.1.at_ 0 y0 hy0
  clear HX hy0
  go_upto_region 8 with (first | (refine wpl_exec rfl _ (exec_nil 64 62 64 (.tmp 31) rfl (some ⟨bl, ol, none⟩) L.length cl rfl Tryz.underlying64) ?_) | go_at_call 90; refine (ways_any w5 _ rfl).mono ?_; rintro e w6 ⟨gb, rfl, hgb, hgc, hb6⟩; have hgb4 : W4.heap.size ≤ gb := Nat.le_trans HSZ.out hgb; have HGB := Lib.hid hgc; have HB6 := Lib.hid hb6; clear hgc hb6 hgb)
  have HPK := Lib.hid fun (x : Int) => pick_any w6 _ va all (HAL.out.1.below HB6.out) HAL.out.2.2.1.pos (by have := HAL.out.2.2.2; omega) x
  have HJN := Lib.hid fun (z : LNS) (hz : z ∈ all) => (show Calls Tryz.prog 51 #[z.v] w6 fun e w' => ∃ s : ByteArray, e = .returned (.string s) ∧ w6 = w' from (rjoin_any w6 z.v z.ns _ (Sl.below (HAL.out.2.1 z hz).1 HB6.out) (named_small HLS.out.2.2.2 (HAL.out.2.1 z hz).2).1 (named_small HLS.out.2.2.2 (HAL.out.2.1 z hz).2).2).mono fun e w' h => ⟨_, h⟩)
  go_upto_region 9 with (first
    | (go_at_call 83; refine (HPK.out _).mono ?_; rintro e w6b ⟨⟨z, hz, rfl⟩, rfl⟩)
    | (go_at_call 51; have HMK2 := HMK1; refine (HJN.out _ hz).mono ?_; rintro e w6b ⟨b, rfl, rfl⟩)
    | (go_at_call 51; refine (HJN.out _ hz).mono ?_; rintro e w6b ⟨a, rfl, rfl⟩; have HMK1 := Lib.hid trivial))
  have HG6 := Lib.hid ((HB6.out.block _ (Array.getElem?_eq_some_iff.1 HG5.out).1).trans HG5.out)
  go_upto_region 10 with (refine wpl_setC rfl 9 (.tmp 44) (.tmp 43) rfl ge 1 rfl (.string b) rfl rfl _ _ HG6.out (.string key) rfl s_size #[.int .i64 kd, .string b, .int .i64 hgt] rfl ?_)
  have HX : Hid (Below w.heap.size w (w6.setRow ge #[.int .i64 kd, .string b, .int .i64 hgt]) ∧ (w6.setRow ge #[.int .i64 kd, .string b, .int .i64 hgt]).heap[ge]? = some (.cells #[.int .i64 kd, .string b, .int .i64 hgt] 117 (0, 0)) ∧ (w6.setRow ge #[.int .i64 kd, .string b, .int .i64 hgt]).cell? ⟨gb, 0, none⟩ = some (.slice (some ⟨bl, ol, none⟩) L.length cl) ∧ Sl rbE (fun k => W4.heap.size ≤ k) (w6.setRow ge #[.int .i64 kd, .string b, .int .i64 hgt]) (.slice (some ⟨bl, ol, none⟩) L.length cl) L ∧ ∀ y ∈ L, y.At (fun k => W4.heap.size ≤ k) (w6.setRow ge #[.int .i64 kd, .string b, .int .i64 hgt])) := Lib.hid (by
    have hf : Fr (fun k => W4.heap.size ≤ k) w6 (w6.setRow ge #[.int .i64 kd, .string b, .int .i64 hgt]) := ⟨by simp, fun k hk _ => heap_setRow_ne _ _ _ _ (by omega)⟩
    exact ⟨below_setRow (HB5.out.trans (HB6.out.mono HB5.out.size)) hgew _, setRow_heap _ _ _ _ _ _ HG6.out, (cell_setRow_other _ _ _ _ (show gb ≠ ge by omega)).trans HGB.out, (HLS.out.1.below HB6.out).fr hf, fun y hy => Sl.fr (Sl.below (HLS.out.2.1 y hy) HB6.out) hf⟩)
  have HTL := Lib.hid HLS.out.2.2.2
  generalize w6.setRow ge #[.int .i64 kd, .string b, .int .i64 hgt] = W9 at HX ⊢
  clear HLS HAL HPK HJN HG5 HG6 HGB HB5 HB6
  have HCX : Hid (∀ (j : Nat) (u : Value), [Value.int .i64 kd, .string b, .int .i64 hgt][j]? = some u → W9.cell? ⟨ge, 0 + j, none⟩ = some u) := Lib.hid fun j u hu => cell_block HX.out.2.1 (by rcases j with _ | _ | _ | j <;> first | exact hu | cases hu)
  have hba : Below W9.heap.size W9 (W9.alloc (.cells #[.int .i64 kd, .string b, .int .i64 hgt] 117)) := (Below.refl _ _).alloc (Nat.le_refl _) _
  have HFO := Lib.hid (fold_any (W9.alloc (.cells #[.int .i64 kd, .string b, .int .i64 hgt] 117)) gb _ L _ ((hba.cell (cell_lt HX.out.2.2.1)).trans HX.out.2.2.1) (HX.out.2.2.2.1.below hba) (fun y hy => Sl.below (HX.out.2.2.2.2 y hy) hba) HTL.out a (.slice (some ⟨W9.heap.size, 0, none⟩) 1 1) [⟨kd, b, hgt⟩] _ (Sl.of_block (E := evE) (ys := [⟨kd, b, hgt⟩]) (heap_alloc_new W9 _) rfl rfl (Nat.le_refl _) (by omega)))
  have HWY := Lib.hid fun (W : World) (hb : Below W9.heap.size W9 W) (k : ByteArray) => ways1_any W gb _ L _ ((hb.cell (cell_lt HX.out.2.2.1)).trans HX.out.2.2.1) (HX.out.2.2.2.1.below hb) (fun y hy => Sl.below (HX.out.2.2.2.2 y hy) hb) HTL.out k
  obtain ⟨ways, hways⟩ : ∃ f, wayB (rhs L) = f := ⟨_, rfl⟩
  rw [hways] at HFO HWY
  obtain ⟨r, hr⟩ : ∃ r, foldE ways a [⟨kd, b, hgt⟩] = r := ⟨_, rfl⟩
  rw [hr] at HFO
  have HRR : Hid (r = if kd = 3 ∨ (kd = 2 ∧ ways b = a) then some b else if kd = 1 ∧ b = a then some (ways a) else none) := Lib.hid hr.symm
  have HBA := Lib.hid hba
  clear hways hr hba
  go_upto_region 11 with (first
    | (refine wpl_load rfl 117 (.tmp 6) rfl ge 0 rfl [.int .i64 kd, .string b, .int .i64 hgt] _ HCX.out Tryz.underlying117 rfl ev_size ?_)
    | (refine wpl_slice1 rfl 109 117 (.tmp 48) rfl #[.int .i64 kd, .string b, .int .i64 hgt] rfl _ 3 32 Tryz.underlying109 ev_info evZ_cells rfl (by decide) (by decide) ?_)
    | (go_at_call 91; refine HFO.out.mono ?_; rintro e w11 ⟨rfl, hb11⟩; have HB11 := Lib.hid (HBA.out.trans (hb11.mono HBA.out.size)); clear hb11))
  have HBW := Lib.hid (HX.out.1.trans (HB11.out.mono HX.out.1.size))
  have hck : w11.cell? ⟨ge, 0, none⟩ = some (.int .i64 kd) := (HB11.out.cell (cell_lt (HCX.out 0 _ rfl))).trans (HCX.out 0 _ rfl)
  clear HX HCX HFO HTL HBA
  have hbb : (b.toList == b.toList) = true := by rw [str_beq]; exact decide_eq_true rfl
  have hee : ((⟨#[]⟩ : ByteArray).toList == (⟨#[]⟩ : ByteArray).toList) = true := by rw [str_beq]; exact decide_eq_true rfl
  by_cases h3 : kd = 3
  · subst h3
    obtain rfl : r = some b := by rw [HRR.out]; exact if_pos (.inl rfl)
    clear HRR
    go_wp2
    go_ret
    exact ⟨rfl, HBW.out⟩
  by_cases h2 : kd = 2
  · subst h2
    by_cases hw : ways b = a
    · have heq : ((ways b).toList == a.toList) = true := by rw [str_beq]; exact decide_eq_true hw
      obtain rfl : r = some b := by rw [HRR.out]; exact if_pos (.inr ⟨rfl, hw⟩)
      clear HRR
      go_wp2_with (go_at_call 173; refine (HWY.out _ HB11.out _).mono ?_; rintro e w12 ⟨rfl, hb12⟩; have HBZ := Lib.hid (HBW.out.trans (hb12.mono HBW.out.size)); clear hb12)
      go_ret
      exact ⟨rfl, HBZ.out⟩
    · have heq : ((ways b).toList == a.toList) = false := by rw [str_beq]; exact decide_eq_false hw
      obtain rfl : r = none := by rw [HRR.out, if_neg (by rintro (e | ⟨-, e⟩); exact h3 e; exact hw e), if_neg (by rintro ⟨e, -⟩; exact absurd e (by decide))]
      clear HRR
      go_wp2_with (go_at_call 173; refine (HWY.out _ HB11.out _).mono ?_; rintro e w12 ⟨rfl, hb12⟩; have HBZ := Lib.hid (HBW.out.trans (hb12.mono HBW.out.size)); clear hb12)
      go_ret
      exact ⟨rfl, HBZ.out⟩
  by_cases h1 : kd = 1
  · subst h1
    by_cases hk : b = a
    · subst hk
      have hww : ((ways b).toList == (ways b).toList) = true := by rw [str_beq]; exact decide_eq_true rfl
      obtain rfl : r = some (ways b) := by rw [HRR.out, if_neg (by rintro (e | ⟨e, -⟩); exact h3 e; exact h2 e), if_pos ⟨rfl, rfl⟩]
      clear HRR
      go_wp2_with (go_at_call 173; refine (HWY.out _ HB11.out _).mono ?_; rintro e w12 ⟨rfl, hb12⟩; have HBZ := Lib.hid (HBW.out.trans (hb12.mono HBW.out.size)); clear hb12)
      go_ret
      exact ⟨rfl, HBZ.out⟩
    · have heq : (a.toList == b.toList) = false := by rw [str_beq]; exact decide_eq_false fun e => hk e.symm
      obtain rfl : r = none := by rw [HRR.out, if_neg (by rintro (e | ⟨e, -⟩); exact h3 e; exact h2 e), if_neg (by rintro ⟨-, e⟩; exact hk e)]
      clear HRR
      go_wp2
      go_ret
      exact ⟨rfl, HBW.out⟩
  obtain rfl : r = none := by rw [HRR.out, if_neg (by rintro (e | ⟨e, -⟩); exact h3 e; exact h2 e), if_neg (by rintro ⟨e, -⟩; exact h1 e)]
  clear HRR
  go_wp2
  go_ret
  exact ⟨rfl, HBW.out⟩
end Go.Proofs.YtpehmlfghddnaaaGreatDoor
