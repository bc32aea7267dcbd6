/- coxswainlaw23.Ways: the key of a tipset's parents, by the document's blocks. feed.Fold, over the document's ways. The head behind a move's events, in plain words. A slice is asked whether it is none. coxswainlaw23.FeedRefuses. -/
import Derived.Test.YtpehmlfghddnaaaGreatDoorFoBD
import Derived.Test.YtpehmlfghddnaaaGreatDoorFoBI
import Derived.Laws.Cover3
namespace Go.Proofs.YtpehmlfghddnaaaGreatDoor
open Go.RowKit Go.Maps

/-- The key of the parents of the block that a key begins with. -/
def wayB (R : List RH) (key : ByteArray) : ByteArray :=
  if key.size < 32 then ⟨#[]⟩ else match rget R (key.extract 0 32) with | some h => ⟨(joinS h.parents).toArray⟩ | none => ⟨#[]⟩

set_option maxRecDepth 100000 in
set_option maxHeartbeats 2000000 in
theorem ways1_any (w : World) (gb : Nat) (vl : Value) (L : List LRH) (ok : Nat → Prop) (hg : w.cell? ⟨gb, 0, none⟩ = some vl) (hl : Sl rbE ok w vl L) (hat : ∀ y ∈ L, y.At ok w) (htl : ∀ y ∈ L, TellH y.h) (key : ByteArray) :
    Calls Tryz.prog 173 #[.string key, .pointer (some ⟨gb, 0, none⟩)] w fun e w' => e = .returned (.string (wayB (rhs L) key)) ∧ Below w.heap.size w w' := by
  obtain ⟨A, c, rfl, hc, hm⟩ := hl.form
  have HL := Lib.hid hl
  have HA := Lib.hid hat
  have HTL := Lib.hid htl
  by_cases hks32 : key.size < 32
  · have hr : wayB (rhs L) key = ⟨#[]⟩ := by unfold wayB; rw [if_pos hks32]
    rw [hr]
    clear hl hat htl hr
    go_enter Tryz.func173, Tryz.ntmps173
    go_wp2
    go_ret
    exact ⟨rfl, Below.refl _ _⟩
  obtain ⟨n, hn⟩ : ∃ n, key.extract 0 32 = n := ⟨_, rfl⟩
  have HFI := Lib.hid fun (W : World) (hb : Below w.heap.size w W) => rfind_any W _ L ok (hl.below hb) n
  clear hl hat htl
  obtain ⟨r, hr⟩ : ∃ r, wayB (rhs L) key = r := ⟨_, rfl⟩
  rw [hr]
  have HR : Hid (r = match rget (rhs L) n with | some h => ⟨(joinS h.parents).toArray⟩ | none => ⟨#[]⟩) := Lib.hid (by rw [← hr, ← hn]; unfold wayB; rw [if_neg hks32])
  clear hr
  go_enter Tryz.func173, Tryz.ntmps173
  go_upto_region 3 with fail
  refine st_ (S := (fun W' => Below w.heap.size w W')) 5 #[false, false, false, false, false] (by kernel_rfl) rfl (by rfl) (Below.refl _ w).drew (fun hHeld => ?_)
  refine tk_ 0 (some 8) #[true, false, false, false, false] rfl rfl (by kernel_rfl) (fun _ _ _ h => h) (yieldsIf_cell rfl 64 (.tmp 1) rfl ⟨gb, 0, none⟩ rfl (.slice A L.length c) _ (fun W' h => (h.cell (cell_lt hg)).trans hg) Tryz.underlying64 rfl) hHeld (a' := ?_) ?_ ?_
  rotate_left
  · simp only [Act.put, List.setIfInBounds_toArray, List.set_cons_zero, List.set_cons_succ]
    rfl
  refine tk_ 1 (some 9) #[true, true, false, false, false] (v := ?_) (a' := ?_) rfl rfl (by kernel_rfl) (fun _ _ _ h => h) (yieldsIf_run rfl ?_) hHeld ?_ ?_
  rotate_left
  · intro w'
    go_simp
    with_reducible rfl
  rotate_left
  · simp only [Act.put, List.setIfInBounds_toArray, List.set_cons_zero, List.set_cons_succ]
    rfl
  refine tk_ 2 (some 10) #[true, true, true, false, false] rfl rfl (by kernel_rfl) (fun _ _ _ h => h) (yieldsIf_run (v := .string n) rfl fun W' => by rw [← hn]; go_simp) hHeld (a' := ?_) ?_ ?_
  rotate_left
  · simp only [Act.put, List.setIfInBounds_toArray, List.set_cons_zero, List.set_cons_succ]
    rfl
  refine call_ 3 (some 11) #[true, true, true, true, false] rfl rfl (by kernel_rfl) rfl 149 _ (by kernel_rfl) (HFI.out _ hHeld) ?_
  rintro e w1 ⟨k, rfl, hk, hb1⟩
  have HB1 := Lib.hid (hHeld.trans (hb1.mono hHeld.size))
  have HK := Lib.hid hk
  refine ⟨_, rfl, HB1.out, fun hHeld => ⟨?_, ?_, ?_⟩⟩
  rotate_left
  · simp only [Act.put, List.setIfInBounds_toArray, List.set_cons_zero, List.set_cons_succ]
    rfl
  refine tk_ 4 (some 4) #[true, true, true, true, true] (v := ?_) (a' := ?_) rfl rfl (by kernel_rfl) (fun _ _ _ h => h) (yieldsIf_run rfl ?_) hHeld ?_ ?_
  rotate_left
  · intro w'
    go_simp
    with_reducible rfl
  rotate_left
  · simp only [Act.put, List.setIfInBounds_toArray, List.set_cons_zero, List.set_cons_succ]
    rfl
  refine wpAnyH_done (by kernel_rfl) ?_ _
  change Exit.then _ _ _ _ _
  have hg1 : w1.cell? ⟨gb, 0, none⟩ = some (.slice A L.length c) := (HB1.out.cell (cell_lt hg)).trans hg
  rcases HK.out with ⟨rfl, hh⟩ | ⟨i, x, rfl, hx, hgt, -⟩
  · have hr : r = ⟨#[]⟩ := by rw [HR.out, rget_none hh]
    subst hr
    clear HR HK hh
    go_wp2
    go_ret
    exact ⟨rfl, HB1.out⟩
  · have hr : r = ⟨(joinS x.h.parents).toArray⟩ := by rw [HR.out, hgt]
    subst hr
    have hxm := List.mem_of_getElem? hx
    have hil := (List.getElem?_eq_some_iff.1 hx).1
    obtain ⟨b, off, rfl, -, -, hcx⟩ := (HL.out.below HB1.out).at_ i x hx
    have hc6 : w1.cell? ⟨b, off + i * 8 + 6, none⟩ = some (.slice x.A x.h.parents.length x.c) := hcx 6 _ rfl
    have HJ := Lib.hid (rjoin_any w1 _ _ ok (Sl.below (HA.out x hxm) HB1.out) (by have := (HTL.out x hxm).parents; omega) fun s hs => Nat.le_trans ((HTL.out x hxm).names s hs) (by decide))
    clear HR HK hx hgt hcx hxm
    go_wp2_with (first
      | (refine wpl_get1 rfl 32 (.tmp 18) rfl ⟨b, off + i * 8 + 6, none⟩ rfl _ _ hc6 Tryz.underlying32 rfl ?_)
      | (go_at_call 51; refine HJ.out.mono ?_; rintro e w2 ⟨rfl, rfl⟩))
    go_ret
    exact ⟨rfl, HB1.out⟩

set_option maxRecDepth 100000 in
set_option maxHeartbeats 2000000 in
theorem ways_any (w : World) (vl : Value) (h1 : vl.oneCell' = true) :
    Calls Tryz.prog 90 #[vl] w fun e w' => ∃ gb, e = .returned (.func (.func 173) #[] #[.pointer (some ⟨gb, 0, none⟩)]) ∧ w.heap.size ≤ gb ∧ w'.cell? ⟨gb, 0, none⟩ = some vl ∧ Below w.heap.size w w' := by
  have HG : Hid ((w.alloc (.cells #[vl] 64)).cell? ⟨w.heap.size, 0, none⟩ = some vl) := Lib.hid (cell_block (heap_alloc_new w (.cells #[vl] 64)) rfl)
  go_enter Tryz.func90, Tryz.ntmps90
  go_wp2
  go_ret
  exact ⟨_, rfl, Nat.le_refl _, HG.out, (Below.refl _ w).alloc (Nat.le_refl _) _⟩
end Go.Proofs.YtpehmlfghddnaaaGreatDoor
namespace Go.Proofs.YtpehmlfghddnaaaGreatDoor
open Go.RowKit Go.Maps

/-- The head behind events. -/
def foldE (ways : ByteArray → ByteArray) : ByteArray → List Ev → Option ByteArray
  | h, [] => some h
  | h, x :: l => if x.kind = 3 ∨ (x.kind = 2 ∧ ways x.key = h) then foldE ways x.key l else if x.kind = 1 ∧ x.key = h then foldE ways (ways h) l else none

set_option maxRecDepth 100000 in
set_option maxHeartbeats 4000000 in
theorem fold_any (w : World) (gb : Nat) (vl : Value) (L : List LRH) (ok : Nat → Prop) (hg : w.cell? ⟨gb, 0, none⟩ = some vl) (hl : Sl rbE ok w vl L) (hat : ∀ y ∈ L, y.At ok w) (htl : ∀ y ∈ L, TellH y.h) (head : ByteArray) (v : Value) (evs : List Ev) (oke : Nat → Prop) (he : Sl evE oke w v evs) :
    Calls Tryz.prog 91 #[.func (.func 173) #[] #[.pointer (some ⟨gb, 0, none⟩)], .string head, v] w fun e w' => e = .returned (.tuple #[.string ((foldE (wayB (rhs L)) head evs).getD ⟨#[]⟩), .bool (foldE (wayB (rhs L)) head evs).isSome]) ∧ Below w.heap.size w w' := by
  obtain ⟨A, c, rfl, hc, hm⟩ := he.form
  have HE := Lib.hid he
  obtain ⟨ways, hways⟩ : ∃ f, wayB (rhs L) = f := ⟨_, rfl⟩
  have HW := Lib.hid fun (W : World) (hb : Below w.heap.size w W) (key : ByteArray) => (show Calls Tryz.prog 173 #[.string key, .pointer (some ⟨gb, 0, none⟩)] W fun e w' => e = .returned (.string (ways key)) ∧ Below W.heap.size W w' from by
    rw [← hways]
    exact ways1_any W gb vl L ok ((hb.cell (cell_lt hg)).trans hg) (hl.below hb) (fun y hy => Sl.below (hat y hy) hb) htl key)
  rw [hways]
  clear he hl hat htl hways hg
  obtain ⟨r, hr⟩ : ∃ r, foldE ways head evs = r := ⟨_, rfl⟩
  rw [hr]
  have HR := Lib.hid hr
  clear hr
  go_enter Tryz.func91, Tryz.ntmps91
  go_wp2
  go_loopw [1, 12] (fun c1 c12 W => ∃ (i : Nat) (h : ByteArray), i ≤ evs.length ∧ c1 = .string h ∧ c12 = .int .i64 (i : Int) ∧ foldE ways h (evs.drop i) = r ∧ Below w.heap.size w W) (fun _ c12 _ => evs.length - (intOf c12).toNat)
  case atStart => exact ⟨0, head, by omega, rfl, rfl, HR.out, Below.refl _ _⟩
  case round =>
    obtain ⟨i, h, hi, rfl, rfl, hf, hB⟩ := hrel
    have HF := Lib.hid hf
    have HB := Lib.hid hB
    clear hf hB HR
    by_cases hil : i < evs.length
    · obtain ⟨x, hx⟩ : ∃ x, evs[i]? = some x := ⟨_, List.getElem?_eq_getElem hil⟩
      obtain ⟨b, off, rfl, -, -, hcx⟩ := (HE.out.below HB.out).at_ i x hx
      obtain ⟨kd, key, ht⟩ := x
      have HCX : Hid (∀ (j : Nat) (u : Value), [Value.int .i64 kd, .string key, .int .i64 ht][j]? = some u → wr.cell? ⟨b, off + i * 3 + j, none⟩ = some u) := Lib.hid fun j u hu => hcx j u hu
      have hdr : evs.drop i = ⟨kd, key, ht⟩ :: evs.drop (i + 1) := by
        rw [List.drop_eq_getElem_cons hil]
        rw [List.getElem?_eq_getElem hil] at hx
        rw [Option.some.inj hx]
      rw [hdr] at HF
      have HF2 : Hid ((if kd = 3 ∨ (kd = 2 ∧ ways key = h) then foldE ways key (evs.drop (i + 1)) else if kd = 1 ∧ key = h then foldE ways (ways h) (evs.drop (i + 1)) else none) = r) := Lib.hid HF.out
      have hgn := heap_alloc_new wr (.cells #[.int .i64 kd, .string key, .int .i64 ht] 117)
      have hc0 : (wr.alloc (.cells #[.int .i64 kd, .string key, .int .i64 ht] 117)).cell? ⟨wr.heap.size, 0, none⟩ = some (.int .i64 kd) := cell_block hgn rfl
      have hc1 : (wr.alloc (.cells #[.int .i64 kd, .string key, .int .i64 ht] 117)).cell? ⟨wr.heap.size, 1, none⟩ = some (.string key) := cell_block hgn rfl
      have HB1 : Hid (Below w.heap.size w (wr.alloc (.cells #[.int .i64 kd, .string key, .int .i64 ht] 117))) := Lib.hid (HB.out.alloc HB.out.size _)
      clear hcx hdr hx HF hgn
      go_upto_region 5 with (first
        | (refine wpl_load rfl 117 (.tmp 14) rfl b _ rfl [.int .i64 kd, .string key, .int .i64 ht] _ HCX.out Tryz.underlying117 rfl ev_size ?_)
        | (refine wpl_store_new rfl 117 _ _ rfl rfl [.int .i64 kd, .string key, .int .i64 ht] rfl _ _ rfl (evE.one ⟨kd, key, ht⟩) ev_size ?_))
      generalize wr.alloc (.cells #[.int .i64 kd, .string key, .int .i64 ht] 117) = W1 at hc0 hc1 HB1 ⊢
      generalize wr.heap.size = ge at hc0 hc1 ⊢
      clear HCX HB
      by_cases h3 : kd = 3
      · subst h3
        rw [if_pos (.inl rfl)] at HF2
        go_wp2
        go_roundw
        case rel => exact ⟨i + 1, key, by omega, rfl, by go_num, HF2.out, HB1.out⟩
        case measure => simp [intOf]; omega
      · by_cases h2 : kd = 2
        · subst h2
          by_cases hw : ways key = h
          · have heq : ((ways key).toList == h.toList) = true := by rw [str_beq]; exact decide_eq_true hw
            rw [if_pos (.inr ⟨rfl, hw⟩)] at HF2
            go_wp2_with (go_at_call 173; refine (HW.out _ HB1.out key).mono ?_; rintro e w2 ⟨rfl, hb2⟩; have HB2 := Lib.hid (HB1.out.trans (hb2.mono HB1.out.size)); have hd0 := (hb2.cell (cell_lt hc0)).trans hc0; have hd1 := (hb2.cell (cell_lt hc1)).trans hc1; clear hb2)
            go_roundw
            case rel => exact ⟨i + 1, key, by omega, rfl, by go_num, HF2.out, HB2.out⟩
            case measure => simp [intOf]; omega
          · have heq : ((ways key).toList == h.toList) = false := by rw [str_beq]; exact decide_eq_false hw
            rw [if_neg (by rintro (e | ⟨-, e⟩); exact h3 e; exact hw e), if_neg (by rintro ⟨e, -⟩; exact absurd e (by decide))] at HF2
            go_wp2_with (go_at_call 173; refine (HW.out _ HB1.out key).mono ?_; rintro e w2 ⟨rfl, hb2⟩; have HB2 := Lib.hid (HB1.out.trans (hb2.mono HB1.out.size)); have hd0 := (hb2.cell (cell_lt hc0)).trans hc0; have hd1 := (hb2.cell (cell_lt hc1)).trans hc1; clear hb2)
            (try simp only [Exit.inBlock, Exit.then])
            refine bodyPost_ret (results_tmp2 rfl _ _ _) rfl ?_
            exact ⟨by rw [← HF2.out]; rfl, HB2.out⟩
        · by_cases h1 : kd = 1
          · subst h1
            by_cases hk : key = h
            · have heq : (key.toList == h.toList) = true := by rw [str_beq]; exact decide_eq_true hk
              rw [if_neg (by rintro (e | ⟨e, -⟩); exact h3 e; exact h2 e), if_pos ⟨rfl, hk⟩] at HF2
              go_wp2_with (go_at_call 173; refine (HW.out _ HB1.out h).mono ?_; rintro e w2 ⟨rfl, hb2⟩; have HB2 := Lib.hid (HB1.out.trans (hb2.mono HB1.out.size)); have hd0 := (hb2.cell (cell_lt hc0)).trans hc0; have hd1 := (hb2.cell (cell_lt hc1)).trans hc1; clear hb2)
              go_roundw
              case rel => exact ⟨i + 1, ways h, by omega, rfl, by go_num, HF2.out, HB2.out⟩
              case measure => simp [intOf]; omega
            · have heq : (key.toList == h.toList) = false := by rw [str_beq]; exact decide_eq_false hk
              rw [if_neg (by rintro (e | ⟨e, -⟩); exact h3 e; exact h2 e), if_neg (by rintro ⟨-, e⟩; exact hk e)] at HF2
              go_wp2
              (try simp only [Exit.inBlock, Exit.then])
              refine bodyPost_ret (results_tmp2 rfl _ _ _) rfl ?_
              exact ⟨by rw [← HF2.out]; rfl, HB1.out⟩
          · rw [if_neg (by rintro (e | ⟨e, -⟩); exact h3 e; exact h2 e), if_neg (by rintro ⟨e, -⟩; exact h1 e)] at HF2
            go_wp2
            (try simp only [Exit.inBlock, Exit.then])
            refine bodyPost_ret (results_tmp2 rfl _ _ _) rfl ?_
            exact ⟨by rw [← HF2.out]; rfl, HB1.out⟩
    · have hie : i = evs.length := by omega
      subst hie
      have hr : r = some h := by rw [← HF.out, List.drop_length]; rfl
      subst hr
      go_wp2
      (try simp only [Exit.inBlock, Exit.then])
      refine bodyPost_ret (results_tmp2 rfl _ _ _) rfl ?_
      exact ⟨rfl, HB.out⟩
end Go.Proofs.YtpehmlfghddnaaaGreatDoor
namespace Go.Proofs.YtpehmlfghddnaaaGreatDoor
open Go.RowKit Go.Maps

theorem fold_append {ways : ByteArray → ByteArray} : ∀ {l1 l2 : List Ev} {h : ByteArray}, foldE ways h (l1 ++ l2) = (foldE ways h l1).bind fun h' => foldE ways h' l2
  | [], l2, h => rfl
  | x :: l1, l2, h => by
    show (if x.kind = 3 ∨ (x.kind = 2 ∧ ways x.key = h) then foldE ways x.key (l1 ++ l2) else if x.kind = 1 ∧ x.key = h then foldE ways (ways h) (l1 ++ l2) else none) = (if x.kind = 3 ∨ (x.kind = 2 ∧ ways x.key = h) then foldE ways x.key l1 else if x.kind = 1 ∧ x.key = h then foldE ways (ways h) l1 else none).bind _
    split
    · exact fold_append
    · split
      · exact fold_append
      · rfl
/-- The way from a tipset's key is its parents' key. -/
theorem way_key {D : List LB} {L : List LRH} (hB : Both D L) {T : List ID} (hT : TipOf (hdrs D) T) : wayB (rhs L) (keyB T) = keyB (parG (hdrs D) T) := by
  obtain ⟨x, hx, hxm, l, hl⟩ := hT.head
  have hpar : parG (hdrs D) T = x.parents := by unfold parG; rw [hx]
  have hget : getG (hdrs D) (hdrID x) = some x := by rw [hl] at hx; exact hx
  have hkey : keyB T = ⟨(joinI T).toArray⟩ := keyB_rise hT.rise
  have hsz : (keyB T).size = T.length * 32 := by rw [hkey, ← joinI_length]; simp [ByteArray.size]
  have hlen : 1 ≤ T.length := by rw [hl]; simp
  have hex : (keyB T).extract 0 32 = (hdrID x).1 := by
    rw [hkey, extract_take, hl]
    have hz : (hdrID x).1.data.toList.length = 32 := by have := (hdrID x).2; simpa using this
    have : joinI (hdrID x :: l) = (hdrID x).1.data.toList ++ joinI l := by simp [joinI]
    rw [this, List.take_left' hz]
  have hrg : (rget (rhs L) (hdrID x).1).map hdrOf = some x := by
    rw [← get_of (rhs_inL hB.inl), ← hB.same]; exact hget
  obtain ⟨y, hy, hyx⟩ := Option.map_eq_some_iff.1 hrg
  have hI : InL y := rhs_inL hB.inl y (rget_some hy).1
  unfold wayB
  rw [if_neg (by omega), hex, hy, hpar]
  show (⟨(joinS y.parents).toArray⟩ : ByteArray) = keyB x.parents
  have hxp : x.parents = y.parents.map idOf := by rw [← hyx]; rfl
  rcases hB.good.parents x hxm with rfl | ⟨h1, -, -⟩
  · have : y.parents = [] := List.map_eq_nil_iff.1 hxp.symm
    rw [this]; rfl
  · rw [keyB_rise h1.rise, hxp, join_names hI.whole]
section
variable {G : List Hdr} {ways : ByteArray → ByteArray}
theorem fold_down (g : GoodG G) (hw : ∀ T, TipOf G T → ways (keyB T) = keyB (parG G T)) {C : List ID} {rest : List (List ID)} : ∀ (pre : List (List ID)) (A : List ID), TipOf G A → pre ++ C :: rest = chainG G A → foldE ways (keyB A) (pre.map (evOf G 1)) = some (keyB C)
  | [], A, hA, h => by
    rw [g.chain_step hA, List.nil_append, List.cons.injEq] at h
    rw [h.1]; rfl
  | x :: pre, A, hA, h => by
    rw [g.chain_step hA, List.cons_append, List.cons.injEq] at h
    obtain ⟨rfl, h⟩ := h
    have hp : TipOf G (parG G x) ∧ pre ++ C :: rest = chainG G (parG G x) := by
      rcases g.par hA with ⟨h0, -⟩ | ⟨h1, -, -⟩
      · rw [if_pos h0] at h; simp at h
      · rw [if_neg h1.ne] at h; exact ⟨h1, h⟩
    show (if (1 : Int) = 3 ∨ ((1 : Int) = 2 ∧ ways (keyB x) = keyB x) then foldE ways (keyB x) (pre.map (evOf G 1)) else if (1 : Int) = 1 ∧ keyB x = keyB x then foldE ways (ways (keyB x)) (pre.map (evOf G 1)) else none) = _
    rw [if_neg (by rintro (e | ⟨e, -⟩) <;> exact absurd e (by decide)), if_pos ⟨rfl, rfl⟩, hw x hA]
    exact fold_down g hw pre _ hp.1 hp.2
theorem fold_up (g : GoodG G) (hw : ∀ T, TipOf G T → ways (keyB T) = keyB (parG G T)) {C : List ID} {rest : List (List ID)} : ∀ (pre : List (List ID)) (B : List ID), TipOf G B → pre ++ C :: rest = chainG G B → foldE ways (keyB C) (pre.reverse.map (evOf G 2)) = some (keyB B)
  | [], B, hB, h => by
    rw [g.chain_step hB, List.nil_append, List.cons.injEq] at h
    rw [h.1]; rfl
  | x :: pre, B, hB, h => by
    rw [g.chain_step hB, List.cons_append, List.cons.injEq] at h
    obtain ⟨rfl, h⟩ := h
    have hp : TipOf G (parG G x) ∧ pre ++ C :: rest = chainG G (parG G x) := by
      rcases g.par hB with ⟨h0, -⟩ | ⟨h1, -, -⟩
      · rw [if_pos h0] at h; simp at h
      · rw [if_neg h1.ne] at h; exact ⟨h1, h⟩
    rw [List.reverse_cons, List.map_append, fold_append, fold_up g hw pre _ hp.1 hp.2]
    show (if (2 : Int) = 3 ∨ ((2 : Int) = 2 ∧ ways (keyB x) = keyB (parG G x)) then some (keyB x) else _) = _
    rw [if_pos (.inr ⟨rfl, hw x hB⟩)]
theorem above_split {A C : List ID} (h : C ∈ chainG G A) : ∃ rest, aboveG G A C ++ C :: rest = chainG G A := by
  obtain ⟨pre, rest, he, hn⟩ := List.eq_append_cons_of_mem h
  exact ⟨rest, by rw [aboveG_split he.symm fun x hx e => hn (e ▸ hx), he]⟩
/-- Who follows the events of a move is where it leads. -/
theorem fold_move (g : GoodG G) (hw : ∀ T, TipOf G T → ways (keyB T) = keyB (parG G T)) {A B : List ID} (hA : TipOf G A) (hB : TipOf G B) : foldE ways (keyB A) ((aboveG G A (commG G A B)).map (evOf G 1) ++ (aboveG G B (commG G A B)).reverse.map (evOf G 2)) = some (keyB B) := by
  obtain ⟨hc1, hc2, -⟩ := g.comm_mem hA hB
  obtain ⟨r1, h1⟩ := above_split hc1
  obtain ⟨r2, h2⟩ := above_split hc2
  rw [fold_append, fold_down g hw _ A hA h1]
  exact fold_up g hw _ B hB h2
end
end Go.Proofs.YtpehmlfghddnaaaGreatDoor
namespace Go.Proofs.YtpehmlfghddnaaaGreatDoor
open Go.RowKit Go.Maps
end Go.Proofs.YtpehmlfghddnaaaGreatDoor
namespace Go.Proofs.YtpehmlfghddnaaaGreatDoor
open Go.RowKit Go.Maps

theorem named_small {L : List LRH} (h : ∀ y ∈ L, TellH y.h) {ns : List ByteArray} (hn : NamedIn L ns) : ns.length ≤ 1000 ∧ ∀ s ∈ ns, s.size ≤ 1000000 := by
  obtain ⟨b, hb, ⟨rfl, -⟩ | rfl⟩ := hn
  · exact ⟨by have := (h b hb).parents; omega, fun s hs => Nat.le_trans ((h b hb).names s hs) (by decide)⟩
  · refine ⟨by simp, fun s hs => ?_⟩
    rw [List.mem_singleton.1 hs, (rid b.h).2]
    decide

end Go.Proofs.YtpehmlfghddnaaaGreatDoor
