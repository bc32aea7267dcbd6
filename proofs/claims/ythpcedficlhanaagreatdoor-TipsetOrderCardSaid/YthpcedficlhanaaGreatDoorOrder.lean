/- coxswainlaw08.TipsetOrder. -/
import Derived.Test.YthpcedficlhanaaGreatDoorTwo
import Derived.Test.YthpcedficlhanaaGreatDoorAwakeE
namespace Go.Proofs.YthpcedficlhanaaGreatDoor
open Go.RowKit

/-- The row, and the same headers in a second row. -/
structure Ord (w W : World) (v : Value) (ys : List LRH) (v' : Value) (rs : List LRH) : Prop where
  left : Besides w W v ys
  own : W.ownsRow w.heap.size 53 7 v' rs.length (lrhE.flat rs)
  perm : rs.Perm ys
  far : ∀ y ∈ ys, y.At (fun k => w.heap.size ≤ k ∧ some k ≠ v.ownBlock ∧ some k ≠ v'.ownBlock) W
  apart : ∀ k, v'.ownBlock = some k → v.ownBlock ≠ some k
section
variable {w W W0 w1 w2 : World} {v v1 v2 : Value} {ys : List LRH}
theorem Ord.start (h : Besides w W v ys) (rs : List LRH) (hp : rs.Perm ys) (hb : Below W.heap.size W w2) (ho : w2.ownsRow w.heap.size 53 7 v2 rs.length (lrhE.flat rs)) (hn : ∀ k, v2.ownBlock = some k → W.heap.size ≤ k) : Ord w w2 v ys v2 rs where
  left := h.under hb
  own := ho
  perm := hp
  far := fun y hy => (Sl.fr (Sl.old (h.at_ y hy)) (Fr.of_below hb |>.mono fun k hk => hk)).mono fun k hk => ⟨hk.1.1, hk.1.2, fun e => by have := hn k e.symm; have := hk.2; omega⟩
  apart := fun k hk e => by have := (own_lt h.own k e).2; have := hn k hk; omega
theorem Ord.under {rs : List LRH} (h : Ord w W v ys v2 rs) (hb : Below W.heap.size W w1) : Ord w w1 v ys v2 rs :=
  ⟨h.left.under hb, own_below h.own hb, h.perm, fun y hy => Sl.below (h.far y hy) hb, h.apart⟩
theorem Ord.next {rs rs' : List LRH} {g n cap : Nat} (h : Ord w W v ys (.slice (some ⟨g, 0, none⟩) n cap) rs) (hg : W.grownBy w1 (some g)) (hp : rs'.Perm ys) (ho : w1.ownsRow w.heap.size 53 7 (.slice (some ⟨g, 0, none⟩) n cap) rs'.length (lrhE.flat rs')) : Ord w w1 v ys (.slice (some ⟨g, 0, none⟩) n cap) rs' where
  left := ⟨h.left.right, h.left.own.kept hg (by
      cases hv : v.ownBlock with
      | none => exact .inl rfl
      | some k => exact .inr fun e => h.apart g rfl (by rw [hv, ← e])), fun y hy => (Sl.fr (h.far y hy) (Fr.grown hg fun k hk => hk.2.2)).mono fun k hk => ⟨hk.1, hk.2.1⟩, h.left.below.grown hg h.left.below.size fun k hk => by injection hk with hk; subst hk; exact (own_lt h.own g rfl).1⟩
  own := ho
  perm := hp
  far := fun y hy => Sl.fr (h.far y hy) (Fr.grown hg fun k hk => hk.2.2)
  apart := h.apart
end

theorem turn_nat (k : Int) (n : Nat) (h0 : -9223372036854775808 ≤ k) (h1 : k ≤ 9223372036854775807) (hn : 0 < n) (hm : n ≤ 1000) : ∃ j : Nat, (wrap64 (k.tmod n + n)).tmod n = (j : Int) ∧ j < n := by
  have hn' : (0 : Int) < n := by omega
  have a1 : k.tmod n < n := Int.tmod_lt_of_pos k hn'
  have a2 : -(n : Int) < k.tmod n := by
    have := Int.tmod_lt_of_pos (-k) hn'
    rw [Int.neg_tmod] at this
    omega
  have a3 : wrap64 (k.tmod n + n) = k.tmod n + n := by
    have := IntWalk.i64_in (k.tmod n + n) (by omega)
    rwa [IntWalk.i64_left] at this
  rw [a3]
  refine ⟨((k.tmod n + n).tmod n).toNat, ?_, ?_⟩
  · rw [Int.toNat_of_nonneg (Int.tmod_nonneg _ (by omega))]
  · have := Int.tmod_lt_of_pos (k.tmod n + n) hn'
    omega
theorem row_drop {W : World} {base g n cap : Nat} {T : TypeId} {ys : List LRH} (h : W.ownsRow base T 7 (.slice (some ⟨g, 0, none⟩) n cap) n (lrhE.flat ys)) (j : Nat) (i : Nat) (u : Value) (hu : (lrhE.flat (ys.drop j))[i]? = some u) : W.cell? ⟨g, j * 7 + i, none⟩ = some u := by
  rw [lrhE.flat_drop, List.getElem?_drop] at hu
  have hlt := (List.getElem?_eq_some_iff.1 hu).1
  rw [h.1] at hlt
  exact (h.cellAt (j * 7 + i) hlt).trans hu
theorem row_at {W : World} {base g n cap : Nat} {T : TypeId} {ys : List LRH} (h : W.ownsRow base T 7 (.slice (some ⟨g, 0, none⟩) n cap) n (lrhE.flat ys)) (m : Nat) (y : LRH) (hy : ys[m]? = some y) (j : Nat) (u : Value) (hu : y.cells[j]? = some u) : W.cell? ⟨g, m * 7 + j, none⟩ = some u := by
  have h1 := lrhE.flat_get ys m y hy j u hu
  have hlt := (List.getElem?_eq_some_iff.1 h1).1
  rw [h.1] at hlt
  exact (h.cellAt (m * 7 + j) hlt).trans h1
theorem row_take {W : World} {base g n cap : Nat} {T : TypeId} {ys : List LRH} (h : W.ownsRow base T 7 (.slice (some ⟨g, 0, none⟩) n cap) n (lrhE.flat ys)) (j : Nat) (i : Nat) (u : Value) (hu : (lrhE.flat (ys.take j))[i]? = some u) : W.cell? ⟨g, 0 + i, none⟩ = some u := by
  rw [lrhE.flat_take, List.getElem?_take] at hu
  split at hu
  · have hlt := (List.getElem?_eq_some_iff.1 hu).1
    rw [h.1] at hlt
    rw [Nat.zero_add, h.cellAt _ hlt]
    exact hu
  · cases hu
theorem own_from {b b' : Nat} {W0 : World} {v1 : Value} {n c : Nat} (h : v1.ownBlock = (Value.slice (some ⟨b, 0, none⟩) n c).ownBlock ∨ ∃ k, v1.ownBlock = some k ∧ W0.heap.size ≤ k) (h1 : b' ≤ b) (h2 : b' ≤ W0.heap.size) : ∀ k, v1.ownBlock = some k → b' ≤ k := by
  intro k hk
  rcases h with e | ⟨k', e, hb⟩
  · rw [e] at hk; injection hk with hk; have : b = k := hk; omega
  · rw [e] at hk; injection hk with hk; omega
theorem Newed.none {ec : Int} {zs : List LB} (h : Newed [] ec zs) : ec = 15 := by
  rcases h with ⟨h, -, -⟩ | ⟨-, z, hp, -, ⟨hg, -, -⟩ | ⟨-, h, -⟩⟩
  · simp at h
  · rw [List.perm_nil.1 hp] at hg; cases hg
  · exact h

theorem hdr_ok {h : RH} (H : RightH h) : (hdrOf h).Ok := by
  obtain ⟨h0, h1, m0, m1, w0, w1, p0, p1, s0, s1, t, pl, pz, pn⟩ := H
  exact ⟨by show I64 h.height; constructor <;> omega, by show I64 h.miner; constructor <;> omega, by show I64 h.wins; constructor <;> omega, by show I64 h.salt; constructor <;> omega, by show 0 ≤ h.power; omega, p1, by show h.ticket.size ≤ _; omega, by show (h.parents.map idOf).length ≤ _; rw [List.length_map]; omega⟩
theorem hdr_nodup {h : RH} (H : RightH h) : (hdrOf h).parents.Nodup := by
  show (h.parents.map idOf).Nodup
  unfold List.Nodup
  rw [List.pairwise_map]
  refine List.Pairwise.imp_of_mem (fun {a b} ha hb hne he => hne ?_) H.pn
  rw [← idOf_self a (H.pz a ha), ← idOf_self b (H.pz b hb), he]
theorem fine_of {ok : Nat → Prop} {W : World} {ys : List LRH} (h : ∀ y ∈ ys, RightH y.h) (hat : ∀ y ∈ ys, y.At ok W) : Fine ok W ys :=
  fun y hy => ⟨hat y hy, hdr_ok (h y hy), by have := (h y hy).pl; omega⟩
theorem made_sl {w W : World} {v : Value} {hs : List Hdr} {bs : List LB} (hm : MadeB w W v hs bs) : Sl lbE (fun k => v.ownBlock = some k) W v bs := by
  have hl : bs.length = hs.length := by simpa [vals] using congrArg List.length hm.vals
  refine Sl.of_own (base := w.heap.size) (T := 40) ?_
  have := hm.own
  rw [← hl] at this
  exact this
theorem made_okay {w W : World} {v : Value} {l : List LRH} {bs : List LB} (hm : MadeB w W v (l.map fun x => hdrOf x.h) bs) (hr : ∀ y ∈ l, RightH y.h) : Okay (fun _ => True) W bs ∧ ∀ b ∈ bs, 0 ≤ b.x.h.wins ∧ b.x.h.wins ≤ 1000 := by
  have key : ∀ b ∈ bs, ∃ y ∈ l, b.x.h = hdrOf y.h := fun b hb => by
    have h1 : b.val ∈ vals bs := List.mem_map.2 ⟨b, hb, rfl⟩
    rw [hm.vals, List.map_map] at h1
    obtain ⟨y, hy, he⟩ := List.mem_map.1 h1
    exact ⟨y, hy, (congrArg Prod.snd he).symm⟩
  refine ⟨fun b hb => ?_, fun b hb => ?_⟩
  · obtain ⟨y, hy, he⟩ := key b hb
    exact ⟨Sl.any (hm.at_ b hb), by rw [he]; exact hdr_ok (hr y hy), by rw [he]; exact hdr_nodup (hr y hy)⟩
  · obtain ⟨y, hy, he⟩ := key b hb
    rw [he]
    have := (hr y hy).w0
    have := (hr y hy).w1
    show 0 ≤ y.h.wins ∧ y.h.wins ≤ 1000
    omega
/-- A tipset in a variable of its own. -/
structure TipOne (wr w5 W : World) (b : Nat) (tv : Value) (zs : List LB) : Prop where
  new : wr.heap.size ≤ b
  lt : b < W.heap.size
  below : Below wr.heap.size wr W
  cell : W.cell? ⟨b, 0, none⟩ = some tv
  tip : TipAt (fun _ => True) W tv zs
theorem TipOne.start {wr w5 w6 : World} {tv : Value} {zs : List LB} (hb5 : Below wr.heap.size wr w5) (ht : TipAt (fun k => w5.heap.size ≤ k) w6 tv zs) (hb6 : Below w5.heap.size w5 w6) : TipOne wr w5 (w6.alloc (.cells [tv].toArray 28)) w6.heap.size tv zs :=
  have hb : Below wr.heap.size wr w6 := hb5.trans (hb6.mono hb5.size)
  ⟨hb.size, by simp, hb.alloc hb.size _, cell_block (heap_alloc_new w6 _) rfl, ⟨(ht.1.below ((Below.refl _ w6).alloc (Nat.le_refl _) _)).any, ht.2⟩⟩
theorem TipOne.under {wr w5 W W' : World} {b : Nat} {tv : Value} {zs : List LB} (h : TipOne wr w5 W b tv zs) (hb : Below W.heap.size W W') : TipOne wr w5 W' b tv zs :=
  ⟨h.new, Nat.lt_of_lt_of_le h.lt hb.size, h.below.trans (hb.mono h.below.size), (hb.cell (p := ⟨b, 0, none⟩) h.lt).trans h.cell, h.tip.below hb⟩

theorem cmpS_self (s : ByteArray) : cmpS s s = 0 := by
  have h : Op.bytesLess s.toList s.toList = false := by rw [bl_cmp, cb_self]; rfl
  simp [cmpS, h]

set_option maxRecDepth 100000 in
set_option maxHeartbeats 1000000 in
theorem order_any (w : World) (t : Value) (l : List LRH) (ok ok' : Nat → Prop) (k : Int) (hk0 : -9223372036854775808 ≤ k) (hk1 : k ≤ 9223372036854775807) (hl : Sl lrhE ok w t l) (hf : Raw ok' w l) (ht : Tab w) :
    Calls Tryz.prog 6 #[t, .int .i64 k] w fun e w' => e = .returned (.bool true) ∧ Below w.heap.size w w' := by
  have HL := Lib.hid hl
  have HF := Lib.hid hf
  have HT := Lib.hid ht
  clear hl hf ht
  go_enter Tryz.func6, Tryz.ntmps6
  go_upto_region 4 with (first
    | (go_at_call 18; refine (awake8_any _ HT.out).mono ?_; rintro e w1 ⟨rfl, hb1⟩; have HB1 := Lib.hid hb1; clear hb1)
    | (go_at_call 19; refine (beside_any _ t l ok ok' (HL.out.below HB1.out) (fun x hx => ⟨(HF.out x hx).1.below HB1.out, (HF.out x hx).2⟩)).mono ?_; rintro e w2 ⟨v, ys, rfl, hy7, hbs⟩; have HBS := Lib.hid hbs; clear hbs))
  have HB2 : Hid (Below w.heap.size w w2) := Lib.hid (HB1.out.trans (HBS.out.below.mono HB1.out.size))
  obtain ⟨A, cap, hv, hcap⟩ := own_slice HBS.out.own
  have HY7 := Lib.hid hy7
  clear hy7
  subst hv
  rcases Nat.eq_zero_or_pos ys.length with hn0 | hnp
  · have hI : (ys.length : Int) = 0 := by omega
    go_wp2_with (first
      | (go_at_call 21; refine (new_any _ (.slice none 0 0) [] (fun _ => True) (Sl.nil _ _ _) (fun x hx => by cases hx)).mono ?_; rintro e w3 ⟨ec, zs, tv, hnew, rfl, ht3, hb3⟩; have hec : ec = 15 := Newed.none hnew; subst hec; have HB3 : Hid (Below w.heap.size w w3) := Lib.hid (HB2.out.trans (hb3.mono HB2.out.size)))
      | (refine wpl_store_new rfl 28 _ _ rfl rfl [tv] rfl _ _ rfl (by intro u hu; rw [List.mem_singleton] at hu; subst hu; obtain ⟨A5, c5, rfl, -, -⟩ := ht3.1.form; rfl) tip_size ?_))
    go_ret
    exact ⟨rfl, HB3.out.alloc HB3.out.size _⟩
  · have hI : ¬ ys = [] := by rintro rfl; simp at hnp
    obtain ⟨gl, rfl⟩ : ∃ gl, A = some ⟨gl, 0, none⟩ := by
      obtain ⟨-, ⟨h0, hn0⟩ | ⟨g, c', cur, he, -⟩⟩ := HBS.out.own
      · omega
      · injection he with e1 _ _; exact ⟨g, e1⟩
    obtain ⟨j, hj, hjn⟩ := turn_nat k ys.length hk0 hk1 hnp (by have := HY7.out; omega)
    have hjn' : j ≤ ys.length := by omega
    have hcj : ¬ cap = j := by omega
    have hjc : j ≤ cap := by omega
    go_upto_region 9 with fail
    have HOL := Lib.hid HBS.out.own
    refine stD_ (S := (fun _ => True)) [9] 10 #[false, false, false, false, false, false, false, false, false, false] (by kernel_rfl) rfl (by rfl) trivial (fun hHeld => ?_)
    refine tkD_ 1 (some 38) #[false, true, false, false, false, false, false, false, false, false] (v := ?_) (a' := ?_) rfl rfl (by kernel_rfl) (fun _ _ _ h => h) (yieldsIf_run rfl ?_) hHeld ?_ ?_
    rotate_left
    · intro w'
      go_simp
      with_reducible rfl
    rotate_left
    · simp only [Act.put, List.setIfInBounds_toArray, List.set_cons_zero, List.set_cons_succ]
      rfl
    refine tkD_ 2 (some 39) #[false, true, true, false, false, false, false, false, false, false] (v := ?_) (a' := ?_) rfl rfl (by kernel_rfl) (fun _ _ _ h => h) (yieldsIf_run rfl ?_) hHeld ?_ ?_
    rotate_left
    · intro w'
      go_simp
      with_reducible rfl
    rotate_left
    · simp only [Act.put, List.setIfInBounds_toArray, List.set_cons_zero, List.set_cons_succ]
      rfl
    refine tkD_ 3 (some 40) #[false, true, true, true, false, false, false, false, false, false] (v := ?_) (a' := ?_) rfl rfl (by kernel_rfl) (fun _ _ _ h => h) (yieldsIf_run rfl ?_) hHeld ?_ ?_
    rotate_left
    · intro w'
      go_simp
      with_reducible rfl
    rotate_left
    · simp only [Act.put, List.setIfInBounds_toArray, List.set_cons_zero, List.set_cons_succ]
      rfl
    refine tkD_ 5 (some 42) #[false, true, true, true, false, true, false, false, false, false] (v := ?_) (a' := ?_) rfl rfl (by kernel_rfl) (fun _ _ _ h => h) (yieldsIf_run rfl ?_) hHeld ?_ ?_
    rotate_left
    · intro w'
      go_simp
      with_reducible rfl
    rotate_left
    · simp only [Act.put, List.setIfInBounds_toArray, List.set_cons_zero, List.set_cons_succ]
      rfl
    refine tkD_ 6 (some 43) #[false, true, true, true, false, true, true, false, false, false] (v := ?_) (a' := ?_) rfl rfl (by kernel_rfl) (fun _ _ _ h => h) (yieldsIf_run rfl ?_) hHeld ?_ ?_
    rotate_left
    · intro w'
      go_simp
      with_reducible rfl
    rotate_left
    · simp only [Act.put, List.setIfInBounds_toArray, List.set_cons_zero, List.set_cons_succ]
      rfl
    refine tkD_ 7 (some 44) #[false, true, true, true, false, true, true, true, false, false] (v := ?_) (a' := ?_) rfl rfl (by kernel_rfl) (fun _ _ _ h => h) (yieldsIf_run rfl ?_) hHeld ?_ ?_
    rotate_left
    · intro w'
      go_simp
      with_reducible rfl
    rotate_left
    · simp only [Act.put, List.setIfInBounds_toArray, List.set_cons_zero, List.set_cons_succ]
      rfl
    have hHeld := trivial
    refine valD_ 0 (some 37) #[true, true, true, true, false, true, true, true, false, false] rfl rfl (by kernel_rfl) rfl ((.slice (some ⟨w2.heap.size, 0, none⟩) 0 0)) ((w2.drew.alloc (.cells #[] 53))) (by kernel_rfl) (fun _ => hHeld) (a' := ?_) ?_ ?_
    rotate_left
    · simp only [Act.put, List.setIfInBounds_toArray, List.set_cons_zero, List.set_cons_succ]
      rfl
    refine stepD_ 4 (some 41) #[true, true, true, true, true, true, true, true, false, false] rfl rfl (by kernel_rfl) rfl (exec_appS w1.heap.size (.tmp 37) (.tmp 40) 22 53 _ 7 80 rfl Tryz.underlying22 rh_info rhZ_cells (by decide) (by decide) (.slice (some ⟨w2.heap.size, 0, none⟩) 0 0) 0 [] rfl gl (j * 7) (ys.length - j) (cap - j) rfl (lrhE.flat (ys.drop j)) (by rw [lrhE.flat_length, List.length_drop]; rfl) (row_drop (own_below HOL.out (((Below.refl _ w2).drew).alloc (Nat.le_refl _) _)) j) (lrhE.flat_one_cell _) (own_empty w2.drew w1.heap.size _ 7 HBS.out.below.size) (Nat.le_trans HBS.out.below.size (((Below.refl _ w2).drew).alloc (Nat.le_refl _) _).size) (by have := HY7.out; omega)) ?_
    rintro v1 w3 ⟨ho1, hg1, hat1⟩
    have hB3 : Below w2.heap.size w2 w3 := (((Below.refl _ w2).drew).alloc (Nat.le_refl _) _).grown hg1 (((Below.refl _ w2).drew).alloc (Nat.le_refl _) _).size (fun k hk => by injection hk with hk; exact Nat.le_of_eq hk)
    have hn1 := own_from hat1 (Nat.le_refl w2.heap.size) (((Below.refl _ w2).drew).alloc (Nat.le_refl _) _).size
    have hHeld := trivial
    refine ⟨(fun _ => hHeld), ?_, ?_, ?_⟩
    rotate_left
    · simp only [Act.put, List.setIfInBounds_toArray, List.set_cons_zero, List.set_cons_succ]
      rfl
    refine stepD_ 8 (some 45) #[true, true, true, true, true, true, true, true, true, false] rfl rfl (by kernel_rfl) rfl (exec_appS w1.heap.size (.tmp 41) (.tmp 44) 22 53 _ 7 80 rfl Tryz.underlying22 rh_info rhZ_cells (by decide) (by decide) v1 (0 + (ys.length - j)) ([] ++ lrhE.flat (ys.drop j)) rfl gl 0 j cap rfl (lrhE.flat (ys.take j)) (by rw [lrhE.flat_length, List.length_take, Nat.min_eq_left hjn']; rfl) (row_take (own_below HOL.out hB3) j) (lrhE.flat_one_cell _) ho1 (Nat.le_trans HBS.out.below.size hB3.size) (by have := HY7.out; omega)) ?_
    rintro v2 w4 ⟨ho2, hg2, hat2⟩
    have hB4 : Below w2.heap.size w2 w4 := hB3.grown hg2 hB3.size hn1
    have hn2 : ∀ k, v2.ownBlock = some k → w2.heap.size ≤ k := (by rcases hat2 with e | ⟨b, e, hb⟩; rw [e]; exact hn1; rw [e]; intro k hk; injection hk with hk; have := hB3.size; omega)
    have HORD := Lib.hid (Ord.start HBS.out (ys.drop j ++ ys.take j) (List.perm_append_comm.trans (by rw [List.take_append_drop])) hB4 (by rw [List.length_append, List.length_drop, List.length_take, Nat.min_eq_left hjn', lrhE.flat_append]; simpa using ho2) hn2)
    clear hB4 hn2 ho2 hg2 hat2 hn1 ho1 hg1 hat1 hB3
    have hHeld := trivial
    refine ⟨(fun _ => hHeld), ?_, ?_, ?_⟩
    rotate_left
    · simp only [Act.put, List.setIfInBounds_toArray, List.set_cons_zero, List.set_cons_succ]
      rfl
    refine valD_ 9 (some 9) #[true, true, true, true, true, true, true, true, true, true] rfl rfl (by kernel_rfl) rfl (v2) (w4) (rfl) (fun h => absurd (by decide) h) (a' := ?_) ?_ ?_
    rotate_left
    · simp only [Act.put, List.setIfInBounds_toArray, List.set_cons_zero, List.set_cons_succ]
      rfl
    refine doneD_ (by kernel_rfl) ?_ _
    obtain ⟨rs0, hrs0⟩ : ∃ rs0, rs0 = ys.drop j ++ ys.take j := ⟨_, rfl⟩
    rw [← hrs0] at HORD
    clear hrs0 hj hjn hjn' hcj hjc hk0 hk1
    obtain ⟨g2, cap2, hv2, hcap2⟩ : ∃ g2 cap2, v2 = .slice (some ⟨g2, 0, none⟩) ys.length cap2 ∧ ys.length ≤ cap2 := by
      have hl := HORD.out.perm.length_eq
      obtain ⟨-, ⟨h0, hn0⟩ | ⟨g, c', cur, he, -, -, hc, -⟩⟩ := HORD.out.own
      · omega
      · rw [hl] at he hc; exact ⟨g, c', he, hc⟩
    subst hv2
    obtain ⟨q, hqa, hqb⟩ : ∃ q : Nat, 2 * q ≤ ys.length ∧ (ys.length : Int) / 2 = (q : Int) := ⟨ys.length / 2, by omega, by omega⟩
    have hq7 : q ≤ 7 := by have := HY7.out; omega
    have hy7 := HY7.out
    have HBW1 : Hid (Below w.heap.size w w1) := HB1
    change Exit.then _ _ _ _ _
    go_wp2
    go_loopw [48] (fun ci wr => ∃ (i : Nat) (rs : List LRH), i ≤ q ∧ ci = .int .i64 i ∧ Ord w1 wr (.slice (some ⟨gl, 0, none⟩) ys.length cap) ys (.slice (some ⟨g2, 0, none⟩) ys.length cap2) rs) (fun ci _ => q - (intOf ci).toNat)
    case atStart => exact ⟨0, rs0, Nat.zero_le _, rfl, HORD.out⟩
    case round =>
      obtain ⟨i, rs, hi, rfl, hO⟩ := hrel
      have hrl := hO.perm.length_eq
      have hown : wr.ownsRow w1.heap.size 53 7 (.slice (some ⟨g2, 0, none⟩) ys.length cap2) ys.length (lrhE.flat rs) := by have := hO.own; rwa [hrl] at this
      have HO := Lib.hid hO
      have HRL := Lib.hid hrl
      have HOWN := Lib.hid hown
      clear hO hrl hown
      by_cases hlt : i < q
      · have hltI : (i : Int) < (q : Int) := by omega
        obtain ⟨x, hx⟩ : ∃ x, rs[i]? = some x := ⟨_, List.getElem?_eq_getElem (by have := HRL.out; omega)⟩
        obtain ⟨p, hp⟩ : ∃ p, p + 1 = ys.length := ⟨ys.length - 1, by omega⟩
        obtain ⟨m, hm⟩ : ∃ m, m + i = p := ⟨p - i, by omega⟩
        have hmlt : m < ys.length := by omega
        have hilt : i < ys.length := by omega
        have hw1 : IntKind.i64.wrap ((ys.length : Int) - 1) = (p : Int) := by rw [IntWalk.i64_in _ (by have := HY7.out; omega)]; omega
        have hw2 : IntKind.i64.wrap ((p : Int) - (i : Int)) = (m : Int) := by rw [IntWalk.i64_in _ (by have := HY7.out; omega)]; omega
        have HP := Lib.hid hp
        have HM := Lib.hid hm
        clear hp hm
        obtain ⟨y, hy⟩ : ∃ y, rs[m]? = some y := ⟨_, List.getElem?_eq_getElem (by have := HRL.out; omega)⟩
        have HXX := Lib.hid hx
        have HYY := Lib.hid hy
        have hirs : i < rs.length := (List.getElem?_eq_some_iff.1 hx).1
        have hmrs : m < (rs.set i y).length := by rw [List.length_set]; exact (List.getElem?_eq_some_iff.1 hy).1
        have HME : Hid (q - (i + 1) < q - i) := Lib.hid (Nat.sub_lt_sub_left hlt (Nat.lt_succ_self i))
        have HIR := Lib.hid hirs
        have HMR := Lib.hid hmrs
        clear hirs hmrs
        clear hx hy
        go_upto_region 13 with fail
        have hS0 : wr.drew.ownsRow w1.heap.size 53 7 (.slice (some ⟨g2, 0, none⟩) ys.length cap2) ys.length (lrhE.flat rs) := own_below HOWN.out (Below.refl _ wr).drew
        refine stD_ (S := (fun W' => W'.ownsRow w1.heap.size 53 7 (.slice (some ⟨g2, 0, none⟩) ys.length cap2) ys.length (lrhE.flat rs))) [0, 1, 2, 3, 4, 5, 6, 7, 8, 9, 10, 11, 12, 14, 15, 16, 18, 19, 20, 21] 22 #[false, false, false, false, false, false, false, false, false, false, false, false, false, false, false, false, false, false, false, false, false, false] (by kernel_rfl) rfl (by rfl) hS0 (fun hHeld => ?_)
        refine pu2_ 0 (some 51) #[true, false, false, false, false, false, false, false, false, false, false, false, false, false, false, false, false, false, false, false, false, false] (v := ?_) (a' := ?_) rfl rfl (by kernel_rfl) (fun _ _ _ h => h) (yieldsIf_run rfl ?_) ?_ ?_
        rotate_left
        · intro w'
          go_simp
          with_reducible rfl
        rotate_left
        · simp only [Act.put, List.setIfInBounds_toArray, List.set_cons_zero, List.set_cons_succ]
          rfl
        refine pu2_ 1 (some 52) #[true, true, false, false, false, false, false, false, false, false, false, false, false, false, false, false, false, false, false, false, false, false] (v := ?_) (a' := ?_) rfl rfl (by kernel_rfl) (fun _ _ _ h => h) (yieldsIf_run rfl ?_) ?_ ?_
        rotate_left
        · intro w'
          go_simp
          with_reducible rfl
        rotate_left
        · simp only [Act.put, List.setIfInBounds_toArray, List.set_cons_zero, List.set_cons_succ]
          rfl
        refine pu2_ 2 (some 53) #[true, true, true, false, false, false, false, false, false, false, false, false, false, false, false, false, false, false, false, false, false, false] (v := ?_) (a' := ?_) rfl rfl (by kernel_rfl) (fun _ _ _ h => h) (yieldsIf_run rfl ?_) ?_ ?_
        rotate_left
        · intro w'
          go_simp
          with_reducible rfl
        rotate_left
        · simp only [Act.put, List.setIfInBounds_toArray, List.set_cons_zero, List.set_cons_succ]
          rfl
        refine pu2_ 3 (some 54) #[true, true, true, true, false, false, false, false, false, false, false, false, false, false, false, false, false, false, false, false, false, false] (v := ?_) (a' := ?_) rfl rfl (by kernel_rfl) (fun _ _ _ h => h) (yieldsIf_run rfl ?_) ?_ ?_
        rotate_left
        · intro w'
          go_simp
          with_reducible rfl
        rotate_left
        · simp only [Act.put, List.setIfInBounds_toArray, List.set_cons_zero, List.set_cons_succ]
          rfl
        refine pu2_ 4 (some 55) #[true, true, true, true, true, false, false, false, false, false, false, false, false, false, false, false, false, false, false, false, false, false] (v := ?_) (a' := ?_) rfl rfl (by kernel_rfl) (fun _ _ _ h => h) (yieldsIf_run rfl ?_) ?_ ?_
        rotate_left
        · intro w'
          go_simp
          with_reducible rfl
        rotate_left
        · simp only [Act.put, List.setIfInBounds_toArray, List.set_cons_zero, List.set_cons_succ]
          rfl
        refine pu2_ 5 (some 56) #[true, true, true, true, true, true, false, false, false, false, false, false, false, false, false, false, false, false, false, false, false, false] (v := ?_) (a' := ?_) rfl rfl (by kernel_rfl) (fun _ _ _ h => h) (yieldsIf_run rfl ?_) ?_ ?_
        rotate_left
        · intro w'
          go_simp
          with_reducible rfl
        rotate_left
        · simp only [Act.put, List.setIfInBounds_toArray, List.set_cons_zero, List.set_cons_succ]
          rfl
        refine pu2_ 6 (some 57) #[true, true, true, true, true, true, true, false, false, false, false, false, false, false, false, false, false, false, false, false, false, false] (v := ?_) (a' := ?_) rfl rfl (by kernel_rfl) (fun _ _ _ h => h) (yieldsIf_run rfl ?_) ?_ ?_
        rotate_left
        · intro w'
          go_simp
          with_reducible rfl
        rotate_left
        · simp only [Act.put, List.setIfInBounds_toArray, List.set_cons_zero, List.set_cons_succ]
          rfl
        refine pu2_ 7 (some 58) #[true, true, true, true, true, true, true, true, false, false, false, false, false, false, false, false, false, false, false, false, false, false] (v := ?_) (a' := ?_) rfl rfl (by kernel_rfl) (fun _ _ _ h => h) (yieldsIf_run rfl ?_) ?_ ?_
        rotate_left
        · intro w'
          go_simp
          with_reducible rfl
        rotate_left
        · simp only [Act.put, List.setIfInBounds_toArray, List.set_cons_zero, List.set_cons_succ]
          rfl
        refine pu2_ 8 (some 59) #[true, true, true, true, true, true, true, true, true, false, false, false, false, false, false, false, false, false, false, false, false, false] (v := ?_) (a' := ?_) rfl rfl (by kernel_rfl) (fun _ _ _ h => h) (yieldsIf_run rfl ?_) ?_ ?_
        rotate_left
        · intro w'
          go_simp
          with_reducible rfl
        rotate_left
        · simp only [Act.put, List.setIfInBounds_toArray, List.set_cons_zero, List.set_cons_succ]
          rfl
        refine pu2_ 9 (some 60) #[true, true, true, true, true, true, true, true, true, true, false, false, false, false, false, false, false, false, false, false, false, false] (v := ?_) (a' := ?_) rfl rfl (by kernel_rfl) (fun _ _ _ h => h) (yieldsIf_run rfl ?_) ?_ ?_
        rotate_left
        · intro w'
          go_simp
          with_reducible rfl
        rotate_left
        · simp only [Act.put, List.setIfInBounds_toArray, List.set_cons_zero, List.set_cons_succ]
          rfl
        refine pu2_ 10 (some 61) #[true, true, true, true, true, true, true, true, true, true, true, false, false, false, false, false, false, false, false, false, false, false] (v := ?_) (a' := ?_) rfl rfl (by kernel_rfl) (fun _ _ _ h => h) (yieldsIf_run rfl ?_) ?_ ?_
        rotate_left
        · intro w'
          go_simp
          with_reducible rfl
        rotate_left
        · simp only [Act.put, List.setIfInBounds_toArray, List.set_cons_zero, List.set_cons_succ]
          rfl
        refine pu2_ 11 (some 62) #[true, true, true, true, true, true, true, true, true, true, true, true, false, false, false, false, false, false, false, false, false, false] (v := ?_) (a' := ?_) rfl rfl (by kernel_rfl) (fun _ _ _ h => h) (yieldsIf_run rfl ?_) ?_ ?_
        rotate_left
        · intro w'
          go_simp
          with_reducible rfl
        rotate_left
        · simp only [Act.put, List.setIfInBounds_toArray, List.set_cons_zero, List.set_cons_succ]
          rfl
        refine pu2_ 12 (some 63) #[true, true, true, true, true, true, true, true, true, true, true, true, true, false, false, false, false, false, false, false, false, false] (v := ?_) (a' := ?_) rfl rfl (by kernel_rfl) (fun _ _ _ h => h) (yieldsIf_run rfl ?_) ?_ ?_
        rotate_left
        · intro w'
          go_simp
          with_reducible rfl
        rotate_left
        · simp only [Act.put, List.setIfInBounds_toArray, List.set_cons_zero, List.set_cons_succ]
          rfl
        refine pu2_ 14 (some 65) #[true, true, true, true, true, true, true, true, true, true, true, true, true, false, true, false, false, false, false, false, false, false] (v := ?_) (a' := ?_) rfl rfl (by kernel_rfl) (fun _ _ _ h => h) (yieldsIf_run rfl ?_) ?_ ?_
        rotate_left
        · intro w'
          go_simp
          with_reducible rfl
        rotate_left
        · simp only [Act.put, List.setIfInBounds_toArray, List.set_cons_zero, List.set_cons_succ]
          rfl
        refine pu2_ 15 (some 66) #[true, true, true, true, true, true, true, true, true, true, true, true, true, false, true, true, false, false, false, false, false, false] (v := ?_) (a' := ?_) rfl rfl (by kernel_rfl) (fun _ _ _ h => h) (yieldsIf_run rfl ?_) ?_ ?_
        rotate_left
        · intro w'
          go_simp
          with_reducible rfl
        rotate_left
        · simp only [Act.put, List.setIfInBounds_toArray, List.set_cons_zero, List.set_cons_succ]
          rfl
        refine pu2_ 16 (some 67) #[true, true, true, true, true, true, true, true, true, true, true, true, true, false, true, true, true, false, false, false, false, false] (v := ?_) (a' := ?_) rfl rfl (by kernel_rfl) (fun _ _ _ h => h) (yieldsIf_run rfl ?_) ?_ ?_
        rotate_left
        · intro w'
          go_simp
          with_reducible rfl
        rotate_left
        · simp only [Act.put, List.setIfInBounds_toArray, List.set_cons_zero, List.set_cons_succ]
          rfl
        refine tk2_ 13 (some 64) #[true, true, true, true, true, true, true, true, true, true, true, true, true, true, true, true, true, false, false, false, false, false] rfl rfl (by kernel_rfl) (fun _ _ _ h => h) (yieldsIf_load rfl 53 (.tmp 63) rfl g2 (m * 7) rfl y.cells _ (fun W' h => row_at h m y HYY.out) Tryz.underlying53 rfl rh_size) hHeld (a' := ?_) ?_ ?_
        rotate_left
        · simp only [Act.put, List.setIfInBounds_toArray, List.set_cons_zero, List.set_cons_succ]
          rfl
        refine tk2_ 17 (some 68) #[true, true, true, true, true, true, true, true, true, true, true, true, true, true, true, true, true, true, false, false, false, false] rfl rfl (by kernel_rfl) (fun _ _ _ h => h) (yieldsIf_load rfl 53 (.tmp 67) rfl g2 (i * 7) rfl x.cells _ (fun W' h => row_at h i x HXX.out) Tryz.underlying53 rfl rh_size) hHeld (a' := ?_) ?_ ?_
        rotate_left
        · simp only [Act.put, List.setIfInBounds_toArray, List.set_cons_zero, List.set_cons_succ]
          rfl
        refine pu2_ 18 (some 69) #[true, true, true, true, true, true, true, true, true, true, true, true, true, true, true, true, true, true, true, false, false, false] (v := ?_) (a' := ?_) rfl rfl (by kernel_rfl) (fun _ _ _ h => h) (yieldsIf_run rfl ?_) ?_ ?_
        rotate_left
        · intro w'
          go_simp
          with_reducible rfl
        rotate_left
        · simp only [Act.put, List.setIfInBounds_toArray, List.set_cons_zero, List.set_cons_succ]
          rfl
        refine sstepD_ 19 #[true, true, true, true, true, true, true, true, true, true, true, true, true, true, true, true, true, true, true, true, false, false] rfl rfl (by kernel_rfl) rfl (exec_setE (E := lrhE) wr.drew w1.heap.size 53 53 (.tmp 69) (.tmp 64) rfl g2 (i * 7) ys.length cap2 i rfl rfl rs y rfl hS0 HIR.out rh_size) ?_
        rintro w5 ⟨ho5, hg5⟩
        refine ⟨(fun h => absurd (by decide) h), ?_⟩
        refine pu2_ 20 (some 70) #[true, true, true, true, true, true, true, true, true, true, true, true, true, true, true, true, true, true, true, true, true, false] (v := ?_) (a' := ?_) rfl rfl (by kernel_rfl) (fun _ _ _ h => h) (yieldsIf_run rfl ?_) ?_ ?_
        rotate_left
        · intro w'
          go_simp
          with_reducible rfl
        rotate_left
        · simp only [Act.put, List.setIfInBounds_toArray, List.set_cons_zero, List.set_cons_succ]
          rfl
        refine sstepD_ 21 #[true, true, true, true, true, true, true, true, true, true, true, true, true, true, true, true, true, true, true, true, true, true] rfl rfl (by kernel_rfl) rfl (exec_setE (E := lrhE) w5 w1.heap.size 53 53 (.tmp 70) (.tmp 68) rfl g2 (m * 7) ys.length cap2 m rfl rfl (rs.set i y) x rfl ho5 HMR.out rh_size) ?_
        rintro w6 ⟨ho6, hg6⟩
        refine ⟨(fun h => absurd (by decide) h), ?_⟩
        refine doneD_ (by kernel_rfl) ?_ _
        change Exit.inBlock _ _ _ _ _
        clear hw1 hw2 hS0
        have HO6 := Lib.hid ((HO.out.under (Below.refl _ wr).drew).next (World.grownBy.trans hg5 hg6) ((swap_perm rs i m x y HXX.out HYY.out).trans HO.out.perm) (by rw [List.length_set, List.length_set, HRL.out]; exact ho6))
        clear ho5 hg5 ho6 hg6
        go_wp2
        go_roundw
        case rel => exact ⟨i + 1, (rs.set i y).set m x, hlt, rfl, HO6.out⟩
        case measure => exact HME.out
      · have hltI : ¬ (i : Int) < (q : Int) := by omega
        have HBR : Hid (Below w.heap.size w wr) := Lib.hid (HB1.out.trans (HO.out.left.below.mono HB1.out.size))
        have HSL : Hid (Sl lrhE (fun _ => True) wr (.slice (some ⟨gl, 0, none⟩) ys.length cap) ys) := Lib.hid (Sl.of_own HO.out.left.own).any
        have HFN : Hid (Fine (fun _ => True) wr ys) := Lib.hid (fine_of HO.out.left.right fun y hy => (HO.out.left.at_ y hy).any)
        go_upto_region 16 with (first
          | (go_at_call 20; refine (blocks_any _ (.slice (some ⟨gl, 0, none⟩) ys.length cap) ys _ _ HSL.out HFN.out (by have := HY7.out; omega) (HT.out.below HBR.out)).mono ?_; rintro e w5 ⟨vb, bs, rfl, hmb⟩; have HMB := Lib.hid hmb; have HMS := Lib.hid (made_sl hmb).any; have HMO := Lib.hid (made_okay hmb HO.out.left.right); clear hmb)
          | (go_at_call 21; refine (new_any _ vb bs _ HMS.out HMO.out.1).mono ?_; rintro e w6 ⟨ec, zs, tv, hnew, rfl, ht6, hb6⟩; have H7 : Hid (TipOne wr w5 (w6.alloc (.cells [tv].toArray 28)) w6.heap.size tv zs) := Lib.hid (TipOne.start HMB.out.below ht6 hb6); have HNW := Lib.hid hnew; have htv : tv.oneCell' = true := (by obtain ⟨A5, c5, rfl, -, -⟩ := ht6.1.form; rfl); clear hnew ht6 hb6)
          | (refine wpl_store_new rfl 28 _ _ rfl rfl [tv] rfl _ _ rfl (by intro u hu; rw [List.mem_singleton] at hu; subst hu; exact htv) tip_size ?_; generalize w6.alloc (.cells [tv].toArray 28) = w7 at H7 ⊢))
        have HSL2 : Hid (Sl lrhE (fun _ => True) w7 (.slice (some ⟨g2, 0, none⟩) ys.length cap2) rs) := Lib.hid ((Sl.of_own (E := lrhE) HO.out.own).any.below H7.out.below)
        have HFN2 : Hid (Fine (fun _ => True) w7 rs) := Lib.hid (fine_of (fun y hy => HO.out.left.right y (HO.out.perm.mem_iff.1 hy)) fun y hy => Sl.below (HO.out.left.at_ y (HO.out.perm.mem_iff.1 hy)).any H7.out.below)
        have HT7 : Hid (Tab w7) := Lib.hid (HT.out.below (HBR.out.trans (H7.out.below.mono HBR.out.size)))
        have HRS : Hid (∀ y ∈ rs, RightH y.h) := Lib.hid fun y hy => HO.out.left.right y (HO.out.perm.mem_iff.1 hy)
        go_upto_region 17 with (first
          | (go_at_call 20; refine (blocks_any w7 (.slice (some ⟨g2, 0, none⟩) ys.length cap2) rs _ _ HSL2.out HFN2.out (by have := HY7.out; have := HRL.out; omega) HT7.out).mono ?_; rintro e w8 ⟨vb2, bs2, rfl, hmb⟩; have HMB2 := Lib.hid hmb; have HMS2 := Lib.hid (made_sl hmb).any; have HMO2 := Lib.hid (made_okay hmb HRS.out); clear hmb)
          | (go_at_call 21; refine (new_any _ vb2 bs2 _ HMS2.out HMO2.out.1).mono ?_; rintro e w9 ⟨ec2, zs2, tv2, hnew, rfl, ht9, hb9⟩; have H8 : Hid (TipOne w7 w8 (w9.alloc (.cells [tv2].toArray 28)) w9.heap.size tv2 zs2) := Lib.hid (TipOne.start HMB2.out.below ht9 hb9); have HNW2 := Lib.hid hnew; have htv2 : tv2.oneCell' = true := (by obtain ⟨A5, c5, rfl, -, -⟩ := ht9.1.form; rfl); clear hnew ht9 hb9)
          | (refine wpl_store_new rfl 28 _ _ rfl rfl [tv2] rfl _ _ rfl (by intro u hu; rw [List.mem_singleton] at hu; subst hu; exact htv2) tip_size ?_; generalize w9.alloc (.cells [tv2].toArray 28) = w10 at H8 ⊢))
        have hsame := Newed.same HNW.out HNW2.out (by rw [HMB.out.vals, HMB2.out.vals]; exact (HO.out.perm.symm.map _).map _)
        obtain ⟨hee, hvv⟩ := hsame
        subst hee
        obtain ⟨K, hK⟩ : ∃ K, keyB (zs.map LB.id) = K := ⟨_, rfl⟩
        obtain ⟨T, hTk⟩ : ∃ T, ticketN zs zs.length = T := ⟨_, rfl⟩
        obtain ⟨N, hN⟩ : ∃ N, winsN zs zs.length = N := ⟨_, rfl⟩
        have hK2 : keyB (zs2.map LB.id) = K := by rw [← keyB_vals hvv, hK]
        have hT2 : ticketN zs2 zs2.length = T := by rw [← ticketN_vals hvv, hTk]
        have hN2 : winsN zs2 zs2.length = N := by rw [← winsN_vals hvv, hN]
        have hZ : orI (cmpS (ticketN zs zs.length) (ticketN zs2 zs2.length)) (cmpS (keyB (zs.map LB.id)) (keyB (zs2.map LB.id))) = 0 := by
          rw [hK, hK2, hTk, hT2, cmpS_self, cmpS_self]; rfl
        have HW1 : Hid (∀ b ∈ zs, 0 ≤ b.x.h.wins ∧ b.x.h.wins ≤ 1000) := Lib.hid fun b hb => HMO.out.2 b (HNW.out.mem b hb)
        have HW2 : Hid (∀ b ∈ zs2, 0 ≤ b.x.h.wins ∧ b.x.h.wins ≤ 1000) := Lib.hid fun b hb => HMO2.out.2 b (HNW2.out.mem b hb)
        have C1 : Hid (∀ W, TipAt (fun _ => True) W tv zs → Calls Tryz.prog 34 #[tipV tv] W fun e w' => e = .returned (.string K) ∧ Below W.heap.size W w') := Lib.hid fun W h => by rw [← hK]; exact tkey_any W tv zs _ h HNW.out.nodup
        have C2 : Hid (∀ W, TipAt (fun _ => True) W tv2 zs2 → Calls Tryz.prog 34 #[tipV tv2] W fun e w' => e = .returned (.string K) ∧ Below W.heap.size W w') := Lib.hid fun W h => by rw [← hK2]; exact tkey_any W tv2 zs2 _ h HNW2.out.nodup
        have C3 : Hid (∀ W, TipAt (fun _ => True) W tv zs → Calls Tryz.prog 30 #[tipV tv] W fun e w' => e = .returned (.string T) ∧ Below W.heap.size W w') := Lib.hid fun W h => by rw [← hTk]; exact ticket_any W tv zs _ h
        have C4 : Hid (∀ W, TipAt (fun _ => True) W tv2 zs2 → Calls Tryz.prog 30 #[tipV tv2] W fun e w' => e = .returned (.string T) ∧ Below W.heap.size W w') := Lib.hid fun W h => by rw [← hT2]; exact ticket_any W tv2 zs2 _ h
        have C5 : Hid (∀ W, TipAt (fun _ => True) W tv zs → Calls Tryz.prog 29 #[tipV tv] W fun e w' => e = .returned (.int .i64 N) ∧ Below W.heap.size W w') := Lib.hid fun W h => by rw [← hN]; exact wins_any W tv zs _ h HW1.out
        have C6 : Hid (∀ W, TipAt (fun _ => True) W tv2 zs2 → Calls Tryz.prog 29 #[tipV tv2] W fun e w' => e = .returned (.int .i64 N) ∧ Below W.heap.size W w') := Lib.hid fun W h => by rw [← hN2]; exact wins_any W tv2 zs2 _ h HW2.out
        have C7 : Hid (∀ W, TipAt (fun _ => True) W tv zs → TipAt (fun _ => True) W tv2 zs2 → Calls Tryz.prog 33 #[tipV tv, tipV tv2] W fun e w' => e = .returned (.int .i64 0) ∧ Below W.heap.size W w') := Lib.hid fun W h h' => by rw [← hZ]; exact tcompare_any W tv tv2 zs zs2 _ _ h h' HNW.out.nodup HNW2.out.nodup
        have H9 : Hid (TipOne wr w5 w10 w6.heap.size tv zs) := Lib.hid (H7.out.under H8.out.below)
        have HBT : Hid (Below w.heap.size w w7) := Lib.hid (HBR.out.trans (H7.out.below.mono HBR.out.size))
        have hTT : TipOne wr w5 w10.drew w6.heap.size tv zs ∧ TipOne w7 w8 w10.drew w9.heap.size tv2 zs2 := ⟨H9.out.under (Below.refl _ w10).drew, H8.out.under (Below.refl _ w10).drew⟩
        have HTT := Lib.hid hTT
        clear hvv hK hTk hN hK2 hT2 hN2 hZ hTT
        refine st_ (S := (fun W' => TipOne wr w5 W' w6.heap.size tv zs ∧ TipOne w7 w8 W' w9.heap.size tv2 zs2)) 31 #[false, false, false, false, false, false, false, false, false, false, false, false, false, false, false, false, false, false, false, false, false, false, false, false, false, false, false, false, false, false, false] (by kernel_rfl) rfl (by rfl) HTT.out (fun hHeld => ?_)
        refine tk_ 0 (some 84) #[true, false, false, false, false, false, false, false, false, false, false, false, false, false, false, false, false, false, false, false, false, false, false, false, false, false, false, false, false, false, false] (v := ?_) (a' := ?_) rfl rfl (by kernel_rfl) (fun _ _ _ h => h) (yieldsIf_run rfl ?_) hHeld ?_ ?_
        rotate_left
        · intro w'
          go_simp
          with_reducible rfl
        rotate_left
        · simp only [Act.put, List.setIfInBounds_toArray, List.set_cons_zero, List.set_cons_succ]
          rfl
        refine tk_ 1 (some 85) #[true, true, false, false, false, false, false, false, false, false, false, false, false, false, false, false, false, false, false, false, false, false, false, false, false, false, false, false, false, false, false] (v := ?_) (a' := ?_) rfl rfl (by kernel_rfl) (fun _ _ _ h => h) (yieldsIf_run rfl ?_) hHeld ?_ ?_
        rotate_left
        · intro w'
          go_simp
          with_reducible rfl
        rotate_left
        · simp only [Act.put, List.setIfInBounds_toArray, List.set_cons_zero, List.set_cons_succ]
          rfl
        refine tk_ 2 (some 86) #[true, true, true, false, false, false, false, false, false, false, false, false, false, false, false, false, false, false, false, false, false, false, false, false, false, false, false, false, false, false, false] rfl rfl (by kernel_rfl) (fun _ _ _ h => h) (yieldsIf_run (v := .bool true) rfl fun w' => (show _ = Result.ok (Next.value (.bool (ec == ec))) w' from rfl).trans (by rw [beq_self_eq_true])) hHeld (a' := ?_) ?_ ?_
        rotate_left
        · simp only [Act.put, List.setIfInBounds_toArray, List.set_cons_zero, List.set_cons_succ]
          rfl
        refine tk_ 3 (some 87) #[true, true, true, true, false, false, false, false, false, false, false, false, false, false, false, false, false, false, false, false, false, false, false, false, false, false, false, false, false, false, false] (v := ?_) (a' := ?_) rfl rfl (by kernel_rfl) (fun _ _ _ h => h) (yieldsIf_run rfl ?_) hHeld ?_ ?_
        rotate_left
        · intro w'
          go_simp
          with_reducible rfl
        rotate_left
        · simp only [Act.put, List.setIfInBounds_toArray, List.set_cons_zero, List.set_cons_succ]
          rfl
        refine tk_ 4 (some 88) #[true, true, true, true, true, false, false, false, false, false, false, false, false, false, false, false, false, false, false, false, false, false, false, false, false, false, false, false, false, false, false] rfl rfl (by kernel_rfl) (fun _ _ _ h => h) (yieldsIf_tip rfl (.tmp 11) rfl (w6.heap.size) rfl tv (fun w' h => h.1.cell)) hHeld (a' := ?_) ?_ ?_
        rotate_left
        · simp only [Act.put, List.setIfInBounds_toArray, List.set_cons_zero, List.set_cons_succ]
          rfl
        refine tk_ 6 (some 90) #[true, true, true, true, true, false, true, false, false, false, false, false, false, false, false, false, false, false, false, false, false, false, false, false, false, false, false, false, false, false, false] rfl rfl (by kernel_rfl) (fun _ _ _ h => h) (yieldsIf_tip rfl (.tmp 13) rfl (w9.heap.size) rfl tv2 (fun w' h => h.2.cell)) hHeld (a' := ?_) ?_ ?_
        rotate_left
        · simp only [Act.put, List.setIfInBounds_toArray, List.set_cons_zero, List.set_cons_succ]
          rfl
        refine call_ 5 (some 89) #[true, true, true, true, true, true, true, false, false, false, false, false, false, false, false, false, false, false, false, false, false, false, false, false, false, false, false, false, false, false, false] rfl rfl (by kernel_rfl) rfl 34 _ (by kernel_rfl) (C1.out _ hHeld.1.tip) ?_
        rintro e v1 ⟨rfl, hb⟩
        refine ⟨_, rfl, ⟨hHeld.1.under hb, hHeld.2.under hb⟩, fun hHeld => ⟨?_, ?_, ?_⟩⟩
        rotate_left
        · simp only [Act.put, List.setIfInBounds_toArray, List.set_cons_zero, List.set_cons_succ]
          rfl
        refine call_ 7 (some 91) #[true, true, true, true, true, true, true, true, false, false, false, false, false, false, false, false, false, false, false, false, false, false, false, false, false, false, false, false, false, false, false] rfl rfl (by kernel_rfl) rfl 34 _ (by kernel_rfl) (C2.out _ hHeld.2.tip) ?_
        rintro e v2 ⟨rfl, hb⟩
        refine ⟨_, rfl, ⟨hHeld.1.under hb, hHeld.2.under hb⟩, fun hHeld => ⟨?_, ?_, ?_⟩⟩
        rotate_left
        · simp only [Act.put, List.setIfInBounds_toArray, List.set_cons_zero, List.set_cons_succ]
          rfl
        refine tk_ 8 (some 92) #[true, true, true, true, true, true, true, true, true, false, false, false, false, false, false, false, false, false, false, false, false, false, false, false, false, false, false, false, false, false, false] rfl rfl (by kernel_rfl) (fun _ _ _ h => h) (yieldsIf_run (v := .bool true) rfl fun w' => (show _ = Result.ok (Next.value (.bool (K.toList == K.toList))) w' from rfl).trans (by rw [beq_self_eq_true])) hHeld (a' := ?_) ?_ ?_
        rotate_left
        · simp only [Act.put, List.setIfInBounds_toArray, List.set_cons_zero, List.set_cons_succ]
          rfl
        refine tk_ 9 (some 93) #[true, true, true, true, true, true, true, true, true, true, false, false, false, false, false, false, false, false, false, false, false, false, false, false, false, false, false, false, false, false, false] (v := ?_) (a' := ?_) rfl rfl (by kernel_rfl) (fun _ _ _ h => h) (yieldsIf_run rfl ?_) hHeld ?_ ?_
        rotate_left
        · intro w'
          go_simp
          with_reducible rfl
        rotate_left
        · simp only [Act.put, List.setIfInBounds_toArray, List.set_cons_zero, List.set_cons_succ]
          rfl
        refine tk_ 10 (some 94) #[true, true, true, true, true, true, true, true, true, true, true, false, false, false, false, false, false, false, false, false, false, false, false, false, false, false, false, false, false, false, false] (v := ?_) (a' := ?_) rfl rfl (by kernel_rfl) (fun _ _ _ h => h) (yieldsIf_run rfl ?_) hHeld ?_ ?_
        rotate_left
        · intro w'
          go_simp
          with_reducible rfl
        rotate_left
        · simp only [Act.put, List.setIfInBounds_toArray, List.set_cons_zero, List.set_cons_succ]
          rfl
        refine tk_ 11 (some 95) #[true, true, true, true, true, true, true, true, true, true, true, true, false, false, false, false, false, false, false, false, false, false, false, false, false, false, false, false, false, false, false] rfl rfl (by kernel_rfl) (fun _ _ _ h => h) (yieldsIf_tip rfl (.tmp 11) rfl (w6.heap.size) rfl tv (fun w' h => h.1.cell)) hHeld (a' := ?_) ?_ ?_
        rotate_left
        · simp only [Act.put, List.setIfInBounds_toArray, List.set_cons_zero, List.set_cons_succ]
          rfl
        refine tk_ 13 (some 97) #[true, true, true, true, true, true, true, true, true, true, true, true, false, true, false, false, false, false, false, false, false, false, false, false, false, false, false, false, false, false, false] rfl rfl (by kernel_rfl) (fun _ _ _ h => h) (yieldsIf_tip rfl (.tmp 13) rfl (w9.heap.size) rfl tv2 (fun w' h => h.2.cell)) hHeld (a' := ?_) ?_ ?_
        rotate_left
        · simp only [Act.put, List.setIfInBounds_toArray, List.set_cons_zero, List.set_cons_succ]
          rfl
        refine call_ 12 (some 96) #[true, true, true, true, true, true, true, true, true, true, true, true, true, true, false, false, false, false, false, false, false, false, false, false, false, false, false, false, false, false, false] rfl rfl (by kernel_rfl) rfl 30 _ (by kernel_rfl) (C3.out _ hHeld.1.tip) ?_
        rintro e v3 ⟨rfl, hb⟩
        refine ⟨_, rfl, ⟨hHeld.1.under hb, hHeld.2.under hb⟩, fun hHeld => ⟨?_, ?_, ?_⟩⟩
        rotate_left
        · simp only [Act.put, List.setIfInBounds_toArray, List.set_cons_zero, List.set_cons_succ]
          rfl
        refine call_ 14 (some 98) #[true, true, true, true, true, true, true, true, true, true, true, true, true, true, true, false, false, false, false, false, false, false, false, false, false, false, false, false, false, false, false] rfl rfl (by kernel_rfl) rfl 30 _ (by kernel_rfl) (C4.out _ hHeld.2.tip) ?_
        rintro e v4 ⟨rfl, hb⟩
        refine ⟨_, rfl, ⟨hHeld.1.under hb, hHeld.2.under hb⟩, fun hHeld => ⟨?_, ?_, ?_⟩⟩
        rotate_left
        · simp only [Act.put, List.setIfInBounds_toArray, List.set_cons_zero, List.set_cons_succ]
          rfl
        refine tk_ 15 (some 99) #[true, true, true, true, true, true, true, true, true, true, true, true, true, true, true, true, false, false, false, false, false, false, false, false, false, false, false, false, false, false, false] rfl rfl (by kernel_rfl) (fun _ _ _ h => h) (yieldsIf_run (v := .bool true) rfl fun w' => (show _ = Result.ok (Next.value (.bool (T.toList == T.toList))) w' from rfl).trans (by rw [beq_self_eq_true])) hHeld (a' := ?_) ?_ ?_
        rotate_left
        · simp only [Act.put, List.setIfInBounds_toArray, List.set_cons_zero, List.set_cons_succ]
          rfl
        refine tk_ 16 (some 100) #[true, true, true, true, true, true, true, true, true, true, true, true, true, true, true, true, true, false, false, false, false, false, false, false, false, false, false, false, false, false, false] (v := ?_) (a' := ?_) rfl rfl (by kernel_rfl) (fun _ _ _ h => h) (yieldsIf_run rfl ?_) hHeld ?_ ?_
        rotate_left
        · intro w'
          go_simp
          with_reducible rfl
        rotate_left
        · simp only [Act.put, List.setIfInBounds_toArray, List.set_cons_zero, List.set_cons_succ]
          rfl
        refine tk_ 17 (some 101) #[true, true, true, true, true, true, true, true, true, true, true, true, true, true, true, true, true, true, false, false, false, false, false, false, false, false, false, false, false, false, false] (v := ?_) (a' := ?_) rfl rfl (by kernel_rfl) (fun _ _ _ h => h) (yieldsIf_run rfl ?_) hHeld ?_ ?_
        rotate_left
        · intro w'
          go_simp
          with_reducible rfl
        rotate_left
        · simp only [Act.put, List.setIfInBounds_toArray, List.set_cons_zero, List.set_cons_succ]
          rfl
        refine tk_ 18 (some 102) #[true, true, true, true, true, true, true, true, true, true, true, true, true, true, true, true, true, true, true, false, false, false, false, false, false, false, false, false, false, false, false] rfl rfl (by kernel_rfl) (fun _ _ _ h => h) (yieldsIf_tip rfl (.tmp 11) rfl (w6.heap.size) rfl tv (fun w' h => h.1.cell)) hHeld (a' := ?_) ?_ ?_
        rotate_left
        · simp only [Act.put, List.setIfInBounds_toArray, List.set_cons_zero, List.set_cons_succ]
          rfl
        refine tk_ 20 (some 104) #[true, true, true, true, true, true, true, true, true, true, true, true, true, true, true, true, true, true, true, false, true, false, false, false, false, false, false, false, false, false, false] rfl rfl (by kernel_rfl) (fun _ _ _ h => h) (yieldsIf_tip rfl (.tmp 13) rfl (w9.heap.size) rfl tv2 (fun w' h => h.2.cell)) hHeld (a' := ?_) ?_ ?_
        rotate_left
        · simp only [Act.put, List.setIfInBounds_toArray, List.set_cons_zero, List.set_cons_succ]
          rfl
        refine call_ 19 (some 103) #[true, true, true, true, true, true, true, true, true, true, true, true, true, true, true, true, true, true, true, true, true, false, false, false, false, false, false, false, false, false, false] rfl rfl (by kernel_rfl) rfl 29 _ (by kernel_rfl) (C5.out _ hHeld.1.tip) ?_
        rintro e v5 ⟨rfl, hb⟩
        refine ⟨_, rfl, ⟨hHeld.1.under hb, hHeld.2.under hb⟩, fun hHeld => ⟨?_, ?_, ?_⟩⟩
        rotate_left
        · simp only [Act.put, List.setIfInBounds_toArray, List.set_cons_zero, List.set_cons_succ]
          rfl
        refine call_ 21 (some 105) #[true, true, true, true, true, true, true, true, true, true, true, true, true, true, true, true, true, true, true, true, true, true, false, false, false, false, false, false, false, false, false] rfl rfl (by kernel_rfl) rfl 29 _ (by kernel_rfl) (C6.out _ hHeld.2.tip) ?_
        rintro e v6 ⟨rfl, hb⟩
        refine ⟨_, rfl, ⟨hHeld.1.under hb, hHeld.2.under hb⟩, fun hHeld => ⟨?_, ?_, ?_⟩⟩
        rotate_left
        · simp only [Act.put, List.setIfInBounds_toArray, List.set_cons_zero, List.set_cons_succ]
          rfl
        refine tk_ 22 (some 106) #[true, true, true, true, true, true, true, true, true, true, true, true, true, true, true, true, true, true, true, true, true, true, true, false, false, false, false, false, false, false, false] rfl rfl (by kernel_rfl) (fun _ _ _ h => h) (yieldsIf_run (v := .bool true) rfl fun w' => (show _ = Result.ok (Next.value (.bool (N == N))) w' from rfl).trans (by rw [beq_self_eq_true])) hHeld (a' := ?_) ?_ ?_
        rotate_left
        · simp only [Act.put, List.setIfInBounds_toArray, List.set_cons_zero, List.set_cons_succ]
          rfl
        refine tk_ 23 (some 107) #[true, true, true, true, true, true, true, true, true, true, true, true, true, true, true, true, true, true, true, true, true, true, true, true, false, false, false, false, false, false, false] (v := ?_) (a' := ?_) rfl rfl (by kernel_rfl) (fun _ _ _ h => h) (yieldsIf_run rfl ?_) hHeld ?_ ?_
        rotate_left
        · intro w'
          go_simp
          with_reducible rfl
        rotate_left
        · simp only [Act.put, List.setIfInBounds_toArray, List.set_cons_zero, List.set_cons_succ]
          rfl
        refine tk_ 24 (some 108) #[true, true, true, true, true, true, true, true, true, true, true, true, true, true, true, true, true, true, true, true, true, true, true, true, true, false, false, false, false, false, false] (v := ?_) (a' := ?_) rfl rfl (by kernel_rfl) (fun _ _ _ h => h) (yieldsIf_run rfl ?_) hHeld ?_ ?_
        rotate_left
        · intro w'
          go_simp
          with_reducible rfl
        rotate_left
        · simp only [Act.put, List.setIfInBounds_toArray, List.set_cons_zero, List.set_cons_succ]
          rfl
        refine tk_ 25 (some 109) #[true, true, true, true, true, true, true, true, true, true, true, true, true, true, true, true, true, true, true, true, true, true, true, true, true, true, false, false, false, false, false] rfl rfl (by kernel_rfl) (fun _ _ _ h => h) (yieldsIf_tip rfl (.tmp 11) rfl (w6.heap.size) rfl tv (fun w' h => h.1.cell)) hHeld (a' := ?_) ?_ ?_
        rotate_left
        · simp only [Act.put, List.setIfInBounds_toArray, List.set_cons_zero, List.set_cons_succ]
          rfl
        refine tk_ 26 (some 110) #[true, true, true, true, true, true, true, true, true, true, true, true, true, true, true, true, true, true, true, true, true, true, true, true, true, true, true, false, false, false, false] rfl rfl (by kernel_rfl) (fun _ _ _ h => h) (yieldsIf_tip rfl (.tmp 13) rfl (w9.heap.size) rfl tv2 (fun w' h => h.2.cell)) hHeld (a' := ?_) ?_ ?_
        rotate_left
        · simp only [Act.put, List.setIfInBounds_toArray, List.set_cons_zero, List.set_cons_succ]
          rfl
        refine call_ 27 (some 111) #[true, true, true, true, true, true, true, true, true, true, true, true, true, true, true, true, true, true, true, true, true, true, true, true, true, true, true, true, false, false, false] rfl rfl (by kernel_rfl) rfl 33 _ (by kernel_rfl) (C7.out _ hHeld.1.tip hHeld.2.tip) ?_
        rintro e v7 ⟨rfl, hb⟩
        refine ⟨_, rfl, ⟨hHeld.1.under hb, hHeld.2.under hb⟩, fun hHeld => ⟨?_, ?_, ?_⟩⟩
        rotate_left
        · simp only [Act.put, List.setIfInBounds_toArray, List.set_cons_zero, List.set_cons_succ]
          rfl
        refine tk_ 28 (some 112) #[true, true, true, true, true, true, true, true, true, true, true, true, true, true, true, true, true, true, true, true, true, true, true, true, true, true, true, true, true, false, false] rfl rfl (by kernel_rfl) (fun _ _ _ h => h) (yieldsIf_run (v := .bool true) rfl fun w' => rfl) hHeld (a' := ?_) ?_ ?_
        rotate_left
        · simp only [Act.put, List.setIfInBounds_toArray, List.set_cons_zero, List.set_cons_succ]
          rfl
        refine tk_ 29 (some 113) #[true, true, true, true, true, true, true, true, true, true, true, true, true, true, true, true, true, true, true, true, true, true, true, true, true, true, true, true, true, true, false] (v := ?_) (a' := ?_) rfl rfl (by kernel_rfl) (fun _ _ _ h => h) (yieldsIf_run rfl ?_) hHeld ?_ ?_
        rotate_left
        · intro w'
          go_simp
          with_reducible rfl
        rotate_left
        · simp only [Act.put, List.setIfInBounds_toArray, List.set_cons_zero, List.set_cons_succ]
          rfl
        refine tk_ 30 (some 4) #[true, true, true, true, true, true, true, true, true, true, true, true, true, true, true, true, true, true, true, true, true, true, true, true, true, true, true, true, true, true, true] (v := ?_) (a' := ?_) rfl rfl (by kernel_rfl) (fun _ _ _ h => h) (yieldsIf_run rfl ?_) hHeld ?_ ?_
        rotate_left
        · intro w'
          go_simp
          with_reducible rfl
        rotate_left
        · simp only [Act.put, List.setIfInBounds_toArray, List.set_cons_zero, List.set_cons_succ]
          rfl
        refine wpAnyH_done (by kernel_rfl) ?_ _
        (try change Exit.then _ _ _ _ _)
        go_wp2
        go_ret
        exact ⟨rfl, HBT.out.trans (hHeld.2.below.mono HBT.out.size)⟩
end Go.Proofs.YthpcedficlhanaaGreatDoor
