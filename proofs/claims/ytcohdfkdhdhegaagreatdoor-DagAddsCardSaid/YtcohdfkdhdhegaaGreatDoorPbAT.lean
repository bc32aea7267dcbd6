/- coxswainlaw13.Seed.Grow, Grown: what they answer may be told. -/
import Derived.Test.YtcohdfkdhdhegaaGreatDoorPbAK
import Derived.Test.YtcohdfkdhdhegaaGreatDoorPbAL
import Derived.Test.YtcohdfkdhdhegaaGreatDoorPbAN
import Derived.Test.YtcohdfkdhdhegaaGreatDoorPbAP
import Derived.Test.YtcohdfkdhdhegaaGreatDoorPbAS
namespace Go.Proofs.YtcohdfkdhdhegaaGreatDoor
open Go.RowKit

/-- A seed. -/
structure SD where
  of : List Int
  up : Int
  miner : Int
  wins : Int
  power : Int
  ticket : ByteArray
  salt : Int
  raw : Bool
  h : RH
structure LSD where
  s : SD
  A : Option Addr
  c : Nat
  A2 : Option Addr
  c2 : Nat
def LSD.x (y : LSD) : LRH := ⟨y.s.h, y.A2, y.c2⟩
def LSD.cells (y : LSD) : List Value := [.slice y.A y.s.of.length y.c, .int .i64 y.s.up, .int .i64 y.s.miner, .int .i64 y.s.wins, .int .i64 y.s.power, .string y.s.ticket, .int .i64 y.s.salt, .bool y.s.raw] ++ y.x.cells
def intE : Enc Int := { enc := fun x => [.int .i64 x], k := 1, hk := fun _ => rfl, one := fun _ u hu => by rw [List.mem_singleton] at hu; subst hu; rfl, k0 := by decide }
structure LSD.At (y : LSD) (ok : Nat → Prop) (w : World) : Prop where
  of : SlW intE ok w (.slice y.A y.s.of.length y.c) y.s.of
  h : SlW strE ok w y.x.v y.s.h.parents
/-- What its numbers are. -/
structure SeedOk (s : SD) : Prop where
  of : ∀ x ∈ s.of, I64 x
  up : I64 s.up
  miner : I64 s.miner
  wins : I64 s.wins
  power : I64 s.power
  salt : I64 s.salt
  ticket : s.ticket.size ≤ 140737488351232
  hheight : I64 s.h.height
  hminer : I64 s.h.miner
  hwins : I64 s.h.wins
  hsalt : I64 s.h.salt
  hticket : s.h.ticket.size ≤ 140737488351232
  hp0 : 0 ≤ s.h.power
  hp1 : s.h.power < 18446744073709551616
/-- What a grown header is. -/
structure GrownH (h : RH) : Prop where
  tell : TellH h
  names : ∀ s ∈ h.parents, s.size = 32
  p0 : 0 ≤ h.power
  p1 : h.power < 18446744073709551616
theorem few_grown {s : SD} (k : SeedOk s) : GrownH (fewH s.h) where
  tell := ⟨k.hheight, k.hminer, k.hwins, k.hsalt, by
      show (cutS s.h.ticket 10).size ≤ 1000
      rcases cutS_size s.h.ticket 10 with h | h <;> omega, by
      show ((s.h.parents.take 7).map fun s => (idOf s).1).length ≤ 100
      rw [List.length_map, List.length_take]; omega, fun t ht => by
      obtain ⟨u, -, rfl⟩ := List.mem_map.1 ht
      rw [(idOf u).2]; decide⟩
  names := fun t ht => by
    obtain ⟨u, -, rfl⟩ := List.mem_map.1 ht
    exact (idOf u).2
  p0 := k.hp0
  p1 := k.hp1
theorem RID (w : World) (x : LRH) (ok : Nat → Prop) (hx : x.At ok w) (hok : TellH x.h) : Calls Tryz.prog 89 #[.agg x.cells.toArray] w fun e w' => ∃ n : ID, e = .returned (.string n.1) ∧ Below w.heap.size w w' :=
  (rid_any w x ok hx hok).mono fun _ _ h => ⟨_, h⟩
theorem RGEN (w : World) : Calls Tryz.prog 15 #[] w fun e w' => ∃ n : ID, e = .returned (.agg #[.string n.1, .int .i64 0, .int .i64 0, .string ⟨#[]⟩, .int .i64 0, .int .u64 2, .slice none 0 0, .int .i64 0]) ∧ Below w.heap.size w w' :=
  (rgenesis_any w).mono fun _ _ h => ⟨_, h⟩
set_option maxRecDepth 100000 in
set_option maxHeartbeats 2000000 in
theorem growRaw_any (w : World) (y : LSD) (ok : Nat → Prop) (hy : y.At ok w) (hk : SeedOk y.s) (v : Value) (hraw : y.s.raw = true) :
    Calls Tryz.prog 86 #[.agg y.cells.toArray, v] w fun e w' => ∃ z : LRH, GrownH z.h ∧ e = .returned (.agg z.cells.toArray) ∧ z.At (fun k => w.heap.size ≤ k) w' ∧ Below w.heap.size w w' := by
  have hb0 : Below w.heap.size w ((w.alloc (.cells y.cells.toArray 138)).alloc (.cells zRH 29)) := ((Below.refl _ w).alloc (Nat.le_refl _) _).alloc (by simp) _
  have hg0 : ((w.alloc (.cells y.cells.toArray 138)).alloc (.cells zRH 29)).heap[w.heap.size]? = some (.cells y.cells.toArray 138 (0, 0)) := (heap_alloc_old (w.alloc (.cells y.cells.toArray 138)) _ (by simp)).trans (heap_alloc_new w _)
  have hg1 : ((w.alloc (.cells y.cells.toArray 138)).alloc (.cells zRH 29)).heap[w.heap.size + 1]? = some (.cells zRH 29 (0, 0)) := by
    have := heap_alloc_new (w.alloc (.cells y.cells.toArray 138)) (.cells zRH 29)
    rwa [World.size_alloc] at this
  have HB0 := Lib.hid hb0
  have HG0 := Lib.hid hg0
  have HG1 := Lib.hid hg1
  have HK := Lib.hid hk
  have HX : Hid (SlW strE ok ((w.alloc (.cells y.cells.toArray 138)).alloc (.cells zRH 29)) y.x.v y.x.h.parents) := Lib.hid (hy.h.below hb0)
  have hc7 : ((w.alloc (.cells y.cells.toArray 138)).alloc (.cells zRH 29)).cell? ⟨w.heap.size, 7, none⟩ = some (.bool true) := cell_block hg0 (by rw [← hraw]; rfl)
  have HH : Hid (∀ j u, y.x.cells[j]? = some u → ((w.alloc (.cells y.cells.toArray 138)).alloc (.cells zRH 29)).cell? ⟨w.heap.size, 8 + j, none⟩ = some u) := Lib.hid fun j u hu => cell_block hg0 (by
    show y.cells.toArray[8 + j]? = some u
    rw [List.getElem?_toArray, LSD.cells, List.getElem?_append_right (by simp)]
    simpa using hu)
  clear hb0 hg0 hg1 hk hy hraw
  go_enter Tryz.func86, Tryz.ntmps86
  go_upto_region 1 with fail
  change Code.wp _ _ _ _ ((w.alloc (.cells y.cells.toArray 138)).alloc (.cells zRH 29))
  generalize (w.alloc (.cells y.cells.toArray 138)).alloc (.cells zRH 29) = W0 at HB0 HG0 HG1 HX hc7 HH ⊢
  go_wp2_with (first
    | (refine wpl_load rfl 29 (.tmp 12) rfl w.heap.size 8 rfl y.x.cells _ HH.out Tryz.underlying29 rfl rh_size ?_)
    | (go_at_call 136; refine (few_any _ y.x ok HX.out HK.out.hticket).mono ?_; rintro e w1 ⟨z, hz, rfl, hza, hb1⟩; have HZ := Lib.hid hz; have HZA := Lib.hid hza; have HB1 := Lib.hid (HB0.out.trans (hb1.mono HB0.out.size)); have HG1' : Hid (w1.heap[w.heap.size + 1]? = some (.cells zRH 29 (0, 0))) := Lib.hid ((hb1.block _ (Array.getElem?_eq_some_iff.1 HG1.out).1).trans HG1.out); clear hz hza hb1)
    | (refine wpl_store_row rfl 29 (.tmp 4) (.tmp 14) rfl (w.heap.size + 1) rfl z.cells rfl _ 29 HG1'.out rfl (lrhE.one z) rh_size ?_))
  (try simp only [Exit.inBlock, Exit.then])
  refine bodyPost_ret (results_cell_row rfl _ _ (w.heap.size + 1) 29 z.cells.toArray (0, 0) _ rfl (setRow_heap _ (w.heap.size + 1) _ _ _ _ HG1'.out) Tryz.underlying29 rfl (by rw [List.size_toArray]; exact rh_size)) rfl ?_
  have hsz : w.heap.size + 1 < W0.heap.size := (Array.getElem?_eq_some_iff.1 HG1.out).1
  refine ⟨z, by rw [HZ.out]; exact few_grown HK.out, rfl, ?_, below_setRow HB1.out (Nat.le_succ _) _⟩
  have h2 : z.At (fun k => W0.heap.size ≤ k) w1 := HZA.out
  exact Sl.mono (Sl.fr (ok := fun k => W0.heap.size ≤ k) h2 ⟨by simp, fun k hk _ => heap_setRow_ne _ _ _ _ (by omega)⟩) fun k hk => by omega

theorem pick_ix (x : Int) (n : Nat) (h0 : 0 < n) (h1 : n ≤ 1000) : ∃ j : Nat, j < n ∧ (wrap64 (x.tmod n + n)).tmod n = (j : Int) := by
  have b1 : x.tmod n < n := Int.tmod_lt_of_pos x (by omega)
  have b2 : -(n : Int) < x.tmod n := by
    have := Int.tmod_lt_of_pos (-x) (b := (n : Int)) (by omega)
    rw [Int.neg_tmod] at this
    omega
  rw [IntWalk.wrap64_in _ (by omega), Int.tmod_eq_emod_of_nonneg (by omega)]
  have c1 := Int.emod_nonneg (x.tmod n + n) (b := (n : Int)) (by omega)
  have c2 := Int.emod_lt_of_pos (x.tmod n + n) (b := (n : Int)) (by omega)
  exact ⟨((x.tmod n + n) % n).toNat, by omega, by omega⟩
/-- What lies while a header is grown. -/
structure GrowS (w W : World) (y : LSD) (ok : Nat → Prop) (l : List LRH) (v : Value) : Prop where
  box : W.heap[w.heap.size]? = some (.cells y.cells.toArray 138 (0, 0))
  res : W.heap[w.heap.size + 1]? = some (.cells zRH 29 (0, 0))
  of : SlW intE ok W (.slice y.A y.s.of.length y.c) y.s.of
  row : Sl lrhE ok W v l
  at_ : ∀ x ∈ l, x.At ok W
  below : Below w.heap.size w W
theorem GrowS.next {w W W' : World} {y : LSD} {ok : Nat → Prop} {l : List LRH} {v : Value} (h : GrowS w W y ok l v) (hb : Below W.heap.size W W') : GrowS w W' y ok l v where
  box := (hb.block _ (Array.getElem?_eq_some_iff.1 h.box).1).trans h.box
  res := (hb.block _ (Array.getElem?_eq_some_iff.1 h.res).1).trans h.res
  of := h.of.below hb
  row := h.row.below hb
  at_ := fun x hx => Sl.below (h.at_ x hx) hb
  below := h.below.trans (hb.mono h.below.size)
theorem GrowS.alloc {w W : World} {y : LSD} {ok : Nat → Prop} {l : List LRH} {v : Value} (h : GrowS w W y ok l v) (o : Obj) : GrowS w (W.alloc o) y ok l v := h.next ((Below.refl _ _).alloc (Nat.le_refl _) _)

/-- What lies at the end: the header that is made, in a variable of its own. -/
structure GrowE (w W : World) (y : LSD) (b : Nat) (x : LRH) : Prop where
  box : W.heap[w.heap.size]? = some (.cells y.cells.toArray 138 (0, 0))
  res : W.heap[w.heap.size + 1]? = some (.cells zRH 29 (0, 0))
  cell : W.heap[b]? = some (.cells x.cells.toArray 29 (0, 0))
  at_ : x.At (fun k => w.heap.size + 1 < k ∧ k ≠ b) W
  below : Below w.heap.size w W
  far : w.heap.size + 1 < b
theorem GrowE.next {w W W' : World} {y : LSD} {b : Nat} {x : LRH} (h : GrowE w W y b x) (hb : Below W.heap.size W W') : GrowE w W' y b x where
  box := (hb.block _ (Array.getElem?_eq_some_iff.1 h.box).1).trans h.box
  res := (hb.block _ (Array.getElem?_eq_some_iff.1 h.res).1).trans h.res
  cell := (hb.block _ (Array.getElem?_eq_some_iff.1 h.cell).1).trans h.cell
  at_ := Sl.below h.at_ hb
  below := h.below.trans (hb.mono h.below.size)
  far := h.far
theorem GrowE.set {w W : World} {y : LSD} {b : Nat} {x : LRH} (h : GrowE w W y b x) (j : Nat) (u : Value) (x' : LRH) (hc : x.cells.toArray.setIfInBounds j u = x'.cells.toArray) (hat : x'.At (fun k => w.heap.size + 1 < k ∧ k ≠ b) W) : GrowE w (W.setCell ⟨b, j, none⟩ u) y b x' where
  box := (Below.heap_setCell _ _ _ _ (by have := h.far; show w.heap.size ≠ b; omega)).trans h.box
  res := (Below.heap_setCell _ _ _ _ (by have := h.far; show w.heap.size + 1 ≠ b; omega)).trans h.res
  cell := by rw [← hc]; exact heap_setCell_at W b j _ _ _ u h.cell
  at_ := Sl.fr hat ((Fr.refl _ W).setCell (p := ⟨b, j, none⟩) (fun h => h.2 rfl) u)
  below := h.below.setCell (p := ⟨b, j, none⟩) (by have := h.far; show w.heap.size ≤ b; omega) u
  far := h.far

set_option maxRecDepth 100000 in
set_option maxHeartbeats 2000000 in
theorem growNew_any (w : World) (y : LSD) (ok : Nat → Prop) (hy : y.At ok w) (hk : SeedOk y.s) (v : Value) (l : List LRH) (hl : Sl lrhE ok w v l) (hla : ∀ x ∈ l, x.At ok w ∧ GrownH x.h) (hlen : l.length ≤ 1000) (hraw : y.s.raw = false) :
    Calls Tryz.prog 86 #[.agg y.cells.toArray, v] w fun e w' => ∃ z : LRH, GrownH z.h ∧ e = .returned (.agg z.cells.toArray) ∧ z.At (fun k => w.heap.size ≤ k) w' ∧ Below w.heap.size w w' := by
  have hb0 : Below w.heap.size w ((w.alloc (.cells y.cells.toArray 138)).alloc (.cells zRH 29)) := ((Below.refl _ w).alloc (Nat.le_refl _) _).alloc (by simp) _
  have hg0 : ((w.alloc (.cells y.cells.toArray 138)).alloc (.cells zRH 29)).heap[w.heap.size]? = some (.cells y.cells.toArray 138 (0, 0)) := (heap_alloc_old (w.alloc (.cells y.cells.toArray 138)) _ (by simp)).trans (heap_alloc_new w _)
  have hg1 : ((w.alloc (.cells y.cells.toArray 138)).alloc (.cells zRH 29)).heap[w.heap.size + 1]? = some (.cells zRH 29 (0, 0)) := by
    have := heap_alloc_new (w.alloc (.cells y.cells.toArray 138)) (.cells zRH 29)
    rwa [World.size_alloc] at this
  obtain ⟨⟨of, up, miner, wins, power, ticket, salt, raw, rh⟩, A, c, A2, c2⟩ := y
  simp only at hraw
  subst hraw
  have HS0 : Hid (GrowS w ((w.alloc (.cells (LSD.cells ⟨⟨of, up, miner, wins, power, ticket, salt, false, rh⟩, A, c, A2, c2⟩).toArray 138)).alloc (.cells zRH 29)) ⟨⟨of, up, miner, wins, power, ticket, salt, false, rh⟩, A, c, A2, c2⟩ ok l v) := Lib.hid ⟨hg0, hg1, hy.of.below hb0, hl.below hb0, fun x hx => Sl.below (hla x hx).1 hb0, hb0⟩
  have HK := Lib.hid hk
  have HGL : Hid (∀ x ∈ l, GrownH x.h) := Lib.hid fun x hx => (hla x hx).2
  obtain ⟨A1, c1, rfl, hc1, hm1⟩ := hl.form
  have hc7 : ((w.alloc (.cells (LSD.cells ⟨⟨of, up, miner, wins, power, ticket, salt, false, rh⟩, A, c, A2, c2⟩).toArray 138)).alloc (.cells zRH 29)).cell? ⟨w.heap.size, 7, none⟩ = some (.bool false) := cell_block hg0 rfl
  clear hb0 hg0 hg1 hk hy hl hla
  go_enter Tryz.func86, Tryz.ntmps86
  go_upto_region 1 with fail
  change Code.wp _ _ _ _ ((w.alloc (.cells (LSD.cells ⟨⟨of, up, miner, wins, power, ticket, salt, false, rh⟩, A, c, A2, c2⟩).toArray 138)).alloc (.cells zRH 29))
  generalize (w.alloc (.cells (LSD.cells ⟨⟨of, up, miner, wins, power, ticket, salt, false, rh⟩, A, c, A2, c2⟩).toArray 138)).alloc (.cells zRH 29) = W0 at HS0 hc7 ⊢
  obtain ⟨m, hm⟩ : ∃ m, bits .and .i64 miner 7 = m := ⟨_, rfl⟩
  obtain ⟨w7, hw7⟩ : ∃ m, bits .and .i64 wins 7 = m := ⟨_, rfl⟩
  obtain ⟨p15, hp15⟩ : ∃ m, bits .and .i64 power 15 = m := ⟨_, rfl⟩
  obtain ⟨s15, hs15⟩ : ∃ m, bits .and .i64 salt 15 = m := ⟨_, rfl⟩
  have bm : 0 ≤ m ∧ m < 8 := by rw [← hm, and_low miner 3 7 (by decide) (by decide)]; omega
  have bw : 0 ≤ w7 ∧ w7 < 8 := by rw [← hw7, and_low wins 3 7 (by decide) (by decide)]; omega
  have bp : 0 ≤ p15 ∧ p15 < 16 := by rw [← hp15, and_low power 4 15 (by decide) (by decide)]; omega
  have bs : 0 ≤ s15 ∧ s15 < 16 := by rw [← hs15, and_low salt 4 15 (by decide) (by decide)]; omega
  obtain ⟨tk, htk⟩ : ∃ tk, cutS ticket 3 = tk := ⟨_, rfl⟩
  have ztk : tk.size ≤ 3 := by rw [← htk]; rcases cutS_size ticket 3 with h | h <;> omega
  have HM := Lib.hid hm
  have HW7 := Lib.hid hw7
  have HP15 := Lib.hid hp15
  have HS15 := Lib.hid hs15
  have HCUT : Hid (∀ W, Calls Tryz.prog 31 #[.string ticket, .int .i64 3] W fun e w' => e = .returned (.string tk) ∧ W = w') := Lib.hid fun W => by rw [← htk]; exact cut_any W ticket 3 (by decide) HK.out.ticket
  clear hm hw7 hp15 hs15 htk
  go_upto_region 3 with fail
  have HS1 := Lib.hid (HS0.out.next (Below.refl _ W0).drew)
  obtain ⟨ts, hts⟩ : ∃ ts : ByteArray, (⟨#[116]⟩ : ByteArray) ++ tk = ts := ⟨_, rfl⟩
  have zts : ts.size ≤ 4 := by rw [← hts, ByteArray.size_append]; show 1 + tk.size ≤ 4; omega
  have HTS := Lib.hid hts
  clear hts
  have HZ1 : Hid (w.heap.size + 1 < W0.drew.heap.size) := Lib.hid (Array.getElem?_eq_some_iff.1 HS1.out.res).1
  go_cut [5] from 15 to 34 (fun v5 W => ∃ b : Nat, v5 = .pointer (some ⟨b, 0, none⟩) ∧ GrowS w W ⟨⟨of, up, miner, wins, power, ticket, salt, false, rh⟩, A, c, A2, c2⟩ ok l (.slice A1 l.length c1) ∧ W.heap[b]? = some (.cells (LRH.cells ⟨⟨0, m, ts, 1 + w7, 2 + p15, [], s15⟩, none, 0⟩).toArray 29 (0, 0)) ∧ w.heap.size + 1 < b)
  case first =>
    refine stD_ (S := (fun W' => GrowS w W' ⟨⟨of, up, miner, wins, power, ticket, salt, false, rh⟩, A, c, A2, c2⟩ ok l (.slice A1 l.length c1))) [21] 22 (bt 0 22) (by kernel_rfl) rfl (by rfl) HS1.out (fun hHeld => ?_)
    refine tkD_ 0 (some 15) (bt 1 21) (v := ?_) (a' := ?_) rfl rfl (by kernel_rfl) (fun _ _ _ h => h) (yieldsIf_run rfl ?_) hHeld ?_ ?_
    rotate_left
    · intro w'
      go_simp
      with_reducible rfl
    rotate_left
    · simp only [Act.put, List.setIfInBounds_toArray, List.set_cons_zero, List.set_cons_succ]
      rfl
    refine tkD_ 1 (some 16) (bt 2 20) rfl rfl (by kernel_rfl) (fun _ _ _ h => h) (yieldsIf_cell rfl 3 (.tmp 15) rfl ⟨w.heap.size, 2, none⟩ rfl (.int .i64 miner) _ (fun W' h => cell_block h.box rfl) Tryz.underlying3 rfl) hHeld (a' := ?_) ?_ ?_
    rotate_left
    · simp only [Act.put, List.setIfInBounds_toArray, List.set_cons_zero, List.set_cons_succ]
      rfl
    refine tkD_ 2 (some 17) (bt 3 19) rfl rfl (by kernel_rfl) (fun _ _ _ h => h) (yieldsIf_run (v := .int .i64 m) rfl fun W' => (show _ = Result.ok (Next.value (.int .i64 (bits .and .i64 miner 7))) W' from rfl).trans (by rw [HM.out])) hHeld (a' := ?_) ?_ ?_
    rotate_left
    · simp only [Act.put, List.setIfInBounds_toArray, List.set_cons_zero, List.set_cons_succ]
      rfl
    refine tkD_ 3 (some 18) (bt 4 18) (v := ?_) (a' := ?_) rfl rfl (by kernel_rfl) (fun _ _ _ h => h) (yieldsIf_run rfl ?_) hHeld ?_ ?_
    rotate_left
    · intro w'
      go_simp
      with_reducible rfl
    rotate_left
    · simp only [Act.put, List.setIfInBounds_toArray, List.set_cons_zero, List.set_cons_succ]
      rfl
    refine tkD_ 4 (some 19) (bt 5 17) rfl rfl (by kernel_rfl) (fun _ _ _ h => h) (yieldsIf_cell rfl 3 (.tmp 18) rfl ⟨w.heap.size, 3, none⟩ rfl (.int .i64 wins) _ (fun W' h => cell_block h.box rfl) Tryz.underlying3 rfl) hHeld (a' := ?_) ?_ ?_
    rotate_left
    · simp only [Act.put, List.setIfInBounds_toArray, List.set_cons_zero, List.set_cons_succ]
      rfl
    refine tkD_ 5 (some 20) (bt 6 16) rfl rfl (by kernel_rfl) (fun _ _ _ h => h) (yieldsIf_run (v := .int .i64 w7) rfl fun W' => (show _ = Result.ok (Next.value (.int .i64 (bits .and .i64 wins 7))) W' from rfl).trans (by rw [HW7.out])) hHeld (a' := ?_) ?_ ?_
    rotate_left
    · simp only [Act.put, List.setIfInBounds_toArray, List.set_cons_zero, List.set_cons_succ]
      rfl
    refine tkD_ 6 (some 21) (bt 7 15) rfl rfl (by kernel_rfl) (fun _ _ _ h => h) (yieldsIf_run (v := .int .i64 (1 + w7)) rfl fun W' => (show _ = Result.ok (Next.value (.int .i64 (IntKind.i64.wrap (1 + w7)))) W' from rfl).trans (by rw [IntWalk.i64_in _ (by omega)])) hHeld (a' := ?_) ?_ ?_
    rotate_left
    · simp only [Act.put, List.setIfInBounds_toArray, List.set_cons_zero, List.set_cons_succ]
      rfl
    refine tkD_ 7 (some 22) (bt 8 14) (v := ?_) (a' := ?_) rfl rfl (by kernel_rfl) (fun _ _ _ h => h) (yieldsIf_run rfl ?_) hHeld ?_ ?_
    rotate_left
    · intro w'
      go_simp
      with_reducible rfl
    rotate_left
    · simp only [Act.put, List.setIfInBounds_toArray, List.set_cons_zero, List.set_cons_succ]
      rfl
    refine tkD_ 8 (some 23) (bt 9 13) rfl rfl (by kernel_rfl) (fun _ _ _ h => h) (yieldsIf_cell rfl 3 (.tmp 22) rfl ⟨w.heap.size, 4, none⟩ rfl (.int .i64 power) _ (fun W' h => cell_block h.box rfl) Tryz.underlying3 rfl) hHeld (a' := ?_) ?_ ?_
    rotate_left
    · simp only [Act.put, List.setIfInBounds_toArray, List.set_cons_zero, List.set_cons_succ]
      rfl
    refine tkD_ 9 (some 24) (bt 10 12) rfl rfl (by kernel_rfl) (fun _ _ _ h => h) (yieldsIf_run (v := .int .i64 p15) rfl fun W' => (show _ = Result.ok (Next.value (.int .i64 (bits .and .i64 power 15))) W' from rfl).trans (by rw [HP15.out])) hHeld (a' := ?_) ?_ ?_
    rotate_left
    · simp only [Act.put, List.setIfInBounds_toArray, List.set_cons_zero, List.set_cons_succ]
      rfl
    refine tkD_ 10 (some 25) (bt 11 11) rfl rfl (by kernel_rfl) (fun _ _ _ h => h) (yieldsIf_run (v := .int .i64 (2 + p15)) rfl fun W' => (show _ = Result.ok (Next.value (.int .i64 (IntKind.i64.wrap (2 + p15)))) W' from rfl).trans (by rw [IntWalk.i64_in _ (by omega)])) hHeld (a' := ?_) ?_ ?_
    rotate_left
    · simp only [Act.put, List.setIfInBounds_toArray, List.set_cons_zero, List.set_cons_succ]
      rfl
    refine tkD_ 11 (some 26) (bt 12 10) rfl rfl (by kernel_rfl) (fun _ _ _ h => h) (yieldsIf_run (v := .int .u64 (2 + p15)) rfl fun W' => (show _ = Result.ok (Next.value (.int .u64 (IntKind.u64.wrap (2 + p15)))) W' from by kernel_rfl).trans (by rw [show IntKind.u64.wrap (2 + p15) = 2 + p15 by simp [IntKind.wrap, IntKind.bits, IntKind.signed]; omega])) hHeld (a' := ?_) ?_ ?_
    rotate_left
    · simp only [Act.put, List.setIfInBounds_toArray, List.set_cons_zero, List.set_cons_succ]
      rfl
    refine tkD_ 12 (some 27) (bt 13 9) (v := ?_) (a' := ?_) rfl rfl (by kernel_rfl) (fun _ _ _ h => h) (yieldsIf_run rfl ?_) hHeld ?_ ?_
    rotate_left
    · intro w'
      go_simp
      with_reducible rfl
    rotate_left
    · simp only [Act.put, List.setIfInBounds_toArray, List.set_cons_zero, List.set_cons_succ]
      rfl
    refine tkD_ 13 (some 28) (bt 14 8) rfl rfl (by kernel_rfl) (fun _ _ _ h => h) (yieldsIf_cell rfl 9 (.tmp 27) rfl ⟨w.heap.size, 5, none⟩ rfl (.string ticket) _ (fun W' h => cell_block h.box rfl) Tryz.underlying9 rfl) hHeld (a' := ?_) ?_ ?_
    rotate_left
    · simp only [Act.put, List.setIfInBounds_toArray, List.set_cons_zero, List.set_cons_succ]
      rfl
    refine tkD_ 16 (some 31) #[true, true, true, true, true, true, true, true, true, true, true, true, true, true, false, false, true, false, false, false, false, false] (v := ?_) (a' := ?_) rfl rfl (by kernel_rfl) (fun _ _ _ h => h) (yieldsIf_run rfl ?_) hHeld ?_ ?_
    rotate_left
    · intro w'
      go_simp
      with_reducible rfl
    rotate_left
    · simp only [Act.put, List.setIfInBounds_toArray, List.set_cons_zero, List.set_cons_succ]
      rfl
    refine tkD_ 17 (some 32) #[true, true, true, true, true, true, true, true, true, true, true, true, true, true, false, false, true, true, false, false, false, false] rfl rfl (by kernel_rfl) (fun _ _ _ h => h) (yieldsIf_cell rfl 3 (.tmp 31) rfl ⟨w.heap.size, 6, none⟩ rfl (.int .i64 salt) _ (fun W' h => cell_block h.box rfl) Tryz.underlying3 rfl) hHeld (a' := ?_) ?_ ?_
    rotate_left
    · simp only [Act.put, List.setIfInBounds_toArray, List.set_cons_zero, List.set_cons_succ]
      rfl
    refine tkD_ 18 (some 33) #[true, true, true, true, true, true, true, true, true, true, true, true, true, true, false, false, true, true, true, false, false, false] rfl rfl (by kernel_rfl) (fun _ _ _ h => h) (yieldsIf_run (v := .int .i64 s15) rfl fun W' => (show _ = Result.ok (Next.value (.int .i64 (bits .and .i64 salt 15))) W' from rfl).trans (by rw [HS15.out])) hHeld (a' := ?_) ?_ ?_
    rotate_left
    · simp only [Act.put, List.setIfInBounds_toArray, List.set_cons_zero, List.set_cons_succ]
      rfl
    refine forkD_ 14 20 (by kernel_rfl) ?_ ?_
    · refine fcallD_ 14 (some 29) #[true, true, true, true, true, true, true, true, true, true, true, true, true, true, true, false, true, true, true, false, false, false] rfl rfl (by kernel_rfl) rfl 31 _ (by kernel_rfl) (HCUT.out _) ?_
      rintro e w3 ⟨rfl, rfl⟩
      have hHeld := hHeld
      refine ⟨_, rfl, fun _ => hHeld, ?_, ?_, ?_⟩
      rotate_left
      · simp only [Act.put, List.setIfInBounds_toArray, List.set_cons_zero, List.set_cons_succ]
        rfl
      refine tkD_ 15 (some 30) (bt 19 3) rfl rfl (by kernel_rfl) (fun _ _ _ h => h) (yieldsIf_of (v := .string ts) rfl fun W' _ => (exec_addS (.const (.string ⟨#[116]⟩)) (.tmp 29) rfl rfl rfl (by show 1 + tk.size ≤ _; omega)).trans (by rw [HTS.out])) hHeld (a' := ?_) ?_ ?_
      rotate_left
      · simp only [Act.put, List.setIfInBounds_toArray, List.set_cons_zero, List.set_cons_succ]
        rfl
      refine tkD_ 19 (some 34) (bt 20 2) rfl rfl (by kernel_rfl) (fun _ _ _ h => h) (yieldsIf_run (v := .agg (LRH.cells ⟨⟨0, m, ts, 1 + w7, 2 + p15, [], s15⟩, none, 0⟩).toArray) rfl fun W' => by kernel_rfl) hHeld (a' := ?_) ?_ ?_
      rotate_left
      · simp only [Act.put, List.setIfInBounds_toArray, List.set_cons_zero, List.set_cons_succ]
        rfl
      have hHeld := hHeld.alloc (.cells zRH 29)
      refine valD_ 20 (some 5) (bt 21 1) rfl rfl (by kernel_rfl) rfl ((.pointer (some ⟨W0.drew.heap.size, 0, none⟩))) ((W0.drew.alloc (.cells zRH 29))) (by kernel_rfl) (fun _ => hHeld) (a' := ?_) ?_ ?_
      rotate_left
      · simp only [Act.put, List.setIfInBounds_toArray, List.set_cons_zero, List.set_cons_succ]
        rfl
      refine skD_ 21 (bt 22 0) rfl rfl (by kernel_rfl) rfl ((W0.drew.alloc (.cells (LRH.cells ⟨⟨0, m, ts, 1 + w7, 2 + p15, [], s15⟩, none, 0⟩).toArray 29))) (exec_store_new 29 (.tmp 5) (.tmp 34) rfl rfl (LRH.cells ⟨⟨0, m, ts, 1 + w7, 2 + p15, [], s15⟩, none, 0⟩) rfl zRH 29 rfl (lrhE.one ⟨⟨0, m, ts, 1 + w7, 2 + p15, [], s15⟩, none, 0⟩) rh_size) (fun h => absurd (by decide) h) ?_
      refine doneD_ (by kernel_rfl) ?_ _
      change Exit.then _ _ _ _ _
      go_wp2
      go_meet
      case rel => exact ⟨_, rfl, HS1.out.alloc _, heap_alloc_new W0.drew _, HZ1.out⟩
    · have hHeld := hHeld.alloc (.cells zRH 29)
      refine fvalD_ 20 (some 5) #[true, true, true, true, true, true, true, true, true, true, true, true, true, true, false, false, true, true, true, false, true, false] rfl rfl (by kernel_rfl) rfl ((.pointer (some ⟨W0.drew.heap.size, 0, none⟩))) ((W0.drew.alloc (.cells zRH 29))) (by kernel_rfl) (fun _ => hHeld) (a' := ?_) ?_ ?_
      rotate_left
      · simp only [Act.put, List.setIfInBounds_toArray, List.set_cons_zero, List.set_cons_succ]
        rfl
      refine callD_ 14 (some 29) #[true, true, true, true, true, true, true, true, true, true, true, true, true, true, true, false, true, true, true, false, true, false] rfl rfl (by kernel_rfl) rfl 31 _ (by kernel_rfl) (HCUT.out _) ?_
      rintro e w3 ⟨rfl, rfl⟩
      refine ⟨_, rfl, hHeld, fun hHeld => ⟨?_, ?_, ?_⟩⟩
      rotate_left
      · simp only [Act.put, List.setIfInBounds_toArray, List.set_cons_zero, List.set_cons_succ]
        rfl
      refine tkD_ 15 (some 30) #[true, true, true, true, true, true, true, true, true, true, true, true, true, true, true, true, true, true, true, false, true, false] rfl rfl (by kernel_rfl) (fun _ _ _ h => h) (yieldsIf_of (v := .string ts) rfl fun W' _ => (exec_addS (.const (.string ⟨#[116]⟩)) (.tmp 29) rfl rfl rfl (by show 1 + tk.size ≤ _; omega)).trans (by rw [HTS.out])) hHeld (a' := ?_) ?_ ?_
      rotate_left
      · simp only [Act.put, List.setIfInBounds_toArray, List.set_cons_zero, List.set_cons_succ]
        rfl
      refine tkD_ 19 (some 34) (bt 21 1) rfl rfl (by kernel_rfl) (fun _ _ _ h => h) (yieldsIf_run (v := .agg (LRH.cells ⟨⟨0, m, ts, 1 + w7, 2 + p15, [], s15⟩, none, 0⟩).toArray) rfl fun W' => by kernel_rfl) hHeld (a' := ?_) ?_ ?_
      rotate_left
      · simp only [Act.put, List.setIfInBounds_toArray, List.set_cons_zero, List.set_cons_succ]
        rfl
      refine skD_ 21 (bt 22 0) rfl rfl (by kernel_rfl) rfl ((W0.drew.alloc (.cells (LRH.cells ⟨⟨0, m, ts, 1 + w7, 2 + p15, [], s15⟩, none, 0⟩).toArray 29))) (exec_store_new 29 (.tmp 5) (.tmp 34) rfl rfl (LRH.cells ⟨⟨0, m, ts, 1 + w7, 2 + p15, [], s15⟩, none, 0⟩) rfl zRH 29 rfl (lrhE.one ⟨⟨0, m, ts, 1 + w7, 2 + p15, [], s15⟩, none, 0⟩) rh_size) (fun h => absurd (by decide) h) ?_
      refine doneD_ (by kernel_rfl) ?_ _
      change Exit.then _ _ _ _ _
      go_wp2
      go_meet
      case rel => exact ⟨_, rfl, HS1.out.alloc _, heap_alloc_new W0.drew _, HZ1.out⟩
  case rest =>
  obtain ⟨b, rfl, hs, hg, hbg⟩ := hcut
  rename World => W3
  have HS := Lib.hid hs
  have HG := Lib.hid hg
  clear hs hg
  go_upto_block 0 with fail
  go_cut [6, 7, 8, 9] from 35 to 75 (fun c6 c7 _ _ W => ∃ (top : Int) (ns : List ByteArray), c6 = .int .i64 top ∧ 0 ≤ top ∧ top ≤ 1073741824 ∧ StrRow W3.heap.size W c7 ns ∧ ns.length ≤ 5 ∧ (∀ s ∈ ns, s.size = 32) ∧ Below W3.heap.size W3 W)
  case first =>
    go_wp2
    go_loopw [6, 7, 8] (fun c6 c7 c8 W => ∃ (i : Nat) (top : Int) (ns : List ByteArray), i ≤ 5 ∧ i ≤ of.length ∧ c8 = .int .i64 (i : Int) ∧ c6 = .int .i64 top ∧ 0 ≤ top ∧ top ≤ 1073741824 ∧ StrRow W3.heap.size W c7 ns ∧ ns.length ≤ i ∧ (∀ s ∈ ns, s.size = 32) ∧ Below W3.heap.size W3 W) (fun _ _ c8 _ => 5 - (intOf c8).toNat)
    case atStart => exact ⟨0, 0, [], by omega, by omega, rfl, rfl, by omega, by omega, ⟨rfl, .inl ⟨rfl, rfl⟩⟩, by simp, by simp, Below.refl _ _⟩
    case round =>
      obtain ⟨i, top, ns, hi5, hio, rfl, rfl, ht0, ht1, hns, hnl, hn32, hB⟩ := hrel
      have HNS := Lib.hid hns
      have HN32 := Lib.hid hn32
      have HB := Lib.hid hB
      have HSr := Lib.hid (HS.out.next hB)
      clear hns hn32 hB
      have hc0 : wr.cell? ⟨w.heap.size, 0, none⟩ = some (.slice A of.length c) := cell_block HSr.out.box rfl
      by_cases hio2 : i < of.length
      · by_cases hi52 : i < 5
        · by_cases hl0 : 0 < l.length
          · obtain ⟨x, hx⟩ : ∃ x, of[i]? = some x := ⟨_, List.getElem?_eq_getElem hio2⟩
            obtain ⟨bo, offo, rfl, hbo, -, hcx⟩ := HSr.out.of.at_ i x hx
            have hcell : wr.cell? ⟨bo, offo + i, none⟩ = some (.int .i64 x) := by have := hcx 0 _ rfl; rwa [Nat.add_zero, show intE.k = 1 from rfl, Nat.mul_one] at this
            have hxi := HK.out.of x (List.mem_of_getElem? hx)
            clear hcx hx
            obtain ⟨j, hj, hidx⟩ := pick_ix x l.length hl0 hlen
            obtain ⟨z, hz⟩ : ∃ z, l[j]? = some z := ⟨_, List.getElem?_eq_getElem hj⟩
            obtain ⟨bz, oz, rfl, hbz, -, hcz⟩ := HSr.out.row.at_ j z hz
            have HCZ := Lib.hid hcz
            have hzm := List.mem_of_getElem? hz
            have HZG := Lib.hid (HGL.out z hzm)
            have HZA := Lib.hid (HSr.out.at_ z hzm)
            clear hcz hz hzm
            have hbx : Below wr.heap.size wr (wr.alloc (.cells z.cells.toArray 29)) := (Below.refl _ _).alloc (Nat.le_refl _) _
            have HBx : Hid (Below W3.heap.size W3 (wr.alloc (.cells z.cells.toArray 29))) := Lib.hid (HB.out.alloc HB.out.size _)
            have HNx : Hid (StrRow W3.heap.size (wr.alloc (.cells z.cells.toArray 29)) u7 ns) := Lib.hid (HNS.out.below hbx)
            have HZx : Hid (z.At ok (wr.alloc (.cells z.cells.toArray 29))) := Lib.hid (Sl.below HZA.out hbx)
            have HGx : Hid ((wr.alloc (.cells z.cells.toArray 29)).heap[wr.heap.size]? = some (.cells z.cells.toArray 29 (0, 0))) := Lib.hid (heap_alloc_new wr _)
            have HNE : Hid (∀ k, u7.ownBlock = some k → k ≠ wr.heap.size) := Lib.hid fun k hk => by have := (own_lt HNS.out k hk).2; omega
            clear hbx
            go_upto_region 11 with (first
              | (refine wpl_load rfl 29 (.tmp 64) rfl bz _ rfl z.cells _ HCZ.out Tryz.underlying29 rfl rh_size ?_)
              | (refine wpl_store_new rfl 29 _ _ rfl rfl z.cells rfl _ _ rfl (lrhE.one z) rh_size ?_))
            generalize wr.alloc (.cells z.cells.toArray 29) = W1 at HBx HNx HZx HGx ⊢
            generalize wr.heap.size = gx at HGx HNE ⊢
            have hgx : gx < W1.heap.size := (Array.getElem?_eq_some_iff.1 HGx.out).1
            go_upto_region 12 with (first
              | (refine wpl_load rfl 29 (.tmp 9) rfl gx 0 rfl z.cells _ (fun j u hu => by rw [Nat.zero_add]; exact cell_block HGx.out (by simpa using hu)) Tryz.underlying29 rfl rh_size ?_)
              | (go_at_call 89; refine (RID _ z ok HZx.out HZG.out.tell).mono ?_; rintro e w2 ⟨n, rfl, hb2⟩; have HB2 := Lib.hid (HBx.out.trans (hb2.mono HBx.out.size)); have HN2 := Lib.hid (HNx.out.below hb2); have HG2 : Hid (w2.heap[gx]? = some (.cells z.cells.toArray 29 (0, 0))) := Lib.hid ((hb2.block gx hgx).trans HGx.out); clear hb2)
              | (at_builtin; refine wpl_app_str HN2.out n.1 HB2.out HB2.out.size (by omega) rfl (.tmp 66) (.tmp 69) rfl rfl rfl ?_; intro v3 w3 hn3 hb3 hg3 hat3; have HN3 := Lib.hid hn3; have HB3 := Lib.hid hb3; have HG3 : Hid (w3.heap[gx]? = some (.cells z.cells.toArray 29 (0, 0))) := Lib.hid ((hg3.block gx (Array.getElem?_eq_some_iff.1 HG2.out).1 fun e => HNE.out gx e.symm rfl).trans HG2.out); clear hn3 hb3 hg3 hat3))
            have hch : w3.cell? ⟨gx, 0, none⟩ = some (.int .i64 z.h.height) := cell_block HG3.out rfl
            obtain ⟨hz, hhz⟩ : ∃ hz, z.h.height = hz := ⟨_, rfl⟩
            rw [hhz] at hch
            clear hhz
            have hn1 : n.1.size = 32 := n.2
            go_wp2
            go_roundw
            case rel =>
              refine ⟨i + 1, max top (min hz 1073741824), ns ++ [n.1], by omega, by omega, by go_num, rfl, by omega, by omega, HN3.out, by simp; omega, ?_, HB3.out⟩
              intro s hs
              rcases List.mem_append.1 hs with hs | hs
              · exact HN32.out s hs
              · obtain rfl := List.mem_singleton.1 hs; exact hn1
            case measure => simp [intOf]; omega
          · have hl00 : l.length = 0 := by omega
            go_wp2
            go_roundw
            case rel => exact ⟨i + 1, top, ns, by omega, by omega, by go_num, rfl, ht0, ht1, HNS.out, by omega, HN32.out, HB.out⟩
            case measure => simp [intOf]; omega
        · have hi55 : i = 5 := by omega
          subst hi55
          go_wp2
          go_meet
          case rel => exact ⟨top, ns, rfl, ht0, ht1, HNS.out, hnl, HN32.out, HB.out⟩
      · have hio3 : i = of.length := by omega
        subst hio3
        go_wp2
        go_meet
        case rel => exact ⟨top, ns, rfl, ht0, ht1, HNS.out, by omega, HN32.out, HB.out⟩
  case rest =>
  obtain ⟨top, ns, rfl, ht0, ht1, hns, hnl, hn32, hB⟩ := hcut
  have HNS := Lib.hid hns
  have HN32 := Lib.hid hn32
  have HB := Lib.hid hB
  clear hns hn32
  have hbc : b < W3.heap.size := (Array.getElem?_eq_some_iff.1 HG.out).1
  go_upto_region 14 with (go_at_call 24; refine (sort_str _ u7 ns _ HNS.out.sl (by omega)).mono ?_; rintro e w2 ⟨v2, rfl, hr2, hb2⟩; obtain ⟨As, cs, rfl, -⟩ := hr2.sl.form; have HR2 := Lib.hid hr2; have HB2 := Lib.hid (HB.out.trans (hb2.mono HB.out.size)); have HG2 : Hid (w2.heap[b]? = some (.cells (LRH.cells ⟨⟨0, m, ts, 1 + w7, 2 + p15, [], s15⟩, none, 0⟩).toArray 29 (0, 0))) := Lib.hid (((hB.trans (hb2.mono hB.size)).block b hbc).trans HG.out); have hc5 : w2.cell? ⟨b, 5, none⟩ = some (.slice none 0 0) := cell_block HG2.out rfl; have hf5 : w2.frozen? ⟨b, 5, none⟩ = false := Lib.frozen_of_heap HG2.out 5; clear hr2)
  have hE : GrowE w (w2.setCell ⟨b, 5, none⟩ (.slice As (sortT ns).length cs)) ⟨⟨of, up, miner, wins, power, ticket, salt, false, rh⟩, A, c, A2, c2⟩ b ⟨⟨0, m, ts, 1 + w7, 2 + p15, sortT ns, s15⟩, As, cs⟩ := by
    have h0 : GrowE w w2 ⟨⟨of, up, miner, wins, power, ticket, salt, false, rh⟩, A, c, A2, c2⟩ b ⟨⟨0, m, ts, 1 + w7, 2 + p15, [], s15⟩, none, 0⟩ :=
      have hS2 := HS.out.next HB2.out
      ⟨hS2.box, hS2.res, HG2.out, Sl.nil _ _ _, hS2.below, hbg⟩
    refine h0.set 5 _ ⟨⟨0, m, ts, 1 + w7, 2 + p15, sortT ns, s15⟩, As, cs⟩ rfl ?_
    exact Sl.mono HR2.out.sl fun k hk => by have := hB.size; have := hk.1; omega
  have HE := Lib.hid hE
  have hps : ∀ s ∈ sortT ns, s.size = 32 := fun s hs => HN32.out s (sortT_mem _ s hs)
  have hpl : (sortT ns).length ≤ 5 := Nat.le_trans (sortT_length _) hnl
  have hb3 : 0 ≤ bits .and .i64 up 3 ∧ bits .and .i64 up 3 < 4 := by rw [and_low up 2 3 (by decide) (by decide)]; omega
  obtain ⟨A7, c7, rfl, -⟩ := own_slice HNS.out
  clear hE hB hc5 hf5
  generalize w2.setCell ⟨b, 5, none⟩ (.slice As (sortT ns).length cs) = W5 at HE ⊢
  by_cases hn0 : ns.length = 0
  · have hI : (ns.length : Int) = 0 := by omega
    go_upto_region 16 with (first
      | (go_at_call 15; refine (RGEN _).mono ?_; rintro e w3 ⟨n, rfl, hb3'⟩; have HE3 := Lib.hid (HE.out.next (hb3'.alloc hb3'.size (.cells #[.string n.1] 9))); have hc5 : (w3.alloc (.cells #[.string n.1] 9)).cell? ⟨b, 5, none⟩ = some (.slice As (sortT ns).length cs) := cell_block HE3.out.cell rfl; have hf5 : (w3.alloc (.cells #[.string n.1] 9)).frozen? ⟨b, 5, none⟩ = false := Lib.frozen_of_heap HE3.out.cell 5; have hsz3 := hb3'.size; clear hb3')
      | (refine wpl_field rfl 31 0 (.tmp 82) rfl _ (.string n.1) rfl (by kernel_rfl) ?_)
      | (refine wpl_str1 rfl (.tmp 83) rfl n.1 rfl ?_))
    have HE4 := Lib.hid (HE3.out.set 5 (.slice (some ⟨w3.heap.size, 0, none⟩) 1 1) ⟨⟨0, m, ts, 1 + w7, 2 + p15, [n.1], s15⟩, some ⟨w3.heap.size, 0, none⟩, 1⟩ rfl (by
      have h1 : Sl strE (fun k => k = w3.heap.size) (w3.alloc (.cells #[.string n.1] 9)) (.slice (some ⟨w3.heap.size, 0, none⟩) 1 1) [n.1] := Sl.of_block (E := strE) (ys := [n.1]) (heap_alloc_new w3 _) rfl rfl (Nat.le_refl _) (by omega)
      have h2 := HE.out.far
      have h3 := (Array.getElem?_eq_some_iff.1 HE.out.cell).1
      exact Sl.mono h1 fun k hk => by omega))
    clear hc5 hf5
    generalize (w3.alloc (.cells #[.string n.1] 9)).setCell ⟨b, 5, none⟩ (.slice (some ⟨w3.heap.size, 0, none⟩) 1 1) = W4 at HE4 ⊢
    have h132 : ∀ s ∈ [n.1], s.size = 32 := fun s hs => by rw [List.mem_singleton.1 hs]; exact n.2
    have hcu : W4.cell? ⟨w.heap.size, 1, none⟩ = some (.int .i64 up) := cell_block HE4.out.box rfl
    have hc0 : W4.cell? ⟨b, 0, none⟩ = some (.int .i64 0) := cell_block HE4.out.cell rfl
    have hf0 : W4.frozen? ⟨b, 0, none⟩ = false := Lib.frozen_of_heap HE4.out.cell 0
    have HSET : Hid (GrowE w (W4.setCell ⟨b, 0, none⟩ (.int .i64 (min (top + bits .and .i64 up 3) 1073741824))) ⟨⟨of, up, miner, wins, power, ticket, salt, false, rh⟩, A, c, A2, c2⟩ b ⟨⟨min (top + bits .and .i64 up 3) 1073741824, m, ts, 1 + w7, 2 + p15, [n.1], s15⟩, some ⟨w3.heap.size, 0, none⟩, 1⟩) := Lib.hid (HE4.out.set 0 _ ⟨⟨min (top + bits .and .i64 up 3) 1073741824, m, ts, 1 + w7, 2 + p15, [n.1], s15⟩, some ⟨w3.heap.size, 0, none⟩, 1⟩ rfl HE4.out.at_)
    go_wp2_with (first
      | (refine wpl_load rfl 29 (.tmp 5) rfl b 0 rfl (LRH.cells ⟨⟨min (top + bits .and .i64 up 3) 1073741824, m, ts, 1 + w7, 2 + p15, [n.1], s15⟩, some ⟨w3.heap.size, 0, none⟩, 1⟩) _ (fun j u hu => by rw [Nat.zero_add]; exact cell_block HSET.out.cell (by simpa using hu)) Tryz.underlying29 rfl rh_size ?_)
      | (refine wpl_store_row rfl 29 (.tmp 4) (.tmp 93) rfl (w.heap.size + 1) rfl (LRH.cells ⟨⟨min (top + bits .and .i64 up 3) 1073741824, m, ts, 1 + w7, 2 + p15, [n.1], s15⟩, some ⟨w3.heap.size, 0, none⟩, 1⟩) rfl _ 29 HSET.out.res rfl (lrhE.one _) rh_size ?_))
    (try simp only [Exit.inBlock, Exit.then])
    refine bodyPost_ret (results_cell_row rfl _ _ (w.heap.size + 1) 29 (LRH.cells ⟨⟨min (top + bits .and .i64 up 3) 1073741824, m, ts, 1 + w7, 2 + p15, [n.1], s15⟩, some ⟨w3.heap.size, 0, none⟩, 1⟩).toArray (0, 0) _ rfl (setRow_heap _ (w.heap.size + 1) _ _ _ _ HSET.out.res) Tryz.underlying29 rfl (by rw [List.size_toArray]; exact rh_size)) rfl ?_
    have hbb := HSET.out.far
    refine ⟨⟨⟨min (top + bits .and .i64 up 3) 1073741824, m, ts, 1 + w7, 2 + p15, [n.1], s15⟩, some ⟨w3.heap.size, 0, none⟩, 1⟩, ?_, rfl, ?_, below_setRow HSET.out.below (Nat.le_succ _) _⟩
    · exact ⟨⟨by show I64 (min _ _); constructor <;> omega, by show I64 m; constructor <;> omega, by show I64 (1 + w7); constructor <;> omega, by show I64 s15; constructor <;> omega, by show ts.size ≤ 1000; omega, by show (1 : Nat) ≤ 100; omega, fun s hs => by rw [h132 s hs]; decide⟩, h132, by show 0 ≤ 2 + p15; omega, by show 2 + p15 < 18446744073709551616; omega⟩
    · exact Sl.mono (Sl.fr (ok := fun k => w.heap.size + 1 < k ∧ k ≠ b) HSET.out.at_ ⟨by simp, fun k hk _ => heap_setRow_ne _ _ _ _ (by omega)⟩) fun k hk => by omega
  · have hI : ¬ (ns.length : Int) = 0 := by omega
    have hI2 : ¬ ns = [] := fun e => hn0 (by rw [e]; rfl)
    have hcu : W5.cell? ⟨w.heap.size, 1, none⟩ = some (.int .i64 up) := cell_block HE.out.box rfl
    have hc0 : W5.cell? ⟨b, 0, none⟩ = some (.int .i64 0) := cell_block HE.out.cell rfl
    have hf0 : W5.frozen? ⟨b, 0, none⟩ = false := Lib.frozen_of_heap HE.out.cell 0
    have HSET : Hid (GrowE w (W5.setCell ⟨b, 0, none⟩ (.int .i64 (min (top + bits .and .i64 up 3) 1073741824))) ⟨⟨of, up, miner, wins, power, ticket, salt, false, rh⟩, A, c, A2, c2⟩ b ⟨⟨min (top + bits .and .i64 up 3) 1073741824, m, ts, 1 + w7, 2 + p15, sortT ns, s15⟩, As, cs⟩) := Lib.hid (HE.out.set 0 _ ⟨⟨min (top + bits .and .i64 up 3) 1073741824, m, ts, 1 + w7, 2 + p15, sortT ns, s15⟩, As, cs⟩ rfl HE.out.at_)
    go_wp2_with (first
      | (refine wpl_load rfl 29 (.tmp 5) rfl b 0 rfl (LRH.cells ⟨⟨min (top + bits .and .i64 up 3) 1073741824, m, ts, 1 + w7, 2 + p15, sortT ns, s15⟩, As, cs⟩) _ (fun j u hu => by rw [Nat.zero_add]; exact cell_block HSET.out.cell (by simpa using hu)) Tryz.underlying29 rfl rh_size ?_)
      | (refine wpl_store_row rfl 29 (.tmp 4) (.tmp 93) rfl (w.heap.size + 1) rfl (LRH.cells ⟨⟨min (top + bits .and .i64 up 3) 1073741824, m, ts, 1 + w7, 2 + p15, sortT ns, s15⟩, As, cs⟩) rfl _ 29 HSET.out.res rfl (lrhE.one _) rh_size ?_))
    (try simp only [Exit.inBlock, Exit.then])
    refine bodyPost_ret (results_cell_row rfl _ _ (w.heap.size + 1) 29 (LRH.cells ⟨⟨min (top + bits .and .i64 up 3) 1073741824, m, ts, 1 + w7, 2 + p15, sortT ns, s15⟩, As, cs⟩).toArray (0, 0) _ rfl (setRow_heap _ (w.heap.size + 1) _ _ _ _ HSET.out.res) Tryz.underlying29 rfl (by rw [List.size_toArray]; exact rh_size)) rfl ?_
    have hbb := HSET.out.far
    refine ⟨⟨⟨min (top + bits .and .i64 up 3) 1073741824, m, ts, 1 + w7, 2 + p15, sortT ns, s15⟩, As, cs⟩, ?_, rfl, ?_, below_setRow HSET.out.below (Nat.le_succ _) _⟩
    · exact ⟨⟨by show I64 (min _ _); constructor <;> omega, by show I64 m; constructor <;> omega, by show I64 (1 + w7); constructor <;> omega, by show I64 s15; constructor <;> omega, by show ts.size ≤ 1000; omega, by show (sortT ns).length ≤ 100; omega, fun s hs => by rw [hps s hs]; decide⟩, hps, by show 0 ≤ 2 + p15; omega, by show 2 + p15 < 18446744073709551616; omega⟩
    · exact Sl.mono (Sl.fr (ok := fun k => w.heap.size + 1 < k ∧ k ≠ b) HSET.out.at_ ⟨by simp, fun k hk _ => heap_setRow_ne _ _ _ _ (by omega)⟩) fun k hk => by omega
end Go.Proofs.YtcohdfkdhdhegaaGreatDoor
