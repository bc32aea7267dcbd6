/- coxswainref14.Same, Tipsets. coxswainlaw14.Made, Of. coxswainlaw14.Of; names that a header tells are a tipset. The genesis tipset in a dag. -/
import Derived.Test.YthpcedficlhanaaGreatDoorOvBA
namespace Go.Proofs.YthpcedficlhanaaGreatDoor
open Go.RowKit

/-- Names in a row, as an element of a row. -/
structure LNS where
  ns : List ByteArray
  A : Option Addr
  c : Nat
def LNS.v (x : LNS) : Value := .slice x.A x.ns.length x.c
def LNS.At (ok : Nat → Prop) (w : World) (x : LNS) : Prop := Sl strE ok w x.v x.ns
def nsE : Enc LNS := { enc := fun x => [x.v], k := 1, hk := fun _ => rfl, one := fun _ u hu => by rw [List.mem_singleton] at hu; subst hu; rfl, k0 := by decide }
theorem ns_info : (Tryz.prog.info? 51).map (fun i => (i.zero, i.size, i.bytes)) = some (some (.slice none 0 0), 1, 24) := by kernel_rfl
theorem nsZ_cells : (Value.slice none 0 0).cells.size = 1 := rfl
theorem run_ns1 (w : World) (x : LNS) : (Instr.buildSlice 89 1 #[(0, x.v)]).run Tryz.prog w = .ok (.slice (some ⟨w.heap.size, 0, none⟩) 1 1) (w.alloc (.cells #[x.v] 51)) := by
  obtain ⟨ie, hie, hzz⟩ := Option.map_eq_some_iff.1 ns_info
  simp only [Prod.mk.injEq] at hzz
  obtain ⟨h1, h2, -⟩ := hzz
  have hf := Great.fill_flat [x.v] ((Array.range (1 * ie.size)).map ((Value.slice none 0 0).cells[· % (Value.slice none 0 0).cells.size]!)) (fun v hv => by rw [List.mem_singleton] at hv; subst hv; rfl) (by simp [h2])
  refine run_buildSlice w _ 51 1 _ _ ie _ Tryz.underlying89 hie h1 (by omega) (by omega) ?_
  rw [h2] at hf ⊢
  exact hf
theorem run_ns2 (w : World) (x y : LNS) : (Instr.buildSlice 89 2 #[(0, x.v), (1, y.v)]).run Tryz.prog w = .ok (.slice (some ⟨w.heap.size, 0, none⟩) 2 2) (w.alloc (.cells #[x.v, y.v] 51)) := by
  obtain ⟨ie, hie, hzz⟩ := Option.map_eq_some_iff.1 ns_info
  simp only [Prod.mk.injEq] at hzz
  obtain ⟨h1, h2, -⟩ := hzz
  have hf := Great.fill_flat [x.v, y.v] ((Array.range (2 * ie.size)).map ((Value.slice none 0 0).cells[· % (Value.slice none 0 0).cells.size]!)) (fun v hv => by simp only [List.mem_cons, List.not_mem_nil, or_false] at hv; rcases hv with rfl | rfl <;> rfl) (by simp [h2])
  refine run_buildSlice w _ 51 2 _ _ ie _ Tryz.underlying89 hie h1 (by omega) (by omega) ?_
  rw [h2] at hf ⊢
  exact hf
section
variable {ops : Array Oper} {rest : List Oper} {o : Oper} {a : Act} {w : World} {Q : Exit → Act → World → Prop}
theorem wpl_ns1 (hgd : o.guard = none) (p : Operand) (ho : o.op = .buildSlice 89 1 #[(0, p)]) (x : LNS) (hx : a.eval p = x.v)
    (h : wpList Tryz.prog ops Q rest (a.put o.dst (.slice (some ⟨w.heap.size, 0, none⟩) 1 1)) (w.alloc (.cells #[x.v] 51))) : wpList Tryz.prog ops Q (o :: rest) a w :=
  wpList_plain hgd fun K hK => by
    unfold Oper.wp execOp
    simp only [ho, List.map_toArray, List.map_cons, List.map_nil, hx, Sem.run_bind, run_ns1, Result.andThen_ok, Sem.run_pure]
    exact hK _ _ h
theorem wpl_ns2 (hgd : o.guard = none) (p q : Operand) (ho : o.op = .buildSlice 89 2 #[(0, p), (1, q)]) (x y : LNS) (hx : a.eval p = x.v) (hy : a.eval q = y.v)
    (h : wpList Tryz.prog ops Q rest (a.put o.dst (.slice (some ⟨w.heap.size, 0, none⟩) 2 2)) (w.alloc (.cells #[x.v, y.v] 51))) : wpList Tryz.prog ops Q (o :: rest) a w :=
  wpList_plain hgd fun K hK => by
    unfold Oper.wp execOp
    simp only [ho, List.map_toArray, List.map_cons, List.map_nil, hx, hy, Sem.run_bind, run_ns2, Result.andThen_ok, Sem.run_pure]
    exact hK _ _ h
end

set_option maxRecDepth 100000 in
set_option maxHeartbeats 1000000 in
theorem rsame_any (w : World) (x y : LNS) (ok ok2 : Nat → Prop) (hx : x.At ok w) (hy : y.At ok2 w) (hxl : x.ns.length ≤ 1000) (hyl : y.ns.length ≤ 1000) (hxz : ∀ s ∈ x.ns, s.size ≤ 1000000) (hyz : ∀ s ∈ y.ns, s.size ≤ 1000000) :
    Calls Tryz.prog 134 #[x.v, y.v] w fun e w' => e = .returned (.bool (decide (joinS x.ns = joinS y.ns))) ∧ w = w' := by
  obtain ⟨a, ha⟩ : ∃ a : ByteArray, (⟨(joinS x.ns).toArray⟩ : ByteArray) = a := ⟨_, rfl⟩
  obtain ⟨b, hb⟩ : ∃ b : ByteArray, (⟨(joinS y.ns).toArray⟩ : ByteArray) = b := ⟨_, rfl⟩
  have H1 := Lib.hid (rjoin_any w x.v x.ns ok hx hxl hxz)
  have H2 := Lib.hid (rjoin_any w y.v y.ns ok2 hy hyl hyz)
  rw [ha] at H1
  rw [hb] at H2
  have hd : decide (joinS x.ns = joinS y.ns) = (a.toList == b.toList) := by
    rw [str_beq, ← ha, ← hb]
    refine decide_eq_decide.2 ⟨fun h => by rw [h], fun h => ?_⟩
    have := congrArg (fun s : ByteArray => s.data.toList) h
    simpa using this
  obtain ⟨g, hg⟩ : ∃ g, (a.toList == b.toList) = g := ⟨_, rfl⟩
  rw [hd, hg]
  clear hx hy ha hb hd
  go_enter Tryz.func134, Tryz.ntmps134
  go_wp2_with (first
    | (go_at_call 53; refine H1.out.mono ?_; clear H1; rintro e w1 ⟨rfl, rfl⟩)
    | (go_at_call 53; refine H2.out.mono ?_; rintro e w2 ⟨rfl, rfl⟩))
  go_ret
  exact ⟨by first | rfl | rw [hg], rfl⟩

/-- Names that are told: a block's parents, or a block alone. -/
def NamedIn (L : List LRH) (ns : List ByteArray) : Prop := ∃ b ∈ L, (ns = b.h.parents ∧ b.h.parents ≠ []) ∨ ns = [(rid b.h).1]
/-- All that have been found so far. -/
structure TipsR (okT : Nat → Prop) (w wr : World) (L : List LRH) (v : Value) (all : List LNS) : Prop where
  own : wr.ownsRow w.heap.size 51 1 v all.length (nsE.flat all)
  at_ : ∀ x ∈ all, x.At (fun k => some k ≠ v.ownBlock ∧ okT k) wr
  mem : ∀ x ∈ all, NamedIn L x.ns
  below : Below w.heap.size w wr
theorem TipsR.under {okT : Nat → Prop} {w wr W : World} {L : List LRH} {v : Value} {all : List LNS} (h : TipsR okT w wr L v all) (hb : Below wr.heap.size wr W) : TipsR okT w W L v all :=
  ⟨own_below h.own hb, fun x hx => Sl.below (h.at_ x hx) hb, h.mem, h.below.trans (hb.mono h.below.size)⟩
theorem TipsR.more {okT : Nat → Prop} {w W w1 : World} {L : List LRH} {v v1 : Value} {all : List LNS} (h : TipsR okT w W L v all) (x : LNS) (hx : x.At (fun k => some k ≠ v.ownBlock ∧ okT k) W) (hn : NamedIn L x.ns)
    (ho : w1.ownsRow w.heap.size 51 1 v1 (all.length + 1) (nsE.flat all ++ [x.v])) (hg : W.grownBy w1 v.ownBlock) (hat1 : v1.ownBlock = v.ownBlock ∨ ∃ b, v1.ownBlock = some b ∧ W.heap.size ≤ b) : TipsR okT w w1 L v1 (all ++ [x]) where
  own := by rw [nsE.flat_append, nsE.flat_one, List.length_append]; exact ho
  at_ := by
    intro y hy
    have h1 : y.At (fun k => some k ≠ v.ownBlock ∧ okT k) W := by
      rcases List.mem_append.1 hy with hy | hy
      · exact h.at_ y hy
      · rw [List.mem_singleton.1 hy]; exact hx
    refine Sl.mono (Sl.fr (Sl.old h1) (Fr.grown hg fun k hk => hk.1.1)) fun k hk => ⟨?_, hk.1.2⟩
    rcases hat1 with he | ⟨b, he, hb⟩
    · rw [he]; exact hk.1.1
    · rw [he]; intro e; injection e with e; have := hk.2; omega
  mem := fun y hy => by
    rcases List.mem_append.1 hy with hy | hy
    · exact h.mem y hy
    · rw [List.mem_singleton.1 hy]; exact hn
  below := below_grown_own h.below h.own (Nat.le_refl _) h.below.size hg
/-- .. while one block's two are looked at. -/
structure TipsI (okT : Nat → Prop) (w W : World) (L : List LRH) (v : Value) (all : List LNS) (g2 : Nat) (n0 n1 : LNS) : Prop where
  r : TipsR okT w W L v all
  pair : Sl nsE (fun k => some k ≠ v.ownBlock ∧ okT k) W (.slice (some ⟨g2, 0, none⟩) 2 2) [n0, n1]
  at0 : n0.At (fun k => some k ≠ v.ownBlock ∧ okT k) W
  at1 : n1.At (fun k => some k ≠ v.ownBlock ∧ okT k) W
theorem TipsI.under {okT : Nat → Prop} {w wr W : World} {L : List LRH} {v : Value} {all : List LNS} {g2 : Nat} {n0 n1 : LNS} (h : TipsI okT w wr L v all g2 n0 n1) (hb : Below wr.heap.size wr W) : TipsI okT w W L v all g2 n0 n1 :=
  ⟨h.r.under hb, h.pair.below hb, Sl.below h.at0 hb, Sl.below h.at1 hb⟩
theorem keep_own {okT : Nat → Prop} {β : Type} {E : Enc β} {W w1 : World} {v v1 u : Value} {ys : List β} (h : Sl E (fun k => some k ≠ v.ownBlock ∧ okT k) W u ys) (hg : W.grownBy w1 v.ownBlock) (hat1 : v1.ownBlock = v.ownBlock ∨ ∃ b, v1.ownBlock = some b ∧ W.heap.size ≤ b) : Sl E (fun k => some k ≠ v1.ownBlock ∧ okT k) w1 u ys := by
  refine Sl.mono (Sl.fr (Sl.old h) (Fr.grown hg fun k hk => hk.1.1)) fun k hk => ⟨?_, hk.1.2⟩
  rcases hat1 with he | ⟨b, he, hb⟩
  · rw [he]; exact hk.1.1
  · rw [he]; intro e; injection e with e; have := hk.2; omega
theorem TipsI.more {okT : Nat → Prop} {w W w1 : World} {L : List LRH} {v v1 : Value} {all : List LNS} {g2 : Nat} {n0 n1 : LNS} (h : TipsI okT w W L v all g2 n0 n1) (x : LNS) (hx : x.At (fun k => some k ≠ v.ownBlock ∧ okT k) W) (hn : NamedIn L x.ns)
    (ho : w1.ownsRow w.heap.size 51 1 v1 (all.length + 1) (nsE.flat all ++ [x.v])) (hg : W.grownBy w1 v.ownBlock) (hat1 : v1.ownBlock = v.ownBlock ∨ ∃ b, v1.ownBlock = some b ∧ W.heap.size ≤ b) : TipsI okT w w1 L v1 (all ++ [x]) g2 n0 n1 :=
  ⟨h.r.more x hx hn ho hg hat1, keep_own h.pair hg hat1, keep_own h.at0 hg hat1, keep_own h.at1 hg hat1⟩

set_option maxRecDepth 100000 in
set_option maxHeartbeats 4000000 in
theorem tipsets_any (w : World) (v : Value) (L : List LRH) (ok : Nat → Prop) (hl : Sl rbE ok w v L) (hL : ∀ y ∈ L, y.At ok w ∧ TellH y.h) (hlen : L.length ≤ 1000) :
    Calls Tryz.prog 131 #[v] w fun e w' => ∃ v' all, e = .returned v' ∧ TipsR (fun k => ok k ∨ w.heap.size ≤ k) w w' L v' all ∧ (0 < L.length → 0 < all.length) ∧ all.length ≤ 2 * L.length := by
  obtain ⟨A, c, rfl, hc, hm⟩ := hl.form
  obtain ⟨okT, hokT⟩ : ∃ okT : Nat → Prop, (fun k => ok k ∨ w.heap.size ≤ k) = okT := ⟨_, rfl⟩
  rw [hokT]
  have HOK : Hid (∀ k, ok k ∨ w.heap.size ≤ k → okT k) := Lib.hid fun k hk => by rw [← hokT]; exact hk
  clear hokT
  have HL := Lib.hid hl
  have HLA := Lib.hid hL
  clear hl hL
  have HR0 : Hid (TipsR okT w (w.alloc (.cells #[] 51)) L (.slice (some ⟨w.heap.size, 0, none⟩) 0 0) []) := Lib.hid ⟨own_empty w w.heap.size _ 1 (Nat.le_refl _), by simp, by simp, (Below.refl _ w).alloc (Nat.le_refl _) _⟩
  go_enter Tryz.func131, Tryz.ntmps131
  go_wp2
  go_loopw [3, 14] (fun c3 c14 W => ∃ (i : Nat) (all : List LNS), i ≤ L.length ∧ c14 = .int .i64 (i : Int) ∧ (0 < i → 0 < all.length) ∧ all.length ≤ 2 * i ∧ TipsR okT w W L c3 all) (fun _ c14 _ => L.length - (intOf c14).toNat)
  case atStart => exact ⟨0, [], by omega, rfl, by omega, by simp, HR0.out⟩
  case round =>
    obtain ⟨i, all0, hi, rfl, hpos, hal, hR⟩ := hrel
    have HR := Lib.hid hR
    clear hR
    by_cases hil : i < L.length
    · obtain ⟨x, hx⟩ : ∃ x, L[i]? = some x := ⟨_, List.getElem?_eq_getElem hil⟩
      have hxm := List.mem_of_getElem? hx
      obtain ⟨b, off, rfl, -, -, hcx⟩ := (HL.out.below HR.out.below).at_ i x hx
      obtain ⟨s, hs⟩ : ∃ s, rid x.h = s := ⟨_, rfl⟩
      have HCX : Hid (∀ j u, (rbc s x)[j]? = some u → wr.cell? ⟨b, off + i * 8 + j, none⟩ = some u) := Lib.hid fun j u hu => hcx j u (by rw [← hs] at hu; exact hu)
      have HXA := Lib.hid (HLA.out x hxm)
      have HN0 : Hid (x.h.parents ≠ [] → NamedIn L x.h.parents) := Lib.hid fun h => ⟨x, hxm, .inl ⟨rfl, h⟩⟩
      have HN1 : Hid (NamedIn L [s.1]) := Lib.hid ⟨x, hxm, .inr (by rw [hs])⟩
      clear hcx hx hxm hs
      have hg := heap_alloc_new wr (.cells (rbc s x).toArray 71)
      have hc0 : (wr.alloc (.cells (rbc s x).toArray 71)).cell? ⟨wr.heap.size, 0, none⟩ = some (.string s.1) := cell_block hg rfl
      have hc6 : (wr.alloc (.cells (rbc s x).toArray 71)).cell? ⟨wr.heap.size, 6, none⟩ = some (LNS.v ⟨x.h.parents, x.A, x.c⟩) := cell_block hg rfl
      have hb1 : Below wr.heap.size wr (wr.alloc (.cells (rbc s x).toArray 71)) := (Below.refl _ _).alloc (Nat.le_refl _) _
      have HR1 := Lib.hid (HR.out.under hb1)
      have hxx : x.At (fun k => some k ≠ u3.ownBlock ∧ okT k) wr := by
        refine Sl.mono (Sl.fr (ok := fun k => ok k ∧ k < w.heap.size) (Sl.old HXA.out.1) (Fr.below HR.out.below fun k hk _ => hk.2)) fun k hk => ⟨fun e => ?_, HOK.out k (.inl hk.1)⟩
        have := (own_lt HR.out.own k e.symm).1
        have := hk.2
        omega
      have HX1 := Lib.hid (Sl.below hxx hb1)
      clear hg hb1 hxx
      go_upto_region 5 with (first
        | (refine wpl_load rfl 71 (.tmp 16) rfl b _ rfl (rbc s x) _ HCX.out Tryz.underlying71 rfl rb_size ?_)
        | (refine wpl_store_new rfl 71 _ _ rfl rfl (rbc s x) rfl _ _ rfl (rbc_one s x) rb_size ?_))
      generalize wr.alloc (.cells (rbc s x).toArray 71) = W1 at hc0 hc6 HR1 HX1 ⊢
      generalize wr.heap.size = gx at hc0 hc6 ⊢
      obtain ⟨n0, hn0⟩ : ∃ n0 : LNS, n0 = ⟨x.h.parents, x.A, x.c⟩ := ⟨_, rfl⟩
      obtain ⟨n1, hn1⟩ : ∃ n1 : LNS, n1 = ⟨[s.1], some ⟨W1.heap.size, 0, none⟩, 1⟩ := ⟨_, rfl⟩
      rw [← hn0] at hc6
      have HI0 : Hid (TipsI okT w ((W1.alloc (.cells #[.string s.1] 9)).alloc (.cells #[n0.v, n1.v] 51)) L u3 all0 (W1.heap.size + 1) n0 n1) := Lib.hid (by
        have hba : Below W1.heap.size W1 (W1.alloc (.cells #[.string s.1] 9)) := (Below.refl _ _).alloc (Nat.le_refl _) _
        have hbb : Below W1.heap.size W1 ((W1.alloc (.cells #[.string s.1] 9)).alloc (.cells #[n0.v, n1.v] 51)) := hba.alloc hba.size _
        have hno : ∀ k, W1.heap.size ≤ k → some k ≠ u3.ownBlock ∧ okT k := fun k hk => ⟨fun e => by have := (own_lt HR1.out.own k e.symm).2; omega, HOK.out k (.inr (Nat.le_trans HR1.out.below.size hk))⟩
        refine ⟨HR1.out.under hbb, ?_, ?_, ?_⟩
        · have h1 := heap_alloc_new (W1.alloc (.cells #[.string s.1] 9)) (.cells #[n0.v, n1.v] 51)
          rw [World.size_alloc] at h1
          refine Sl.mono (Sl.of_block (E := nsE) (ys := [n0, n1]) h1 rfl rfl (Nat.le_refl _) (by omega)) fun k hk => hno k (by omega)
        · refine (congrArg (LNS.At _ _) hn0).mpr ?_
          exact Sl.below HX1.out hbb
        · refine (congrArg (LNS.At _ _) hn1).mpr ?_
          show Sl strE _ _ (.slice (some ⟨W1.heap.size, 0, none⟩) 1 1) [s.1]
          have h1 := (heap_alloc_old (W1.alloc (.cells #[.string s.1] 9)) (.cells #[n0.v, n1.v] 51) (by simp)).trans (heap_alloc_new W1 (.cells #[.string s.1] 9))
          exact Sl.mono (Sl.of_block (E := strE) (ys := [s.1]) h1 rfl rfl (Nat.le_refl _) (by omega)) fun k hk => hno k (by omega))
      have hpl : x.h.parents.length ≤ 100 := HXA.out.2.parents
      have HZ : Hid (∀ y : LNS, y = n0 ∨ y = n1 → y.ns.length ≤ 1000 ∧ (∀ t ∈ y.ns, t.size ≤ 1000000) ∧ (y.ns ≠ [] → NamedIn L y.ns)) := Lib.hid fun y hy => by
        rcases hy with rfl | rfl
        · rw [hn0]
          exact ⟨by show x.h.parents.length ≤ 1000; omega, fun t ht => Nat.le_trans (HXA.out.2.names t ht) (by decide), HN0.out⟩
        · rw [hn1]
          refine ⟨by simp, fun t ht => ?_, fun _ => HN1.out⟩
          rw [List.mem_singleton.1 ht, s.2]
          decide
      have HN1L : Hid (n1.ns.length = 1) := Lib.hid (by rw [hn1]; rfl)
      have hn1v : n1.v = .slice (some ⟨W1.heap.size, 0, none⟩) 1 1 := by rw [hn1]; rfl
      have HN1V := Lib.hid hn1v
      have HAZ : Hid (∀ y ∈ L, TellH y.h) := Lib.hid fun y hy => (HLA.out y hy).2
      clear hn0 hn1 hn1v HX1 HR1
      go_upto_region 6 with (first
        | (refine wpl_str1 rfl (.tmp 22) rfl s.1 rfl ?_)
        | (refine wpl_ns2 rfl (.tmp 20) (.tmp 23) rfl n0 n1 rfl HN1V.out.symm ?_))
      (try simp only [World.size_alloc])
      generalize (W1.alloc (.cells #[.string s.1] 9)).alloc (.cells #[n0.v, n1.v] 51) = W2 at HI0 ⊢
      generalize W1.heap.size + 1 = g2 at HI0 ⊢
      have HNM : Hid (∀ ns, NamedIn L ns → ns.length ≤ 1000 ∧ ∀ t ∈ ns, t.size ≤ 1000000) := Lib.hid fun ns ⟨b, hb, h⟩ => by
        have hT := HAZ.out b hb
        rcases h with ⟨rfl, -⟩ | rfl
        · exact ⟨Nat.le_trans hT.parents (by decide), fun t ht => Nat.le_trans (hT.names t ht) (by decide)⟩
        · refine ⟨by simp, fun t ht => ?_⟩
          rw [List.mem_singleton.1 ht, (rid b.h).2]
          decide
      go_loopw [3, 26] (fun c3 c26 W => ∃ (j : Nat) (all : List LNS), j ≤ 2 ∧ c26 = .int .i64 (j : Int) ∧ (j = 2 ∨ 0 < i → 0 < all.length) ∧ all.length ≤ 2 * i + j ∧ TipsI okT w W L c3 all g2 n0 n1) (fun _ c26 _ => 2 - (intOf c26).toNat)
      case atStart => exact ⟨0, all0, by omega, rfl, fun h => by (rcases h with h | h; omega; exact hpos h), by omega, HI0.out⟩
      case round =>
        obtain ⟨j, all, hj, rfl, hpos2, hal2, hI⟩ := hrel
        rename World => W3
        have HI := Lib.hid hI
        clear hI HI0
        by_cases hj2 : j < 2
        · obtain ⟨y, hy⟩ : ∃ y, [n0, n1][j]? = some y := ⟨_, List.getElem?_eq_getElem (by simpa using hj2)⟩
          have hyn : y = n0 ∨ y = n1 := by have := List.mem_of_getElem? hy; simpa using this
          have HY1 : Hid (j = 1 → y.ns.length = 1) := Lib.hid fun h => by
            subst h
            injection hy with hy
            rw [← hy]
            exact HN1L.out
          obtain ⟨b2, o2, he2, -, -, hcy⟩ := HI.out.pair.at_ j y hy
          injection he2 with he2
          injection he2 with e1 e2
          subst e1
          subst e2
          have hcell : W3.cell? ⟨g2, j, none⟩ = some y.v := by have := hcy 0 _ rfl; rwa [Nat.add_zero, Nat.zero_add, show nsE.k = 1 from rfl, Nat.mul_one] at this
          obtain ⟨hyl, hyz, hynm⟩ := HZ.out y hyn
          have HYAT : Hid (y.At (fun k => some k ≠ u3.ownBlock ∧ okT k) W3) := Lib.hid (by rcases hyn with rfl | rfl; exact HI.out.at0; exact HI.out.at1)
          have HYZ := Lib.hid hyz
          have HYN := Lib.hid hynm
          obtain ⟨Aa, ca, rfl, -⟩ := own_slice HI.out.r.own
          have HALL : Hid (Sl nsE (fun _ => True) W3 (.slice Aa all.length ca) all) := Lib.hid ((Sl.of_own (E := nsE) HI.out.r.own).mono fun _ _ => trivial)
          obtain ⟨yn, yA, yc⟩ := y
          change W3.cell? ⟨g2, j, none⟩ = some (.slice yA yn.length yc) at hcell
          change yn.length ≤ 1000 at hyl
          clear hy hyn hcy hyz hynm
          go_upto_region 10 with fail
          go_loop [8, 35] (fun c8 c35 => ∃ (k : Nat) (hv : Bool), k ≤ all.length ∧ c35 = .int .i64 (k : Int) ∧ c8 = .bool hv ∧ (k = 0 → hv = ((yn.length : Int) == 0)) ∧ (hv = false → yn ≠ [])) (fun _ c35 => all.length - (intOf c35).toNat)
          case atStart => exact ⟨0, _, by omega, rfl, rfl, fun _ => rfl, fun h e => by rw [e] at h; cases h⟩
          case round =>
            obtain ⟨k, hv, hk, rfl, rfl, hk0, hne⟩ := hrel
            by_cases hkl : k < all.length
            · obtain ⟨m, hm⟩ : ∃ m, all[k]? = some m := ⟨_, List.getElem?_eq_getElem hkl⟩
              have hmm := List.mem_of_getElem? hm
              obtain ⟨bm, om, rfl, -, -, hcm⟩ := HALL.out.at_ k m hm
              have hcellm : W3.cell? ⟨bm, om + k, none⟩ = some m.v := by have := hcm 0 _ rfl; rwa [Nat.add_zero, show nsE.k = 1 from rfl, Nat.mul_one] at this
              obtain ⟨hml, hmz⟩ := HNM.out m.ns (HI.out.r.mem m hmm)
              have HS := Lib.hid (rsame_any W3 m ⟨yn, yA, yc⟩ _ _ (HI.out.r.at_ m hmm) HYAT.out hml hyl hmz HYZ.out)
              obtain ⟨r, hr⟩ : ∃ r, decide (joinS m.ns = joinS yn) = r := ⟨_, rfl⟩
              rw [hr] at HS
              obtain ⟨mn, mA, mc⟩ := m
              change W3.cell? ⟨bm, om + k, none⟩ = some (.slice mA mn.length mc) at hcellm
              clear hm hmm hcm hmz hr
              cases hv
              · go_wp2_with (go_at_call 134; refine HS.out.mono ?_; rintro e w9 ⟨rfl, rfl⟩)
                go_round
                case rel => exact ⟨k + 1, r, by omega, by go_num, rfl, by omega, fun _ => hne (by simp)⟩
                case measure => simp [intOf]; omega
              · go_wp2
                go_round
                case rel => exact ⟨k + 1, true, by omega, by go_num, rfl, by omega, fun h => by cases h⟩
                case measure => simp [intOf]; omega
            · have hkk : k = all.length := by omega
              subst hkk
              cases hv
              · have hyne := hne rfl
                go_wp2_with (first
                  | (refine wpl_ns1 rfl (.tmp 49) rfl ⟨yn, yA, yc⟩ rfl ?_)
                  | (at_builtin; refine wpl_app1 #[LNS.v ⟨yn, yA, yc⟩] w.heap.size rfl (.tmp 48) (.tmp 50) 89 51 _ 1 24 rfl Tryz.underlying89 ns_info nsZ_cells (by decide) (by decide) (.slice Aa all.length ca) all.length _ rfl rfl rfl (fun u hu => nsE.one ⟨yn, yA, yc⟩ u hu) HI.out.r.own HI.out.r.below.size (by omega) ?_; intro v1 w7 ho7 hg7 hat7; have HI7 := Lib.hid (HI.out.more ⟨yn, yA, yc⟩ HYAT.out (HYN.out hyne) ho7 hg7 hat7); clear ho7 hg7 hat7))
                go_roundw
                case rel => exact ⟨j + 1, all ++ [⟨yn, yA, yc⟩], by omega, by go_num, fun _ => by simp, by simp; omega, HI7.out⟩
                case measure => simp [intOf]; omega
              · go_wp2
                go_roundw
                case rel =>
                  refine ⟨j + 1, all, by omega, by go_num, fun h => ?_, by omega, HI.out⟩
                  rcases h with h | h
                  · rcases Nat.eq_zero_or_pos all.length with h0 | h0
                    · have h1 := hk0 h0
                      have h2 : yn.length = 1 := HY1.out (by omega)
                      rw [h2] at h1
                      cases h1
                    · exact h0
                  · exact hpos2 (.inr h)
                case measure => simp [intOf]; omega
        · have hj22 : j = 2 := by omega
          subst hj22
          go_wp2
          go_roundw
          case rel => exact ⟨i + 1, all, by omega, by go_num, fun _ => hpos2 (.inl rfl), by omega, HI.out.r⟩
          case measure => simp [intOf]; omega
    · have hii : i = L.length := by omega
      subst hii
      go_wp2
      go_ret
      exact ⟨u3, all0, rfl, HR.out, hpos, hal⟩
end Go.Proofs.YthpcedficlhanaaGreatDoor
namespace Go.Proofs.YthpcedficlhanaaGreatDoor
open Go.RowKit Go.Maps

/-- What a dag and the document's list have in common. -/
structure Both (D : List LB) (L : List LRH) : Prop where
  same : hdrs D = (rhs L).map hdrOf
  good : GoodG (hdrs D)
  inl : ∀ y ∈ L, InL y.h ∧ TellH y.h
  pos : 0 < L.length
theorem grown_ask {h : RH} (k : GrownH h) : AskH h := ⟨k.tell, k.p0⟩
theorem rhs_app (L : List LRH) (x : LRH) : rhs (L ++ [x]) = rhs L ++ [x.h] := by simp [rhs]
theorem rhs_inL {L : List LRH} (h : ∀ y ∈ L, InL y.h ∧ TellH y.h) : ∀ x ∈ rhs L, InL x := fun x hx => by
  obtain ⟨y, hy, rfl⟩ := List.mem_map.1 hx
  exact (h y hy).1
theorem Both.check {D : List LB} {L : List LRH} (h : Both D L) {x : LRH} (k : GrownH x.h) : checkG (hdrs D) (hdrOf x.h) = rcheckF (rhs L) x.h := by
  rw [h.same]
  exact checkG_of (rhs_inL h.inl) k.names
theorem Both.keep {D D' : List LB} {L : List LRH} (h : Both D L) {x : LRH} (k : GrownH x.h) (hD : hdrs D' = addG (hdrs D) (hdrOf x.h)) (e : rcheckF (rhs L) x.h ≠ 0) : Both D' L := by
  have h1 : hdrs D' = hdrs D := by rw [hD]; unfold addG; rw [if_neg (by rw [h.check k]; exact e)]
  exact ⟨h1.trans h.same, by rw [h1]; exact h.good, h.inl, h.pos⟩
theorem Both.more {D D' : List LB} {L : List LRH} (h : Both D L) {x : LRH} (k : GrownH x.h) (hD : hdrs D' = addG (hdrs D) (hdrOf x.h)) (e : rcheckF (rhs L) x.h = 0) : Both D' (L ++ [x]) := by
  have h0 : checkG (hdrs D) (hdrOf x.h) = 0 := (h.check k).trans e
  have h1 : hdrs D' = hdrs D ++ [hdrOf x.h] := by rw [hD]; unfold addG; rw [if_pos h0]
  refine ⟨by rw [h1, rhs_app, List.map_append, h.same]; rfl, by rw [h1]; exact .add h.good h0, fun y hy => ?_, by simp⟩
  rcases List.mem_append.1 hy with hy | hy
  · exact h.inl y hy
  · rw [List.mem_singleton.1 hy]; exact ⟨inL_of k.names e, k.tell⟩
/-- A dag and a list, side by side, in memory. -/
structure MadeS (w W : World) (p b1 b2 : Nat) (D : List LB) (vh : Value) (hs : List LRH) (vl : Value) (L : List LRH) : Prop where
  dag : DagAt (fun k => w.heap.size ≤ k) W p b1 b2 D
  fine : FineD D
  row : Sl lrhE (fun k => w.heap.size ≤ k) W vh hs
  hat : ∀ y ∈ hs, y.At (fun k => w.heap.size ≤ k) W
  list : Sl rbE (fun k => w.heap.size ≤ k) W vl L
  lat : ∀ y ∈ L, y.At (fun k => w.heap.size ≤ k) W
  both : Both D L
  below : Below w.heap.size w W
section
variable {w W W' : World} {p b1 b2 : Nat} {D D' : List LB} {vh vl v' : Value} {hs L : List LRH}
theorem MadeS.next (h : MadeS w W p b1 b2 D vh hs vl L) (hb : Below W.heap.size W W') : MadeS w W' p b1 b2 D vh hs vl L :=
  ⟨h.dag.below hb, h.fine, h.row.below hb, fun y hy => Sl.below (h.hat y hy) hb, h.list.below hb, fun y hy => Sl.below (h.lat y hy) hb, h.both, h.below.trans (hb.mono h.below.size)⟩
end
/-- Between the dag's turn and the list's. -/
structure MadeH (w W : World) (p b1 b2 : Nat) (D' : List LB) (vh : Value) (hs : List LRH) (vl : Value) (L : List LRH) : Prop where
  dag : DagAt (fun k => w.heap.size ≤ k) W p b1 b2 D'
  fine : FineD D'
  row : Sl lrhE (fun k => w.heap.size ≤ k) W vh hs
  hat : ∀ y ∈ hs, y.At (fun k => w.heap.size ≤ k) W
  list : Sl rbE (fun k => w.heap.size ≤ k) W vl L
  lat : ∀ y ∈ L, y.At (fun k => w.heap.size ≤ k) W
  below : Below w.heap.size w W
section
variable {w W W' : World} {p b1 b2 : Nat} {D D' : List LB} {vh vl v' : Value} {hs L : List LRH}
theorem MadeS.chg (h : MadeS w W p b1 b2 D vh hs vl L) (hc : Chg (two b1 b2) W W') (hd : DagAt (fun k => w.heap.size ≤ k ∨ W.heap.size ≤ k) W' p b1 b2 D') (hf : FineD D') : MadeH w W' p b1 b2 D' vh hs vl L :=
  ⟨hd.mono fun k hk => by rcases hk with hk | hk; exact hk; exact Nat.le_trans h.below.size hk, hf, h.row.chg hc h.dag.no_row, fun y hy => Sl.chg (h.hat y hy) hc h.dag.no_row, h.list.chg hc h.dag.no_row, fun y hy => Sl.chg (h.lat y hy) hc h.dag.no_row,
    h.below.trans (hc.below h.below.size fun k hk => by rcases hk with rfl | rfl; exact h.dag.here.2.1; exact h.dag.here.2.2)⟩
theorem MadeH.next (h : MadeH w W p b1 b2 D vh hs vl L) (hb : Below W.heap.size W W') : MadeH w W' p b1 b2 D vh hs vl L :=
  ⟨h.dag.below hb, h.fine, h.row.below hb, fun y hy => Sl.below (h.hat y hy) hb, h.list.below hb, fun y hy => Sl.below (h.lat y hy) hb, h.below.trans (hb.mono h.below.size)⟩
theorem MadeH.same (h : MadeH w W p b1 b2 D vh hs vl L) (hb : Both D L) : MadeS w W p b1 b2 D vh hs vl L := ⟨h.dag, h.fine, h.row, h.hat, h.list, h.lat, hb, h.below⟩
theorem MadeH.more (h : MadeH w W p b1 b2 D vh hs vl L) {x : LRH} (hx : x ∈ hs) (hb : Below W.heap.size W W') (ho : W'.ownsRow W.heap.size 71 8 v' (L.length + 1) (rbE.flat (L ++ [x]))) (hB : Both D (L ++ [x])) : MadeS w W' p b1 b2 D vh hs v' (L ++ [x]) :=
  have h1 := h.next hb
  ⟨h1.dag, h1.fine, h1.row, h1.hat, Sl.mono (Sl.of_own (E := rbE) (ys := L ++ [x]) (by rw [List.length_append]; exact ho)) fun k hk => Nat.le_trans h.below.size (own_lt ho k hk).1, fun y hy => by
    rcases List.mem_append.1 hy with hy | hy
    · exact h1.lat y hy
    · rw [List.mem_singleton.1 hy]; exact h1.hat x hx, hB, h1.below⟩
end

set_option maxRecDepth 100000 in
set_option maxHeartbeats 4000000 in
theorem made_any2 (w : World) (t : Value) (l : List LSD) (ok ok' : Nat → Prop) (hl : Sl sdE ok w t l) (hf : ∀ y ∈ l, y.At ok' w ∧ SeedOk y.s) (n : Nat) (hn : n ≤ 100) (ht : Tab w) :
    Calls Tryz.prog 62 #[t, .int .i64 n] w fun e w' => ∃ p b1 b2 D vh hs vl L va all, e = .returned (.tuple #[.pointer (some ⟨p, 0, none⟩), vl, va]) ∧ MadeS w w' p b1 b2 D vh hs vl L ∧ L.length ≤ n + 1 ∧
      Sl nsE (fun k => w.heap.size ≤ k) w' va all ∧ (∀ x ∈ all, x.At (fun k => w.heap.size ≤ k) w' ∧ NamedIn L x.ns) ∧ 0 < all.length ∧ all.length ≤ 2 * (n + 1) := by
  have HL := Lib.hid hl
  have HF := Lib.hid hf
  have HT := Lib.hid ht
  clear hl hf ht
  obtain ⟨gn, hgn⟩ : ∃ gn, rid rgenH = gn := ⟨_, rfl⟩
  have HGEN : Hid (∀ W, Calls Tryz.prog 47 #[] W fun e w' => e = .returned (.agg (rbc gn rgenL).toArray) ∧ Below W.heap.size W w') := Lib.hid fun W => by rw [← hgn]; exact rgenesis_any W
  have HGN := Lib.hid hgn
  clear hgn
  go_enter Tryz.func62, Tryz.ntmps62
  go_upto_region 3 with (first
    | (go_at_call 36; refine (dnew_any w HT.out).mono ?_; rintro e w1 ⟨p, b1, b2, D0, rfl, hb1, hd1, hf1, hh1, hl1⟩; have HB1 := Lib.hid hb1; have HD1 := Lib.hid hd1; have HF1 := Lib.hid hf1; have HH1 := Lib.hid hh1; clear hb1 hd1 hf1 hh1 hl1)
    | (go_at_call 47; refine (HGEN.out _).mono ?_; rintro e w2 ⟨rfl, hb2⟩; have HB2 := Lib.hid hb2; clear hb2)
    | (refine wpl_slice1 rfl 73 71 (.tmp 12) rfl (rbc gn rgenL).toArray rfl _ 8 96 Tryz.underlying73 rb_info rbZ_cells rfl (by decide) (by decide) ?_))
  have HBa : Hid (Below w1.heap.size w1 (w2.alloc (.cells (rbc gn rgenL).toArray 71))) := Lib.hid (HB2.out.alloc HB2.out.size _)
  have HROW : Hid (Sl rbE (fun k => w.heap.size ≤ k) (w2.alloc (.cells (rbc gn rgenL).toArray 71)) (.slice (some ⟨w2.heap.size, 0, none⟩) 1 1) [rgenL]) := Lib.hid (by
    refine Sl.mono (Sl.of_block (E := rbE) (ys := [rgenL]) (heap_alloc_new w2 _) (by rw [rbE.flat_one, ← HGN.out]; rfl) rfl (Nat.le_refl _) (by omega)) fun k hk => ?_
    have h1 := HB1.out.size
    have h2 := HB2.out.size
    omega)
  generalize w2.alloc (.cells (rbc gn rgenL).toArray 71) = W2 at HBa HROW ⊢
  generalize w2.heap.size = gl at HROW ⊢
  have HBw : Hid (Below w.heap.size w W2) := Lib.hid (HB1.out.trans (HBa.out.mono HB1.out.size))
  go_upto_region 6 with (go_at_call 37; refine (grown_any W2 t l ok ok' (HL.out.below HBw.out) (fun y hy => ⟨(HF.out y hy).1.below HBw.out, (HF.out y hy).2⟩) n (by omega)).mono ?_; rintro e w3 ⟨vh, hs, rfl, hhl, hg3⟩; obtain ⟨Ah, ch, rfl, -⟩ := own_slice hg3.own; have HG3 := Lib.hid hg3; have HGG : Hid (∀ y ∈ hs, GrownH y.h) := Lib.hid hg3.good; clear hg3)
  have HS0 : Hid (MadeS w w3 p b1 b2 D0 (.slice Ah hs.length ch) hs (.slice (some ⟨gl, 0, none⟩) 1 1) [rgenL]) := Lib.hid (by
    have hb3 := HG3.out.below
    have hsz : w.heap.size ≤ W2.heap.size := HBw.out.size
    refine ⟨((HD1.out.below HBa.out).below hb3), HF1.out, Sl.mono HG3.out.sl fun k hk => Nat.le_trans hsz hk, fun y hy => Sl.mono (HG3.out.at_ y hy) fun k hk => Nat.le_trans hsz hk.1, HROW.out.below hb3, fun y hy => ?_, ?_, HBw.out.trans (hb3.mono hsz)⟩
    · rw [List.mem_singleton.1 hy]; exact Sl.nil _ _ _
    · exact ⟨HH1.out, by rw [HH1.out]; exact .start, fun y hy => by rw [List.mem_singleton.1 hy]; exact ⟨rgen_in, rgen_tell⟩, by simp⟩)
  have HTT := HT
  go_loopw [8, 20] (fun c8 c20 W => ∃ (i : Nat) (D : List LB) (L : List LRH), i ≤ hs.length ∧ c20 = .int .i64 (i : Int) ∧ L.length ≤ i + 1 ∧ D.length ≤ i + 1 ∧ MadeS w W p b1 b2 D (.slice Ah hs.length ch) hs c8 L) (fun _ c20 _ => hs.length - (intOf c20).toNat)
  case atStart => exact ⟨0, D0, [rgenL], by omega, rfl, by simp, by have := congrArg List.length HH1.out; simp [hdrs] at this; omega, HS0.out⟩
  case round =>
    obtain ⟨i, D, L, hi, rfl, hLl, hDl, hS⟩ := hrel
    have HS := Lib.hid hS
    clear hS
    by_cases hih : i < hs.length
    · obtain ⟨x, hx⟩ : ∃ x, hs[i]? = some x := ⟨_, List.getElem?_eq_getElem hih⟩
      have hxm := List.mem_of_getElem? hx
      have HXM := Lib.hid hxm
      have HXG : Hid (GrownH x.h) := Lib.hid (HGG.out x hxm)
      have HXA : Hid (x.At (fun _ => True) wr) := Lib.hid (Sl.mono (HS.out.hat x hxm) fun _ _ => trivial)
      obtain ⟨bh, oh, rfl, hbh, -, hcx⟩ := HS.out.row.at_ i x hx
      have HCX := Lib.hid hcx
      clear hcx hx hxm
      have hbx : Below wr.heap.size wr (wr.alloc (.cells x.cells.toArray 53)) := (Below.refl _ _).alloc (Nat.le_refl _) _
      have HSx := Lib.hid (HS.out.next hbx)
      have HXx : Hid (x.At (fun _ => True) (wr.alloc (.cells x.cells.toArray 53))) := Lib.hid (Sl.below HXA.out hbx)
      have HGx : Hid ((wr.alloc (.cells x.cells.toArray 53)).heap[wr.heap.size]? = some (.cells x.cells.toArray 53 (0, 0))) := Lib.hid (heap_alloc_new wr _)
      clear hbx
      go_upto_region 8 with (first
        | (refine wpl_load rfl 53 (.tmp 22) rfl bh _ rfl x.cells _ HCX.out Tryz.underlying53 rfl rh_size ?_)
        | (refine wpl_store_new rfl 53 _ _ rfl rfl x.cells rfl _ _ rfl (lrhE.one x) rh_size ?_))
      generalize wr.alloc (.cells x.cells.toArray 53) = W1 at HSx HXx HGx ⊢
      generalize wr.heap.size = gx at HGx ⊢
      have hgx : gx < W1.heap.size := (Array.getElem?_eq_some_iff.1 HGx.out).1
      go_upto_region 9 with (first
        | (refine wpl_load rfl 53 (.tmp 10) rfl gx 0 rfl x.cells _ (fun j u hu => by rw [Nat.zero_add]; exact cell_block HGx.out (by simpa using hu)) Tryz.underlying53 rfl rh_size ?_)
        | (go_at_call 38; refine (own_any _ x _ HXx.out (Nat.le_trans HXG.out.tell.parents (by decide))).mono ?_; rintro e w4 ⟨y, hy, rfl, hya, hb4⟩; have HY := Lib.hid hy; have HYA := Lib.hid hya; have HS4 := Lib.hid (HSx.out.next hb4); have HX4 : Hid (x.At (fun _ => True) w4) := Lib.hid (Sl.below HXx.out hb4); have HG4 : Hid (w4.heap[gx]? = some (.cells x.cells.toArray 53 (0, 0))) := Lib.hid ((hb4.block gx hgx).trans HGx.out); clear hy hya hb4)
        | (go_at_call 39; refine (dadd_any w4 p b1 b2 D _ HS4.out.dag HS4.out.fine y _ HYA.out (by rw [HY.out]; exact grown_wide HXG.out) (HTT.out.below HS4.out.below) (by omega)).mono ?_; rintro e w5 ⟨rfl, hc5, D5, hd5, hf5, hh5, hl5⟩; have HH5 := Lib.hid (HS4.out.chg hc5 hd5 hf5); have HX5 : Hid (x.At (fun _ => True) w5) := Lib.hid (Sl.chg HX4.out hc5 HS4.out.dag.no_row); have HG5 : Hid (w5.heap[gx]? = some (.cells x.cells.toArray 53 (0, 0))) := Lib.hid ((hc5.block gx (Array.getElem?_eq_some_iff.1 HG4.out).1 fun hs => HS4.out.dag.no_row gx hs _ _ _ HG4.out).trans HG4.out); have HD5 : Hid (hdrs D5 = addG (hdrs D) (hdrOf x.h)) := Lib.hid (by rw [hh5, HY.out]); clear hc5 hd5 hf5 hh5))
      have HRA := Lib.hid (raddF_any w5 u8 L _ _ HH5.out.list (fun y hy => ⟨HH5.out.lat y hy, (HS.out.both.inl y hy).2⟩) HS.out.both.pos (by omega) x HX5.out (grown_ask HXG.out))
      by_cases h0 : rcheckF (rhs L) x.h = 0
      · have HR2 : Hid (Calls Tryz.prog 50 #[u8, .agg x.cells.toArray] w5 fun e w' => ∃ v', e = .returned (.tuple #[v', .int .i64 0]) ∧ w'.ownsRow w5.heap.size 71 8 v' (L.length + 1) (rbE.flat (L ++ [x])) ∧ Below w5.heap.size w5 w') := Lib.hid (HRA.out.mono fun e w' ⟨ha, hb⟩ => by
          rcases ha with ⟨h1, -⟩ | ⟨-, v', he, ho⟩
          · exact absurd h0 h1
          · exact ⟨v', he, ho, hb⟩)
        have HB9 := Lib.hid (HS.out.both.more HXG.out HD5.out h0)
        clear h0
        go_wp2_with (first
          | (refine wpl_load rfl 53 (.tmp 10) rfl gx 0 rfl x.cells _ (fun j u hu => by rw [Nat.zero_add]; exact cell_block HG5.out (by simpa using hu)) Tryz.underlying53 rfl rh_size ?_)
          | (go_at_call 50; refine HR2.out.mono ?_; rintro e w6 ⟨v', rfl, ho6, hb6⟩; have HO6 := Lib.hid ho6; have HB6 := Lib.hid hb6; clear ho6 hb6))
        go_roundw
        case rel => exact ⟨i + 1, D5, L ++ [x], by omega, by go_num, by simp; omega, by omega, HH5.out.more HXM.out HB6.out HO6.out HB9.out⟩
        case measure => simp [intOf]; omega
      · obtain ⟨ce, hce⟩ : ∃ ce, rcheckF (rhs L) x.h = ce := ⟨_, rfl⟩
        have HR2 : Hid (Calls Tryz.prog 50 #[u8, .agg x.cells.toArray] w5 fun e w' => e = .returned (.tuple #[u8, .int .i64 ce]) ∧ Below w5.heap.size w5 w') := Lib.hid (HRA.out.mono fun e w' ⟨ha, hb⟩ => by
          rcases ha with ⟨-, he⟩ | ⟨h1, -⟩
          · rw [hce] at he; exact ⟨he, hb⟩
          · exact absurd h1 h0)
        have HB9 := Lib.hid (HS.out.both.keep HXG.out HD5.out h0)
        clear h0 hce
        go_wp2_with (first
          | (refine wpl_load rfl 53 (.tmp 10) rfl gx 0 rfl x.cells _ (fun j u hu => by rw [Nat.zero_add]; exact cell_block HG5.out (by simpa using hu)) Tryz.underlying53 rfl rh_size ?_)
          | (go_at_call 50; refine HR2.out.mono ?_; rintro e w6 ⟨rfl, hb6⟩; have HB6 := Lib.hid hb6; clear hb6))
        go_roundw
        case rel => exact ⟨i + 1, D5, L, by omega, by go_num, by omega, by omega, (HH5.out.same HB9.out).next HB6.out⟩
        case measure => simp [intOf]; omega
    · have hii : i = hs.length := by omega
      subst hii
      have HTI : Hid (Calls Tryz.prog 131 #[u8] wr fun e w' => ∃ v' all, e = .returned v' ∧ TipsR (fun k => w.heap.size ≤ k ∨ wr.heap.size ≤ k) wr w' L v' all ∧ (0 < L.length → 0 < all.length) ∧ all.length ≤ 2 * L.length) := Lib.hid (tipsets_any wr u8 L _ HS.out.list (fun y hy => ⟨HS.out.lat y hy, (HS.out.both.inl y hy).2⟩) (by omega))
      go_wp2_with (go_at_call 131; refine HTI.out.mono ?_; rintro e w9 ⟨va, all, rfl, htr, hpa, hal⟩; have HTR := Lib.hid htr; clear htr)
      (try simp only [Exit.inBlock, Exit.then])
      refine ⟨rfl, .tuple #[.pointer (some ⟨p, 0, none⟩), u8, va], by kernel_rfl, ?_⟩
      have hsz : w.heap.size ≤ wr.heap.size := HS.out.below.size
      exact ⟨p, b1, b2, D, _, hs, u8, L, va, all, rfl, HS.out.next HTR.out.below, by omega, Sl.mono (Sl.of_own (E := nsE) HTR.out.own) fun k hk => Nat.le_trans hsz (own_lt HTR.out.own k hk).1, fun x hx => ⟨Sl.mono (HTR.out.at_ x hx) fun k hk => hk.2.elim id (Nat.le_trans hsz), HTR.out.mem x hx⟩, hpa HS.out.both.pos, by omega⟩
end Go.Proofs.YthpcedficlhanaaGreatDoor
namespace Go.Proofs.YthpcedficlhanaaGreatDoor
open Go.RowKit Go.Maps

theorem names_back {l : List ByteArray} (h : ∀ s ∈ l, s.size = 32) : (l.map idOf).map Subtype.val = l := by
  rw [List.map_map]
  conv => rhs; rw [← List.map_id l]
  exact List.map_congr_left fun s hs => idOf_self s (h s hs)
theorem keyB_rise {T : List ID} (h : riseB T = true) : keyB T = ⟨(joinI T).toArray⟩ := by unfold keyB; rw [sortI_rise h]
/-- Names that a header of the dag tells are a tipset of the dag's. -/
theorem named_tip {D : List LB} {L : List LRH} (hB : Both D L) {ns : List ByteArray} (h : NamedIn L ns) : ∃ T : List ID, TipOf (hdrs D) T ∧ (⟨(joinS ns).toArray⟩ : ByteArray) = keyB T ∧ ns = T.map Subtype.val := by
  obtain ⟨b, hb, hc⟩ := h
  have hI := (hB.inl b hb).1
  have hm : hdrOf b.h ∈ hdrs D := by
    rw [hB.same]
    exact List.mem_map.2 ⟨b.h, List.mem_map.2 ⟨b, hb, rfl⟩, rfl⟩
  rcases hc with ⟨rfl, hne⟩ | rfl
  · have hT : TipOf (hdrs D) (b.h.parents.map idOf) := by
      rcases hB.good.parents _ hm with he | ⟨h1, -, -⟩
      · have h2 : b.h.parents.map idOf = [] := congrArg Hdr.parents he
        exact absurd (List.map_eq_nil_iff.1 h2) hne
      · exact h1
    refine ⟨_, hT, ?_, (names_back hI.whole).symm⟩
    rw [keyB_rise hT.rise, join_names hI.whole]
  · have hid : hdrID (hdrOf b.h) = rid b.h := hI.id
    have hT : TipOf (hdrs D) [rid b.h] := by
      have hh : hasG (hdrs D) (rid b.h) = true := hasG_iff.2 ⟨_, hm, hid⟩
      obtain ⟨x, hx⟩ := hasG_get hh
      refine ⟨rfl, by simp, by simp, ?_⟩
      unfold tipG
      rw [if_pos (by simp [hh])]
      have hv : ([rid b.h].filterMap fun i => (getG (hdrs D) i).map blkG) = [blkG x] := by simp [hx]
      rw [hv, if_pos (tipB_one _)]
    refine ⟨_, hT, ?_, rfl⟩
    rw [keyB_one]
    simp [joinS]
set_option maxRecDepth 100000 in
set_option maxHeartbeats 2000000 in
theorem of14_any (w : World) (p b1 b2 : Nat) (D : List LB) (okx ok : Nat → Prop) (h : DagAt okx w p b1 b2 D) (hf : FineD D) (x : LNS) (hx : x.At ok w) (T : List ID) (hT : TipOf (hdrs D) T) (hxT : x.ns = T.map Subtype.val) (hk : (⟨(joinS x.ns).toArray⟩ : ByteArray) = keyB T) :
    Calls Tryz.prog 65 #[.pointer (some ⟨p, 0, none⟩), x.v] w fun e w' => ∃ t2, e = .returned (tipV t2) ∧ TipAt (fun k => w.heap.size ≤ k) w' t2 (setD D T) ∧ Below w.heap.size w w' := by
  obtain ⟨ec, hec, hC⟩ := par_tip p b1 b2 D okx h.ids hf T (.inr hT)
  have hne : T ≠ [] := fun e => by have := hT.one; rw [e] at this; simp at this
  have he0 : ec = 0 := by
    cases T with
    | nil => exact absurd rfl hne
    | cons a l => simpa using hec
  subst he0
  have hb0 : Below w.heap.size w (w.alloc (.cells #[.slice none 0 0] 28)) := (Below.refl _ w).alloc (Nat.le_refl _) _
  have hJ := rjoin_any (w.alloc (.cells #[.slice none 0 0] 28)) x.v x.ns ok (Sl.below hx hb0) (by rw [hxT, List.length_map]; have := hT.five; omega) (fun s hs => by rw [hxT] at hs; obtain ⟨i, -, rfl⟩ := List.mem_map.1 hs; rw [i.2]; decide)
  rw [hk] at hJ
  have HJ := Lib.hid hJ
  have HC := Lib.hid hC
  have HD := Lib.hid (h.below hb0)
  have HB0 := Lib.hid hb0
  have HG0 : Hid ((w.alloc (.cells #[.slice none 0 0] 28)).heap[w.heap.size]? = some (.cells #[.slice none 0 0] 28 (0, 0))) := Lib.hid (heap_alloc_new w _)
  obtain ⟨ns, A, c⟩ := x
  change Calls _ _ #[_, .slice A ns.length c] _ _
  replace HJ : Hid (Calls Tryz.prog 53 #[.slice A ns.length c] (w.alloc (.cells #[.slice none 0 0] 28)) fun e w' => e = .returned (.string (keyB T)) ∧ (w.alloc (.cells #[.slice none 0 0] 28)) = w') := HJ
  clear h hf hx hT hxT hk hec hC hb0 hJ hne
  go_enter Tryz.func65, Tryz.ntmps65
  go_upto_region 1 with fail
  try change Code.wp _ _ _ _ (w.alloc (.cells #[.slice none 0 0] 28))
  generalize w.alloc (.cells #[.slice none 0 0] 28) = W0 at HJ HD HB0 HG0 ⊢
  go_upto_region 2 with (first
    | (go_at_call 53; refine HJ.out.mono ?_; rintro e w1 ⟨rfl, rfl⟩)
    | (go_at_call 43; refine (HC.out _ HD.out).mono ?_; rintro e w2 ⟨t2, rfl, ht2, hb2⟩; have HT2 := Lib.hid ht2; have HB2 := Lib.hid hb2; have HG2 : Hid (w2.heap[w.heap.size]? = some (.cells #[.slice none 0 0] 28 (0, 0))) := Lib.hid ((hb2.block _ (Array.getElem?_eq_some_iff.1 HG0.out).1).trans HG0.out); clear ht2 hb2)
    | (refine wpl_store_new rfl 28 _ _ rfl rfl [t2] rfl _ _ rfl (tip_one HT2.out) tip_size ?_))
  have hb6 : Below w2.heap.size w2 (w2.alloc (.cells #[t2] 28)) := (Below.refl _ _).alloc (Nat.le_refl _) _
  have HT3 := Lib.hid (HT2.out.below hb6)
  have HG3 : Hid ((w2.alloc (.cells #[t2] 28)).heap[w2.heap.size]? = some (.cells #[t2] 28 (0, 0))) := Lib.hid (heap_alloc_new w2 _)
  have HG4 : Hid ((w2.alloc (.cells #[t2] 28)).heap[w.heap.size]? = some (.cells #[.slice none 0 0] 28 (0, 0))) := Lib.hid ((hb6.block _ (Array.getElem?_eq_some_iff.1 HG2.out).1).trans HG2.out)
  have HB3 : Hid (Below w.heap.size w (w2.alloc (.cells #[t2] 28))) := Lib.hid (HB0.out.trans ((HB2.out.trans (hb6.mono HB2.out.size)).mono HB0.out.size))
  have HLT : Hid (w.heap.size < W0.heap.size) := Lib.hid (Array.getElem?_eq_some_iff.1 HG0.out).1
  clear hb6
  try change Code.wp _ _ _ _ (w2.alloc (.cells #[t2] 28))
  generalize w2.alloc (.cells #[t2] 28) = W3 at HT3 HG3 HG4 HB3 ⊢
  generalize w2.heap.size = g3 at HG3 ⊢
  go_wp2_with (first
    | (refine wpl_load rfl 28 (.tmp 5) rfl g3 0 rfl [t2] _ (fun j u hu => by rw [Nat.zero_add]; exact cell_block HG3.out (by simpa using hu)) Tryz.underlying28 rfl tip_size ?_)
    | (refine wpl_store_row rfl 28 (.tmp 4) (.tmp 17) rfl w.heap.size rfl [t2] rfl _ 28 HG4.out rfl (tip_one HT3.out) tip_size ?_))
  (try simp only [Exit.inBlock, Exit.then])
  refine bodyPost_ret (results_cell_row rfl _ _ w.heap.size 28 #[t2] (0, 0) _ rfl (setRow_heap _ w.heap.size _ _ _ _ HG4.out) Tryz.underlying28 rfl tip_size) rfl ?_
  exact ⟨t2, rfl, tip_mono (tip_set HT3.out (fun k hk => by have := HLT.out; omega) _) fun k hk => by have := HLT.out; omega, below_setRow HB3.out (Nat.le_refl _) _⟩
end Go.Proofs.YthpcedficlhanaaGreatDoor
namespace Go.Proofs.YthpcedficlhanaaGreatDoor
open Go.RowKit Go.Maps

theorem tip_single {G : List Hdr} {i : ID} (hh : hasG G i = true) : TipOf G [i] := by
  obtain ⟨x, hx⟩ := hasG_get hh
  refine ⟨rfl, by simp, by simp, ?_⟩
  unfold tipG
  rw [if_pos (by simp [hh])]
  have hv : ([i].filterMap fun i => (getG G i).map blkG) = [blkG x] := by simp [hx]
  rw [hv, if_pos (tipB_one _)]
theorem GoodG.root {G : List Hdr} (g : GoodG G) : hasG G rootID = true := hasG_iff.2 ⟨genH, g.gen, rfl⟩
theorem GoodG.root_tip {G : List Hdr} (g : GoodG G) : TipOf G [rootID] := tip_single g.root
theorem GoodG.root_get {G : List Hdr} (g : GoodG G) : getG G rootID = some genH := by
  induction g with
  | start =>
    unfold getG
    rw [List.find?_cons_of_pos (by simp [rootID])]
  | add g _ ih => rw [getG_app g.root]; exact ih
theorem gen_is (w : World) (ht : Tab w) {G : List Hdr} (g : GoodG G) :
    Calls Tryz.prog 71 #[] w fun e w' => ∃ t, e = .returned (tipV t) ∧ TipIs (fun k => w.heap.size ≤ k) w' G t [rootID] ∧ Below w.heap.size w w' := by
  refine (tgenesis_any w ht).mono ?_
  rintro e w' ⟨t, y, hy, rfl, h1, h2, hb⟩
  refine ⟨t, rfl, ⟨[⟨rootID, y⟩], ⟨h1, by simp⟩, rfl, fun b hb => ?_⟩, hb⟩
  rw [List.mem_singleton.1 hb]
  exact ⟨by show getG G rootID = some y.h; rw [hy]; exact g.root_get, h2⟩
end Go.Proofs.YthpcedficlhanaaGreatDoor
