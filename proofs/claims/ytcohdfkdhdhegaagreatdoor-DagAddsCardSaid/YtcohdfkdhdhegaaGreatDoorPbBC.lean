/- coxswainref14.Same, Tipsets. -/
import Derived.Test.YtcohdfkdhdhegaaGreatDoorPbBB
namespace Go.Proofs.YtcohdfkdhdhegaaGreatDoor
open Go.RowKit

/-- Names in a row, as an element of a row. -/
structure LNS where
  ns : List ByteArray
  A : Option Addr
  c : Nat
def LNS.v (x : LNS) : Value := .slice x.A x.ns.length x.c
def LNS.At (ok : Nat → Prop) (w : World) (x : LNS) : Prop := Sl strE ok w x.v x.ns
def nsE : Enc LNS := { enc := fun x => [x.v], k := 1, hk := fun _ => rfl, one := fun _ u hu => by rw [List.mem_singleton] at hu; subst hu; rfl, k0 := by decide }
theorem ns_info : (Tryz.prog.info? 27).map (fun i => (i.zero, i.size, i.bytes)) = some (some (.slice none 0 0), 1, 24) := by kernel_rfl
theorem nsZ_cells : (Value.slice none 0 0).cells.size = 1 := rfl
theorem run_ns1 (w : World) (x : LNS) : (Instr.buildSlice 77 1 #[(0, x.v)]).run Tryz.prog w = .ok (.slice (some ⟨w.heap.size, 0, none⟩) 1 1) (w.alloc (.cells #[x.v] 27)) := by
  obtain ⟨ie, hie, hzz⟩ := Option.map_eq_some_iff.1 ns_info
  simp only [Prod.mk.injEq] at hzz
  obtain ⟨h1, h2, -⟩ := hzz
  have hf := Great.fill_flat [x.v] ((Array.range (1 * ie.size)).map ((Value.slice none 0 0).cells[· % (Value.slice none 0 0).cells.size]!)) (fun v hv => by rw [List.mem_singleton] at hv; subst hv; rfl) (by simp [h2])
  refine run_buildSlice w _ 27 1 _ _ ie _ Tryz.underlying77 hie h1 (by omega) (by omega) ?_
  rw [h2] at hf ⊢
  exact hf
theorem run_ns2 (w : World) (x y : LNS) : (Instr.buildSlice 77 2 #[(0, x.v), (1, y.v)]).run Tryz.prog w = .ok (.slice (some ⟨w.heap.size, 0, none⟩) 2 2) (w.alloc (.cells #[x.v, y.v] 27)) := by
  obtain ⟨ie, hie, hzz⟩ := Option.map_eq_some_iff.1 ns_info
  simp only [Prod.mk.injEq] at hzz
  obtain ⟨h1, h2, -⟩ := hzz
  have hf := Great.fill_flat [x.v, y.v] ((Array.range (2 * ie.size)).map ((Value.slice none 0 0).cells[· % (Value.slice none 0 0).cells.size]!)) (fun v hv => by simp only [List.mem_cons, List.not_mem_nil, or_false] at hv; rcases hv with rfl | rfl <;> rfl) (by simp [h2])
  refine run_buildSlice w _ 27 2 _ _ ie _ Tryz.underlying77 hie h1 (by omega) (by omega) ?_
  rw [h2] at hf ⊢
  exact hf
section
variable {ops : Array Oper} {rest : List Oper} {o : Oper} {a : Act} {w : World} {Q : Exit → Act → World → Prop}
theorem wpl_ns1 (hgd : o.guard = none) (p : Operand) (ho : o.op = .buildSlice 77 1 #[(0, p)]) (x : LNS) (hx : a.eval p = x.v)
    (h : wpList Tryz.prog ops Q rest (a.put o.dst (.slice (some ⟨w.heap.size, 0, none⟩) 1 1)) (w.alloc (.cells #[x.v] 27))) : wpList Tryz.prog ops Q (o :: rest) a w :=
  wpList_plain hgd fun K hK => by
    unfold Oper.wp execOp
    simp only [ho, List.map_toArray, List.map_cons, List.map_nil, hx, Sem.run_bind, run_ns1, Result.andThen_ok, Sem.run_pure]
    exact hK _ _ h
theorem wpl_ns2 (hgd : o.guard = none) (p q : Operand) (ho : o.op = .buildSlice 77 2 #[(0, p), (1, q)]) (x y : LNS) (hx : a.eval p = x.v) (hy : a.eval q = y.v)
    (h : wpList Tryz.prog ops Q rest (a.put o.dst (.slice (some ⟨w.heap.size, 0, none⟩) 2 2)) (w.alloc (.cells #[x.v, y.v] 27))) : wpList Tryz.prog ops Q (o :: rest) a w :=
  wpList_plain hgd fun K hK => by
    unfold Oper.wp execOp
    simp only [ho, List.map_toArray, List.map_cons, List.map_nil, hx, hy, Sem.run_bind, run_ns2, Result.andThen_ok, Sem.run_pure]
    exact hK _ _ h
end

set_option maxRecDepth 100000 in
set_option maxHeartbeats 1000000 in
theorem rsame_any (w : World) (x y : LNS) (ok ok2 : Nat → Prop) (hx : x.At ok w) (hy : y.At ok2 w) (hxl : x.ns.length ≤ 1000) (hyl : y.ns.length ≤ 1000) (hxz : ∀ s ∈ x.ns, s.size ≤ 1000000) (hyz : ∀ s ∈ y.ns, s.size ≤ 1000000) :
    Calls Tryz.prog 124 #[x.v, y.v] w fun e w' => e = .returned (.bool (decide (joinS x.ns = joinS y.ns))) ∧ w = w' := by
  obtain ⟨a, ha⟩ : ∃ a : ByteArray, (⟨(joinS x.ns).toArray⟩ : ByteArray) = a := ⟨_, rfl⟩
  obtain ⟨b, hb⟩ : ∃ b : ByteArray, (⟨(joinS y.ns).toArray⟩ : ByteArray) = b := ⟨_, rfl⟩
  have H1 := Lib.hid (rjoin_any w x.v x.ns ok hx hxl hxz)
  have H2 := Lib.hid (rjoin_any w y.v y.ns ok2 hy hyl hyz)
  rw [ha] at H1
  rw [hb] at H2
  have hd : decide (joinS x.ns = joinS y.ns) = (a.toList == b.toList) := by
    rw [str_beq, ← ha, ← hb]
    refine decide_eq_decide.2 ⟨fun h => by rw [h], fun h => ?_⟩
    have := congrArg (fun s : ByteArray => s.data.toList) h
    simpa using this
  obtain ⟨g, hg⟩ : ∃ g, (a.toList == b.toList) = g := ⟨_, rfl⟩
  rw [hd, hg]
  clear hx hy ha hb hd
  go_enter Tryz.func124, Tryz.ntmps124
  go_wp2_with (first
    | (go_at_call 26; refine H1.out.mono ?_; clear H1; rintro e w1 ⟨rfl, rfl⟩)
    | (go_at_call 26; refine H2.out.mono ?_; rintro e w2 ⟨rfl, rfl⟩))
  go_ret
  exact ⟨by first | rfl | rw [hg], rfl⟩

/-- Names that are told: a block's parents, or a block alone. -/
def NamedIn (L : List LRH) (ns : List ByteArray) : Prop := ∃ b ∈ L, (ns = b.h.parents ∧ b.h.parents ≠ []) ∨ ns = [(rid b.h).1]
/-- All that have been found so far. -/
structure TipsR (okT : Nat → Prop) (w wr : World) (L : List LRH) (v : Value) (all : List LNS) : Prop where
  own : wr.ownsRow w.heap.size 27 1 v all.length (nsE.flat all)
  at_ : ∀ x ∈ all, x.At (fun k => some k ≠ v.ownBlock ∧ okT k) wr
  mem : ∀ x ∈ all, NamedIn L x.ns
  below : Below w.heap.size w wr
theorem TipsR.under {okT : Nat → Prop} {w wr W : World} {L : List LRH} {v : Value} {all : List LNS} (h : TipsR okT w wr L v all) (hb : Below wr.heap.size wr W) : TipsR okT w W L v all :=
  ⟨own_below h.own hb, fun x hx => Sl.below (h.at_ x hx) hb, h.mem, h.below.trans (hb.mono h.below.size)⟩
theorem TipsR.more {okT : Nat → Prop} {w W w1 : World} {L : List LRH} {v v1 : Value} {all : List LNS} (h : TipsR okT w W L v all) (x : LNS) (hx : x.At (fun k => some k ≠ v.ownBlock ∧ okT k) W) (hn : NamedIn L x.ns)
    (ho : w1.ownsRow w.heap.size 27 1 v1 (all.length + 1) (nsE.flat all ++ [x.v])) (hg : W.grownBy w1 v.ownBlock) (hat1 : v1.ownBlock = v.ownBlock ∨ ∃ b, v1.ownBlock = some b ∧ W.heap.size ≤ b) : TipsR okT w w1 L v1 (all ++ [x]) where
  own := by rw [nsE.flat_append, nsE.flat_one, List.length_append]; exact ho
  at_ := by
    intro y hy
    have h1 : y.At (fun k => some k ≠ v.ownBlock ∧ okT k) W := by
      rcases List.mem_append.1 hy with hy | hy
      · exact h.at_ y hy
      · rw [List.mem_singleton.1 hy]; exact hx
    refine Sl.mono (Sl.fr (Sl.old h1) (Fr.grown hg fun k hk => hk.1.1)) fun k hk => ⟨?_, hk.1.2⟩
    rcases hat1 with he | ⟨b, he, hb⟩
    · rw [he]; exact hk.1.1
    · rw [he]; intro e; injection e with e; have := hk.2; omega
  mem := fun y hy => by
    rcases List.mem_append.1 hy with hy | hy
    · exact h.mem y hy
    · rw [List.mem_singleton.1 hy]; exact hn
  below := below_grown_own h.below h.own (Nat.le_refl _) h.below.size hg
/-- .. while one block's two are looked at. -/
structure TipsI (okT : Nat → Prop) (w W : World) (L : List LRH) (v : Value) (all : List LNS) (g2 : Nat) (n0 n1 : LNS) : Prop where
  r : TipsR okT w W L v all
  pair : Sl nsE (fun k => some k ≠ v.ownBlock ∧ okT k) W (.slice (some ⟨g2, 0, none⟩) 2 2) [n0, n1]
  at0 : n0.At (fun k => some k ≠ v.ownBlock ∧ okT k) W
  at1 : n1.At (fun k => some k ≠ v.ownBlock ∧ okT k) W
theorem TipsI.under {okT : Nat → Prop} {w wr W : World} {L : List LRH} {v : Value} {all : List LNS} {g2 : Nat} {n0 n1 : LNS} (h : TipsI okT w wr L v all g2 n0 n1) (hb : Below wr.heap.size wr W) : TipsI okT w W L v all g2 n0 n1 :=
  ⟨h.r.under hb, h.pair.below hb, Sl.below h.at0 hb, Sl.below h.at1 hb⟩
theorem keep_own {okT : Nat → Prop} {β : Type} {E : Enc β} {W w1 : World} {v v1 u : Value} {ys : List β} (h : Sl E (fun k => some k ≠ v.ownBlock ∧ okT k) W u ys) (hg : W.grownBy w1 v.ownBlock) (hat1 : v1.ownBlock = v.ownBlock ∨ ∃ b, v1.ownBlock = some b ∧ W.heap.size ≤ b) : Sl E (fun k => some k ≠ v1.ownBlock ∧ okT k) w1 u ys := by
  refine Sl.mono (Sl.fr (Sl.old h) (Fr.grown hg fun k hk => hk.1.1)) fun k hk => ⟨?_, hk.1.2⟩
  rcases hat1 with he | ⟨b, he, hb⟩
  · rw [he]; exact hk.1.1
  · rw [he]; intro e; injection e with e; have := hk.2; omega
theorem TipsI.more {okT : Nat → Prop} {w W w1 : World} {L : List LRH} {v v1 : Value} {all : List LNS} {g2 : Nat} {n0 n1 : LNS} (h : TipsI okT w W L v all g2 n0 n1) (x : LNS) (hx : x.At (fun k => some k ≠ v.ownBlock ∧ okT k) W) (hn : NamedIn L x.ns)
    (ho : w1.ownsRow w.heap.size 27 1 v1 (all.length + 1) (nsE.flat all ++ [x.v])) (hg : W.grownBy w1 v.ownBlock) (hat1 : v1.ownBlock = v.ownBlock ∨ ∃ b, v1.ownBlock = some b ∧ W.heap.size ≤ b) : TipsI okT w w1 L v1 (all ++ [x]) g2 n0 n1 :=
  ⟨h.r.more x hx hn ho hg hat1, keep_own h.pair hg hat1, keep_own h.at0 hg hat1, keep_own h.at1 hg hat1⟩

/-- If the first block has no parents, it comes first. -/
def Rt (L : List LRH) (i j : Nat) (all : List LNS) : Prop := ∀ x0, L[0]? = some x0 → x0.h.parents = [] → (i = 0 → j < 2 → all = []) ∧ (0 < i ∨ j = 2 → ∃ z, all[0]? = some z ∧ z.ns = [(rid x0.h).1])
theorem Rt.start {L : List LRH} : Rt L 0 0 [] := fun _ _ _ => ⟨fun _ _ => rfl, fun h => by omega⟩
theorem Rt.out {L : List LRH} {i : Nat} {all : List LNS} (h : Rt L i 2 all) : Rt L (i + 1) 0 all := fun x0 h1 h2 => ⟨fun h => by omega, fun _ => (h x0 h1 h2).2 (.inr rfl)⟩
theorem Rt.app {L : List LRH} {i j : Nat} {all : List LNS} (h : Rt L i j all) (hj : j < 2) (y : LNS) (hy : i = 0 → ∀ x0, L[0]? = some x0 → x0.h.parents = [] → j = 1 ∧ y.ns = [(rid x0.h).1]) : Rt L i (j + 1) (all ++ [y]) := fun x0 h1 h2 => by
  refine ⟨fun hi h3 => ?_, fun _ => ?_⟩
  · have := (hy hi x0 h1 h2).1
    omega
  · by_cases hi : i = 0
    · rw [(h x0 h1 h2).1 hi hj]
      exact ⟨y, rfl, (hy hi x0 h1 h2).2⟩
    · obtain ⟨z, hz, hz2⟩ := (h x0 h1 h2).2 (.inl (by omega))
      exact ⟨z, by rw [List.getElem?_append_left (List.getElem?_eq_some_iff.1 hz).1]; exact hz, hz2⟩
theorem Rt.skip {L : List LRH} {i j : Nat} {all : List LNS} (h : Rt L i j all) (hj : j < 2) (hne : j = 1 → 0 < all.length) : Rt L i (j + 1) all := fun x0 h1 h2 => by
  refine ⟨fun hi h3 => (h x0 h1 h2).1 hi hj, fun h3 => ?_⟩
  by_cases hi : i = 0
  · have h4 := (h x0 h1 h2).1 hi hj
    have h5 : j = 1 := by omega
    have := hne h5
    rw [h4] at this
    cases this
  · exact (h x0 h1 h2).2 (.inl (by omega))

set_option maxRecDepth 100000 in
set_option maxHeartbeats 4000000 in
theorem tipsets_any (w : World) (v : Value) (L : List LRH) (ok : Nat → Prop) (hl : Sl rbE ok w v L) (hL : ∀ y ∈ L, y.At ok w ∧ TellH y.h) (hlen : L.length ≤ 1000) :
    Calls Tryz.prog 122 #[v] w fun e w' => ∃ v' all, e = .returned v' ∧ TipsR (fun k => ok k ∨ w.heap.size ≤ k) w w' L v' all ∧ (∀ x0, L[0]? = some x0 → x0.h.parents = [] → ∃ z, all[0]? = some z ∧ z.ns = [(rid x0.h).1]) ∧ all.length ≤ 2 * L.length := by
  obtain ⟨A, c, rfl, hc, hm⟩ := hl.form
  obtain ⟨okT, hokT⟩ : ∃ okT : Nat → Prop, (fun k => ok k ∨ w.heap.size ≤ k) = okT := ⟨_, rfl⟩
  rw [hokT]
  have HOK : Hid (∀ k, ok k ∨ w.heap.size ≤ k → okT k) := Lib.hid fun k hk => by rw [← hokT]; exact hk
  clear hokT
  have HL := Lib.hid hl
  have HLA := Lib.hid hL
  clear hl hL
  have HR0 : Hid (TipsR okT w (w.alloc (.cells #[] 27)) L (.slice (some ⟨w.heap.size, 0, none⟩) 0 0) []) := Lib.hid ⟨own_empty w w.heap.size _ 1 (Nat.le_refl _), by simp, by simp, (Below.refl _ w).alloc (Nat.le_refl _) _⟩
  go_enter Tryz.func122, Tryz.ntmps122
  go_wp2
  go_loopw [3, 14] (fun c3 c14 W => ∃ (i : Nat) (all : List LNS), i ≤ L.length ∧ c14 = .int .i64 (i : Int) ∧ (0 < i → 0 < all.length) ∧ (all.length ≤ 2 * i ∧ Rt L i 0 all) ∧ TipsR okT w W L c3 all) (fun _ c14 _ => L.length - (intOf c14).toNat)
  case atStart => exact ⟨0, [], by omega, rfl, by omega, ⟨by simp, Rt.start⟩, HR0.out⟩
  case round =>
    obtain ⟨i, all0, hi, rfl, hpos, ⟨hal, hrt⟩, hR⟩ := hrel
    have HR := Lib.hid hR
    have HRT0 := Lib.hid hrt
    clear hR hrt
    by_cases hil : i < L.length
    · obtain ⟨x, hx⟩ : ∃ x, L[i]? = some x := ⟨_, List.getElem?_eq_getElem hil⟩
      have hxm := List.mem_of_getElem? hx
      obtain ⟨b, off, rfl, -, -, hcx⟩ := (HL.out.below HR.out.below).at_ i x hx
      obtain ⟨s, hs⟩ : ∃ s, rid x.h = s := ⟨_, rfl⟩
      have HCX : Hid (∀ j u, (rbc s x)[j]? = some u → wr.cell? ⟨b, off + i * 8 + j, none⟩ = some u) := Lib.hid fun j u hu => hcx j u (by rw [← hs] at hu; exact hu)
      have HXA := Lib.hid (HLA.out x hxm)
      have HN0 : Hid (x.h.parents ≠ [] → NamedIn L x.h.parents) := Lib.hid fun h => ⟨x, hxm, .inl ⟨rfl, h⟩⟩
      have HN1 : Hid (NamedIn L [s.1]) := Lib.hid ⟨x, hxm, .inr (by rw [hs])⟩
      have HX0 : Hid (i = 0 → L[0]? = some x) := Lib.hid fun h => by subst h; exact hx
      have HS0 := Lib.hid hs
      clear hcx hx hxm hs
      have hg := heap_alloc_new wr (.cells (rbc s x).toArray 31)
      have hc0 : (wr.alloc (.cells (rbc s x).toArray 31)).cell? ⟨wr.heap.size, 0, none⟩ = some (.string s.1) := cell_block hg rfl
      have hc6 : (wr.alloc (.cells (rbc s x).toArray 31)).cell? ⟨wr.heap.size, 6, none⟩ = some (LNS.v ⟨x.h.parents, x.A, x.c⟩) := cell_block hg rfl
      have hb1 : Below wr.heap.size wr (wr.alloc (.cells (rbc s x).toArray 31)) := (Below.refl _ _).alloc (Nat.le_refl _) _
      have HR1 := Lib.hid (HR.out.under hb1)
      have hxx : x.At (fun k => some k ≠ u3.ownBlock ∧ okT k) wr := by
        refine Sl.mono (Sl.fr (ok := fun k => ok k ∧ k < w.heap.size) (Sl.old HXA.out.1) (Fr.below HR.out.below fun k hk _ => hk.2)) fun k hk => ⟨fun e => ?_, HOK.out k (.inl hk.1)⟩
        have := (own_lt HR.out.own k e.symm).1
        have := hk.2
        omega
      have HX1 := Lib.hid (Sl.below hxx hb1)
      clear hg hb1 hxx
      go_upto_region 5 with (first
        | (refine wpl_load rfl 31 (.tmp 16) rfl b _ rfl (rbc s x) _ HCX.out Tryz.underlying31 rfl rb_size ?_)
        | (refine wpl_store_new rfl 31 _ _ rfl rfl (rbc s x) rfl _ _ rfl (rbc_one s x) rb_size ?_))
      generalize wr.alloc (.cells (rbc s x).toArray 31) = W1 at hc0 hc6 HR1 HX1 ⊢
      generalize wr.heap.size = gx at hc0 hc6 ⊢
      obtain ⟨n0, hn0⟩ : ∃ n0 : LNS, n0 = ⟨x.h.parents, x.A, x.c⟩ := ⟨_, rfl⟩
      obtain ⟨n1, hn1⟩ : ∃ n1 : LNS, n1 = ⟨[s.1], some ⟨W1.heap.size, 0, none⟩, 1⟩ := ⟨_, rfl⟩
      rw [← hn0] at hc6
      have HI0 : Hid (TipsI okT w ((W1.alloc (.cells #[.string s.1] 9)).alloc (.cells #[n0.v, n1.v] 27)) L u3 all0 (W1.heap.size + 1) n0 n1) := Lib.hid (by
        have hba : Below W1.heap.size W1 (W1.alloc (.cells #[.string s.1] 9)) := (Below.refl _ _).alloc (Nat.le_refl _) _
        have hbb : Below W1.heap.size W1 ((W1.alloc (.cells #[.string s.1] 9)).alloc (.cells #[n0.v, n1.v] 27)) := hba.alloc hba.size _
        have hno : ∀ k, W1.heap.size ≤ k → some k ≠ u3.ownBlock ∧ okT k := fun k hk => ⟨fun e => by have := (own_lt HR1.out.own k e.symm).2; omega, HOK.out k (.inr (Nat.le_trans HR1.out.below.size hk))⟩
        refine ⟨HR1.out.under hbb, ?_, ?_, ?_⟩
        · have h1 := heap_alloc_new (W1.alloc (.cells #[.string s.1] 9)) (.cells #[n0.v, n1.v] 27)
          rw [World.size_alloc] at h1
          refine Sl.mono (Sl.of_block (E := nsE) (ys := [n0, n1]) h1 rfl rfl (Nat.le_refl _) (by omega)) fun k hk => hno k (by omega)
        · refine (congrArg (LNS.At _ _) hn0).mpr ?_
          exact Sl.below HX1.out hbb
        · refine (congrArg (LNS.At _ _) hn1).mpr ?_
          show Sl strE _ _ (.slice (some ⟨W1.heap.size, 0, none⟩) 1 1) [s.1]
          have h1 := (heap_alloc_old (W1.alloc (.cells #[.string s.1] 9)) (.cells #[n0.v, n1.v] 27) (by simp)).trans (heap_alloc_new W1 (.cells #[.string s.1] 9))
          exact Sl.mono (Sl.of_block (E := strE) (ys := [s.1]) h1 rfl rfl (Nat.le_refl _) (by omega)) fun k hk => hno k (by omega))
      have hpl : x.h.parents.length ≤ 100 := HXA.out.2.parents
      have HZ : Hid (∀ y : LNS, y = n0 ∨ y = n1 → y.ns.length ≤ 1000 ∧ (∀ t ∈ y.ns, t.size ≤ 1000000) ∧ (y.ns ≠ [] → NamedIn L y.ns)) := Lib.hid fun y hy => by
        rcases hy with rfl | rfl
        · rw [hn0]
          exact ⟨by show x.h.parents.length ≤ 1000; omega, fun t ht => Nat.le_trans (HXA.out.2.names t ht) (by decide), HN0.out⟩
        · rw [hn1]
          refine ⟨by simp, fun t ht => ?_, fun _ => HN1.out⟩
          rw [List.mem_singleton.1 ht, s.2]
          decide
      have HN1L : Hid (n1.ns.length = 1) := Lib.hid (by rw [hn1]; rfl)
      have HRT : Hid (∀ j y, [n0, n1][j]? = some y → y.ns ≠ [] → i = 0 → ∀ x0, L[0]? = some x0 → x0.h.parents = [] → j = 1 ∧ y.ns = [(rid x0.h).1]) := Lib.hid fun j y hy hne h0 x0 h1 h2 => by
        rw [HX0.out h0] at h1
        have h3 := Option.some.inj h1
        subst h3
        match j, hy with
        | 0, hy =>
          have h4 : n0 = y := Option.some.inj hy
          exact absurd (by rw [← h4, hn0]; exact h2) hne
        | 1, hy =>
          have h4 : n1 = y := Option.some.inj hy
          exact ⟨rfl, by rw [← h4, hn1, HS0.out]⟩
        | _ + 2, hy => cases hy
      have hn1v : n1.v = .slice (some ⟨W1.heap.size, 0, none⟩) 1 1 := by rw [hn1]; rfl
      have HN1V := Lib.hid hn1v
      have HAZ : Hid (∀ y ∈ L, TellH y.h) := Lib.hid fun y hy => (HLA.out y hy).2
      clear hn0 hn1 hn1v HX1 HR1
      go_upto_region 6 with (first
        | (refine wpl_str1 rfl (.tmp 22) rfl s.1 rfl ?_)
        | (refine wpl_ns2 rfl (.tmp 20) (.tmp 23) rfl n0 n1 rfl HN1V.out.symm ?_))
      (try simp only [World.size_alloc])
      generalize (W1.alloc (.cells #[.string s.1] 9)).alloc (.cells #[n0.v, n1.v] 27) = W2 at HI0 ⊢
      generalize W1.heap.size + 1 = g2 at HI0 ⊢
      have HNM : Hid (∀ ns, NamedIn L ns → ns.length ≤ 1000 ∧ ∀ t ∈ ns, t.size ≤ 1000000) := Lib.hid fun ns ⟨b, hb, h⟩ => by
        have hT := HAZ.out b hb
        rcases h with ⟨rfl, -⟩ | rfl
        · exact ⟨Nat.le_trans hT.parents (by decide), fun t ht => Nat.le_trans (hT.names t ht) (by decide)⟩
        · refine ⟨by simp, fun t ht => ?_⟩
          rw [List.mem_singleton.1 ht, (rid b.h).2]
          decide
      go_loopw [3, 26] (fun c3 c26 W => ∃ (j : Nat) (all : List LNS), j ≤ 2 ∧ c26 = .int .i64 (j : Int) ∧ (j = 2 ∨ 0 < i → 0 < all.length) ∧ (all.length ≤ 2 * i + j ∧ Rt L i j all) ∧ TipsI okT w W L c3 all g2 n0 n1) (fun _ c26 _ => 2 - (intOf c26).toNat)
      case atStart => exact ⟨0, all0, by omega, rfl, fun h => by (rcases h with h | h; omega; exact hpos h), ⟨by omega, HRT0.out⟩, HI0.out⟩
      case round =>
        obtain ⟨j, all, hj, rfl, hpos2, ⟨hal2, hrt2⟩, hI⟩ := hrel
        have HRT2 := Lib.hid hrt2
        clear hrt2
        rename World => W3
        have HI := Lib.hid hI
        clear hI HI0
        by_cases hj2 : j < 2
        · obtain ⟨y, hy⟩ : ∃ y, [n0, n1][j]? = some y := ⟨_, List.getElem?_eq_getElem (by simpa using hj2)⟩
          have hyn : y = n0 ∨ y = n1 := by have := List.mem_of_getElem? hy; simpa using this
          have HY1 : Hid (j = 1 → y.ns.length = 1) := Lib.hid fun h => by
            subst h
            injection hy with hy
            rw [← hy]
            exact HN1L.out
          obtain ⟨b2, o2, he2, -, -, hcy⟩ := HI.out.pair.at_ j y hy
          injection he2 with he2
          injection he2 with e1 e2
          subst e1
          subst e2
          have hcell : W3.cell? ⟨g2, j, none⟩ = some y.v := by have := hcy 0 _ rfl; rwa [Nat.add_zero, Nat.zero_add, show nsE.k = 1 from rfl, Nat.mul_one] at this
          obtain ⟨hyl, hyz, hynm⟩ := HZ.out y hyn
          have HYAT : Hid (y.At (fun k => some k ≠ u3.ownBlock ∧ okT k) W3) := Lib.hid (by rcases hyn with rfl | rfl; exact HI.out.at0; exact HI.out.at1)
          have HYZ := Lib.hid hyz
          have HYN := Lib.hid hynm
          obtain ⟨Aa, ca, rfl, -⟩ := own_slice HI.out.r.own
          have HALL : Hid (Sl nsE (fun _ => True) W3 (.slice Aa all.length ca) all) := Lib.hid ((Sl.of_own (E := nsE) HI.out.r.own).mono fun _ _ => trivial)
          have HYR := Lib.hid (HRT.out j y hy)
          obtain ⟨yn, yA, yc⟩ := y
          change W3.cell? ⟨g2, j, none⟩ = some (.slice yA yn.length yc) at hcell
          change yn.length ≤ 1000 at hyl
          clear hy hyn hcy hyz hynm
          go_upto_region 10 with fail
          go_loop [8, 35] (fun c8 c35 => ∃ (k : Nat) (hv : Bool), k ≤ all.length ∧ c35 = .int .i64 (k : Int) ∧ c8 = .bool hv ∧ (k = 0 → hv = ((yn.length : Int) == 0)) ∧ (hv = false → yn ≠ [])) (fun _ c35 => all.length - (intOf c35).toNat)
          case atStart => exact ⟨0, _, by omega, rfl, rfl, fun _ => rfl, fun h e => by rw [e] at h; cases h⟩
          case round =>
            obtain ⟨k, hv, hk, rfl, rfl, hk0, hne⟩ := hrel
            by_cases hkl : k < all.length
            · obtain ⟨m, hm⟩ : ∃ m, all[k]? = some m := ⟨_, List.getElem?_eq_getElem hkl⟩
              have hmm := List.mem_of_getElem? hm
              obtain ⟨bm, om, rfl, -, -, hcm⟩ := HALL.out.at_ k m hm
              have hcellm : W3.cell? ⟨bm, om + k, none⟩ = some m.v := by have := hcm 0 _ rfl; rwa [Nat.add_zero, show nsE.k = 1 from rfl, Nat.mul_one] at this
              obtain ⟨hml, hmz⟩ := HNM.out m.ns (HI.out.r.mem m hmm)
              have HS := Lib.hid (rsame_any W3 m ⟨yn, yA, yc⟩ _ _ (HI.out.r.at_ m hmm) HYAT.out hml hyl hmz HYZ.out)
              obtain ⟨r, hr⟩ : ∃ r, decide (joinS m.ns = joinS yn) = r := ⟨_, rfl⟩
              rw [hr] at HS
              obtain ⟨mn, mA, mc⟩ := m
              change W3.cell? ⟨bm, om + k, none⟩ = some (.slice mA mn.length mc) at hcellm
              clear hm hmm hcm hmz hr
              cases hv
              · go_wp2_with (go_at_call 124; refine HS.out.mono ?_; rintro e w9 ⟨rfl, rfl⟩)
                go_round
                case rel => exact ⟨k + 1, r, by omega, by go_num, rfl, by omega, fun _ => hne (by simp)⟩
                case measure => simp [intOf]; omega
              · go_wp2
                go_round
                case rel => exact ⟨k + 1, true, by omega, by go_num, rfl, by omega, fun h => by cases h⟩
                case measure => simp [intOf]; omega
            · have hkk : k = all.length := by omega
              subst hkk
              cases hv
              · have hyne := hne rfl
                go_wp2_with (first
                  | (refine wpl_ns1 rfl (.tmp 49) rfl ⟨yn, yA, yc⟩ rfl ?_)
                  | (at_builtin; refine wpl_app1 #[LNS.v ⟨yn, yA, yc⟩] w.heap.size rfl (.tmp 48) (.tmp 50) 77 27 _ 1 24 rfl Tryz.underlying77 ns_info nsZ_cells (by decide) (by decide) (.slice Aa all.length ca) all.length _ rfl rfl rfl (fun u hu => nsE.one ⟨yn, yA, yc⟩ u hu) HI.out.r.own HI.out.r.below.size (by omega) ?_; intro v1 w7 ho7 hg7 hat7; have HI7 := Lib.hid (HI.out.more ⟨yn, yA, yc⟩ HYAT.out (HYN.out hyne) ho7 hg7 hat7); clear ho7 hg7 hat7))
                go_roundw
                case rel => exact ⟨j + 1, all ++ [⟨yn, yA, yc⟩], by omega, by go_num, fun _ => by simp, ⟨by simp; omega, HRT2.out.app hj2 _ (HYR.out hyne)⟩, HI7.out⟩
                case measure => simp [intOf]; omega
              · go_wp2
                go_roundw
                case rel =>
                  have hal1 : j = 1 → 0 < all.length := fun h => by
                    rcases Nat.eq_zero_or_pos all.length with h0 | h0
                    · have h1 := hk0 h0
                      have h2 : yn.length = 1 := HY1.out h
                      rw [h2] at h1
                      cases h1
                    · exact h0
                  refine ⟨j + 1, all, by omega, by go_num, fun h => ?_, ⟨by omega, HRT2.out.skip hj2 hal1⟩, HI.out⟩
                  rcases h with h | h
                  · exact hal1 (by omega)
                  · exact hpos2 (.inr h)
                case measure => simp [intOf]; omega
        · have hj22 : j = 2 := by omega
          subst hj22
          go_wp2
          go_roundw
          case rel => exact ⟨i + 1, all, by omega, by go_num, fun _ => hpos2 (.inl rfl), ⟨by omega, HRT2.out.out⟩, HI.out.r⟩
          case measure => simp [intOf]; omega
    · have hii : i = L.length := by omega
      subst hii
      go_wp2
      go_ret
      exact ⟨u3, all0, rfl, HR.out, fun x0 h1 h2 => (HRT0.out x0 h1 h2).2 (.inl (List.getElem?_eq_some_iff.1 h1).1), hal⟩
end Go.Proofs.YtcohdfkdhdhegaaGreatDoor
