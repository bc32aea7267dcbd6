/- coxswainlaw13.Grown: headers of seeds, in a row of the call's own. dag.Dag: Add, New. coxswainlaw13.awake. What a law over a dag keeps: the dag, the headers that were grown, names. -/
import Derived.Test.YthpcedficlhanaaGreatDoorFlAY
namespace Go.Proofs.YthpcedficlhanaaGreatDoor
open Go.RowKit

theorem grow_any (w : World) (y : LSD) (ok : Nat → Prop) (hy : y.At ok w) (hk : SeedOk y.s) (v : Value) (l : List LRH) (hl : Sl lrhE ok w v l) (hla : ∀ x ∈ l, x.At ok w ∧ GrownH x.h) (hlen : l.length ≤ 1000) :
    Calls Tryz.prog 108 #[.agg y.cells.toArray, v] w fun e w' => ∃ z : LRH, GrownH z.h ∧ e = .returned (.agg z.cells.toArray) ∧ z.At (fun k => w.heap.size ≤ k) w' ∧ Below w.heap.size w w' := by
  cases h : y.s.raw
  · exact growNew_any w y ok hy hk v l hl hla hlen h
  · exact growRaw_any w y ok hy hk v h
theorem LSD.cells_one (y : LSD) : ∀ u ∈ y.cells, u.oneCell' = true := by
  intro u hu
  rcases List.mem_append.1 hu with hu | hu
  · simp only [List.mem_cons, List.not_mem_nil, or_false] at hu
    rcases hu with rfl | rfl | rfl | rfl | rfl | rfl | rfl | rfl <;> rfl
  · exact lrhE.one y.x u hu
def sdE : Enc LSD := { enc := LSD.cells, k := 15, hk := fun _ => rfl, one := LSD.cells_one, k0 := by decide }
theorem LSD.At.fr {y : LSD} {ok : Nat → Prop} {w w' : World} (h : y.At ok w) (hf : Fr ok w w') : y.At ok w' := ⟨h.of.fr hf, h.h.fr hf⟩
theorem LSD.At.below {y : LSD} {ok : Nat → Prop} {w w' : World} (h : y.At ok w) (hb : Below w.heap.size w w') : y.At ok w' := h.fr (Fr.of_below hb)
theorem LSD.At.mono {y : LSD} {ok ok' : Nat → Prop} {w : World} (h : y.At ok w) (hk : ∀ k, ok k → ok' k) : y.At ok' w := ⟨h.of.mono hk, h.h.mono hk⟩
/-- Headers that were grown, in a row of its own. -/
structure Growns (w wr : World) (v : Value) (ys : List LRH) : Prop where
  good : ∀ y ∈ ys, GrownH y.h
  own : wr.ownsRow w.heap.size 53 7 v ys.length (lrhE.flat ys)
  at_ : ∀ y ∈ ys, y.At (fun k => w.heap.size ≤ k ∧ some k ≠ v.ownBlock) wr
  below : Below w.heap.size w wr
section
variable {w wr W W' : World} {v : Value} {ys : List LRH}
theorem Growns.under (h : Growns w wr v ys) (hb : Below wr.heap.size wr W) : Growns w W v ys :=
  ⟨h.good, own_below h.own hb, fun y hy => Sl.below (h.at_ y hy) hb, h.below.trans (hb.mono h.below.size)⟩
theorem Growns.sl (h : Growns w wr v ys) : Sl lrhE (fun k => w.heap.size ≤ k) wr v ys :=
  (Sl.of_own (E := lrhE) h.own).mono fun k hk => (own_lt h.own k hk).1
theorem Growns.more {v1 : Value} {w1 : World} (h : Growns w W v ys) (z : LRH) (hr : GrownH z.h) (hat : z.At (fun k => w.heap.size ≤ k ∧ some k ≠ v.ownBlock) W)
    (ho : w1.ownsRow w.heap.size 53 7 v1 (ys.length + 1) (lrhE.flat ys ++ z.cells.toArray.toList)) (hg : W.grownBy w1 v.ownBlock) (hat1 : v1.ownBlock = v.ownBlock ∨ ∃ b, v1.ownBlock = some b ∧ W.heap.size ≤ b) : Growns w w1 v1 (ys ++ [z]) where
  good := fun y hy => by
    rcases List.mem_append.1 hy with hy | hy
    · exact h.good y hy
    · rw [List.mem_singleton.1 hy]; exact hr
  own := by rw [lrhE.flat_append, lrhE.flat_one, List.length_append]; exact ho
  at_ := by
    intro y hy
    have h1 : y.At (fun k => w.heap.size ≤ k ∧ some k ≠ v.ownBlock) W := by
      rcases List.mem_append.1 hy with hy | hy
      · exact h.at_ y hy
      · rw [List.mem_singleton] at hy; subst hy; exact hat
    refine Sl.mono (Sl.fr (Sl.old h1) (Fr.grown hg fun k hk => hk.1.2)) fun k hk => ⟨hk.1.1, ?_⟩
    rcases hat1 with he | ⟨b, he, hb⟩
    · rw [he]; exact hk.1.2
    · rw [he]; intro e; injection e with e; omega
  below := below_grown_own h.below h.own (Nat.le_refl _) h.below.size hg
end
section
variable {ops : Array Oper} {rest : List Oper} {o : Oper} {a : Act} {Q : Exit → Act → World → Prop}
/-- One header more is appended. -/
theorem wpl_app_gh {w W : World} {v : Value} {ys : List LRH} (h : Growns w W v ys) (z : LRH) (hr : GrownH z.h) (hat : z.At (fun k => w.heap.size ≤ k ∧ some k ≠ v.ownBlock) W) (hlen : ys.length ≤ 1000)
    (hgd : o.guard = none) (s x : Operand) (ho : o.op = .call { callee := .builtin .append, args := #[s, x], argTypes := #[22, 22] }) (hs' : a.eval s = v) (hx : a.eval x = .slice (some ⟨W.heap.size, 0, none⟩) 1 1)
    (hK : ∀ v1 w1, Growns w w1 v1 (ys ++ [z]) → wpList Tryz.prog ops Q rest (a.put o.dst v1) w1) : wpList Tryz.prog ops Q (o :: rest) a (W.alloc (.cells z.cells.toArray 53)) := by
  refine wpl_app1 z.cells.toArray w.heap.size hgd s x 22 53 _ 7 80 ho Tryz.underlying22 rh_info rhZ_cells (by decide) (by decide) v ys.length _ hs' hx rfl (lrhE.one z) h.own h.below.size (by omega) ?_
  intro v1 w1 ho1 hg1 hat1
  exact hK v1 w1 (h.more z hr hat ho1 hg1 hat1)
end
theorem sd_size : (Tryz.prog.info? 157).map (·.size) = some 15 := by kernel_rfl

set_option maxRecDepth 100000 in
set_option maxHeartbeats 2000000 in
theorem grown_any (w : World) (t : Value) (l : List LSD) (ok ok' : Nat → Prop) (hl : Sl sdE ok w t l) (hf : ∀ y ∈ l, y.At ok' w ∧ SeedOk y.s) (n : Nat) (hn : n ≤ 1000) :
    Calls Tryz.prog 37 #[t, .int .i64 n] w fun e w' => ∃ v ys, e = .returned v ∧ ys.length ≤ n ∧ Growns w w' v ys := by
  obtain ⟨A, c, rfl, hc, hm⟩ := hl.form
  have HL := Lib.hid hl
  have HF := Lib.hid hf
  clear hl hf
  go_enter Tryz.func37, Tryz.ntmps37
  go_wp2
  go_loopw [5, 6] (fun v ci wr => ∃ (i : Nat) (ys : List LRH), i ≤ l.length ∧ i ≤ n ∧ ys.length = i ∧ ci = .int .i64 i ∧ Growns w wr v ys) (fun _ ci _ => l.length - (intOf ci).toNat)
  case atStart => exact ⟨0, [], Nat.zero_le _, Nat.zero_le _, rfl, rfl, by simp, World.ownsRow_nil _ _ _ _, by simp, Below.refl _ _⟩
  case round =>
    obtain ⟨i, ys, hi, hin, hys, rfl, hC⟩ := hrel
    have HC := Lib.hid hC
    have HYS := Lib.hid hys
    clear hC hys
    by_cases hlt : i < l.length ∧ i < n
    · obtain ⟨hlt, hln⟩ := hlt
      obtain ⟨x, hx⟩ : ∃ x, l[i]? = some x := ⟨_, List.getElem?_eq_getElem hlt⟩
      obtain ⟨b, off, rfl, hbl, -, hcx⟩ := (HL.out.below HC.out.below).at_ i x hx
      have hxx := HF.out x (List.mem_of_getElem? hx)
      have HCX := Lib.hid hcx
      have HG : Hid (Calls Tryz.prog 108 #[.agg x.cells.toArray, u5] wr fun e w' => ∃ z : LRH, GrownH z.h ∧ e = .returned (.agg z.cells.toArray) ∧ z.At (fun k => wr.heap.size ≤ k) w' ∧ Below wr.heap.size wr w') := Lib.hid (grow_any wr x (fun _ => True) ((hxx.1.below HC.out.below).mono fun _ _ => trivial) hxx.2 u5 ys (Sl.mono HC.out.sl fun _ _ => trivial) (fun y hy => ⟨Sl.mono (HC.out.at_ y hy) fun _ _ => trivial, HC.out.good y hy⟩) (by have := HYS.out; omega))
      have hgn : decide ((i : Int) < (n : Int)) = true := by simp; omega
      have HOL : Hid (∀ k, u5.ownBlock = some k → k < wr.heap.size) := Lib.hid fun k hk => (own_lt HC.out.own k hk).2
      clear hcx hx hxx
      go_wp2_with (first
        | (refine wpl_load rfl 157 (.tmp 21) rfl b _ rfl x.cells _ HCX.out Tryz.underlying157 rfl sd_size ?_)
        | (go_at_call 108; refine HG.out.mono ?_; rintro e w1 ⟨z, hz, rfl, hza, hb1⟩; have HZ := Lib.hid hz; have HZA : Hid (z.At (fun k => w.heap.size ≤ k ∧ some k ≠ u5.ownBlock) w1) := Lib.hid (Sl.mono hza fun k hk => ⟨Nat.le_trans HC.out.below.size hk, fun e => by have := HOL.out k e.symm; omega⟩); have HC1 := Lib.hid (HC.out.under hb1); clear hz hza hb1)
        | (refine wpl_slice1 rfl 22 53 (.tmp 24) rfl z.cells.toArray rfl _ 7 80 Tryz.underlying22 rh_info rhZ_cells rfl (by decide) (by decide) ?_)
        | (at_builtin; refine wpl_app_gh HC1.out z HZ.out HZA.out (by have := HYS.out; omega) rfl (.tmp 18) (.tmp 25) rfl rfl rfl ?_; intro v1 w4 hC4; have HC4 := Lib.hid hC4; clear hC4))
      go_roundw
      case rel => exact ⟨i + 1, ys ++ [z], by omega, by omega, by rw [List.length_append, HYS.out]; rfl, by go_num, HC4.out⟩
      case measure => simp [intOf]; omega
    · have harms : i < l.length → ¬ i < n := fun h h' => hlt ⟨h, h'⟩
      have HAR := Lib.hid harms
      clear hlt harms
      by_cases hl2 : i < l.length
      · have h7 : decide ((i : Int) < (n : Int)) = false := by have := HAR.out hl2; simp; omega
        have hin2 : ¬ i < n := HAR.out hl2
        go_wp2
        go_ret
        exact ⟨_, ys, rfl, by have := HYS.out; omega, HC.out⟩
      · go_wp2
        go_ret
        exact ⟨_, ys, rfl, by have := HYS.out; omega, HC.out⟩
end Go.Proofs.YthpcedficlhanaaGreatDoor
namespace Go.Proofs.YthpcedficlhanaaGreatDoor
open Go.RowKit Go.Maps

theorem cell_chg {S : Nat → Prop} {w w1 : World} (hc : Chg S w w1) (hS : ∀ k, S k → ∀ cs T fr, w.heap[k]? ≠ some (.cells cs T fr)) {a : Addr} {u : Value} (h : w.cell? a = some u) : w1.cell? a = some u := by
  have hb : w1.heap[a.block]? = w.heap[a.block]? := by
    refine hc.block _ (World.block_lt_of_cell? w a h) fun hs => ?_
    simp only [World.cell?] at h
    cases hh : w.heap[a.block]? with
    | none => rw [hh] at h; cases h
    | some o =>
      cases o with
      | cells cs T fr => exact hS _ hs cs T fr hh
      | _ => rw [hh] at h; cases h
  rw [World.cell?_of_block (w := w) hb]
  exact h
theorem Tab.chg {S : Nat → Prop} {w w1 : World} (h : Tab w) (hc : Chg S w w1) (hS : ∀ k, S k → ∀ cs T fr, w.heap[k]? ≠ some (.cells cs T fr)) : Tab w1 where
  start := fun j u hu => cell_chg hc hS (h.start j u hu)
  key := fun j u hu => cell_chg hc hS (h.key j u hu)
  low := Nat.lt_of_lt_of_le h.low hc.size
  low0 := Nat.lt_of_lt_of_le h.low0 hc.size
def FineD (D : List LB) : Prop := ∀ x ∈ D, x.x.h.Ok ∧ x.x.h.parents.Nodup
theorem hdrs_add (D : List LB) (x : LB) : hdrs (D ++ [x]) = hdrs D ++ [x.x.h] := by simp [hdrs]

set_option maxRecDepth 100000 in
set_option maxHeartbeats 2000000 in
theorem dadd_any (w : World) (p b1 b2 : Nat) (D : List LB) (ok : Nat → Prop) (h : DagAt ok w p b1 b2 D) (hG : FineD D) (x : LH) (okx : Nat → Prop) (hx : x.At okx w) (hok : Wide x.h) (ht : Tab w) (hlen : D.length ≤ 1000000) :
    Calls Tryz.prog 39 #[.pointer (some ⟨p, 0, none⟩), .agg x.cells.toArray] w fun e w' => e = .returned (.int .i64 (checkG (hdrs D) x.h)) ∧ Chg (two b1 b2) w w' ∧
      ∃ D', DagAt (fun k => ok k ∨ w.heap.size ≤ k) w' p b1 b2 D' ∧ FineD D' ∧ hdrs D' = addG (hdrs D) x.h ∧ D'.length ≤ D.length + 1 := by
  have hlt := h.lt
  have HS0 := Lib.hid (ChkS.start h hx ht)
  have HG := Lib.hid hG
  have HOK := Lib.hid hok
  clear h hG hx hok ht
  go_enter Tryz.func39, Tryz.ntmps39
  go_upto_region 1 with fail
  change Code.wp _ _ _ _ (w.alloc (.cells x.cells.toArray 38))
  generalize w.alloc (.cells x.cells.toArray 38) = W0 at HS0 ⊢
  have HC := Lib.hid (dcheck_any W0 p b1 b2 D ok HS0.out.dag HG.out x okx HS0.out.at_ HOK.out HS0.out.tab)
  obtain ⟨ce, hce⟩ : ∃ ce, checkG (hdrs D) x.h = ce := ⟨_, rfl⟩
  rw [hce] at HC
  by_cases hce0 : ce = 0
  · subst hce0
    have HOK := Lib.hid (check_ok (checkG_parts hce).1)
    have HCE := Lib.hid hce
    clear hce
    go_wp2_with (first
      | (refine wpl_load rfl 38 (.tmp 3) rfl w.heap.size 0 rfl x.cells _ (by first | exact HS0.out.cells | exact HS1.out.cells) Tryz.underlying38 rfl hdr_size ?_)
      | (go_at_call 49; refine HC.out.mono ?_; rintro e w1 ⟨rfl, hb1⟩; have HS1 := Lib.hid (HS0.out.next hb1); clear hb1)
      | (go_at_call 91; refine (make_any _ x okx HS1.out.at_ HOK.out HS1.out.tab).mono ?_; rintro e w2 ⟨y, hy, rfl, hya, hb2⟩; have HS2 := Lib.hid (HS1.out.next hb2); have HY := Lib.hid hy; have HYA := Lib.hid hya; clear hy hya hb2)
      | (go_at_call 106; refine (put_any _ p b1 b2 D ok HS2.out.dag ⟨hdrID x.h, y⟩ _ HYA.out (by show hdrID x.h = hdrID y.h; rw [HY.out]) (by show y.h.Ok; rw [HY.out]; exact HOK.out) (by show y.h.parents.Nodup; rw [HY.out]; exact rise_nodup (check_parts (checkG_parts HCE.out).1).1) (by have := (checkG_parts HCE.out).2.1; rw [hasB_G HS2.out.dag.ids]; exact this) hlen).mono ?_; rintro e w3 ⟨rfl, hc3, hd3⟩))
    go_ret
    have hsz1 : w.heap.size ≤ w1.heap.size := HS1.out.below.size
    have hsz2 : w.heap.size ≤ w2.heap.size := HS2.out.below.size
    rw [HCE.out]
    refine ⟨rfl, (Chg.of_below HS2.out.below).trans hc3, D ++ [⟨hdrID x.h, y⟩], hd3.mono fun k hk => by (rcases hk with hk | hk | hk; exact .inl hk; exact .inr (by omega); exact .inr (by omega)), ?_, ?_, by simp⟩
    · intro z hz
      rcases List.mem_append.1 hz with hz | hz
      · exact HG.out z hz
      · obtain rfl := List.mem_singleton.1 hz
        exact ⟨by show y.h.Ok; rw [HY.out]; exact HOK.out, by show y.h.parents.Nodup; rw [HY.out]; exact rise_nodup (check_parts (checkG_parts HCE.out).1).1⟩
    · rw [hdrs_add]
      unfold addG
      rw [if_pos HCE.out]
      show hdrs D ++ [y.h] = _
      rw [HY.out]
  · have hne : (ce == 0) = false := by simpa using hce0
    have HCE := Lib.hid hce
    clear hce
    go_wp2_with (first
      | (refine wpl_load rfl 38 (.tmp 3) rfl w.heap.size 0 rfl x.cells _ HS0.out.cells Tryz.underlying38 rfl hdr_size ?_)
      | (go_at_call 49; refine HC.out.mono ?_; rintro e w1 ⟨rfl, hb1⟩; have HS1 := Lib.hid (HS0.out.next hb1); clear hb1))
    go_ret
    rw [HCE.out]
    exact ⟨rfl, Chg.of_below HS1.out.below, D, HS1.out.dag.mono fun k hk => .inl hk, HG.out, by unfold addG; rw [if_neg (by rw [HCE.out]; exact hce0)], by omega⟩

theorem Below.of_chg {S : Nat → Prop} {w w1 : World} (h : Chg S w w1) {B : Nat} (hB : B ≤ w.heap.size) (hS : ∀ k, S k → B ≤ k) : Below B w w1 := h.below hB hS
set_option maxRecDepth 100000 in
set_option maxHeartbeats 2000000 in
theorem dnew_any (w : World) (ht : Tab w) :
    Calls Tryz.prog 36 #[] w fun e w' => ∃ p b1 b2 D', e = .returned (.pointer (some ⟨p, 0, none⟩)) ∧ Below w.heap.size w w' ∧ DagAt (fun k => w.heap.size ≤ k) w' p b1 b2 D' ∧ FineD D' ∧ hdrs D' = [genH] ∧ D'.length = 1 := by
  have HT := Lib.hid ht
  clear ht
  have hmm := @run_makeMap Tryz.prog
  go_enter Tryz.func36, Tryz.ntmps36
  go_upto_region 2 with fail
  have hb : Below w.heap.size w (((w.alloc (.map #[] 0)).alloc (.map #[] 0)).alloc (.cells #[.map (some w.heap.size), .map (some (w.heap.size + 1))] 153)) := (((Below.refl _ w).alloc (Nat.le_refl _) _).alloc (by simp) _).alloc (by simp; omega) _
  have hd : DagAt (fun k => w.heap.size ≤ k) (((w.alloc (.map #[] 0)).alloc (.map #[] 0)).alloc (.cells #[.map (some w.heap.size), .map (some (w.heap.size + 1))] 153)) (w.heap.size + 1 + 1) w.heap.size (w.heap.size + 1) [] := by
    refine ⟨?_, ?_, ⟨0, fun _ => none, Nat.le_refl _, ?_, fun s => .inl ⟨rfl, by simp⟩⟩, by omega, ⟨by omega, Nat.le_refl _, by omega⟩, by simp, by simp⟩
    · have := heap_alloc_new ((w.alloc (.map #[] 0)).alloc (.map #[] 0)) (.cells #[.map (some w.heap.size), .map (some (w.heap.size + 1))] 153)
      rwa [World.size_alloc, World.size_alloc] at this
    · exact ((MapV.made Tryz.prog 34 w).alloc _).alloc _
    · have := (MapV.made Tryz.prog 9 (w.alloc (.map #[] 0))).alloc (.cells #[.map (some w.heap.size), .map (some (w.heap.size + 1))] 153)
      rwa [World.size_alloc] at this
  have HB := Lib.hid hb
  have HD := Lib.hid hd
  clear hb hd
  generalize ((w.alloc (.map #[] 0)).alloc (.map #[] 0)).alloc (.cells #[.map (some w.heap.size), .map (some (w.heap.size + 1))] 153) = W0 at HB HD ⊢
  have hmake : ∀ W, Below w.heap.size w W → Calls Tryz.prog 91 #[.agg genL.cells.toArray] W fun e w' => ∃ y : LH, y.h = genH ∧ e = .returned (.agg (LB.cells ⟨hdrID genH, y⟩).toArray) ∧ y.At (fun k => W.heap.size ≤ k) w' ∧ Below W.heap.size W w' := fun W hb => make_any W genL (fun _ => True) (genL_at _ _) genH_ok (HT.out.below hb)
  have HM := Lib.hid hmake
  clear hmake
  obtain ⟨gi, hgi⟩ : ∃ i, hdrID genH = i := ⟨_, rfl⟩
  rw [hgi] at HM
  have HGI := Lib.hid hgi
  clear hgi
  go_wp2_with (first
    | (go_at_call 107; refine (genesis_any _).mono ?_; rintro e w1 ⟨rfl, hb1⟩; have HB1 := Lib.hid (HB.out.trans (hb1.mono HB.out.size)); have HD1 := Lib.hid (HD.out.below hb1); clear hb1)
    | (go_at_call 91; refine (HM.out _ HB1.out).mono ?_; rintro e w2 ⟨y, hy, rfl, hya, hb2⟩; have HB2 := Lib.hid (HB1.out.trans (hb2.mono HB1.out.size)); have HD2 := Lib.hid (HD1.out.below hb2); have HY := Lib.hid hy; have HYA := Lib.hid hya; clear hy hya hb2)
    | (go_at_call 106; refine (put_any _ _ _ _ [] _ HD2.out ⟨gi, y⟩ _ HYA.out (by show gi = hdrID y.h; rw [HY.out, HGI.out]) (by show y.h.Ok; rw [HY.out]; exact genH_ok) (by show y.h.parents.Nodup; rw [HY.out]; simp [genH]) rfl (by simp)).mono ?_; rintro e w3 ⟨rfl, hc3, hd3⟩))
  go_ret
  have hsz1 : w.heap.size ≤ w1.heap.size := HB1.out.size
  refine ⟨_, _, _, [⟨gi, y⟩], rfl, HB2.out.trans (hc3.below HB2.out.size fun k hk => by rcases hk with rfl | rfl <;> omega), hd3.mono fun k hk => by (rcases hk with hk | hk | hk; exact hk; exact (by omega); exact (by have := HB2.out.size; omega)), ?_, ?_, rfl⟩
  · intro z hz
    obtain rfl := List.mem_singleton.1 hz
    exact ⟨by show y.h.Ok; rw [HY.out]; exact genH_ok, by show y.h.parents.Nodup; rw [HY.out]; simp [genH]⟩
  · show [y.h] = _
    rw [HY.out]
end Go.Proofs.YthpcedficlhanaaGreatDoor
namespace Go.Proofs.YthpcedficlhanaaGreatDoor
open Go.RowKit

/-- The header of the fixed fact. -/
def awkH : Hdr := ⟨1, 0, ⟨#[116]⟩, 1, 2, [rootID], 0⟩
theorem gen_byte : ((hdrID genH).1.data.toList.headD 0).toNat = 23 := by decide +kernel
theorem awk_byte : ((hdrID awkH).1.data.toList.headD 0).toNat = 223 := by decide +kernel
theorem awk_ne : hdrID genH ≠ hdrID awkH := fun h => by
  have h1 := gen_byte
  rw [h, awk_byte] at h1
  cases h1
theorem awk_ok : awkH.Ok := ⟨⟨by decide, by decide⟩, ⟨by decide, by decide⟩, ⟨by decide, by decide⟩, ⟨by decide, by decide⟩, by decide, by decide, by show (1 : Nat) ≤ 1048576; omega, by show (1 : Nat) ≤ 1048576; omega⟩
theorem awk_check : checkH awkH = 0 := by
  unfold checkH
  rw [if_neg (by show ¬ (1 : Nat) > 5; omega), if_pos]
  exact ⟨⟨by decide, by decide⟩, ⟨by decide, by decide⟩, ⟨by decide, by decide⟩, ⟨by decide, by decide⟩, ⟨by decide, by decide⟩, ⟨by decide, by decide⟩, by decide, rfl⟩
theorem awk_first : checkG [genH] awkH = 0 := by
  have hg : hasG [genH] (hdrID awkH) = false := by
    simp only [hasG, List.any_cons, List.any_nil, Bool.or_false, decide_eq_false_iff_not]
    exact awk_ne
  have ht : tipG [genH] [rootID] = (0, [blkG genH]) := by
    have h1 : hasG [genH] rootID = true := by simp [hasG, rootID]
    have h2 : getG [genH] rootID = some genH := by simp [getG, rootID]
    unfold tipG
    rw [if_pos (by simp [h1])]
    simp only [List.filterMap_cons, h2, Option.map_some, List.filterMap_nil]
    rw [if_pos (tipB_one _)]
  unfold checkG
  rw [awk_check, if_neg (by decide), hg, if_neg (by decide)]
  show (if (tipG [genH] [rootID]).1 = 15 then (10 : Int) else if (tipG [genH] [rootID]).1 ≠ 0 then (tipG [genH] [rootID]).1 else if heightV (tipG [genH] [rootID]).2 ≥ 1 then 11 else 0) = 0
  rw [ht]
  rfl
theorem awk_second : checkG [genH, awkH] awkH = 9 := by
  have hg : hasG [genH, awkH] (hdrID awkH) = true := by simp [hasG]
  unfold checkG
  rw [awk_check, if_neg (by decide), hg, if_pos rfl]

section
variable {P : Program} {ops : Array Oper} {rest : List Oper} {o : Oper} {a : Act} {w : World} {Q : Exit → Act → World → Prop}
/-- A guarded operation that is wanted. -/
theorem wpList_on (hw : Region.wanted o (yielded ops a.tmps) = true) (h : ∀ K : Act → World → Prop, (∀ a w, wpList P ops Q rest a w → K a w) → o.wp P a w K Q) : wpList P ops Q (o :: rest) a w :=
  wpList_step fun K hK => by rw [if_pos hw]; exact h K hK
theorem wpl_load_on (hgd : Region.wanted o (yielded ops a.tmps) = true) (ty : TypeId) (x : Operand) (ho : o.op = .load ty x)
    (b off : Nat) (hx : a.eval x = .pointer (some ⟨b, off, none⟩)) (cs : List Value) (d : TypeDesc) (hc : ∀ j u, cs[j]? = some u → w.cell? ⟨b, off + j, none⟩ = some u)
    (hu : P.underlying ty = some d) (hd : (match d with | .struct _ | .array _ _ => true | _ => false) = true) (hi : (P.info? ty).map (·.size) = some cs.length)
    (h : wpList P ops Q rest (a.put o.dst (.agg cs.toArray)) w) : wpList P ops Q (o :: rest) a w :=
  wpList_on hgd fun K hK => by
    unfold Oper.wp execOp
    simp only [ho, hx, Instr.loadAt, Instr.sureAddr, Sem.run_bind, Sem.run_pure, Result.andThen_ok, run_loadVar_at w b off ty cs d hc hu hd hi]
    exact hK _ _ h
end
set_option maxRecDepth 100000 in
set_option maxHeartbeats 2000000 in
theorem awake13_any (w : World) (ht : Tab w) : Calls Tryz.prog 35 #[] w fun e w' => e = .returned (.bool true) ∧ Below w.heap.size w w' := by
  have HT := Lib.hid ht
  clear ht
  go_enter Tryz.func35, Tryz.ntmps35
  go_upto_region 2 with (go_at_call 36; refine (dnew_any w HT.out).mono ?_; rintro e w1 ⟨p, b1, b2, D, rfl, hb1, hd1, hf1, hh1, hl1⟩; have HB1 := Lib.hid hb1; have HD1 := Lib.hid hd1; have HF1 := Lib.hid hf1; have HH1 := Lib.hid hh1; have HL1 := Lib.hid hl1; clear hb1 hd1 hf1 hh1 hl1)
  have hroot : hasB D rootID = true := by
    rw [hasB_G HD1.out.ids]
    show hasG (hdrs D) rootID = true
    rw [HH1.out]
    simp [hasG, rootID]
  have HRT := Lib.hid hroot
  clear hroot
  obtain ⟨ri, hri⟩ : ∃ r, rootID = r := ⟨_, rfl⟩
  have HROOT := Lib.hid (root_any)
  rw [hri] at HRT HROOT
  have HRI := Lib.hid hri
  clear hri
  go_upto_region 4 with (first
    | (go_at_call 45; refine (dlen_any _ _ _ _ _ _ HD1.out).mono ?_; rintro e w2 ⟨rfl, rfl⟩; rw [HL1.out])
    | (go_at_call 60; refine (HROOT.out _ (HT.out.below HB1.out)).mono ?_; rintro e w3 ⟨rfl, hb3⟩; have HB3 := Lib.hid (HB1.out.trans (hb3.mono HB1.out.size)); have HD3 := Lib.hid (HD1.out.below hb3); clear hb3)
    | (go_at_call 42; refine (dhas_any _ p b1 b2 D _ HD3.out ri).mono ?_; rintro e w4 ⟨rfl, hb4⟩; rw [HRT.out]; have HB4 := Lib.hid (HB3.out.trans (hb4.mono HB3.out.size)); have HD4 := Lib.hid (HD3.out.below hb4); clear hb4))
  go_upto_region 5 with (first
    | (go_at_call 60; refine (HROOT.out _ (HT.out.below HB4.out)).mono ?_; rintro e w5 ⟨rfl, hb5⟩; have HB5 := Lib.hid (HB4.out.trans (hb5.mono HB4.out.size)); have HD5 := Lib.hid (HD4.out.below hb5); clear hb5)
    | (refine wpl_slice1 rfl 36 34 (.tmp 17) rfl (idc ri).toArray rfl _ 32 32 Tryz.underlying36 id_info idZ_cells (by rw [List.size_toArray, idc_length]) (by decide) (by decide) ?_)
    | (refine wpl_store_new rfl 38 _ _ rfl rfl (LH.cells ⟨⟨1, 0, ⟨#[116]⟩, 1, 2, [ri], 0⟩, some ⟨w5.heap.size, 0, none⟩, 1⟩) rfl _ _ rfl (LH.cells_one _) hdr_size ?_))
  obtain ⟨x, hx⟩ : ∃ x : LH, x = ⟨⟨1, 0, ⟨#[116]⟩, 1, 2, [ri], 0⟩, some ⟨w5.heap.size, 0, none⟩, 1⟩ := ⟨_, rfl⟩
  have hxh : x.h = awkH := by rw [hx, ← HRI.out]; rfl
  have hat : x.At (fun _ => True) ((w5.alloc (.cells (idc ri).toArray 34)).alloc (.cells x.cells.toArray 38)) := by
    have h1 : Sl idE (fun k => k = w5.heap.size) ((w5.alloc (.cells (idc ri).toArray 34)).alloc (.cells x.cells.toArray 38)) (.slice (some ⟨w5.heap.size, 0, none⟩) 1 1) [ri] :=
      Sl.of_block (E := idE) (ys := [ri]) (T := 34) (fr := (0, 0)) ((heap_alloc_old (w5.alloc (.cells (idc ri).toArray 34)) _ (by simp)).trans (heap_alloc_new w5 _)) (by rw [idE.flat_one]; rfl) rfl (Nat.le_refl _) (by omega)
    have hv : x.v = .slice (some ⟨w5.heap.size, 0, none⟩) 1 1 := by rw [hx]; rfl
    have hp : x.h.parents = [ri] := by rw [hx]
    show Sl idE _ _ x.v x.h.parents
    rw [hv, hp]
    exact Sl.mono h1 fun _ _ => trivial
  have hb6 : Below w5.heap.size w5 ((w5.alloc (.cells (idc ri).toArray 34)).alloc (.cells x.cells.toArray 38)) := ((Below.refl _ _).alloc (Nat.le_refl _) _).alloc (by simp) _
  have hg6 : ((w5.alloc (.cells (idc ri).toArray 34)).alloc (.cells x.cells.toArray 38)).heap[w5.heap.size + 1]? = some (.cells x.cells.toArray 38 (0, 0)) := by
    have := heap_alloc_new (w5.alloc (.cells (idc ri).toArray 34)) (.cells x.cells.toArray 38)
    rwa [World.size_alloc] at this
  change Code.wp _ _ _ _ ((w5.alloc (.cells (idc ri).toArray 34)).alloc (.cells (LH.cells ⟨⟨1, 0, ⟨#[116]⟩, 1, 2, [ri], 0⟩, some ⟨w5.heap.size, 0, none⟩, 1⟩).toArray 38))
  rw [← hx]
  have HAT := Lib.hid hat
  have HD6 := Lib.hid (HD5.out.below hb6)
  have HB6 := Lib.hid (HB5.out.trans (hb6.mono HB5.out.size))
  have HG6 := Lib.hid hg6
  have HXH := Lib.hid hxh
  clear hat hb6 hg6 hxh hx
  generalize (w5.alloc (.cells (idc ri).toArray 34)).alloc (.cells x.cells.toArray 38) = W6 at HAT HD6 HB6 HG6 ⊢
  generalize w5.heap.size + 1 = gx at HG6 ⊢
  have hadd1 := dadd_any W6 p b1 b2 D _ HD6.out HF1.out x _ HAT.out (by rw [HXH.out]; exact awk_ok.wide) (HT.out.below HB6.out) (by rw [HL1.out]; omega)
  rw [HXH.out, HH1.out, awk_first] at hadd1
  have HA1 := Lib.hid hadd1
  clear hadd1
  go_wp2_with (first
    | (refine wpl_load rfl 38 (.tmp 2) rfl gx 0 rfl x.cells _ (fun j u hu => by rw [Nat.zero_add]; first | exact cell_block HG6.out (by simpa using hu) | exact cell_block HG7.out (by simpa using hu)) Tryz.underlying38 rfl hdr_size ?_)
    | (refine wpl_load_on rfl 38 (.tmp 2) rfl gx 0 rfl x.cells _ (fun j u hu => by rw [Nat.zero_add]; exact cell_block HG7.out (by simpa using hu)) Tryz.underlying38 rfl hdr_size ?_)
    | (go_at_call 39; refine HA1.out.mono ?_; rintro e w7 ⟨rfl, hc7, D7, hd7, hf7, hh7, hl7⟩; have HG7 : Hid (w7.heap[gx]? = some (.cells x.cells.toArray 38 (0, 0))) := Lib.hid ((hc7.block gx (Array.getElem?_eq_some_iff.1 HG6.out).1 fun hs => HD6.out.no_row gx hs _ _ _ HG6.out).trans HG6.out); have HAT7 : Hid (x.At (fun _ => True) w7) := Lib.hid (Sl.chg HAT.out hc7 HD6.out.no_row); have HT7 := Lib.hid ((HT.out.below HB6.out).chg hc7 HD6.out.no_row); have HD7 := Lib.hid hd7; have HF7 := Lib.hid hf7; have HH7 : Hid (hdrs D7 = [genH, awkH]) := Lib.hid (by rw [hh7]; unfold addG; rw [awk_first]; rfl); have HL7 : Hid (D7.length = 2) := Lib.hid (by have := congrArg List.length hh7; unfold addG at this; rw [awk_first] at this; simpa [hdrs] using this); have HC7 : Hid (Below w.heap.size w w7) := Lib.hid (HB6.out.trans (hc7.below HB6.out.size fun k hk => by rcases hk with rfl | rfl; exact HD6.out.here.2.1; exact HD6.out.here.2.2)); have HA2 : Hid (Calls Tryz.prog 39 #[.pointer (some ⟨p, 0, none⟩), .agg x.cells.toArray] w7 fun e w' => e = .returned (.int .i64 9) ∧ ∃ D8 ok8, DagAt ok8 w' p b1 b2 D8 ∧ D8.length = 2 ∧ Chg (two b1 b2) w7 w') := Lib.hid ((dadd_any w7 p b1 b2 D7 _ HD7.out HF7.out x _ HAT7.out (by rw [HXH.out]; exact awk_ok.wide) HT7.out (by rw [HL7.out]; omega)).mono fun e w' ⟨he, hc, D8, hd8, _, hh8, _⟩ => by (rw [HXH.out, HH7.out, awk_second] at he; rw [HXH.out, HH7.out] at hh8; unfold addG at hh8; rw [awk_second] at hh8; exact ⟨he, D8, _, hd8, by simpa [hdrs] using congrArg List.length hh8, hc⟩)); clear hc7 hd7 hf7 hh7 hl7)
    | (go_at_call 39; refine HA2.out.mono ?_; rintro e w8 ⟨rfl, D8, ok8, hd8, hl8, hc8⟩; have HD8 := Lib.hid hd8; have HL8 := Lib.hid hl8; have HB8 : Hid (Below w.heap.size w w8) := Lib.hid (HC7.out.trans (hc8.below HC7.out.size fun k hk => by rcases hk with rfl | rfl; exact HD6.out.here.2.1; exact HD6.out.here.2.2)); clear hd8 hl8 hc8)
    | (go_at_call 45; refine (dlen_any _ _ _ _ _ _ HD8.out).mono ?_; rintro e w9 ⟨rfl, rfl⟩; rw [HL8.out]))
  go_ret
  exact ⟨rfl, HB8.out⟩
end Go.Proofs.YthpcedficlhanaaGreatDoor
namespace Go.Proofs.YthpcedficlhanaaGreatDoor
open Go.RowKit Go.Maps

theorem own_chg {S : Nat → Prop} {w w1 : World} (hc : Chg S w w1) (hS : ∀ k, S k → ∀ cs T fr, w.heap[k]? ≠ some (.cells cs T fr)) {base : Nat} {e : TypeId} {size : Nat} {v : Value} {n : Nat} {xs : List Value} (h : w.ownsRow base e size v n xs) : w1.ownsRow base e size v n xs :=
  ⟨h.1, h.2.imp id fun ⟨g, cap, cur, hv, hb, hg, r⟩ => ⟨g, cap, cur, hv, hb, (hc.block g (Array.getElem?_eq_some_iff.1 hg).1 fun hs => hS g hs _ _ _ hg).trans hg, r⟩⟩
theorem exec_eq_id {o : Oper} {a : Act} (w : World) (x y : Operand) (T : TypeId) (ho : o.op = .binOp .eql 34 x y T) (i j : ID) (hx : a.eval x = .agg (idc i).toArray) (hy : a.eval y = .agg (idc j).toArray) : (execOp a.eval o).run Tryz.prog w = .ok (.value (.bool (decide (i = j)))) w := by
  unfold execOp
  simp only [ho, hx, hy, Sem.run_bind, run_eqGuard_agg w .eql _ _ _ _ _ guard_id, run_eql_id, Result.andThen_ok, Sem.run_pure]
/-- A block that is there. -/
theorem dblock_has (w : World) (p b1 b2 : Nat) (D : List LB) (ok : Nat → Prop) (h : DagAt ok w p b1 b2 D) (hf : FineD D) (i : ID) (hh : hasB D i = true) :
    Calls Tryz.prog 41 #[.pointer (some ⟨p, 0, none⟩), .agg (idc i).toArray] w fun e w' => ∃ y : LH, e = .returned (.tuple #[.agg (LB.cells ⟨i, y⟩).toArray, .bool true]) ∧ y.h = (getB D i).x.h ∧ y.h.Ok ∧ y.h.parents.Nodup ∧ hdrID y.h = i ∧ y.At (fun k => w.heap.size ≤ k) w' ∧ Below w.heap.size w w' := by
  obtain ⟨hm, hi⟩ := getB_mem hh
  have hfx := hf _ hm
  refine (dblock_any w p b1 b2 D ok h i (Nat.le_trans hfx.1.parents (by decide)) (h.at_ _ hm)).mono ?_
  rintro e w' ⟨y, hy, rfl, ha, hb⟩
  refine ⟨y, by rw [hh, hi], hy, by rw [hy]; exact hfx.1, by rw [hy]; exact hfx.2, by rw [hy, ← h.ids _ hm, hi], ha, hb⟩
theorem id_is (w : World) (y : LH) (ok : Nat → Prop) (hx : y.At ok w) (hok : y.h.Ok) (ht : Tab w) (i : ID) (hi : hdrID y.h = i) :
    Calls Tryz.prog 40 #[.agg y.cells.toArray] w fun e w' => e = .returned (.agg (idc i).toArray) ∧ Below w.heap.size w w' := by
  rw [← hi]; exact id_any w y ok hx hok ht
/-- The tipset of one block that is there. -/
theorem dtip_one (w : World) (p b1 b2 : Nat) (D : List LB) (ok : Nat → Prop) (h : DagAt ok w p b1 b2 D) (hf : FineD D) (i : ID) (hh : hasB D i = true) :
    Calls Tryz.prog 43 #[.pointer (some ⟨p, 0, none⟩), .string (keyB [i])] w fun e w' => ∃ t, e = .returned (.tuple #[tipV t, .int .i64 0]) ∧ TipAt (fun k => w.heap.size ≤ k) w' t [getB D i] ∧ Okay ok w' [getB D i] ∧ Below w.heap.size w w' := by
  have hz := keyB_size [i]
  refine (dtip_any w p b1 b2 D ok h hf (keyB [i]) (by rw [hz, List.length_singleton]; omega)).mono ?_
  rintro e w' ⟨hb, hc⟩
  have hk := namesF_key (l := [i]) rfl (by rw [List.length_singleton]; omega) (by rw [List.length_singleton]; omega)
  rcases hc with ⟨hn, -⟩ | ⟨l', hn, hc⟩
  · rw [hk] at hn; cases hn
  · rw [hk] at hn
    cases hn
    rcases hc with ⟨⟨j, hj, hj2⟩, -⟩ | ⟨hall, ec, zs, t, hn, rfl, ht⟩
    · rw [List.mem_singleton.1 hj, hh] at hj2; cases hj2
    · rcases hn with ⟨h5, -, -⟩ | ⟨-, z, hp, -, hz⟩
      · exact absurd h5 (by simp)
      · have hz1 : z = [getB D i] := List.perm_singleton.1 hp
        have hg : goodB z = true := by rw [hz1]; simp [goodB, goodN, minerC]
        rcases hz with ⟨-, rfl, rfl⟩ | ⟨hg', -, -⟩
        · rw [hz1] at ht
          refine ⟨t, rfl, ht, ?_, hb⟩
          intro x hx
          rw [List.mem_singleton.1 hx]
          have hm := (getB_mem hh).1
          exact ⟨Sl.below (h.at_ _ hm) hb, hf _ hm⟩
        · rw [hg] at hg'; cases hg'

/-- What stays where names are appended. -/
def OkN (w : World) (vn : Value) (k : Nat) : Prop := w.heap.size ≤ k ∧ some k ≠ vn.ownBlock
/-- What a law keeps: the dag, headers in a row, names in a row of its own. -/
structure LawS (w W : World) (p b1 b2 : Nat) (D : List LB) (vh : Value) (hs : List LRH) (vn : Value) (ns : List ID) : Prop where
  dag : DagAt (OkN w vn) W p b1 b2 D
  fine : FineD D
  row : Sl lrhE (OkN w vn) W vh hs
  at_ : ∀ y ∈ hs, y.At (OkN w vn) W
  names : W.ownsRow w.heap.size 34 32 vn ns.length (idE.flat ns)
  nil : ns = [] → vn = .slice none 0 0
  below : Below w.heap.size w W
section
variable {w W W' : World} {p b1 b2 : Nat} {D D' : List LB} {vh vn v1 : Value} {hs : List LRH} {ns : List ID}
theorem LawS.next (h : LawS w W p b1 b2 D vh hs vn ns) (hb : Below W.heap.size W W') : LawS w W' p b1 b2 D vh hs vn ns where
  dag := h.dag.below hb
  fine := h.fine
  row := h.row.below hb
  at_ := fun y hy => Sl.below (h.at_ y hy) hb
  names := own_below h.names hb
  nil := h.nil
  below := h.below.trans (hb.mono h.below.size)
theorem LawS.chg (h : LawS w W p b1 b2 D vh hs vn ns) (hc : Chg (two b1 b2) W W') (hd : DagAt (fun k => OkN w vn k ∨ W.heap.size ≤ k) W' p b1 b2 D') (hf : FineD D') : LawS w W' p b1 b2 D' vh hs vn ns where
  dag := hd.mono fun k hk => by
    rcases hk with hk | hk
    · exact hk
    · exact ⟨Nat.le_trans h.below.size hk, fun e => by have := (own_lt h.names k e.symm).2; omega⟩
  fine := hf
  row := h.row.chg hc h.dag.no_row
  at_ := fun y hy => Sl.chg (h.at_ y hy) hc h.dag.no_row
  names := own_chg hc h.dag.no_row h.names
  nil := h.nil
  below := h.below.trans (hc.below h.below.size fun k hk => by rcases hk with rfl | rfl; exact h.dag.here.2.1.1; exact h.dag.here.2.2.1)
theorem LawS.app (h : LawS w W p b1 b2 D vh hs vn ns) (i : ID) (ho : W'.ownsRow w.heap.size 34 32 v1 (ns.length + 1) (idE.flat ns ++ (idc i).toArray.toList)) (hg : W.grownBy W' vn.ownBlock) (hat : v1.ownBlock = vn.ownBlock ∨ ∃ b, v1.ownBlock = some b ∧ W.heap.size ≤ b) : LawS w W' p b1 b2 D vh hs v1 (ns ++ [i]) where
  dag := (h.dag.old.fr (Fr.grown hg fun k hk => hk.1.2)).mono fun k hk => ⟨hk.1.1, by
    rcases hat with he | ⟨b, he, hb⟩
    · rw [he]; exact hk.1.2
    · rw [he]; intro e; injection e with e; have := hk.2; omega⟩
  fine := h.fine
  row := (h.row.old.fr (Fr.grown hg fun k hk => hk.1.2)).mono fun k hk => ⟨hk.1.1, by
    rcases hat with he | ⟨b, he, hb⟩
    · rw [he]; exact hk.1.2
    · rw [he]; intro e; injection e with e; have := hk.2; omega⟩
  at_ := fun y hy => Sl.mono (Sl.fr (Sl.old (h.at_ y hy)) (Fr.grown hg fun k hk => hk.1.2)) fun k hk => ⟨hk.1.1, by
    rcases hat with he | ⟨b, he, hb⟩
    · rw [he]; exact hk.1.2
    · rw [he]; intro e; injection e with e; have := hk.2; omega⟩
  names := by rw [idE.flat_append, idE.flat_one, List.length_append]; exact ho
  nil := fun e => by simp at e
  below := below_grown_own h.below h.names (Nat.le_refl _) h.below.size hg
theorem LawS.start {w0 w1 w2 w3 : World} {okd : Nat → Prop} (hb1 : Below w0.heap.size w0 w1) (hd : DagAt (fun k => w1.heap.size ≤ k) w2 p b1 b2 D) (hf : FineD D) (hb2 : Below w1.heap.size w1 w2) (hg : Growns w2 w3 vh hs) : LawS w0 w3 p b1 b2 D vh hs (.slice none 0 0) [] where
  dag := (hd.below hg.below).mono fun k hk => ⟨Nat.le_trans hb1.size hk, by simp [Value.ownBlock]⟩
  fine := hf
  row := Sl.mono hg.sl fun k hk => ⟨Nat.le_trans hb1.size (Nat.le_trans hb2.size hk), by simp [Value.ownBlock]⟩
  at_ := fun y hy => Sl.mono (hg.at_ y hy) fun k hk => ⟨Nat.le_trans hb1.size (Nat.le_trans hb2.size hk.1), by simp [Value.ownBlock]⟩
  names := World.ownsRow_nil _ _ _ _
  nil := fun _ => rfl
  below := (hb1.trans (hb2.mono hb1.size)).trans (hg.below.mono (Nat.le_trans hb1.size hb2.size))
theorem LawS.dag_any (h : LawS w W p b1 b2 D vh hs vn ns) : DagAt (fun _ => True) W p b1 b2 D := h.dag.mono fun _ _ => trivial
end
theorem grown_wide {h : RH} (k : GrownH h) : Wide (hdrOf h) := ⟨k.p0, Nat.le_trans k.tell.ticket (by decide), by show (h.parents.map idOf).length ≤ _; rw [List.length_map]; exact Nat.le_trans k.tell.parents (by decide)⟩
theorem hdrs_length (D : List LB) : (hdrs D).length = D.length := by simp [hdrs]
theorem has_add {G : List Hdr} {h : Hdr} {i : ID} (hh : hasG G i = true) : hasG (addG G h) i = true := by
  unfold addG
  split
  · obtain ⟨x, hx, he⟩ := hasG_iff.1 hh
    exact hasG_iff.2 ⟨x, List.mem_append_left _ hx, he⟩
  · exact hh
theorem has_new {G : List Hdr} {h : Hdr} (e : checkG G h = 0) : hasG (addG G h) (hdrID h) = true := by
  unfold addG
  rw [if_pos e]
  exact hasG_iff.2 ⟨h, by simp, rfl⟩
end Go.Proofs.YthpcedficlhanaaGreatDoor
