/- coxswainlaw13.Grown: headers of seeds, in a row of the call's own. dag.Dag: Add, New. coxswainlaw13.awake. What a law over a dag keeps: the dag, the headers that were grown, names. -/
import Derived.Test.YtcohdfkdhdhegaaGreatDoorPbAL
import Derived.Test.YtcohdfkdhdhegaaGreatDoorPbAO
import Derived.Test.YtcohdfkdhdhegaaGreatDoorPbAT
namespace Go.Proofs.YtcohdfkdhdhegaaGreatDoor
open Go.RowKit

theorem grow_any (w : World) (y : LSD) (ok : Nat → Prop) (hy : y.At ok w) (hk : SeedOk y.s) (v : Value) (l : List LRH) (hl : Sl lrhE ok w v l) (hla : ∀ x ∈ l, x.At ok w ∧ GrownH x.h) (hlen : l.length ≤ 1000) :
    Calls Tryz.prog 86 #[.agg y.cells.toArray, v] w fun e w' => ∃ z : LRH, GrownH z.h ∧ e = .returned (.agg z.cells.toArray) ∧ z.At (fun k => w.heap.size ≤ k) w' ∧ Below w.heap.size w w' := by
  cases h : y.s.raw
  · exact growNew_any w y ok hy hk v l hl hla hlen h
  · exact growRaw_any w y ok hy hk v h
theorem LSD.cells_one (y : LSD) : ∀ u ∈ y.cells, u.oneCell' = true := by
  intro u hu
  rcases List.mem_append.1 hu with hu | hu
  · simp only [List.mem_cons, List.not_mem_nil, or_false] at hu
    rcases hu with rfl | rfl | rfl | rfl | rfl | rfl | rfl | rfl <;> rfl
  · exact lrhE.one y.x u hu
def sdE : Enc LSD := { enc := LSD.cells, k := 15, hk := fun _ => rfl, one := LSD.cells_one, k0 := by decide }
theorem LSD.At.fr {y : LSD} {ok : Nat → Prop} {w w' : World} (h : y.At ok w) (hf : Fr ok w w') : y.At ok w' := ⟨h.of.fr hf, h.h.fr hf⟩
theorem LSD.At.below {y : LSD} {ok : Nat → Prop} {w w' : World} (h : y.At ok w) (hb : Below w.heap.size w w') : y.At ok w' := h.fr (Fr.of_below hb)
theorem LSD.At.mono {y : LSD} {ok ok' : Nat → Prop} {w : World} (h : y.At ok w) (hk : ∀ k, ok k → ok' k) : y.At ok' w := ⟨h.of.mono hk, h.h.mono hk⟩
/-- Headers that were grown, in a row of its own. -/
structure Growns (w wr : World) (v : Value) (ys : List LRH) : Prop where
  good : ∀ y ∈ ys, GrownH y.h
  own : wr.ownsRow w.heap.size 29 7 v ys.length (lrhE.flat ys)
  at_ : ∀ y ∈ ys, y.At (fun k => w.heap.size ≤ k ∧ some k ≠ v.ownBlock) wr
  below : Below w.heap.size w wr
section
variable {w wr W W' : World} {v : Value} {ys : List LRH}
theorem Growns.under (h : Growns w wr v ys) (hb : Below wr.heap.size wr W) : Growns w W v ys :=
  ⟨h.good, own_below h.own hb, fun y hy => Sl.below (h.at_ y hy) hb, h.below.trans (hb.mono h.below.size)⟩
theorem Growns.sl (h : Growns w wr v ys) : Sl lrhE (fun k => w.heap.size ≤ k) wr v ys :=
  (Sl.of_own (E := lrhE) h.own).mono fun k hk => (own_lt h.own k hk).1
theorem Growns.more {v1 : Value} {w1 : World} (h : Growns w W v ys) (z : LRH) (hr : GrownH z.h) (hat : z.At (fun k => w.heap.size ≤ k ∧ some k ≠ v.ownBlock) W)
    (ho : w1.ownsRow w.heap.size 29 7 v1 (ys.length + 1) (lrhE.flat ys ++ z.cells.toArray.toList)) (hg : W.grownBy w1 v.ownBlock) (hat1 : v1.ownBlock = v.ownBlock ∨ ∃ b, v1.ownBlock = some b ∧ W.heap.size ≤ b) : Growns w w1 v1 (ys ++ [z]) where
  good := fun y hy => by
    rcases List.mem_append.1 hy with hy | hy
    · exact h.good y hy
    · rw [List.mem_singleton.1 hy]; exact hr
  own := by rw [lrhE.flat_append, lrhE.flat_one, List.length_append]; exact ho
  at_ := by
    intro y hy
    have h1 : y.At (fun k => w.heap.size ≤ k ∧ some k ≠ v.ownBlock) W := by
      rcases List.mem_append.1 hy with hy | hy
      · exact h.at_ y hy
      · rw [List.mem_singleton] at hy; subst hy; exact hat
    refine Sl.mono (Sl.fr (Sl.old h1) (Fr.grown hg fun k hk => hk.1.2)) fun k hk => ⟨hk.1.1, ?_⟩
    rcases hat1 with he | ⟨b, he, hb⟩
    · rw [he]; exact hk.1.2
    · rw [he]; intro e; injection e with e; omega
  below := below_grown_own h.below h.own (Nat.le_refl _) h.below.size hg
end
section
variable {ops : Array Oper} {rest : List Oper} {o : Oper} {a : Act} {Q : Exit → Act → World → Prop}
/-- One header more is appended. -/
theorem wpl_app_gh {w W : World} {v : Value} {ys : List LRH} (h : Growns w W v ys) (z : LRH) (hr : GrownH z.h) (hat : z.At (fun k => w.heap.size ≤ k ∧ some k ≠ v.ownBlock) W) (hlen : ys.length ≤ 1000)
    (hgd : o.guard = none) (s x : Operand) (ho : o.op = .call { callee := .builtin .append, args := #[s, x], argTypes := #[34, 34] }) (hs' : a.eval s = v) (hx : a.eval x = .slice (some ⟨W.heap.size, 0, none⟩) 1 1)
    (hK : ∀ v1 w1, Growns w w1 v1 (ys ++ [z]) → wpList Tryz.prog ops Q rest (a.put o.dst v1) w1) : wpList Tryz.prog ops Q (o :: rest) a (W.alloc (.cells z.cells.toArray 29)) := by
  refine wpl_app1 z.cells.toArray w.heap.size hgd s x 34 29 _ 7 80 ho Tryz.underlying34 rh_info rhZ_cells (by decide) (by decide) v ys.length _ hs' hx rfl (lrhE.one z) h.own h.below.size (by omega) ?_
  intro v1 w1 ho1 hg1 hat1
  exact hK v1 w1 (h.more z hr hat ho1 hg1 hat1)
end
theorem sd_size : (Tryz.prog.info? 138).map (·.size) = some 15 := by kernel_rfl

set_option maxRecDepth 100000 in
set_option maxHeartbeats 2000000 in
theorem grown_any (w : World) (t : Value) (l : List LSD) (ok ok' : Nat → Prop) (hl : Sl sdE ok w t l) (hf : ∀ y ∈ l, y.At ok' w ∧ SeedOk y.s) (n : Nat) (hn : n ≤ 1000) :
    Calls Tryz.prog 16 #[t, .int .i64 n] w fun e w' => ∃ v ys, e = .returned v ∧ ys.length ≤ n ∧ Growns w w' v ys := by
  obtain ⟨A, c, rfl, hc, hm⟩ := hl.form
  have HL := Lib.hid hl
  have HF := Lib.hid hf
  clear hl hf
  go_enter Tryz.func16, Tryz.ntmps16
  go_wp2
  go_loopw [5, 6] (fun v ci wr => ∃ (i : Nat) (ys : List LRH), i ≤ l.length ∧ i ≤ n ∧ ys.length = i ∧ ci = .int .i64 i ∧ Growns w wr v ys) (fun _ ci _ => l.length - (intOf ci).toNat)
  case atStart => exact ⟨0, [], Nat.zero_le _, Nat.zero_le _, rfl, rfl, by simp, World.ownsRow_nil _ _ _ _, by simp, Below.refl _ _⟩
  case round =>
    obtain ⟨i, ys, hi, hin, hys, rfl, hC⟩ := hrel
    have HC := Lib.hid hC
    have HYS := Lib.hid hys
    clear hC hys
    by_cases hlt : i < l.length ∧ i < n
    · obtain ⟨hlt, hln⟩ := hlt
      obtain ⟨x, hx⟩ : ∃ x, l[i]? = some x := ⟨_, List.getElem?_eq_getElem hlt⟩
      obtain ⟨b, off, rfl, hbl, -, hcx⟩ := (HL.out.below HC.out.below).at_ i x hx
      have hxx := HF.out x (List.mem_of_getElem? hx)
      have HCX := Lib.hid hcx
      have HG : Hid (Calls Tryz.prog 86 #[.agg x.cells.toArray, u5] wr fun e w' => ∃ z : LRH, GrownH z.h ∧ e = .returned (.agg z.cells.toArray) ∧ z.At (fun k => wr.heap.size ≤ k) w' ∧ Below wr.heap.size wr w') := Lib.hid (grow_any wr x (fun _ => True) ((hxx.1.below HC.out.below).mono fun _ _ => trivial) hxx.2 u5 ys (Sl.mono HC.out.sl fun _ _ => trivial) (fun y hy => ⟨Sl.mono (HC.out.at_ y hy) fun _ _ => trivial, HC.out.good y hy⟩) (by have := HYS.out; omega))
      have hgn : decide ((i : Int) < (n : Int)) = true := by simp; omega
      have HOL : Hid (∀ k, u5.ownBlock = some k → k < wr.heap.size) := Lib.hid fun k hk => (own_lt HC.out.own k hk).2
      clear hcx hx hxx
      go_wp2_with (first
        | (refine wpl_load rfl 138 (.tmp 21) rfl b _ rfl x.cells _ HCX.out Tryz.underlying138 rfl sd_size ?_)
        | (go_at_call 86; refine HG.out.mono ?_; rintro e w1 ⟨z, hz, rfl, hza, hb1⟩; have HZ := Lib.hid hz; have HZA : Hid (z.At (fun k => w.heap.size ≤ k ∧ some k ≠ u5.ownBlock) w1) := Lib.hid (Sl.mono hza fun k hk => ⟨Nat.le_trans HC.out.below.size hk, fun e => by have := HOL.out k e.symm; omega⟩); have HC1 := Lib.hid (HC.out.under hb1); clear hz hza hb1)
        | (refine wpl_slice1 rfl 34 29 (.tmp 24) rfl z.cells.toArray rfl _ 7 80 Tryz.underlying34 rh_info rhZ_cells rfl (by decide) (by decide) ?_)
        | (at_builtin; refine wpl_app_gh HC1.out z HZ.out HZA.out (by have := HYS.out; omega) rfl (.tmp 18) (.tmp 25) rfl rfl rfl ?_; intro v1 w4 hC4; have HC4 := Lib.hid hC4; clear hC4))
      go_roundw
      case rel => exact ⟨i + 1, ys ++ [z], by omega, by omega, by rw [List.length_append, HYS.out]; rfl, by go_num, HC4.out⟩
      case measure => simp [intOf]; omega
    · have harms : i < l.length → ¬ i < n := fun h h' => hlt ⟨h, h'⟩
      have HAR := Lib.hid harms
      clear hlt harms
      by_cases hl2 : i < l.length
      · have h7 : decide ((i : Int) < (n : Int)) = false := by have := HAR.out hl2; simp; omega
        have hin2 : ¬ i < n := HAR.out hl2
        go_wp2
        go_ret
        exact ⟨_, ys, rfl, by have := HYS.out; omega, HC.out⟩
      · go_wp2
        go_ret
        exact ⟨_, ys, rfl, by have := HYS.out; omega, HC.out⟩
end Go.Proofs.YtcohdfkdhdhegaaGreatDoor
namespace Go.Proofs.YtcohdfkdhdhegaaGreatDoor
open Go.RowKit Go.Maps

theorem cell_chg {S : Nat → Prop} {w w1 : World} (hc : Chg S w w1) (hS : ∀ k, S k → ∀ cs T fr, w.heap[k]? ≠ some (.cells cs T fr)) {a : Addr} {u : Value} (h : w.cell? a = some u) : w1.cell? a = some u := by
  have hb : w1.heap[a.block]? = w.heap[a.block]? := by
    refine hc.block _ (World.block_lt_of_cell? w a h) fun hs => ?_
    simp only [World.cell?] at h
    cases hh : w.heap[a.block]? with
    | none => rw [hh] at h; cases h
    | some o =>
      cases o with
      | cells cs T fr => exact hS _ hs cs T fr hh
      | _ => rw [hh] at h; cases h
  rw [World.cell?_of_block (w := w) hb]
  exact h
theorem Tab.chg {S : Nat → Prop} {w w1 : World} (h : Tab w) (hc : Chg S w w1) (hS : ∀ k, S k → ∀ cs T fr, w.heap[k]? ≠ some (.cells cs T fr)) : Tab w1 where
  start := fun j u hu => cell_chg hc hS (h.start j u hu)
  key := fun j u hu => cell_chg hc hS (h.key j u hu)
  low := Nat.lt_of_lt_of_le h.low hc.size
  low0 := Nat.lt_of_lt_of_le h.low0 hc.size
def FineD (D : List LB) : Prop := ∀ x ∈ D, x.x.h.Ok ∧ x.x.h.parents.Nodup
theorem hdrs_add (D : List LB) (x : LB) : hdrs (D ++ [x]) = hdrs D ++ [x.x.h] := by simp [hdrs]

set_option maxRecDepth 100000 in
set_option maxHeartbeats 2000000 in
theorem dadd_any (w : World) (p b1 b2 : Nat) (D : List LB) (ok : Nat → Prop) (h : DagAt ok w p b1 b2 D) (hG : FineD D) (x : LH) (okx : Nat → Prop) (hx : x.At okx w) (hok : Wide x.h) (ht : Tab w) (hlen : D.length ≤ 1000000) :
    Calls Tryz.prog 21 #[.pointer (some ⟨p, 0, none⟩), .agg x.cells.toArray] w fun e w' => e = .returned (.int .i64 (checkG (hdrs D) x.h)) ∧ Chg (two b1 b2) w w' ∧
      ∃ D', DagAt (fun k => ok k ∨ w.heap.size ≤ k) w' p b1 b2 D' ∧ FineD D' ∧ hdrs D' = addG (hdrs D) x.h ∧ D'.length ≤ D.length + 1 := by
  have hlt := h.lt
  have HS0 := Lib.hid (ChkS.start h hx ht)
  have HG := Lib.hid hG
  have HOK := Lib.hid hok
  clear h hG hx hok ht
  go_enter Tryz.func21, Tryz.ntmps21
  go_upto_region 1 with fail
  change Code.wp _ _ _ _ (w.alloc (.cells x.cells.toArray 41))
  generalize w.alloc (.cells x.cells.toArray 41) = W0 at HS0 ⊢
  have HC := Lib.hid (dcheck_any W0 p b1 b2 D ok HS0.out.dag HG.out x okx HS0.out.at_ HOK.out HS0.out.tab)
  obtain ⟨ce, hce⟩ : ∃ ce, checkG (hdrs D) x.h = ce := ⟨_, rfl⟩
  rw [hce] at HC
  by_cases hce0 : ce = 0
  · subst hce0
    have HOK := Lib.hid (check_ok (checkG_parts hce).1)
    have HCE := Lib.hid hce
    clear hce
    go_wp2_with (first
      | (refine wpl_load rfl 41 (.tmp 3) rfl w.heap.size 0 rfl x.cells _ (by first | exact HS0.out.cells | exact HS1.out.cells) Tryz.underlying41 rfl hdr_size ?_)
      | (go_at_call 18; refine HC.out.mono ?_; rintro e w1 ⟨rfl, hb1⟩; have HS1 := Lib.hid (HS0.out.next hb1); clear hb1)
      | (go_at_call 83; refine (make_any _ x okx HS1.out.at_ HOK.out HS1.out.tab).mono ?_; rintro e w2 ⟨y, hy, rfl, hya, hb2⟩; have HS2 := Lib.hid (HS1.out.next hb2); have HY := Lib.hid hy; have HYA := Lib.hid hya; clear hy hya hb2)
      | (go_at_call 82; refine (put_any _ p b1 b2 D ok HS2.out.dag ⟨hdrID x.h, y⟩ _ HYA.out (by show hdrID x.h = hdrID y.h; rw [HY.out]) (by show y.h.Ok; rw [HY.out]; exact HOK.out) (by show y.h.parents.Nodup; rw [HY.out]; exact rise_nodup (check_parts (checkG_parts HCE.out).1).1) (by have := (checkG_parts HCE.out).2.1; rw [hasB_G HS2.out.dag.ids]; exact this) hlen).mono ?_; rintro e w3 ⟨rfl, hc3, hd3⟩))
    go_ret
    have hsz1 : w.heap.size ≤ w1.heap.size := HS1.out.below.size
    have hsz2 : w.heap.size ≤ w2.heap.size := HS2.out.below.size
    rw [HCE.out]
    refine ⟨rfl, (Chg.of_below HS2.out.below).trans hc3, D ++ [⟨hdrID x.h, y⟩], hd3.mono fun k hk => by (rcases hk with hk | hk | hk; exact .inl hk; exact .inr (by omega); exact .inr (by omega)), ?_, ?_, by simp⟩
    · intro z hz
      rcases List.mem_append.1 hz with hz | hz
      · exact HG.out z hz
      · obtain rfl := List.mem_singleton.1 hz
        exact ⟨by show y.h.Ok; rw [HY.out]; exact HOK.out, by show y.h.parents.Nodup; rw [HY.out]; exact rise_nodup (check_parts (checkG_parts HCE.out).1).1⟩
    · rw [hdrs_add]
      unfold addG
      rw [if_pos HCE.out]
      show hdrs D ++ [y.h] = _
      rw [HY.out]
  · have hne : (ce == 0) = false := by simpa using hce0
    have HCE := Lib.hid hce
    clear hce
    go_wp2_with (first
      | (refine wpl_load rfl 41 (.tmp 3) rfl w.heap.size 0 rfl x.cells _ HS0.out.cells Tryz.underlying41 rfl hdr_size ?_)
      | (go_at_call 18; refine HC.out.mono ?_; rintro e w1 ⟨rfl, hb1⟩; have HS1 := Lib.hid (HS0.out.next hb1); clear hb1))
    go_ret
    rw [HCE.out]
    exact ⟨rfl, Chg.of_below HS1.out.below, D, HS1.out.dag.mono fun k hk => .inl hk, HG.out, by unfold addG; rw [if_neg (by rw [HCE.out]; exact hce0)], by omega⟩

set_option maxRecDepth 100000 in
set_option maxHeartbeats 2000000 in
theorem dnew_any (w : World) (ht : Tab w) :
    Calls Tryz.prog 14 #[] w fun e w' => ∃ p b1 b2 D', e = .returned (.pointer (some ⟨p, 0, none⟩)) ∧ Below w.heap.size w w' ∧ DagAt (fun k => w.heap.size ≤ k) w' p b1 b2 D' ∧ FineD D' ∧ hdrs D' = [genH] ∧ D'.length = 1 := by
  have HT := Lib.hid ht
  clear ht
  have hmm := @run_makeMap Tryz.prog
  go_enter Tryz.func14, Tryz.ntmps14
  go_upto_region 2 with fail
  have hb : Below w.heap.size w (((w.alloc (.map #[] 0)).alloc (.map #[] 0)).alloc (.cells #[.map (some w.heap.size), .map (some (w.heap.size + 1))] 132)) := (((Below.refl _ w).alloc (Nat.le_refl _) _).alloc (by simp) _).alloc (by simp; omega) _
  have hd : DagAt (fun k => w.heap.size ≤ k) (((w.alloc (.map #[] 0)).alloc (.map #[] 0)).alloc (.cells #[.map (some w.heap.size), .map (some (w.heap.size + 1))] 132)) (w.heap.size + 1 + 1) w.heap.size (w.heap.size + 1) [] := by
    refine ⟨?_, ?_, ⟨0, fun _ => none, Nat.le_refl _, ?_, fun s => .inl ⟨rfl, by simp⟩⟩, by omega, ⟨by omega, Nat.le_refl _, by omega⟩, by simp, by simp⟩
    · have := heap_alloc_new ((w.alloc (.map #[] 0)).alloc (.map #[] 0)) (.cells #[.map (some w.heap.size), .map (some (w.heap.size + 1))] 132)
      rwa [World.size_alloc, World.size_alloc] at this
    · exact ((MapV.made Tryz.prog 66 w).alloc _).alloc _
    · have := (MapV.made Tryz.prog 9 (w.alloc (.map #[] 0))).alloc (.cells #[.map (some w.heap.size), .map (some (w.heap.size + 1))] 132)
      rwa [World.size_alloc] at this
  have HB := Lib.hid hb
  have HD := Lib.hid hd
  clear hb hd
  generalize ((w.alloc (.map #[] 0)).alloc (.map #[] 0)).alloc (.cells #[.map (some w.heap.size), .map (some (w.heap.size + 1))] 132) = W0 at HB HD ⊢
  have hmake : ∀ W, Below w.heap.size w W → Calls Tryz.prog 83 #[.agg genL.cells.toArray] W fun e w' => ∃ y : LH, y.h = genH ∧ e = .returned (.agg (LB.cells ⟨hdrID genH, y⟩).toArray) ∧ y.At (fun k => W.heap.size ≤ k) w' ∧ Below W.heap.size W w' := fun W hb => make_any W genL (fun _ => True) (genL_at _ _) genH_ok (HT.out.below hb)
  have HM := Lib.hid hmake
  clear hmake
  obtain ⟨gi, hgi⟩ : ∃ i, hdrID genH = i := ⟨_, rfl⟩
  rw [hgi] at HM
  have HGI := Lib.hid hgi
  clear hgi
  go_wp2_with (first
    | (go_at_call 84; refine (genesis_any _).mono ?_; rintro e w1 ⟨rfl, hb1⟩; have HB1 := Lib.hid (HB.out.trans (hb1.mono HB.out.size)); have HD1 := Lib.hid (HD.out.below hb1); clear hb1)
    | (go_at_call 83; refine (HM.out _ HB1.out).mono ?_; rintro e w2 ⟨y, hy, rfl, hya, hb2⟩; have HB2 := Lib.hid (HB1.out.trans (hb2.mono HB1.out.size)); have HD2 := Lib.hid (HD1.out.below hb2); have HY := Lib.hid hy; have HYA := Lib.hid hya; clear hy hya hb2)
    | (go_at_call 82; refine (put_any _ _ _ _ [] _ HD2.out ⟨gi, y⟩ _ HYA.out (by show gi = hdrID y.h; rw [HY.out, HGI.out]) (by show y.h.Ok; rw [HY.out]; exact genH_ok) (by show y.h.parents.Nodup; rw [HY.out]; simp [genH]) rfl (by simp)).mono ?_; rintro e w3 ⟨rfl, hc3, hd3⟩))
  go_ret
  have hsz1 : w.heap.size ≤ w1.heap.size := HB1.out.size
  refine ⟨_, _, _, [⟨gi, y⟩], rfl, HB2.out.trans (hc3.below HB2.out.size fun k hk => by rcases hk with rfl | rfl <;> omega), hd3.mono fun k hk => by (rcases hk with hk | hk | hk; exact hk; exact (by omega); exact (by have := HB2.out.size; omega)), ?_, ?_, rfl⟩
  · intro z hz
    obtain rfl := List.mem_singleton.1 hz
    exact ⟨by show y.h.Ok; rw [HY.out]; exact genH_ok, by show y.h.parents.Nodup; rw [HY.out]; simp [genH]⟩
  · show [y.h] = _
    rw [HY.out]
end Go.Proofs.YtcohdfkdhdhegaaGreatDoor
namespace Go.Proofs.YtcohdfkdhdhegaaGreatDoor
open Go.RowKit

section
variable {P : Program} {ops : Array Oper} {rest : List Oper} {o : Oper} {a : Act} {w : World} {Q : Exit → Act → World → Prop}
/-- A guarded operation that is wanted. -/
theorem wpList_on (hw : Region.wanted o (yielded ops a.tmps) = true) (h : ∀ K : Act → World → Prop, (∀ a w, wpList P ops Q rest a w → K a w) → o.wp P a w K Q) : wpList P ops Q (o :: rest) a w :=
  wpList_step fun K hK => by rw [if_pos hw]; exact h K hK
theorem wpl_load_on (hgd : Region.wanted o (yielded ops a.tmps) = true) (ty : TypeId) (x : Operand) (ho : o.op = .load ty x)
    (b off : Nat) (hx : a.eval x = .pointer (some ⟨b, off, none⟩)) (cs : List Value) (d : TypeDesc) (hc : ∀ j u, cs[j]? = some u → w.cell? ⟨b, off + j, none⟩ = some u)
    (hu : P.underlying ty = some d) (hd : (match d with | .struct _ | .array _ _ => true | _ => false) = true) (hi : (P.info? ty).map (·.size) = some cs.length)
    (h : wpList P ops Q rest (a.put o.dst (.agg cs.toArray)) w) : wpList P ops Q (o :: rest) a w :=
  wpList_on hgd fun K hK => by
    unfold Oper.wp execOp
    simp only [ho, hx, Instr.loadAt, Instr.sureAddr, Sem.run_bind, Sem.run_pure, Result.andThen_ok, run_loadVar_at w b off ty cs d hc hu hd hi]
    exact hK _ _ h
end
end Go.Proofs.YtcohdfkdhdhegaaGreatDoor
namespace Go.Proofs.YtcohdfkdhdhegaaGreatDoor
open Go.RowKit Go.Maps

section
variable {w W W' : World} {p b1 b2 : Nat} {D D' : List LB} {vh vn v1 : Value} {hs : List LRH} {ns : List ID}
end
theorem grown_wide {h : RH} (k : GrownH h) : Wide (hdrOf h) := ⟨k.p0, Nat.le_trans k.tell.ticket (by decide), by show (h.parents.map idOf).length ≤ _; rw [List.length_map]; exact Nat.le_trans k.tell.parents (by decide)⟩
end Go.Proofs.YtcohdfkdhdhegaaGreatDoor
