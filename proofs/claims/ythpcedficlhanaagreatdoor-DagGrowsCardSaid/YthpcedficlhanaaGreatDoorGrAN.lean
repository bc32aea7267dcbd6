/- coxswainref05.Sort: the walk. coxswainlaw05.Few, Name. Regions in their order, by hand. -/
import Derived.Test.YthpcedficlhanaaGreatDoorGrAM
import Derived.Laws.BitsLemmas
import Derived.Lib.MinMax
namespace Go.Proofs.YthpcedficlhanaaGreatDoor
open Go.RowKit

def strs (l : List ByteArray) : List Value := l.map Value.string
theorem strs_length (l : List ByteArray) : (strs l).length = l.length := by simp [strs]
theorem own_empty (w : World) (base : Nat) (T : TypeId) (k : Nat) (hb : base ≤ w.heap.size) : (w.alloc (.cells #[] T)).ownsRow base T k (.slice (some ⟨w.heap.size, 0, none⟩) 0 0) 0 [] :=
  ⟨by simp, .inr ⟨w.heap.size, 0, #[], rfl, hb, heap_alloc_new w _, Nat.le_refl _, by simp [maxLen], by simp, by simp⟩⟩
theorem str_info : (Tryz.prog.info? 9).map (fun i => (i.zero, i.size, i.bytes)) = some (some (.string ⟨#[]⟩), 1, 16) := by kernel_rfl
/-- A row of texts of the call's own. -/
def StrRow (base : Nat) (w : World) (v : Value) (l : List ByteArray) : Prop := w.ownsRow base 9 1 v l.length (strs l)
theorem StrRow.sl {base : Nat} {w : World} {v : Value} {l : List ByteArray} (h : StrRow base w v l) : Sl strE (fun k => base ≤ k ∧ some k = v.ownBlock) w v l :=
  (Sl.of_own (E := strE) (by rw [strE_flat]; exact h)).mono fun k hk => ⟨(own_lt h k hk).1, hk.symm⟩
theorem StrRow.below {base : Nat} {w w' : World} {v : Value} {l : List ByteArray} (h : StrRow base w v l) (hb : Below w.heap.size w w') : StrRow base w' v l := own_below h hb
section
variable {ops : Array Oper} {rest : List Oper} {o : Oper} {a : Act} {Q : Exit → Act → World → Prop}
theorem wpl_app_str {w0 W : World} {base : Nat} {u : Value} {l : List ByteArray} (h : StrRow base W u l) (t : ByteArray) (hB : Below base w0 W) (hb : base ≤ W.heap.size) (hlen : l.length ≤ 1000000)
    (hgd : o.guard = none) (s x : Operand) (ho : o.op = .call { callee := .builtin .append, args := #[s, x], argTypes := #[51, 51] }) (hs' : a.eval s = u) (hx : a.eval x = .slice (some ⟨W.heap.size, 0, none⟩) 1 1)
    (hK : ∀ v1 w1, StrRow base w1 v1 (l ++ [t]) → Below base w0 w1 → W.grownBy w1 u.ownBlock → (v1.ownBlock = u.ownBlock ∨ ∃ b, v1.ownBlock = some b ∧ W.heap.size ≤ b) → wpList Tryz.prog ops Q rest (a.put o.dst v1) w1) : wpList Tryz.prog ops Q (o :: rest) a (W.alloc (.cells #[.string t] 9)) := by
  refine wpl_app1 #[.string t] base hgd s x 51 9 _ 1 16 ho Tryz.underlying51 str_info rfl (by decide) (by decide) u l.length _ hs' hx rfl (by simp [Value.oneCell']) h hb (by omega) ?_
  intro v1 w1 ho1 hg1 hat1
  exact hK v1 w1 (by rw [StrRow, strs, List.map_append, List.length_append]; exact ho1) (below_grown_own hB h (Nat.le_refl _) hb hg1) hg1 hat1
end
/-- What holds in the inner loop. -/
structure SortI (w wr : World) (vo vn : Value) (o n : List ByteArray) : Prop where
  out : StrRow w.heap.size wr vo o
  next : StrRow w.heap.size wr vn n
  apart : Apart vn vo
  below : Below w.heap.size w wr
theorem SortI.app {w wr w1 : World} {vo vn v1 : Value} {o n m : List ByteArray} (h : SortI w wr vo vn o n) (h1 : StrRow w.heap.size w1 v1 m) (hb : Below w.heap.size w w1) (hg : wr.grownBy w1 vn.ownBlock) (hat : v1.ownBlock = vn.ownBlock ∨ ∃ b, v1.ownBlock = some b ∧ wr.heap.size ≤ b) : SortI w w1 vo v1 o m :=
  have hx := apart_app h.apart h.next h.out hg hat h1
  ⟨hx.1, h1, hx.2, hb⟩

set_option maxRecDepth 100000 in
set_option maxHeartbeats 1000000 in
theorem sort_str (w : World) (t : Value) (l : List ByteArray) (ok : Nat → Prop) (hl : Sl strE ok w t l) (hlen : l.length ≤ 1000) :
    Calls Tryz.prog 52 #[t] w fun e w' => ∃ v, e = .returned v ∧ StrRow w.heap.size w' v (sortT l) ∧ Below w.heap.size w w' := by
  obtain ⟨A, c, rfl, hc, hm⟩ := hl.form
  have HL := Lib.hid hl
  clear hl
  go_enter Tryz.func52, Tryz.ntmps52
  go_wp2
  go_loopw [3, 13] (fun v ci wr => ∃ i : Nat, i ≤ l.length ∧ ci = .int .i64 i ∧ StrRow w.heap.size wr v (sortT (l.take i)) ∧ Below w.heap.size w wr) (fun _ ci _ => l.length - (intOf ci).toNat)
  case atStart => exact ⟨0, Nat.zero_le _, rfl, own_empty w _ _ _ (Nat.le_refl _), (Below.refl _ w).alloc (Nat.le_refl _) _⟩
  case round =>
    obtain ⟨i, hi, rfl, hO, hB⟩ := hrel
    have hsz := hB.size
    have HO := Lib.hid hO
    have HB := Lib.hid hB
    clear hO hB
    by_cases hlt : i < l.length
    · obtain ⟨s, hs⟩ : ∃ s, l[i]? = some s := ⟨_, List.getElem?_eq_getElem hlt⟩
      obtain ⟨b, off, rfl, hbl, -, hcx⟩ := (HL.out.below HB.out).at_ i s hs
      have hcs : wr.cell? ⟨b, off + i, none⟩ = some (.string s) := by have := hcx 0 _ rfl; simpa [strE] using this
      have hol : (sortT (l.take i)).length ≤ 1000 := by have := sortT_length (l.take i); rw [List.length_take] at this; omega
      have HS := Lib.hid hs
      obtain ⟨o, ho⟩ : ∃ o, o = sortT (l.take i) := ⟨_, rfl⟩
      rw [← ho] at HO hol
      have HO' := Lib.hid ho
      obtain ⟨A3, c3, hv3, -⟩ := own_slice HO.out
      subst hv3
      have hsr : Hid (SortI w (wr.alloc (.cells #[] 9)) (.slice A3 o.length c3) (.slice (some ⟨wr.heap.size, 0, none⟩) 0 0) o []) := Lib.hid ⟨HO.out.below ((Below.refl _ wr).alloc (Nat.le_refl _) _), own_empty wr _ _ _ hsz, .inr fun e => by have := (own_lt HO.out wr.heap.size e.symm).2; omega, HB.out.alloc hsz _⟩
      clear hcx hs ho
      go_wp2
      obtain ⟨wo, rfl⟩ : ∃ wo : World, wo = wr := ⟨_, rfl⟩
      go_loopw [6, 7, 20] (fun v d ci wr => ∃ (j : Nat) (x : Bool × List ByteArray), j ≤ o.length ∧ ci = .int .i64 j ∧ d = .bool x.1 ∧ x = (o.take j).foldl (stepT s) (false, []) ∧ x.2.length ≤ 2 * j ∧ SortI w wr (.slice A3 o.length c3) v o x.2) (fun _ _ ci _ => o.length - (intOf ci).toNat)
      case atStart => exact ⟨0, (false, []), Nat.zero_le _, rfl, rfl, rfl, by simp, hsr.out⟩
      case round =>
        obtain ⟨j, ⟨d, n⟩, hj, rfl, rfl, hx, hnl, hI⟩ := hrel
        have HXX := Lib.hid hx
        have HI := Lib.hid hI
        have hnl : n.length ≤ 2 * j := hnl
        clear hx hI
        by_cases hlj : j < o.length
        · obtain ⟨t, ht⟩ : ∃ t, o[j]? = some t := ⟨_, List.getElem?_eq_getElem hlj⟩
          obtain ⟨b3, off3, he3, -, -, hct⟩ := HI.out.out.sl.at_ j t ht
          subst he3
          have hct' : wr.cell? ⟨b3, off3 + j, none⟩ = some (.string t) := by have := hct 0 _ rfl; simpa [strE] using this
          have HTT := Lib.hid ht
          clear hct ht
          rcases d with _ | _
          · rcases hlt' : Op.bytesLess s.toList t.toList with _ | _
            · rcases heq : (s.toList == t.toList) with _ | _
              · have hst : (false, n ++ [t]) = stepT s (false, n) t := by simp only [stepT, leS, ltS, hlt', heq]; simp
                have HST := Lib.hid hst
                clear hst
                go_wp2_with (first
                  | (at_builtin; refine wpl_app_str HI.out.next t HI.out.below HI.out.below.size (by omega) rfl (.tmp 41) (.tmp 43) rfl rfl rfl ?_; intro v2 w2 h2 hb2 hg2 hat2; have HI2 := Lib.hid (HI.out.app h2 hb2 hg2 hat2); clear h2 hb2 hg2 hat2))
                go_roundw
                case rel => exact ⟨j + 1, (false, n ++ [t]), by omega, by go_num, rfl, by rw [List.take_add_one, HTT.out, List.foldl_append, ← HXX.out]; exact HST.out, by simp only [List.length_append, List.length_cons, List.length_nil]; omega, HI2.out⟩
                case measure => simp [intOf]; omega
              · have hst : (true, n ++ [t]) = stepT s (false, n) t := by simp only [stepT, leS, ltS, hlt', heq]; simp
                have HST := Lib.hid hst
                clear hst
                go_wp2_with (first
                  | (at_builtin; refine wpl_app_str HI.out.next t HI.out.below HI.out.below.size (by omega) rfl (.tmp 41) (.tmp 43) rfl rfl rfl ?_; intro v2 w2 h2 hb2 hg2 hat2; have HI2 := Lib.hid (HI.out.app h2 hb2 hg2 hat2); clear h2 hb2 hg2 hat2))
                go_roundw
                case rel => exact ⟨j + 1, (true, n ++ [t]), by omega, by go_num, rfl, by rw [List.take_add_one, HTT.out, List.foldl_append, ← HXX.out]; exact HST.out, by simp only [List.length_append, List.length_cons, List.length_nil]; omega, HI2.out⟩
                case measure => simp [intOf]; omega
            · have hst : (true, (n ++ [s]) ++ [t]) = stepT s (false, n) t := by simp only [stepT, leS, ltS, hlt']; simp
              have HST := Lib.hid hst
              clear hst
              go_wp2_with (first
                | (at_builtin; refine wpl_app_str HI.out.next s HI.out.below HI.out.below.size (by omega) rfl (.tmp 31) (.tmp 33) rfl rfl rfl ?_; intro v1 w1 h1 hb1 hg1 hat1; have HI1 := Lib.hid (HI.out.app h1 hb1 hg1 hat1); clear h1 hb1 hg1 hat1)
                | (at_builtin; refine wpl_app_str HI1.out.next t HI1.out.below HI1.out.below.size (by simp only [List.length_append, List.length_cons, List.length_nil]; omega) rfl (.tmp 41) (.tmp 43) rfl rfl rfl ?_; intro v2 w2 h2 hb2 hg2 hat2; have HI2 := Lib.hid (HI1.out.app h2 hb2 hg2 hat2); clear h2 hb2 hg2 hat2))
              go_roundw
              case rel => exact ⟨j + 1, (true, (n ++ [s]) ++ [t]), by omega, by go_num, rfl, by rw [List.take_add_one, HTT.out, List.foldl_append, ← HXX.out]; exact HST.out, by simp only [List.length_append, List.length_cons, List.length_nil]; omega, HI2.out⟩
              case measure => simp [intOf]; omega
          · have hst : (true, n ++ [t]) = stepT s (true, n) t := by simp only [stepT, leS, ltS]; simp
            have HST := Lib.hid hst
            clear hst
            go_wp2_with (first
              | (at_builtin; refine wpl_app_str HI.out.next t HI.out.below HI.out.below.size (by omega) rfl (.tmp 41) (.tmp 43) rfl rfl rfl ?_; intro v2 w2 h2 hb2 hg2 hat2; have HI2 := Lib.hid (HI.out.app h2 hb2 hg2 hat2); clear h2 hb2 hg2 hat2))
            go_roundw
            case rel => exact ⟨j + 1, (true, n ++ [t]), by omega, by go_num, rfl, by rw [List.take_add_one, HTT.out, List.foldl_append, ← HXX.out]; exact HST.out, by simp only [List.length_append, List.length_cons, List.length_nil]; omega, HI2.out⟩
            case measure => simp [intOf]; omega
        · have hjl : j = o.length := by omega
          subst hjl
          have hfin : lastT s (d, n) = insT s o := by
            have h1 := HXX.out
            rw [List.take_length] at h1
            rw [h1, fold_ins]
            rfl
          have hnew : sortT (l.take (i + 1)) = insT s o := by rw [List.take_add_one, HS.out, HO'.out, ← sortT_snoc]; rfl
          have HF := Lib.hid (hnew.trans hfin.symm)
          clear hfin hnew
          rcases d with _ | _
          · go_wp2_with (at_builtin; refine wpl_app_str HI.out.next s HI.out.below HI.out.below.size (by omega) rfl (.tmp 48) (.tmp 50) rfl rfl rfl ?_; intro v1 w1 h1 hb1 hg1 hat1; have H1 := Lib.hid h1; have HB1 := Lib.hid hb1; clear h1 hb1 hg1 hat1)
            go_roundw
            case rel => exact ⟨i + 1, by omega, by go_num, by rw [HF.out]; exact H1.out, HB1.out⟩
            case measure => simp [intOf]; omega
          · go_wp2
            go_roundw
            case rel => exact ⟨i + 1, by omega, by go_num, by rw [HF.out]; exact HI.out.next, HI.out.below⟩
            case measure => simp [intOf]; omega
    · have hin : i = l.length := by omega
      subst hin
      go_wp2
      go_ret
      exact ⟨_, rfl, by have := HO.out; rwa [List.take_length] at this, HB.out⟩
end Go.Proofs.YthpcedficlhanaaGreatDoor
namespace Go.Proofs.YthpcedficlhanaaGreatDoor
open Go.RowKit

theorem and_low (n : Int) (k : Nat) (m : Int) (hk : k ≤ 62) (hm : (BitVec.ofInt 64 m).toNat = 2 ^ k - 1) : bits .and .i64 n m = n % 2 ^ k := by
  have key : (BitVec.ofInt 64 n &&& BitVec.ofInt 64 m).toNat = (n % ((2 ^ 64 : Nat) : Int)).toNat % 2 ^ k := by
    rw [BitVec.toNat_and, BitVec.toNat_ofInt, hm, Nat.and_two_pow_sub_one_eq_mod]
  show IntKind.i64.wrap ((BitVec.ofInt 64 n &&& BitVec.ofInt 64 m).toNat : Nat) = n % 2 ^ k
  have hp : (2 : Nat) ^ k ∣ 2 ^ 64 := Nat.pow_dvd_pow 2 (by omega)
  have hlt : (n % ((2 ^ 64 : Nat) : Int)).toNat % 2 ^ k < 2 ^ k := Nat.mod_lt _ (Nat.two_pow_pos k)
  have hle : (2 : Nat) ^ k ≤ 2 ^ 62 := Nat.pow_le_pow_right (by decide) hk
  rw [key, IntKind.wrap_i64]
  have h0 : 0 ≤ n % ((2 ^ 64 : Nat) : Int) := Int.emod_nonneg _ (by decide)
  have h1 : (((n % ((2 ^ 64 : Nat) : Int)).toNat % 2 ^ k : Nat) : Int) = n % 2 ^ k := by
    rw [Int.natCast_emod, Int.toNat_of_nonneg h0]
    have : ((2 ^ k : Nat) : Int) = (2 : Int) ^ k := by simp
    rw [this]
    exact Int.emod_emod_of_dvd n (by rw [← this]; exact Int.natCast_dvd_natCast.2 hp)
  rw [h1]
  have h2 : 0 ≤ n % (2 : Int) ^ k := by rw [← h1]; omega
  have h3 : n % (2 : Int) ^ k < 4611686018427387904 := by
    rw [← h1]
    have : (2 : Nat) ^ 62 = 4611686018427387904 := by decide
    omega
  omega

def fewH (h : RH) : RH := { h with ticket := cutS h.ticket 10, parents := (h.parents.take 7).map fun s => (idOf s).1 }
def LRH.arr (h : RH) (v : Value) : Array Value := #[.int .i64 h.height, .int .i64 h.miner, .string h.ticket, .int .i64 h.wins, .int .u64 h.power, v, .int .i64 h.salt]
def zRH : Array Value := #[.int .i64 0, .int .i64 0, .string ⟨#[]⟩, .int .i64 0, .int .u64 0, .slice none 0 0, .int .i64 0]
/-- What holds at the loop's head. -/
structure FewR (w wr : World) (h : RH) (vp : Value) (i : Nat) (v : Value) : Prop where
  row : StrRow w.heap.size wr v ((h.parents.take i).map fun s => (idOf s).1)
  cell : wr.heap[w.heap.size]? = some (.cells (LRH.arr { h with ticket := cutS h.ticket 10 } vp) 53 (0, 0))
  res : wr.heap[w.heap.size + 1]? = some (.cells zRH 53 (0, 0))
  far : ∀ k, v.ownBlock = some k → w.heap.size + 2 ≤ k
  below : Below w.heap.size w wr

theorem FewR.size {w wr : World} {h : RH} {vp v : Value} {i : Nat} (H : FewR w wr h vp i v) : w.heap.size + 1 < wr.heap.size := (Array.getElem?_eq_some_iff.1 H.res).1
theorem FewR.under {w wr w' : World} {h : RH} {vp v : Value} {i : Nat} (H : FewR w wr h vp i v) (hb : Below wr.heap.size wr w') : FewR w w' h vp i v :=
  ⟨H.row.below hb, (hb.block _ (Nat.lt_of_succ_lt H.size)).trans H.cell, (hb.block _ H.size).trans H.res, H.far, H.below.trans (hb.mono H.below.size)⟩
theorem FewR.next {w W w1 : World} {h : RH} {vp v v1 : Value} {i : Nat} (H : FewR w W h vp i v) (s : ByteArray) (hs : h.parents[i]? = some s) (h1 : StrRow w.heap.size w1 v1 (((h.parents.take i).map fun s => (idOf s).1) ++ [(idOf s).1])) (hb : Below w.heap.size w w1) (hg : W.grownBy w1 v.ownBlock) (hat : v1.ownBlock = v.ownBlock ∨ ∃ b, v1.ownBlock = some b ∧ W.heap.size ≤ b) : FewR w w1 h vp (i + 1) v1 where
  row := by rw [List.take_add_one, hs, List.map_append]; exact h1
  cell := (hg.block _ (Nat.lt_of_succ_lt H.size) (fun e => by have := H.far _ e.symm; omega)).trans H.cell
  res := (hg.block _ H.size (fun e => by have := H.far _ e.symm; omega)).trans H.res
  far := fun k hk => by
    rcases hat with he | ⟨b, he, hle⟩
    · exact H.far k (by rw [← he]; exact hk)
    · rw [he] at hk; injection hk with hk; have := H.size; omega
  below := hb

set_option maxRecDepth 100000 in
set_option maxHeartbeats 1000000 in
theorem few_any (w : World) (x : LRH) (ok : Nat → Prop) (hx : SlW strE ok w x.v x.h.parents) (ht : x.h.ticket.size ≤ 140737488351232) :
    Calls Tryz.prog 146 #[.agg x.cells.toArray] w fun e w' => ∃ y : LRH, y.h = fewH x.h ∧ e = .returned (.agg y.cells.toArray) ∧ y.At (fun k => w.heap.size ≤ k) w' ∧ Below w.heap.size w w' := by
  obtain ⟨⟨height, miner, ticket, wins, power, parents, salt⟩, A, c⟩ := x
  have HX : Hid (SlW strE ok w (.slice A parents.length c) parents) := Lib.hid hx
  obtain ⟨-, hc, hm⟩ := HX.out.len
  have ht' : ticket.size ≤ 140737488351232 := ht
  clear hx ht
  change Calls _ _ #[.agg #[.int .i64 height, .int .i64 miner, .string ticket, .int .i64 wins, .int .u64 power, .slice A parents.length c, .int .i64 salt]] w _
  go_enter Tryz.func146, Tryz.ntmps146
  go_wp2_with (go_at_call 56; refine (cut_any _ ticket 10 (by decide) ht').mono ?_; rintro e w1 ⟨rfl, rfl⟩)
  have hR0 : FewR w ((w.alloc (.cells (LRH.arr ⟨height, miner, cutS ticket 10, wins, power, parents, salt⟩ (.slice A parents.length c)) 53)).alloc (.cells zRH 53)) ⟨height, miner, ticket, wins, power, parents, salt⟩ (.slice A parents.length c) 0 (.slice none 0 0) :=
    ⟨World.ownsRow_nil _ _ _ _, by rw [heap_alloc_if, if_neg (by simp), heap_alloc_if, if_pos rfl], by rw [heap_alloc_if, if_pos (by simp)], fun k hk => by simp [Value.ownBlock] at hk, ((Below.refl _ w).alloc (Nat.le_refl _) _).alloc (by simp) _⟩
  have HR0 := Lib.hid hR0
  clear hR0
  go_loopw [3, 4] (fun v ci wr => ∃ i : Nat, i ≤ parents.length ∧ i ≤ 7 ∧ ci = .int .i64 i ∧ FewR w wr ⟨height, miner, ticket, wins, power, parents, salt⟩ (.slice A parents.length c) i v) (fun _ ci _ => parents.length - (intOf ci).toNat)
  case atStart => exact ⟨0, Nat.zero_le _, by omega, rfl, HR0.out⟩
  case round =>
    obtain ⟨i, hi, hi7, rfl, hR⟩ := hrel
    have HR := Lib.hid hR
    have hc5 : wr.cell? ⟨w.heap.size, 5, none⟩ = some (.slice A parents.length c) := cell_block hR.cell rfl
    clear hR
    by_cases hlt : i < parents.length ∧ i < 7
    · obtain ⟨hlt, hl7⟩ := hlt
      obtain ⟨s, hs⟩ : ∃ s, parents[i]? = some s := ⟨_, List.getElem?_eq_getElem hlt⟩
      obtain ⟨b, off, rfl, hbl, -, hcx⟩ := (HX.out.below HR.out.below).at_ i s hs
      have hcs : wr.cell? ⟨b, off + i, none⟩ = some (.string s) := by have := hcx 0 _ rfl; simpa [strE] using this
      have HS := Lib.hid hs
      have hg7 : decide ((i : Int) < 7) = true := by simp; omega
      have hll : ((parents.take i).map fun s => (idOf s).1).length ≤ 1000000 := by rw [List.length_map, List.length_take]; omega
      clear hcx hs
      go_wp2_with (first
        | (go_at_call 109; refine (idOf_any _ s).mono ?_; rintro e w4 ⟨rfl, hb4⟩; have HB4 := Lib.hid hb4; have hcv := conv_id (w4.alloc (.cells (idc (idOf s)).toArray 34)) w4.heap.size 0 (idOf s) (bytesAt_new w4 _ _); have HB5 : Hid (Below wr.heap.size wr (w4.alloc (.cells (idc (idOf s)).toArray 34))) := Lib.hid (hb4.alloc hb4.size _); clear hb4)
        | (refine wpl_store_new rfl 34 _ _ rfl rfl (idc (idOf s)) rfl _ _ (by rw [idc_length]; rfl) (idE.one (idOf s)) (by rw [idc_length]; exact id_size) ?_)
        | (at_builtin; refine wpl_app_str (HR.out.under HB5.out).row (idOf s).1 (HR.out.under HB5.out).below (HR.out.under HB5.out).below.size hll rfl (.tmp 27) (.tmp 30) rfl rfl (congrArg (fun k => Value.slice (some ⟨k, 0, none⟩) 1 1) (World.size_alloc w4 _).symm) ?_; intro v1 w6 h1 hb1 hg1 hat1; have HR6 := Lib.hid ((HR.out.under HB5.out).next s HS.out h1 hb1 hg1 hat1); clear h1 hb1 hg1 hat1))
      go_roundw
      case rel => exact ⟨i + 1, by omega, by omega, by go_num, HR6.out⟩
      case measure => simp [intOf]; omega
    · have hpt : parents.take i = parents.take 7 := by
        by_cases h7 : i = 7
        · rw [h7]
        · rw [List.take_of_length_le (by omega), List.take_of_length_le (by omega)]
      obtain ⟨P7, hP7⟩ : ∃ P7, P7 = (parents.take 7).map fun s => (idOf s).1 := ⟨_, rfl⟩
      have HP7 := Lib.hid hP7
      have hrow : StrRow w.heap.size wr u3 P7 := by rw [hP7, ← hpt]; exact HR.out.row
      obtain ⟨A3, c3, hv3, -⟩ := own_slice hrow
      subst hv3
      have hf5 : wr.frozen? ⟨w.heap.size, 5, none⟩ = false := Lib.frozen_of_heap HR.out.cell 5
      have hgs : (wr.setCell ⟨w.heap.size, 5, none⟩ (.slice A3 P7.length c3)).heap[w.heap.size]? = some (.cells (LRH.arr ⟨height, miner, cutS ticket 10, wins, power, parents, salt⟩ (.slice A3 P7.length c3)) 53 (0, 0)) := heap_setCell_at wr w.heap.size 5 _ _ _ _ HR.out.cell
      have HY : Hid (∀ j u, (LRH.cells ⟨⟨height, miner, cutS ticket 10, wins, power, P7, salt⟩, A3, c3⟩)[j]? = some u → (wr.setCell ⟨w.heap.size, 5, none⟩ (.slice A3 P7.length c3)).cell? ⟨w.heap.size, 0 + j, none⟩ = some u) := Lib.hid fun j u hu => by
        rw [Nat.zero_add]
        exact cell_block hgs (by simpa [LRH.arr, LRH.cells, LRH.v] using hu)
      have HRS : Hid ((wr.setCell ⟨w.heap.size, 5, none⟩ (.slice A3 P7.length c3)).heap[w.heap.size + 1]? = some (.cells zRH 53 (0, 0))) := Lib.hid ((Below.heap_setCell _ _ _ _ (by simp)).trans HR.out.res)
      have HBS : Hid (Below w.heap.size w (wr.setCell ⟨w.heap.size, 5, none⟩ (.slice A3 P7.length c3))) := Lib.hid (HR.out.below.setCell (p := ⟨w.heap.size, 5, none⟩) (Nat.le_refl _) _)
      have HSL : Hid (Sl strE (fun k => w.heap.size + 2 ≤ k) (wr.setCell ⟨w.heap.size, 5, none⟩ (.slice A3 P7.length c3)) (.slice A3 P7.length c3) P7) := Lib.hid ((hrow.sl.mono fun k hk => HR.out.far k hk.2.symm).fr ((Fr.refl _ wr).setCell (p := ⟨w.heap.size, 5, none⟩) (fun h => by have h : w.heap.size + 2 ≤ w.heap.size := h; omega) _))
      clear hgs hrow hpt hP7
      have harms : i < parents.length → ¬ i < 7 := fun h h' => hlt ⟨h, h'⟩
      have HAR := Lib.hid harms
      clear hlt harms
      by_cases hl2 : i < parents.length
      · have h7 : decide ((i : Int) < 7) = false := by have := HAR.out hl2; simp; omega
        go_wp2_with (first
          | (refine wpl_load rfl 53 (.tmp 1) rfl w.heap.size 0 rfl (LRH.cells ⟨⟨height, miner, cutS ticket 10, wins, power, P7, salt⟩, A3, c3⟩) _ HY.out Tryz.underlying53 rfl rh_size ?_)
          | (refine wpl_store_row rfl 53 (.tmp 2) (.tmp 34) rfl (w.heap.size + 1) rfl (LRH.cells ⟨⟨height, miner, cutS ticket 10, wins, power, P7, salt⟩, A3, c3⟩) rfl _ 53 HRS.out rfl (lrhE.one _) rh_size ?_))
        (try simp only [Exit.inBlock, Exit.then])
        refine bodyPost_ret (results_cell_row rfl _ _ (w.heap.size + 1) 53 (LRH.cells ⟨⟨height, miner, cutS ticket 10, wins, power, P7, salt⟩, A3, c3⟩).toArray (0, 0) _ rfl (setRow_heap _ (w.heap.size + 1) _ _ _ _ HRS.out) Tryz.underlying53 rfl rh_size) rfl ?_
        refine ⟨⟨⟨height, miner, cutS ticket 10, wins, power, P7, salt⟩, A3, c3⟩, by rw [HP7.out]; rfl, rfl, ?_, below_setRow HBS.out (Nat.le_succ _) _⟩
        exact (HSL.out.fr (ok := fun k => w.heap.size + 2 ≤ k) ⟨by simp, fun k hk _ => heap_setRow_ne _ _ _ _ (by omega)⟩).mono fun k hk => by omega
      · have h7 : True := trivial
        go_wp2_with (first
          | (refine wpl_load rfl 53 (.tmp 1) rfl w.heap.size 0 rfl (LRH.cells ⟨⟨height, miner, cutS ticket 10, wins, power, P7, salt⟩, A3, c3⟩) _ HY.out Tryz.underlying53 rfl rh_size ?_)
          | (refine wpl_store_row rfl 53 (.tmp 2) (.tmp 34) rfl (w.heap.size + 1) rfl (LRH.cells ⟨⟨height, miner, cutS ticket 10, wins, power, P7, salt⟩, A3, c3⟩) rfl _ 53 HRS.out rfl (lrhE.one _) rh_size ?_))
        (try simp only [Exit.inBlock, Exit.then])
        refine bodyPost_ret (results_cell_row rfl _ _ (w.heap.size + 1) 53 (LRH.cells ⟨⟨height, miner, cutS ticket 10, wins, power, P7, salt⟩, A3, c3⟩).toArray (0, 0) _ rfl (setRow_heap _ (w.heap.size + 1) _ _ _ _ HRS.out) Tryz.underlying53 rfl rh_size) rfl ?_
        refine ⟨⟨⟨height, miner, cutS ticket 10, wins, power, P7, salt⟩, A3, c3⟩, by rw [HP7.out]; rfl, rfl, ?_, below_setRow HBS.out (Nat.le_succ _) _⟩
        exact (HSL.out.fr (ok := fun k => w.heap.size + 2 ≤ k) ⟨by simp, fun k hk _ => heap_setRow_ne _ _ _ _ (by omega)⟩).mono fun k hk => by omega
end Go.Proofs.YthpcedficlhanaaGreatDoor
namespace Go.Proofs.YthpcedficlhanaaGreatDoor
open Go.RowKit
section
variable {P : Program} {ops : Array Oper} {rest : List Oper} {o : Oper} {a : Act} {w : World} {Q : Exit → Act → World → Prop}
theorem lin_ (N : Option Tmp) (hgd : o.guard = none) (hN : o.dst = N) {v : Value} (hx : (execOp a.eval o).run P w = .ok (.value v) w) {a' : Act} (ha : a.put N v = a')
    (hK : wpList P ops Q rest a' w) : wpList P ops Q (o :: rest) a w := by
  subst ha
  subst hN
  exact wpList_plain hgd fun K hK' => by
    unfold Oper.wp
    rw [hx]
    exact hK' _ _ hK
theorem linS_ (hgd : o.guard = none) (hN : o.dst = none) {w' : World} (hx : (execOp a.eval o).run P w = .ok .skip w')
    (hK : wpList P ops Q rest a w') : wpList P ops Q (o :: rest) a w :=
  wpList_plain hgd fun K hK' => by
    unfold Oper.wp
    rw [hx]
    exact hK' _ _ (by rw [hN]; exact hK)
end
end Go.Proofs.YthpcedficlhanaaGreatDoor
