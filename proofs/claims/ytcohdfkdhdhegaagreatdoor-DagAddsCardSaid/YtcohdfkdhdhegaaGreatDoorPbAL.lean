/- coxswainref05.Sort: the walk. coxswainlaw05.Few, Name. Regions in their order, by hand. coxswainlaw08.Right; coxswainlaw05.Name of 0. coxswainlaw08.Beside. A row of one's own: several elements appended, one element set. A row and the same row in another order. -/
import Derived.Test.YtcohdfkdhdhegaaGreatDoorPbAG
import Derived.Test.YtcohdfkdhdhegaaGreatDoorPbAI
import Derived.Test.YtcohdfkdhdhegaaGreatDoorPbAK
import Derived.Laws.BitsLemmas
import Derived.Lib.MinMax
import Derived.Deep.CutRange
namespace Go.Proofs.YtcohdfkdhdhegaaGreatDoor
open Go.RowKit

def strs (l : List ByteArray) : List Value := l.map Value.string
theorem own_empty (w : World) (base : Nat) (T : TypeId) (k : Nat) (hb : base ≤ w.heap.size) : (w.alloc (.cells #[] T)).ownsRow base T k (.slice (some ⟨w.heap.size, 0, none⟩) 0 0) 0 [] :=
  ⟨by simp, .inr ⟨w.heap.size, 0, #[], rfl, hb, heap_alloc_new w _, Nat.le_refl _, by simp [maxLen], by simp, by simp⟩⟩
theorem str_info : (Tryz.prog.info? 9).map (fun i => (i.zero, i.size, i.bytes)) = some (some (.string ⟨#[]⟩), 1, 16) := by kernel_rfl
/-- A row of texts of the call's own. -/
def StrRow (base : Nat) (w : World) (v : Value) (l : List ByteArray) : Prop := w.ownsRow base 9 1 v l.length (strs l)
theorem StrRow.sl {base : Nat} {w : World} {v : Value} {l : List ByteArray} (h : StrRow base w v l) : Sl strE (fun k => base ≤ k ∧ some k = v.ownBlock) w v l :=
  (Sl.of_own (E := strE) (by rw [strE_flat]; exact h)).mono fun k hk => ⟨(own_lt h k hk).1, hk.symm⟩
theorem StrRow.below {base : Nat} {w w' : World} {v : Value} {l : List ByteArray} (h : StrRow base w v l) (hb : Below w.heap.size w w') : StrRow base w' v l := own_below h hb
section
variable {ops : Array Oper} {rest : List Oper} {o : Oper} {a : Act} {Q : Exit → Act → World → Prop}
theorem wpl_app_str {w0 W : World} {base : Nat} {u : Value} {l : List ByteArray} (h : StrRow base W u l) (t : ByteArray) (hB : Below base w0 W) (hb : base ≤ W.heap.size) (hlen : l.length ≤ 1000000)
    (hgd : o.guard = none) (s x : Operand) (ho : o.op = .call { callee := .builtin .append, args := #[s, x], argTypes := #[27, 27] }) (hs' : a.eval s = u) (hx : a.eval x = .slice (some ⟨W.heap.size, 0, none⟩) 1 1)
    (hK : ∀ v1 w1, StrRow base w1 v1 (l ++ [t]) → Below base w0 w1 → W.grownBy w1 u.ownBlock → (v1.ownBlock = u.ownBlock ∨ ∃ b, v1.ownBlock = some b ∧ W.heap.size ≤ b) → wpList Tryz.prog ops Q rest (a.put o.dst v1) w1) : wpList Tryz.prog ops Q (o :: rest) a (W.alloc (.cells #[.string t] 9)) := by
  refine wpl_app1 #[.string t] base hgd s x 27 9 _ 1 16 ho Tryz.underlying27 str_info rfl (by decide) (by decide) u l.length _ hs' hx rfl (by simp [Value.oneCell']) h hb (by omega) ?_
  intro v1 w1 ho1 hg1 hat1
  exact hK v1 w1 (by rw [StrRow, strs, List.map_append, List.length_append]; exact ho1) (below_grown_own hB h (Nat.le_refl _) hb hg1) hg1 hat1
end
/-- What holds in the inner loop. -/
structure SortI (w wr : World) (vo vn : Value) (o n : List ByteArray) : Prop where
  out : StrRow w.heap.size wr vo o
  next : StrRow w.heap.size wr vn n
  apart : Apart vn vo
  below : Below w.heap.size w wr
theorem SortI.app {w wr w1 : World} {vo vn v1 : Value} {o n m : List ByteArray} (h : SortI w wr vo vn o n) (h1 : StrRow w.heap.size w1 v1 m) (hb : Below w.heap.size w w1) (hg : wr.grownBy w1 vn.ownBlock) (hat : v1.ownBlock = vn.ownBlock ∨ ∃ b, v1.ownBlock = some b ∧ wr.heap.size ≤ b) : SortI w w1 vo v1 o m :=
  have hx := apart_app h.apart h.next h.out hg hat h1
  ⟨hx.1, h1, hx.2, hb⟩

set_option maxRecDepth 100000 in
set_option maxHeartbeats 1000000 in
theorem sort_str (w : World) (t : Value) (l : List ByteArray) (ok : Nat → Prop) (hl : Sl strE ok w t l) (hlen : l.length ≤ 1000) :
    Calls Tryz.prog 24 #[t] w fun e w' => ∃ v, e = .returned v ∧ StrRow w.heap.size w' v (sortT l) ∧ Below w.heap.size w w' := by
  obtain ⟨A, c, rfl, hc, hm⟩ := hl.form
  have HL := Lib.hid hl
  clear hl
  go_enter Tryz.func24, Tryz.ntmps24
  go_wp2
  go_loopw [3, 13] (fun v ci wr => ∃ i : Nat, i ≤ l.length ∧ ci = .int .i64 i ∧ StrRow w.heap.size wr v (sortT (l.take i)) ∧ Below w.heap.size w wr) (fun _ ci _ => l.length - (intOf ci).toNat)
  case atStart => exact ⟨0, Nat.zero_le _, rfl, own_empty w _ _ _ (Nat.le_refl _), (Below.refl _ w).alloc (Nat.le_refl _) _⟩
  case round =>
    obtain ⟨i, hi, rfl, hO, hB⟩ := hrel
    have hsz := hB.size
    have HO := Lib.hid hO
    have HB := Lib.hid hB
    clear hO hB
    by_cases hlt : i < l.length
    · obtain ⟨s, hs⟩ : ∃ s, l[i]? = some s := ⟨_, List.getElem?_eq_getElem hlt⟩
      obtain ⟨b, off, rfl, hbl, -, hcx⟩ := (HL.out.below HB.out).at_ i s hs
      have hcs : wr.cell? ⟨b, off + i, none⟩ = some (.string s) := by have := hcx 0 _ rfl; simpa [strE] using this
      have hol : (sortT (l.take i)).length ≤ 1000 := by have := sortT_length (l.take i); rw [List.length_take] at this; omega
      have HS := Lib.hid hs
      obtain ⟨o, ho⟩ : ∃ o, o = sortT (l.take i) := ⟨_, rfl⟩
      rw [← ho] at HO hol
      have HO' := Lib.hid ho
      obtain ⟨A3, c3, hv3, -⟩ := own_slice HO.out
      subst hv3
      have hsr : Hid (SortI w (wr.alloc (.cells #[] 9)) (.slice A3 o.length c3) (.slice (some ⟨wr.heap.size, 0, none⟩) 0 0) o []) := Lib.hid ⟨HO.out.below ((Below.refl _ wr).alloc (Nat.le_refl _) _), own_empty wr _ _ _ hsz, .inr fun e => by have := (own_lt HO.out wr.heap.size e.symm).2; omega, HB.out.alloc hsz _⟩
      clear hcx hs ho
      go_wp2
      obtain ⟨wo, rfl⟩ : ∃ wo : World, wo = wr := ⟨_, rfl⟩
      go_loopw [6, 7, 20] (fun v d ci wr => ∃ (j : Nat) (x : Bool × List ByteArray), j ≤ o.length ∧ ci = .int .i64 j ∧ d = .bool x.1 ∧ x = (o.take j).foldl (stepT s) (false, []) ∧ x.2.length ≤ 2 * j ∧ SortI w wr (.slice A3 o.length c3) v o x.2) (fun _ _ ci _ => o.length - (intOf ci).toNat)
      case atStart => exact ⟨0, (false, []), Nat.zero_le _, rfl, rfl, rfl, by simp, hsr.out⟩
      case round =>
        obtain ⟨j, ⟨d, n⟩, hj, rfl, rfl, hx, hnl, hI⟩ := hrel
        have HXX := Lib.hid hx
        have HI := Lib.hid hI
        have hnl : n.length ≤ 2 * j := hnl
        clear hx hI
        by_cases hlj : j < o.length
        · obtain ⟨t, ht⟩ : ∃ t, o[j]? = some t := ⟨_, List.getElem?_eq_getElem hlj⟩
          obtain ⟨b3, off3, he3, -, -, hct⟩ := HI.out.out.sl.at_ j t ht
          subst he3
          have hct' : wr.cell? ⟨b3, off3 + j, none⟩ = some (.string t) := by have := hct 0 _ rfl; simpa [strE] using this
          have HTT := Lib.hid ht
          clear hct ht
          rcases d with _ | _
          · rcases hlt' : Op.bytesLess s.toList t.toList with _ | _
            · rcases heq : (s.toList == t.toList) with _ | _
              · have hst : (false, n ++ [t]) = stepT s (false, n) t := by simp only [stepT, leS, ltS, hlt', heq]; simp
                have HST := Lib.hid hst
                clear hst
                go_wp2_with (first
                  | (at_builtin; refine wpl_app_str HI.out.next t HI.out.below HI.out.below.size (by omega) rfl (.tmp 41) (.tmp 43) rfl rfl rfl ?_; intro v2 w2 h2 hb2 hg2 hat2; have HI2 := Lib.hid (HI.out.app h2 hb2 hg2 hat2); clear h2 hb2 hg2 hat2))
                go_roundw
                case rel => exact ⟨j + 1, (false, n ++ [t]), by omega, by go_num, rfl, by rw [List.take_add_one, HTT.out, List.foldl_append, ← HXX.out]; exact HST.out, by simp only [List.length_append, List.length_cons, List.length_nil]; omega, HI2.out⟩
                case measure => simp [intOf]; omega
              · have hst : (true, n ++ [t]) = stepT s (false, n) t := by simp only [stepT, leS, ltS, hlt', heq]; simp
                have HST := Lib.hid hst
                clear hst
                go_wp2_with (first
                  | (at_builtin; refine wpl_app_str HI.out.next t HI.out.below HI.out.below.size (by omega) rfl (.tmp 41) (.tmp 43) rfl rfl rfl ?_; intro v2 w2 h2 hb2 hg2 hat2; have HI2 := Lib.hid (HI.out.app h2 hb2 hg2 hat2); clear h2 hb2 hg2 hat2))
                go_roundw
                case rel => exact ⟨j + 1, (true, n ++ [t]), by omega, by go_num, rfl, by rw [List.take_add_one, HTT.out, List.foldl_append, ← HXX.out]; exact HST.out, by simp only [List.length_append, List.length_cons, List.length_nil]; omega, HI2.out⟩
                case measure => simp [intOf]; omega
            · have hst : (true, (n ++ [s]) ++ [t]) = stepT s (false, n) t := by simp only [stepT, leS, ltS, hlt']; simp
              have HST := Lib.hid hst
              clear hst
              go_wp2_with (first
                | (at_builtin; refine wpl_app_str HI.out.next s HI.out.below HI.out.below.size (by omega) rfl (.tmp 31) (.tmp 33) rfl rfl rfl ?_; intro v1 w1 h1 hb1 hg1 hat1; have HI1 := Lib.hid (HI.out.app h1 hb1 hg1 hat1); clear h1 hb1 hg1 hat1)
                | (at_builtin; refine wpl_app_str HI1.out.next t HI1.out.below HI1.out.below.size (by simp only [List.length_append, List.length_cons, List.length_nil]; omega) rfl (.tmp 41) (.tmp 43) rfl rfl rfl ?_; intro v2 w2 h2 hb2 hg2 hat2; have HI2 := Lib.hid (HI1.out.app h2 hb2 hg2 hat2); clear h2 hb2 hg2 hat2))
              go_roundw
              case rel => exact ⟨j + 1, (true, (n ++ [s]) ++ [t]), by omega, by go_num, rfl, by rw [List.take_add_one, HTT.out, List.foldl_append, ← HXX.out]; exact HST.out, by simp only [List.length_append, List.length_cons, List.length_nil]; omega, HI2.out⟩
              case measure => simp [intOf]; omega
          · have hst : (true, n ++ [t]) = stepT s (true, n) t := by simp only [stepT, leS, ltS]; simp
            have HST := Lib.hid hst
            clear hst
            go_wp2_with (first
              | (at_builtin; refine wpl_app_str HI.out.next t HI.out.below HI.out.below.size (by omega) rfl (.tmp 41) (.tmp 43) rfl rfl rfl ?_; intro v2 w2 h2 hb2 hg2 hat2; have HI2 := Lib.hid (HI.out.app h2 hb2 hg2 hat2); clear h2 hb2 hg2 hat2))
            go_roundw
            case rel => exact ⟨j + 1, (true, n ++ [t]), by omega, by go_num, rfl, by rw [List.take_add_one, HTT.out, List.foldl_append, ← HXX.out]; exact HST.out, by simp only [List.length_append, List.length_cons, List.length_nil]; omega, HI2.out⟩
            case measure => simp [intOf]; omega
        · have hjl : j = o.length := by omega
          subst hjl
          have hfin : lastT s (d, n) = insT s o := by
            have h1 := HXX.out
            rw [List.take_length] at h1
            rw [h1, fold_ins]
            rfl
          have hnew : sortT (l.take (i + 1)) = insT s o := by rw [List.take_add_one, HS.out, HO'.out, ← sortT_snoc]; rfl
          have HF := Lib.hid (hnew.trans hfin.symm)
          clear hfin hnew
          rcases d with _ | _
          · go_wp2_with (at_builtin; refine wpl_app_str HI.out.next s HI.out.below HI.out.below.size (by omega) rfl (.tmp 48) (.tmp 50) rfl rfl rfl ?_; intro v1 w1 h1 hb1 hg1 hat1; have H1 := Lib.hid h1; have HB1 := Lib.hid hb1; clear h1 hb1 hg1 hat1)
            go_roundw
            case rel => exact ⟨i + 1, by omega, by go_num, by rw [HF.out]; exact H1.out, HB1.out⟩
            case measure => simp [intOf]; omega
          · go_wp2
            go_roundw
            case rel => exact ⟨i + 1, by omega, by go_num, by rw [HF.out]; exact HI.out.next, HI.out.below⟩
            case measure => simp [intOf]; omega
    · have hin : i = l.length := by omega
      subst hin
      go_wp2
      go_ret
      exact ⟨_, rfl, by have := HO.out; rwa [List.take_length] at this, HB.out⟩
end Go.Proofs.YtcohdfkdhdhegaaGreatDoor
namespace Go.Proofs.YtcohdfkdhdhegaaGreatDoor
open Go.RowKit

theorem and_low (n : Int) (k : Nat) (m : Int) (hk : k ≤ 62) (hm : (BitVec.ofInt 64 m).toNat = 2 ^ k - 1) : bits .and .i64 n m = n % 2 ^ k := by
  have key : (BitVec.ofInt 64 n &&& BitVec.ofInt 64 m).toNat = (n % ((2 ^ 64 : Nat) : Int)).toNat % 2 ^ k := by
    rw [BitVec.toNat_and, BitVec.toNat_ofInt, hm, Nat.and_two_pow_sub_one_eq_mod]
  show IntKind.i64.wrap ((BitVec.ofInt 64 n &&& BitVec.ofInt 64 m).toNat : Nat) = n % 2 ^ k
  have hp : (2 : Nat) ^ k ∣ 2 ^ 64 := Nat.pow_dvd_pow 2 (by omega)
  have hlt : (n % ((2 ^ 64 : Nat) : Int)).toNat % 2 ^ k < 2 ^ k := Nat.mod_lt _ (Nat.two_pow_pos k)
  have hle : (2 : Nat) ^ k ≤ 2 ^ 62 := Nat.pow_le_pow_right (by decide) hk
  rw [key, IntKind.wrap_i64]
  have h0 : 0 ≤ n % ((2 ^ 64 : Nat) : Int) := Int.emod_nonneg _ (by decide)
  have h1 : (((n % ((2 ^ 64 : Nat) : Int)).toNat % 2 ^ k : Nat) : Int) = n % 2 ^ k := by
    rw [Int.natCast_emod, Int.toNat_of_nonneg h0]
    have : ((2 ^ k : Nat) : Int) = (2 : Int) ^ k := by simp
    rw [this]
    exact Int.emod_emod_of_dvd n (by rw [← this]; exact Int.natCast_dvd_natCast.2 hp)
  rw [h1]
  have h2 : 0 ≤ n % (2 : Int) ^ k := by rw [← h1]; omega
  have h3 : n % (2 : Int) ^ k < 4611686018427387904 := by
    rw [← h1]
    have : (2 : Nat) ^ 62 = 4611686018427387904 := by decide
    omega
  omega

def fewH (h : RH) : RH := { h with ticket := cutS h.ticket 10, parents := (h.parents.take 7).map fun s => (idOf s).1 }
def LRH.arr (h : RH) (v : Value) : Array Value := #[.int .i64 h.height, .int .i64 h.miner, .string h.ticket, .int .i64 h.wins, .int .u64 h.power, v, .int .i64 h.salt]
def zRH : Array Value := #[.int .i64 0, .int .i64 0, .string ⟨#[]⟩, .int .i64 0, .int .u64 0, .slice none 0 0, .int .i64 0]
/-- What holds at the loop's head. -/
structure FewR (w wr : World) (h : RH) (vp : Value) (i : Nat) (v : Value) : Prop where
  row : StrRow w.heap.size wr v ((h.parents.take i).map fun s => (idOf s).1)
  cell : wr.heap[w.heap.size]? = some (.cells (LRH.arr { h with ticket := cutS h.ticket 10 } vp) 29 (0, 0))
  res : wr.heap[w.heap.size + 1]? = some (.cells zRH 29 (0, 0))
  far : ∀ k, v.ownBlock = some k → w.heap.size + 2 ≤ k
  below : Below w.heap.size w wr

theorem FewR.size {w wr : World} {h : RH} {vp v : Value} {i : Nat} (H : FewR w wr h vp i v) : w.heap.size + 1 < wr.heap.size := (Array.getElem?_eq_some_iff.1 H.res).1
theorem FewR.under {w wr w' : World} {h : RH} {vp v : Value} {i : Nat} (H : FewR w wr h vp i v) (hb : Below wr.heap.size wr w') : FewR w w' h vp i v :=
  ⟨H.row.below hb, (hb.block _ (Nat.lt_of_succ_lt H.size)).trans H.cell, (hb.block _ H.size).trans H.res, H.far, H.below.trans (hb.mono H.below.size)⟩
theorem FewR.next {w W w1 : World} {h : RH} {vp v v1 : Value} {i : Nat} (H : FewR w W h vp i v) (s : ByteArray) (hs : h.parents[i]? = some s) (h1 : StrRow w.heap.size w1 v1 (((h.parents.take i).map fun s => (idOf s).1) ++ [(idOf s).1])) (hb : Below w.heap.size w w1) (hg : W.grownBy w1 v.ownBlock) (hat : v1.ownBlock = v.ownBlock ∨ ∃ b, v1.ownBlock = some b ∧ W.heap.size ≤ b) : FewR w w1 h vp (i + 1) v1 where
  row := by rw [List.take_add_one, hs, List.map_append]; exact h1
  cell := (hg.block _ (Nat.lt_of_succ_lt H.size) (fun e => by have := H.far _ e.symm; omega)).trans H.cell
  res := (hg.block _ H.size (fun e => by have := H.far _ e.symm; omega)).trans H.res
  far := fun k hk => by
    rcases hat with he | ⟨b, he, hle⟩
    · exact H.far k (by rw [← he]; exact hk)
    · rw [he] at hk; injection hk with hk; have := H.size; omega
  below := hb

set_option maxRecDepth 100000 in
set_option maxHeartbeats 1000000 in
theorem few_any (w : World) (x : LRH) (ok : Nat → Prop) (hx : SlW strE ok w x.v x.h.parents) (ht : x.h.ticket.size ≤ 140737488351232) :
    Calls Tryz.prog 136 #[.agg x.cells.toArray] w fun e w' => ∃ y : LRH, y.h = fewH x.h ∧ e = .returned (.agg y.cells.toArray) ∧ y.At (fun k => w.heap.size ≤ k) w' ∧ Below w.heap.size w w' := by
  obtain ⟨⟨height, miner, ticket, wins, power, parents, salt⟩, A, c⟩ := x
  have HX : Hid (SlW strE ok w (.slice A parents.length c) parents) := Lib.hid hx
  obtain ⟨-, hc, hm⟩ := HX.out.len
  have ht' : ticket.size ≤ 140737488351232 := ht
  clear hx ht
  change Calls _ _ #[.agg #[.int .i64 height, .int .i64 miner, .string ticket, .int .i64 wins, .int .u64 power, .slice A parents.length c, .int .i64 salt]] w _
  go_enter Tryz.func136, Tryz.ntmps136
  go_wp2_with (go_at_call 31; refine (cut_any _ ticket 10 (by decide) ht').mono ?_; rintro e w1 ⟨rfl, rfl⟩)
  have hR0 : FewR w ((w.alloc (.cells (LRH.arr ⟨height, miner, cutS ticket 10, wins, power, parents, salt⟩ (.slice A parents.length c)) 29)).alloc (.cells zRH 29)) ⟨height, miner, ticket, wins, power, parents, salt⟩ (.slice A parents.length c) 0 (.slice none 0 0) :=
    ⟨World.ownsRow_nil _ _ _ _, by rw [heap_alloc_if, if_neg (by simp), heap_alloc_if, if_pos rfl], by rw [heap_alloc_if, if_pos (by simp)], fun k hk => by simp [Value.ownBlock] at hk, ((Below.refl _ w).alloc (Nat.le_refl _) _).alloc (by simp) _⟩
  have HR0 := Lib.hid hR0
  clear hR0
  go_loopw [3, 4] (fun v ci wr => ∃ i : Nat, i ≤ parents.length ∧ i ≤ 7 ∧ ci = .int .i64 i ∧ FewR w wr ⟨height, miner, ticket, wins, power, parents, salt⟩ (.slice A parents.length c) i v) (fun _ ci _ => parents.length - (intOf ci).toNat)
  case atStart => exact ⟨0, Nat.zero_le _, by omega, rfl, HR0.out⟩
  case round =>
    obtain ⟨i, hi, hi7, rfl, hR⟩ := hrel
    have HR := Lib.hid hR
    have hc5 : wr.cell? ⟨w.heap.size, 5, none⟩ = some (.slice A parents.length c) := cell_block hR.cell rfl
    clear hR
    by_cases hlt : i < parents.length ∧ i < 7
    · obtain ⟨hlt, hl7⟩ := hlt
      obtain ⟨s, hs⟩ : ∃ s, parents[i]? = some s := ⟨_, List.getElem?_eq_getElem hlt⟩
      obtain ⟨b, off, rfl, hbl, -, hcx⟩ := (HX.out.below HR.out.below).at_ i s hs
      have hcs : wr.cell? ⟨b, off + i, none⟩ = some (.string s) := by have := hcx 0 _ rfl; simpa [strE] using this
      have HS := Lib.hid hs
      have hg7 : decide ((i : Int) < 7) = true := by simp; omega
      have hll : ((parents.take i).map fun s => (idOf s).1).length ≤ 1000000 := by rw [List.length_map, List.length_take]; omega
      clear hcx hs
      go_wp2_with (first
        | (go_at_call 91; refine (idOf_any _ s).mono ?_; rintro e w4 ⟨rfl, hb4⟩; have HB4 := Lib.hid hb4; have hcv := conv_id (w4.alloc (.cells (idc (idOf s)).toArray 66)) w4.heap.size 0 (idOf s) (bytesAt_new w4 _ _); have HB5 : Hid (Below wr.heap.size wr (w4.alloc (.cells (idc (idOf s)).toArray 66))) := Lib.hid (hb4.alloc hb4.size _); clear hb4)
        | (refine wpl_store_new rfl 66 _ _ rfl rfl (idc (idOf s)) rfl _ _ (by rw [idc_length]; rfl) (idE.one (idOf s)) (by rw [idc_length]; exact id_size) ?_)
        | (at_builtin; refine wpl_app_str (HR.out.under HB5.out).row (idOf s).1 (HR.out.under HB5.out).below (HR.out.under HB5.out).below.size hll rfl (.tmp 27) (.tmp 30) rfl rfl (congrArg (fun k => Value.slice (some ⟨k, 0, none⟩) 1 1) (World.size_alloc w4 _).symm) ?_; intro v1 w6 h1 hb1 hg1 hat1; have HR6 := Lib.hid ((HR.out.under HB5.out).next s HS.out h1 hb1 hg1 hat1); clear h1 hb1 hg1 hat1))
      go_roundw
      case rel => exact ⟨i + 1, by omega, by omega, by go_num, HR6.out⟩
      case measure => simp [intOf]; omega
    · have hpt : parents.take i = parents.take 7 := by
        by_cases h7 : i = 7
        · rw [h7]
        · rw [List.take_of_length_le (by omega), List.take_of_length_le (by omega)]
      obtain ⟨P7, hP7⟩ : ∃ P7, P7 = (parents.take 7).map fun s => (idOf s).1 := ⟨_, rfl⟩
      have HP7 := Lib.hid hP7
      have hrow : StrRow w.heap.size wr u3 P7 := by rw [hP7, ← hpt]; exact HR.out.row
      obtain ⟨A3, c3, hv3, -⟩ := own_slice hrow
      subst hv3
      have hf5 : wr.frozen? ⟨w.heap.size, 5, none⟩ = false := Lib.frozen_of_heap HR.out.cell 5
      have hgs : (wr.setCell ⟨w.heap.size, 5, none⟩ (.slice A3 P7.length c3)).heap[w.heap.size]? = some (.cells (LRH.arr ⟨height, miner, cutS ticket 10, wins, power, parents, salt⟩ (.slice A3 P7.length c3)) 29 (0, 0)) := heap_setCell_at wr w.heap.size 5 _ _ _ _ HR.out.cell
      have HY : Hid (∀ j u, (LRH.cells ⟨⟨height, miner, cutS ticket 10, wins, power, P7, salt⟩, A3, c3⟩)[j]? = some u → (wr.setCell ⟨w.heap.size, 5, none⟩ (.slice A3 P7.length c3)).cell? ⟨w.heap.size, 0 + j, none⟩ = some u) := Lib.hid fun j u hu => by
        rw [Nat.zero_add]
        exact cell_block hgs (by simpa [LRH.arr, LRH.cells, LRH.v] using hu)
      have HRS : Hid ((wr.setCell ⟨w.heap.size, 5, none⟩ (.slice A3 P7.length c3)).heap[w.heap.size + 1]? = some (.cells zRH 29 (0, 0))) := Lib.hid ((Below.heap_setCell _ _ _ _ (by simp)).trans HR.out.res)
      have HBS : Hid (Below w.heap.size w (wr.setCell ⟨w.heap.size, 5, none⟩ (.slice A3 P7.length c3))) := Lib.hid (HR.out.below.setCell (p := ⟨w.heap.size, 5, none⟩) (Nat.le_refl _) _)
      have HSL : Hid (Sl strE (fun k => w.heap.size + 2 ≤ k) (wr.setCell ⟨w.heap.size, 5, none⟩ (.slice A3 P7.length c3)) (.slice A3 P7.length c3) P7) := Lib.hid ((hrow.sl.mono fun k hk => HR.out.far k hk.2.symm).fr ((Fr.refl _ wr).setCell (p := ⟨w.heap.size, 5, none⟩) (fun h => by have h : w.heap.size + 2 ≤ w.heap.size := h; omega) _))
      clear hgs hrow hpt hP7
      have harms : i < parents.length → ¬ i < 7 := fun h h' => hlt ⟨h, h'⟩
      have HAR := Lib.hid harms
      clear hlt harms
      by_cases hl2 : i < parents.length
      · have h7 : decide ((i : Int) < 7) = false := by have := HAR.out hl2; simp; omega
        go_wp2_with (first
          | (refine wpl_load rfl 29 (.tmp 1) rfl w.heap.size 0 rfl (LRH.cells ⟨⟨height, miner, cutS ticket 10, wins, power, P7, salt⟩, A3, c3⟩) _ HY.out Tryz.underlying29 rfl rh_size ?_)
          | (refine wpl_store_row rfl 29 (.tmp 2) (.tmp 34) rfl (w.heap.size + 1) rfl (LRH.cells ⟨⟨height, miner, cutS ticket 10, wins, power, P7, salt⟩, A3, c3⟩) rfl _ 29 HRS.out rfl (lrhE.one _) rh_size ?_))
        (try simp only [Exit.inBlock, Exit.then])
        refine bodyPost_ret (results_cell_row rfl _ _ (w.heap.size + 1) 29 (LRH.cells ⟨⟨height, miner, cutS ticket 10, wins, power, P7, salt⟩, A3, c3⟩).toArray (0, 0) _ rfl (setRow_heap _ (w.heap.size + 1) _ _ _ _ HRS.out) Tryz.underlying29 rfl rh_size) rfl ?_
        refine ⟨⟨⟨height, miner, cutS ticket 10, wins, power, P7, salt⟩, A3, c3⟩, by rw [HP7.out]; rfl, rfl, ?_, below_setRow HBS.out (Nat.le_succ _) _⟩
        exact (HSL.out.fr (ok := fun k => w.heap.size + 2 ≤ k) ⟨by simp, fun k hk _ => heap_setRow_ne _ _ _ _ (by omega)⟩).mono fun k hk => by omega
      · have h7 : True := trivial
        go_wp2_with (first
          | (refine wpl_load rfl 29 (.tmp 1) rfl w.heap.size 0 rfl (LRH.cells ⟨⟨height, miner, cutS ticket 10, wins, power, P7, salt⟩, A3, c3⟩) _ HY.out Tryz.underlying29 rfl rh_size ?_)
          | (refine wpl_store_row rfl 29 (.tmp 2) (.tmp 34) rfl (w.heap.size + 1) rfl (LRH.cells ⟨⟨height, miner, cutS ticket 10, wins, power, P7, salt⟩, A3, c3⟩) rfl _ 29 HRS.out rfl (lrhE.one _) rh_size ?_))
        (try simp only [Exit.inBlock, Exit.then])
        refine bodyPost_ret (results_cell_row rfl _ _ (w.heap.size + 1) 29 (LRH.cells ⟨⟨height, miner, cutS ticket 10, wins, power, P7, salt⟩, A3, c3⟩).toArray (0, 0) _ rfl (setRow_heap _ (w.heap.size + 1) _ _ _ _ HRS.out) Tryz.underlying29 rfl rh_size) rfl ?_
        refine ⟨⟨⟨height, miner, cutS ticket 10, wins, power, P7, salt⟩, A3, c3⟩, by rw [HP7.out]; rfl, rfl, ?_, below_setRow HBS.out (Nat.le_succ _) _⟩
        exact (HSL.out.fr (ok := fun k => w.heap.size + 2 ≤ k) ⟨by simp, fun k hk _ => heap_setRow_ne _ _ _ _ (by omega)⟩).mono fun k hk => by omega
end Go.Proofs.YtcohdfkdhdhegaaGreatDoor
namespace Go.Proofs.YtcohdfkdhdhegaaGreatDoor
open Go.RowKit
section
variable {P : Program} {ops : Array Oper} {rest : List Oper} {o : Oper} {a : Act} {w : World} {Q : Exit → Act → World → Prop}
end
end Go.Proofs.YtcohdfkdhdhegaaGreatDoor
namespace Go.Proofs.YtcohdfkdhdhegaaGreatDoor
open Go.RowKit

section
variable {w W : World} {h h' : RH} {v v' u : Value} {j : Nat}
variable {ops : Array Oper} {rest : List Oper} {o : Oper} {a : Act} {Q : Exit → Act → World → Prop}
end
section
variable {w W : World} {h h' : RH} {v v' u : Value} {j : Nat}
variable {ops : Array Oper} {rest : List Oper} {o : Oper} {a : Act} {Q : Exit → Act → World → Prop}
end
theorem str1_info : (Tryz.prog.info? 9).map (fun i => (i.zero, i.size, i.bytes)) = some (some (.string ⟨#[]⟩), 1, 16) := by kernel_rfl
theorem run_str1 (w : World) (s : ByteArray) : (Instr.buildSlice 27 1 #[(0, .string s)]).run Tryz.prog w = .ok (.slice (some ⟨w.heap.size, 0, none⟩) 1 1) (w.alloc (.cells #[.string s] 9)) := by
  obtain ⟨ie, hie, hzz⟩ := Option.map_eq_some_iff.1 str1_info
  simp only [Prod.mk.injEq] at hzz
  obtain ⟨h1, h2, -⟩ := hzz
  have hf := Great.fill_flat [.string s] ((Array.range (1 * ie.size)).map ((Value.string ⟨#[]⟩).cells[· % (Value.string ⟨#[]⟩).cells.size]!)) (fun v hv => by rw [List.mem_singleton] at hv; subst hv; rfl) (by simp [h2])
  refine run_buildSlice w _ 9 1 _ _ ie _ Tryz.underlying27 hie h1 (by omega) (by omega) ?_
  rw [h2] at hf ⊢
  exact hf
theorem wpl_str1 {ops : Array Oper} {rest : List Oper} {o : Oper} {a : Act} {w : World} {Q : Exit → Act → World → Prop} (hgd : o.guard = none) (x : Operand) (ho : o.op = .buildSlice 27 1 #[(0, x)]) (s : ByteArray) (hx : a.eval x = .string s)
    (h : wpList Tryz.prog ops Q rest (a.put o.dst (.slice (some ⟨w.heap.size, 0, none⟩) 1 1)) (w.alloc (.cells #[.string s] 9))) : wpList Tryz.prog ops Q (o :: rest) a w :=
  wpList_plain hgd fun K hK => by
    unfold Oper.wp execOp
    simp only [ho, List.map_toArray, List.map_cons, List.map_nil, hx, Sem.run_bind, run_str1, Result.andThen_ok, Sem.run_pure]
    exact hK _ _ h
end Go.Proofs.YtcohdfkdhdhegaaGreatDoor
namespace Go.Proofs.YtcohdfkdhdhegaaGreatDoor
open Go.RowKit

theorem rh_info : (Tryz.prog.info? 29).map (fun i => (i.zero, i.size, i.bytes)) = some (some (.agg zRH), 7, 80) := by kernel_rfl
theorem rhZ_cells : (Value.agg zRH).cells.size = 7 := rfl
section
variable {w wr W W' : World} {v : Value} {ys : List LRH} {b : Nat}
end
section
variable {ops : Array Oper} {rest : List Oper} {o : Oper} {a : Act} {Q : Exit → Act → World → Prop}
end
/-- What a header that is put in may be. -/
def Raw (ok : Nat → Prop) (w : World) (l : List LRH) : Prop := ∀ x ∈ l, SlW strE ok w x.v x.h.parents ∧ x.h.ticket.size ≤ 140737488351232 ∧ 0 ≤ x.h.power ∧ x.h.power ≤ 18446744073709551615

end Go.Proofs.YtcohdfkdhdhegaaGreatDoor
namespace Go.Proofs.YtcohdfkdhdhegaaGreatDoor
open Go.RowKit

section
variable {P : Program} {ops : Array Oper} {Q : Exit → Act → World → Prop} {md : Region.Mode} {S : World → Prop} {ds : List Nat}
/-- An operation that leaves a world that is told by what it is good for (a store of a struct into a row). -/
theorem sstepD_ (i : Nat) (l' : Array Bool) {oi : Oper} {fuel : Nat} {l : Array Bool} {a : Act} {w : World} (hi : ops[i]? = some oi) (hN : oi.dst = none) (hc : oneB md ops l l' i = true)
    (hw : Region.wanted oi (yielded ops a.tmps) = true) {R : World → Prop} (hx : ∃ w1, (execOp a.eval oi).run P w = .ok .skip w1 ∧ R w1)
    (h : ∀ w1, R w1 → (i ∉ ds → S w1) ∧ wpD P md ops Q S ds fuel l' a w1) : wpD P md ops Q S ds (fuel + 1) l a w := by
  obtain ⟨w1, hx, hR⟩ := hx
  obtain ⟨hS, hk⟩ := h w1 hR
  exact skD_ i l' hi hN hc hw w1 hx hS hk
end
section
variable {P : Program} {ops : Array Oper} {Q : Exit → Act → World → Prop} {md : Region.Mode} {S : World → Prop} {ds : List Nat}
end
section
variable {P : Program} {β : Type} {E : Enc β}
/-- 'append(v, xs...)' onto a row of the call's own, xs being cells that are read. -/
theorem exec_appS {o : Oper} {a : Act} {W : World} (base : Nat) (s x : Operand) (t e : TypeId) (z : Value) (size bytes : Nat)
    (ho : o.op = .call { callee := .builtin .append, args := #[s, x], argTypes := #[t, t] })
    (ht : P.underlying t = some (.slice e)) (hinfo : (P.info? e).map (fun i => (i.zero, i.size, i.bytes)) = some (some z, size, bytes)) (hz : z.cells.size = size) (hs0 : 0 < size) (hb0 : 0 < bytes)
    (v : Value) (n : Nat) (xs : List Value) (hs : a.eval s = v) (b off m c : Nat) (hx : a.eval x = .slice (some ⟨b, off, none⟩) m c) (news : List Value) (hlen : news.length = m * size) (hcell : ∀ j u, news[j]? = some u → W.cell? ⟨b, off + j, none⟩ = some u) (h1 : ∀ u ∈ news, u.oneCell' = true)
    (HO : W.ownsRow base e size v n xs) (hbase : base ≤ W.heap.size) (hl : (n + m) * bytes ≤ 140737488355328) :
    ∃ v1 w1, (execOp a.eval o).run P W = .ok (.value v1) w1 ∧ w1.ownsRow base e size v1 (n + m) (xs ++ news) ∧ W.grownBy w1 v.ownBlock ∧ (v1.ownBlock = v.ownBlock ∨ ∃ b, v1.ownBlock = some b ∧ W.heap.size ≤ b) := by
  obtain ⟨i0, hi, hzz⟩ := Option.map_eq_some_iff.1 hinfo
  simp only [Prod.mk.injEq] at hzz
  obtain ⟨hz0, hz1, hz2⟩ := hzz
  have hlen' : n + m ≤ 140737488355328 := Nat.le_trans (Nat.le_mul_of_pos_right _ hb0) hl
  obtain ⟨v1, w1, hr, hown, hg, -, hat⟩ := run_append_own_at (P := P) W base t o.type e i0 z size bytes ht hi hz0 hz1 hz2 hz hs0 v n xs HO ⟨b, off, none⟩ m c news hlen
    (fun j u hu => by rw [add_off]; exact hcell j u hu) h1 (by simp only [maxLen]; omega) hl hbase
  refine ⟨v1, w1, ?_, hown, hg, ?_⟩
  · unfold execOp
    simp only [ho, resolve, invoke, builtin, Sem.run_bind, Sem.run_pure, Result.andThen_ok, List.map_toArray, List.map_cons, List.map_nil, hs, hx, hr]
  · rcases hat with hat | hat
    · exact .inl hat
    · exact .inr ⟨_, hat, Nat.le_refl _⟩
/-- One element of a row of the call's own is set. -/
theorem run_setE (W : World) (base : Nat) (ty T : TypeId) (g n cap m : Nat) (ys : List β) (y : β) (h : W.ownsRow base T E.k (.slice (some ⟨g, 0, none⟩) n cap) n (E.flat ys)) (hm : m < ys.length) (hi : (P.info? ty).map (·.size) = some E.k) :
    ∃ w1, (storeVar ty ⟨g, m * E.k, none⟩ (.agg (E.enc y).toArray)).run P W = .ok () w1 ∧ w1.ownsRow base T E.k (.slice (some ⟨g, 0, none⟩) n cap) n (E.flat (ys.set m y)) ∧ W.grownBy w1 (some g) := by
  have hn : ys.length = n := by
    have h1 := h.1
    rw [E.flat_length] at h1
    exact Nat.eq_of_mul_eq_mul_right E.k0 h1
  obtain ⟨hl, ⟨h0, -⟩ | ⟨g', cap', cur, he, hb, hg, hcap, hmx, hcs, htk⟩⟩ := h
  · cases h0
  injection he with e1 e2 e3
  injection e1 with e1
  injection e1 with e1 _
  subst e1; subst e3
  have hle : m * E.k + E.k ≤ n * E.k := by
    have := Nat.mul_le_mul_right E.k (show m + 1 ≤ n by omega)
    rwa [Nat.add_mul, Nat.one_mul] at this
  have hnc : n * E.k ≤ cap * E.k := Nat.mul_le_mul_right _ hcap
  have hfit : m * E.k + 0 + (E.enc y).length ≤ cur.size := by rw [E.hk, hcs]; omega
  have hr := run_storeCells_at (P := P) g (m * E.k) T (E.enc y) 0 cur W hg hfit (E.one y)
  refine ⟨W.setRow g (cur.toList.take (m * E.k + 0) ++ E.enc y ++ cur.toList.drop (m * E.k + 0 + (E.enc y).length)).toArray, ?_, ⟨by rw [E.flat_length, List.length_set, hn], .inr ⟨g, cap, _, rfl, hb, setRow_heap W g cur _ T _ hg, hcap, hmx, ?_, ?_⟩⟩, ⟨rfl, rfl, rfl, by simp, fun k _ hk => setRow_other W g k _ (fun e => hk (by rw [e]))⟩⟩
  · cases hq : P.info? ty with
    | none => simp [hq] at hi
    | some i =>
      have hs : i.size = E.k := by simpa [hq] using hi
      simpa [storeVar, sizeOf, typeInfo, hq, hs, Value.cells, E.hk] using hr
  · simp only [List.size_toArray, List.length_append, List.length_take, List.length_drop, Array.length_toList, E.hk, Nat.add_zero]
    rw [hcs]
    omega
  · rw [E.flat_set ys m y hm, ← htk]
    simp only [Nat.add_zero, E.hk]
    have hlt : cur.toList.length = cap * E.k := by rw [Array.length_toList, hcs]
    rw [List.take_append, List.take_append, List.take_take, List.take_take, List.drop_take]
    simp only [List.length_append, List.length_take, E.hk, hlt]
    rw [Nat.min_eq_left (show m * E.k ≤ cap * E.k by omega), Nat.min_eq_right (show m * E.k ≤ n * E.k by omega), Nat.min_eq_left (show m * E.k ≤ n * E.k by omega), List.take_of_length_le (show (E.enc y).length ≤ n * E.k - m * E.k by rw [E.hk]; omega), Nat.add_mul, Nat.one_mul]
theorem exec_setE {o : Oper} {a : Act} (W : World) (base : Nat) (ty T : TypeId) (x z : Operand) (ho : o.op = .store ty x z) (g off n cap m : Nat) (hx : a.eval x = .pointer (some ⟨g, off, none⟩)) (hoff : off = m * E.k) (ys : List β) (y : β) (hz : a.eval z = .agg (E.enc y).toArray) (h : W.ownsRow base T E.k (.slice (some ⟨g, 0, none⟩) n cap) n (E.flat ys)) (hm : m < ys.length) (hi : (P.info? ty).map (·.size) = some E.k) :
    ∃ w1, (execOp a.eval o).run P W = .ok .skip w1 ∧ (w1.ownsRow base T E.k (.slice (some ⟨g, 0, none⟩) n cap) n (E.flat (ys.set m y)) ∧ W.grownBy w1 (some g)) := by
  obtain ⟨w1, h1, h2⟩ := run_setE W base ty T g n cap m ys y h hm hi
  subst hoff
  refine ⟨w1, ?_, h2⟩
  unfold execOp
  simp only [ho, hx, hz, Instr.storeAt, Instr.sureAddr, Sem.run_bind, Sem.run_pure, Result.andThen_ok, h1]
end
end Go.Proofs.YtcohdfkdhdhegaaGreatDoor
