/- coxswainref05.Sort: the walk. -/
import Derived.Test.YthpcedficlhanaaGreatDoorSorts
namespace Go.Proofs.YthpcedficlhanaaGreatDoor
open Go.RowKit

def strs (l : List ByteArray) : List Value := l.map Value.string
theorem strs_length (l : List ByteArray) : (strs l).length = l.length := by simp [strs]
theorem own_empty (w : World) (base : Nat) (T : TypeId) (k : Nat) (hb : base ≤ w.heap.size) : (w.alloc (.cells #[] T)).ownsRow base T k (.slice (some ⟨w.heap.size, 0, none⟩) 0 0) 0 [] :=
  ⟨by simp, .inr ⟨w.heap.size, 0, #[], rfl, hb, heap_alloc_new w _, Nat.le_refl _, by simp [maxLen], by simp, by simp⟩⟩
theorem str_info : (Tryz.prog.info? 9).map (fun i => (i.zero, i.size, i.bytes)) = some (some (.string ⟨#[]⟩), 1, 16) := by kernel_rfl
/-- A row of texts of the call's own. -/
def StrRow (base : Nat) (w : World) (v : Value) (l : List ByteArray) : Prop := w.ownsRow base 9 1 v l.length (strs l)
theorem StrRow.sl {base : Nat} {w : World} {v : Value} {l : List ByteArray} (h : StrRow base w v l) : Sl strE (fun k => base ≤ k ∧ some k = v.ownBlock) w v l :=
  (Sl.of_own (E := strE) (by rw [strE_flat]; exact h)).mono fun k hk => ⟨(own_lt h k hk).1, hk.symm⟩
theorem StrRow.below {base : Nat} {w w' : World} {v : Value} {l : List ByteArray} (h : StrRow base w v l) (hb : Below w.heap.size w w') : StrRow base w' v l := own_below h hb
section
variable {ops : Array Oper} {rest : List Oper} {o : Oper} {a : Act} {Q : Exit → Act → World → Prop}
theorem wpl_app_str {w0 W : World} {base : Nat} {u : Value} {l : List ByteArray} (h : StrRow base W u l) (t : ByteArray) (hB : Below base w0 W) (hb : base ≤ W.heap.size) (hlen : l.length ≤ 1000000)
    (hgd : o.guard = none) (s x : Operand) (ho : o.op = .call { callee := .builtin .append, args := #[s, x], argTypes := #[51, 51] }) (hs' : a.eval s = u) (hx : a.eval x = .slice (some ⟨W.heap.size, 0, none⟩) 1 1)
    (hK : ∀ v1 w1, StrRow base w1 v1 (l ++ [t]) → Below base w0 w1 → W.grownBy w1 u.ownBlock → (v1.ownBlock = u.ownBlock ∨ ∃ b, v1.ownBlock = some b ∧ W.heap.size ≤ b) → wpList Tryz.prog ops Q rest (a.put o.dst v1) w1) : wpList Tryz.prog ops Q (o :: rest) a (W.alloc (.cells #[.string t] 9)) := by
  refine wpl_app1 #[.string t] base hgd s x 51 9 _ 1 16 ho Tryz.underlying51 str_info rfl (by decide) (by decide) u l.length _ hs' hx rfl (by simp [Value.oneCell']) h hb (by omega) ?_
  intro v1 w1 ho1 hg1 hat1
  exact hK v1 w1 (by rw [StrRow, strs, List.map_append, List.length_append]; exact ho1) (below_grown_own hB h (Nat.le_refl _) hb hg1) hg1 hat1
end
/-- What holds in the inner loop. -/
structure SortI (w wr : World) (vo vn : Value) (o n : List ByteArray) : Prop where
  out : StrRow w.heap.size wr vo o
  next : StrRow w.heap.size wr vn n
  apart : Apart vn vo
  below : Below w.heap.size w wr
theorem SortI.app {w wr w1 : World} {vo vn v1 : Value} {o n m : List ByteArray} (h : SortI w wr vo vn o n) (h1 : StrRow w.heap.size w1 v1 m) (hb : Below w.heap.size w w1) (hg : wr.grownBy w1 vn.ownBlock) (hat : v1.ownBlock = vn.ownBlock ∨ ∃ b, v1.ownBlock = some b ∧ wr.heap.size ≤ b) : SortI w w1 vo v1 o m :=
  have hx := apart_app h.apart h.next h.out hg hat h1
  ⟨hx.1, h1, hx.2, hb⟩

set_option maxRecDepth 100000 in
set_option maxHeartbeats 1000000 in
theorem sort_str (w : World) (t : Value) (l : List ByteArray) (ok : Nat → Prop) (hl : Sl strE ok w t l) (hlen : l.length ≤ 1000) :
    Calls Tryz.prog 52 #[t] w fun e w' => ∃ v, e = .returned v ∧ StrRow w.heap.size w' v (sortT l) ∧ Below w.heap.size w w' := by
  obtain ⟨A, c, rfl, hc, hm⟩ := hl.form
  have HL := Lib.hid hl
  clear hl
  go_enter Tryz.func52, Tryz.ntmps52
  go_wp2
  go_loopw [3, 13] (fun v ci wr => ∃ i : Nat, i ≤ l.length ∧ ci = .int .i64 i ∧ StrRow w.heap.size wr v (sortT (l.take i)) ∧ Below w.heap.size w wr) (fun _ ci _ => l.length - (intOf ci).toNat)
  case atStart => exact ⟨0, Nat.zero_le _, rfl, own_empty w _ _ _ (Nat.le_refl _), (Below.refl _ w).alloc (Nat.le_refl _) _⟩
  case round =>
    obtain ⟨i, hi, rfl, hO, hB⟩ := hrel
    have hsz := hB.size
    have HO := Lib.hid hO
    have HB := Lib.hid hB
    clear hO hB
    by_cases hlt : i < l.length
    · obtain ⟨s, hs⟩ : ∃ s, l[i]? = some s := ⟨_, List.getElem?_eq_getElem hlt⟩
      obtain ⟨b, off, rfl, hbl, -, hcx⟩ := (HL.out.below HB.out).at_ i s hs
      have hcs : wr.cell? ⟨b, off + i, none⟩ = some (.string s) := by have := hcx 0 _ rfl; simpa [strE] using this
      have hol : (sortT (l.take i)).length ≤ 1000 := by have := sortT_length (l.take i); rw [List.length_take] at this; omega
      have HS := Lib.hid hs
      obtain ⟨o, ho⟩ : ∃ o, o = sortT (l.take i) := ⟨_, rfl⟩
      rw [← ho] at HO hol
      have HO' := Lib.hid ho
      obtain ⟨A3, c3, hv3, -⟩ := own_slice HO.out
      subst hv3
      have hsr : Hid (SortI w (wr.alloc (.cells #[] 9)) (.slice A3 o.length c3) (.slice (some ⟨wr.heap.size, 0, none⟩) 0 0) o []) := Lib.hid ⟨HO.out.below ((Below.refl _ wr).alloc (Nat.le_refl _) _), own_empty wr _ _ _ hsz, .inr fun e => by have := (own_lt HO.out wr.heap.size e.symm).2; omega, HB.out.alloc hsz _⟩
      clear hcx hs ho
      go_wp2
      obtain ⟨wo, rfl⟩ : ∃ wo : World, wo = wr := ⟨_, rfl⟩
      go_loopw [6, 7, 20] (fun v d ci wr => ∃ (j : Nat) (x : Bool × List ByteArray), j ≤ o.length ∧ ci = .int .i64 j ∧ d = .bool x.1 ∧ x = (o.take j).foldl (stepT s) (false, []) ∧ x.2.length ≤ 2 * j ∧ SortI w wr (.slice A3 o.length c3) v o x.2) (fun _ _ ci _ => o.length - (intOf ci).toNat)
      case atStart => exact ⟨0, (false, []), Nat.zero_le _, rfl, rfl, rfl, by simp, hsr.out⟩
      case round =>
        obtain ⟨j, ⟨d, n⟩, hj, rfl, rfl, hx, hnl, hI⟩ := hrel
        have HXX := Lib.hid hx
        have HI := Lib.hid hI
        have hnl : n.length ≤ 2 * j := hnl
        clear hx hI
        by_cases hlj : j < o.length
        · obtain ⟨t, ht⟩ : ∃ t, o[j]? = some t := ⟨_, List.getElem?_eq_getElem hlj⟩
          obtain ⟨b3, off3, he3, -, -, hct⟩ := HI.out.out.sl.at_ j t ht
          subst he3
          have hct' : wr.cell? ⟨b3, off3 + j, none⟩ = some (.string t) := by have := hct 0 _ rfl; simpa [strE] using this
          have HTT := Lib.hid ht
          clear hct ht
          rcases d with _ | _
          · rcases hlt' : Op.bytesLess s.toList t.toList with _ | _
            · rcases heq : (s.toList == t.toList) with _ | _
              · have hst : (false, n ++ [t]) = stepT s (false, n) t := by simp only [stepT, leS, ltS, hlt', heq]; simp
                have HST := Lib.hid hst
                clear hst
                go_wp2_with (first
                  | (at_builtin; refine wpl_app_str HI.out.next t HI.out.below HI.out.below.size (by omega) rfl (.tmp 41) (.tmp 43) rfl rfl rfl ?_; intro v2 w2 h2 hb2 hg2 hat2; have HI2 := Lib.hid (HI.out.app h2 hb2 hg2 hat2); clear h2 hb2 hg2 hat2))
                go_roundw
                case rel => exact ⟨j + 1, (false, n ++ [t]), by omega, by go_num, rfl, by rw [List.take_add_one, HTT.out, List.foldl_append, ← HXX.out]; exact HST.out, by simp only [List.length_append, List.length_cons, List.length_nil]; omega, HI2.out⟩
                case measure => simp [intOf]; omega
              · have hst : (true, n ++ [t]) = stepT s (false, n) t := by simp only [stepT, leS, ltS, hlt', heq]; simp
                have HST := Lib.hid hst
                clear hst
                go_wp2_with (first
                  | (at_builtin; refine wpl_app_str HI.out.next t HI.out.below HI.out.below.size (by omega) rfl (.tmp 41) (.tmp 43) rfl rfl rfl ?_; intro v2 w2 h2 hb2 hg2 hat2; have HI2 := Lib.hid (HI.out.app h2 hb2 hg2 hat2); clear h2 hb2 hg2 hat2))
                go_roundw
                case rel => exact ⟨j + 1, (true, n ++ [t]), by omega, by go_num, rfl, by rw [List.take_add_one, HTT.out, List.foldl_append, ← HXX.out]; exact HST.out, by simp only [List.length_append, List.length_cons, List.length_nil]; omega, HI2.out⟩
                case measure => simp [intOf]; omega
            · have hst : (true, (n ++ [s]) ++ [t]) = stepT s (false, n) t := by simp only [stepT, leS, ltS, hlt']; simp
              have HST := Lib.hid hst
              clear hst
              go_wp2_with (first
                | (at_builtin; refine wpl_app_str HI.out.next s HI.out.below HI.out.below.size (by omega) rfl (.tmp 31) (.tmp 33) rfl rfl rfl ?_; intro v1 w1 h1 hb1 hg1 hat1; have HI1 := Lib.hid (HI.out.app h1 hb1 hg1 hat1); clear h1 hb1 hg1 hat1)
                | (at_builtin; refine wpl_app_str HI1.out.next t HI1.out.below HI1.out.below.size (by simp only [List.length_append, List.length_cons, List.length_nil]; omega) rfl (.tmp 41) (.tmp 43) rfl rfl rfl ?_; intro v2 w2 h2 hb2 hg2 hat2; have HI2 := Lib.hid (HI1.out.app h2 hb2 hg2 hat2); clear h2 hb2 hg2 hat2))
              go_roundw
              case rel => exact ⟨j + 1, (true, (n ++ [s]) ++ [t]), by omega, by go_num, rfl, by rw [List.take_add_one, HTT.out, List.foldl_append, ← HXX.out]; exact HST.out, by simp only [List.length_append, List.length_cons, List.length_nil]; omega, HI2.out⟩
              case measure => simp [intOf]; omega
          · have hst : (true, n ++ [t]) = stepT s (true, n) t := by simp only [stepT, leS, ltS]; simp
            have HST := Lib.hid hst
            clear hst
            go_wp2_with (first
              | (at_builtin; refine wpl_app_str HI.out.next t HI.out.below HI.out.below.size (by omega) rfl (.tmp 41) (.tmp 43) rfl rfl rfl ?_; intro v2 w2 h2 hb2 hg2 hat2; have HI2 := Lib.hid (HI.out.app h2 hb2 hg2 hat2); clear h2 hb2 hg2 hat2))
            go_roundw
            case rel => exact ⟨j + 1, (true, n ++ [t]), by omega, by go_num, rfl, by rw [List.take_add_one, HTT.out, List.foldl_append, ← HXX.out]; exact HST.out, by simp only [List.length_append, List.length_cons, List.length_nil]; omega, HI2.out⟩
            case measure => simp [intOf]; omega
        · have hjl : j = o.length := by omega
          subst hjl
          have hfin : lastT s (d, n) = insT s o := by
            have h1 := HXX.out
            rw [List.take_length] at h1
            rw [h1, fold_ins]
            rfl
          have hnew : sortT (l.take (i + 1)) = insT s o := by rw [List.take_add_one, HS.out, HO'.out, ← sortT_snoc]; rfl
          have HF := Lib.hid (hnew.trans hfin.symm)
          clear hfin hnew
          rcases d with _ | _
          · go_wp2_with (at_builtin; refine wpl_app_str HI.out.next s HI.out.below HI.out.below.size (by omega) rfl (.tmp 48) (.tmp 50) rfl rfl rfl ?_; intro v1 w1 h1 hb1 hg1 hat1; have H1 := Lib.hid h1; have HB1 := Lib.hid hb1; clear h1 hb1 hg1 hat1)
            go_roundw
            case rel => exact ⟨i + 1, by omega, by go_num, by rw [HF.out]; exact H1.out, HB1.out⟩
            case measure => simp [intOf]; omega
          · go_wp2
            go_roundw
            case rel => exact ⟨i + 1, by omega, by go_num, by rw [HF.out]; exact HI.out.next, HI.out.below⟩
            case measure => simp [intOf]; omega
    · have hin : i = l.length := by omega
      subst hin
      go_wp2
      go_ret
      exact ⟨_, rfl, by have := HO.out; rwa [List.take_length] at this, HB.out⟩
end Go.Proofs.YthpcedficlhanaaGreatDoor
