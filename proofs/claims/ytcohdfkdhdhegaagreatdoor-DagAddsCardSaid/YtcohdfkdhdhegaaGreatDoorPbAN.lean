/- slices.IndexFunc and slices.DeleteFunc at names, by a dag's Has; Missing. header.Names. Regions that draw their order: the last operations wait for the first through others. No program in sight. -/
import Derived.Test.YtcohdfkdhdhegaaGreatDoorPbAI
import Derived.Test.YtcohdfkdhdhegaaGreatDoorPbAJ
import Derived.Test.YtcohdfkdhdhegaaGreatDoorPbAK
import Derived.Test.YtcohdfkdhdhegaaGreatDoorPbAM
namespace Go.Proofs.YtcohdfkdhdhegaaGreatDoor
open Go.RowKit

theorem zeroID (w : World) : (zeroValue 66).run Tryz.prog w = .ok (.agg (idc default).toArray) w := by kernel_rfl
section
variable {P : Program} {β : Type} {E : Enc β}
/-- What lies behind place i is cleared, and the row is cut there. -/
theorem run_clearE (W : World) (base : Nat) (t ty e T : TypeId) (g n cap i : Nat) (ys : List β) (h : W.ownsRow base T E.k (.slice (some ⟨g, 0, none⟩) n cap) n (E.flat ys)) (hi : i < n) (ht : P.underlying t = some (.slice e)) (z : Value)
    (hz : ∀ w, (zeroValue e).run P w = .ok z w) (hzs : z.cells.size = E.k) (hz1 : ∀ u ∈ z.cells.toList, u.oneCell' = true) :
    ∃ W2, (Builtin.clear_ #[t] ty #[.slice (some ⟨g, i * E.k, none⟩) (n - i) (cap - i)]).run P W = .ok (.tuple #[]) W2 ∧ W2.ownsRow base T E.k (.slice (some ⟨g, 0, none⟩) i cap) i (E.flat (ys.take i)) ∧ W.grownBy W2 (some g) := by
  have hn : ys.length = n := by
    have h1 := h.1
    rw [E.flat_length] at h1
    exact Nat.eq_of_mul_eq_mul_right E.k0 h1
  obtain ⟨hl, ⟨h0, -⟩ | ⟨g', cap', cur, he, hb, hg, hcap, hmx, hcs, htk⟩⟩ := h
  · cases h0
  injection he with e1 e2 e3
  injection e1 with e1
  injection e1 with e1 _
  subst e1; subst e3
  obtain ⟨zs, hzl⟩ : ∃ zs, (Builtin.zeroCells z.cells (n - i)).toList = zs := ⟨_, rfl⟩
  have hzlen : zs.length = (n - i) * E.k := by rw [← hzl]; simp [Builtin.zeroCells, hzs]
  have hz1' : ∀ v ∈ zs, v.oneCell' = true := by
    intro v hv
    rw [← hzl] at hv
    simp only [Builtin.zeroCells, Array.toList_map, List.mem_map] at hv
    obtain ⟨a, -, rfl⟩ := hv
    have hlt : a % z.cells.size < z.cells.size := Nat.mod_lt _ (by rw [hzs]; exact E.k0)
    rw [getElem!_pos z.cells _ hlt]
    exact hz1 _ (by simp)
  have hnc : n * E.k ≤ cap * E.k := Nat.mul_le_mul_right _ hcap
  have hin : i * E.k ≤ n * E.k := Nat.mul_le_mul_right _ (by omega)
  have hsub : (n - i) * E.k = n * E.k - i * E.k := Nat.sub_mul _ _ _
  have hfit : i * E.k + 0 + zs.length ≤ cur.size := by rw [hzlen, hcs]; omega
  have hr := run_storeCells_at (P := P) g (i * E.k) T zs 0 cur W hg hfit hz1'
  refine ⟨W.setRow g (cur.toList.take (i * E.k + 0) ++ zs ++ cur.toList.drop (i * E.k + 0 + zs.length)).toArray, ?_, ⟨?_, .inr ⟨g, cap, _, rfl, hb, setRow_heap W g cur _ T _ hg, by omega, hmx, ?_, ?_⟩⟩, ⟨rfl, rfl, rfl, by simp, fun k _ hk => heap_setRow_ne _ _ _ _ fun e => hk (by rw [e])⟩⟩
  · obtain ⟨m, hm⟩ : ∃ m, n - i = m + 1 := ⟨n - i - 1, by omega⟩
    rw [hm] at hzl ⊢
    simp only [Builtin.clear_]
    simp only [List.getElem?_toArray, List.getElem?_cons_zero, Sem.run_bind, run_underlying ht, Result.andThen_ok, hz, hzl, hr, Sem.run_pure]
  · rw [E.flat_length, List.length_take, hn, Nat.min_eq_left (by omega)]
  · simp only [List.size_toArray, List.length_append, List.length_take, List.length_drop, Array.length_toList, hzlen, Nat.add_zero]
    rw [hcs]
    omega
  · rw [E.flat_take, ← htk, List.take_take, Nat.min_eq_left hin]
    simp only [Nat.add_zero]
    rw [List.append_assoc, List.take_append_of_le_length (by rw [List.length_take, Array.length_toList, hcs]; omega), List.take_take, Nat.min_self]
section
variable {ops : Array Oper} {rest : List Oper} {o : Oper} {a : Act} {Q : Exit → Act → World → Prop}
theorem wpl_clearE {W : World} (base : Nat) (t e T : TypeId) (g n cap i : Nat) (ys : List β) (h : W.ownsRow base T E.k (.slice (some ⟨g, 0, none⟩) n cap) n (E.flat ys)) (hi : i < n) (ht : P.underlying t = some (.slice e)) (z : Value)
    (hz : ∀ w, (zeroValue e).run P w = .ok z w) (hzs : z.cells.size = E.k) (hz1 : ∀ u ∈ z.cells.toList, u.oneCell' = true) (hgd : o.guard = none) (x : Operand) (ho : o.op = .call { callee := .builtin .clear, args := #[x], argTypes := #[t] }) (hx : a.eval x = .slice (some ⟨g, i * E.k, none⟩) (n - i) (cap - i))
    (hK : ∀ W2, W2.ownsRow base T E.k (.slice (some ⟨g, 0, none⟩) i cap) i (E.flat (ys.take i)) → W.grownBy W2 (some g) → wpList P ops Q rest (a.put o.dst (.tuple #[])) W2) : wpList P ops Q (o :: rest) a W :=
  wpList_plain hgd fun K hK' => by
    obtain ⟨W2, hr, r1, r2⟩ := run_clearE (P := P) (E := E) W base t o.type e T g n cap i ys h hi ht z hz hzs hz1
    unfold Oper.wp
    simp [execOp, ho, resolve, invoke, builtin, hx, hr, Result.andThen]
    exact hK' _ _ (hK W2 r1 r2)
theorem wpl_setE {W : World} (base : Nat) (ty T : TypeId) (hgd : o.guard = none) (x z : Operand) (ho : o.op = .store ty x z) (g off n cap m : Nat) (hx : a.eval x = .pointer (some ⟨g, off, none⟩)) (hoff : off = m * E.k) (ys : List β) (y : β) (hz : a.eval z = .agg (E.enc y).toArray) (h : W.ownsRow base T E.k (.slice (some ⟨g, 0, none⟩) n cap) n (E.flat ys)) (hm : m < ys.length) (hi : (P.info? ty).map (·.size) = some E.k)
    (hK : ∀ W2, W2.ownsRow base T E.k (.slice (some ⟨g, 0, none⟩) n cap) n (E.flat (ys.set m y)) → W.grownBy W2 (some g) → wpList P ops Q rest (a.put o.dst undef) W2) : wpList P ops Q (o :: rest) a W :=
  wpList_plain hgd fun K hK' => by
    obtain ⟨W2, hr, r1, r2⟩ := exec_setE (P := P) (E := E) (o := o) (a := a) W base ty T x z ho g off n cap m hx hoff ys y hz h hm hi
    unfold Oper.wp
    rw [hr]
    exact hK' _ _ (hK W2 r1 r2)
end
end

section
variable {w : World} {p b1 b2 : Nat} {D : List LB} {ok : Nat → Prop}
set_option maxRecDepth 100000 in
set_option maxHeartbeats 1000000 in
theorem indexHas_any (h : DagAt ok w p b1 b2 D) (v : Value) (l : List ID) (ok2 : Nat → Prop) (hv : Sl idE ok2 w v l) (_hlen : l.length ≤ 1000000) :
    Calls Tryz.prog 149 #[v, .func (.func 36) #[.pointer (some ⟨p, 0, none⟩)] #[]] w fun e w' => Below w.heap.size w w' ∧ ((e = .returned (.int .i64 (-1)) ∧ ∀ x ∈ l, hasB D x = false) ∨ ∃ (n : Nat) (x : ID), l[n]? = some x ∧ hasB D x = true ∧ (∀ y ∈ l.take n, hasB D y = false) ∧ e = .returned (.int .i64 n)) := by
  obtain ⟨A, c, rfl, hc, hm⟩ := hv.form
  have HD := Lib.hid h
  have HV := Lib.hid hv
  clear h hv
  go_enter Tryz.func149, Tryz.ntmps149
  go_wp2
  go_loopw [8] (fun ci wr => ∃ n : Nat, n ≤ l.length ∧ ci = .int .i64 n ∧ Below w.heap.size w wr ∧ ∀ x ∈ l.take n, hasB D x = false) (fun ci _ => l.length - (intOf ci).toNat)
  case atStart => exact ⟨0, Nat.zero_le _, rfl, Below.refl _ _, by simp⟩
  case round =>
    obtain ⟨n, hn, rfl, hB, hne⟩ := hrel
    have HB := Lib.hid hB
    have HNE := Lib.hid hne
    clear hB hne
    by_cases hlt : n < l.length
    · obtain ⟨x, hx⟩ : ∃ x, l[n]? = some x := ⟨_, List.getElem?_eq_getElem hlt⟩
      obtain ⟨b, off, rfl, hbl, -, hcx⟩ := (HV.out.below HB.out).at_ n x hx
      have HX := Lib.hid hcx
      have HXI := Lib.hid hx
      have HDr := Lib.hid (HD.out.below HB.out)
      clear hcx hx
      by_cases he : hasB D x = true
      · go_wp2_with (first
          | (refine wpl_load rfl 66 (.tmp 14) rfl b _ rfl (idc x) _ HX.out Tryz.underlying66 rfl (by rw [idc_length]; exact id_size) ?_)
          | (go_at_call 36; refine (dhas_any _ p b1 b2 D ok HDr.out x).mono ?_; rintro e w2 ⟨rfl, hb2⟩; rw [he]))
        go_ret
        exact ⟨HB.out.trans (hb2.mono HB.out.size), .inr ⟨n, x, HXI.out, he, HNE.out, rfl⟩⟩
      · have he : hasB D x = false := by simpa using he
        go_wp2_with (first
          | (refine wpl_load rfl 66 (.tmp 14) rfl b _ rfl (idc x) _ HX.out Tryz.underlying66 rfl (by rw [idc_length]; exact id_size) ?_)
          | (go_at_call 36; refine (dhas_any _ p b1 b2 D ok HDr.out x).mono ?_; rintro e w2 ⟨rfl, hb2⟩; rw [he]))
        go_roundw
        case rel => exact ⟨n + 1, by omega, by go_num, HB.out.trans (hb2.mono HB.out.size), by rw [List.take_add_one, HXI.out]; intro y hy; rcases List.mem_append.1 hy with hy | hy; exact HNE.out y hy; simp at hy; subst hy; exact he⟩
        case measure => simp [intOf]; omega
    · have hin : n = l.length := by omega
      subst hin
      go_wp2
      go_ret
      exact ⟨HB.out, .inl ⟨rfl, by have := HNE.out; rwa [List.take_length] at this⟩⟩

theorem getElem_drop_head {l ys : List ID} {j : Nat} {x : ID} (h : ys.drop j = l.drop j) (hx : l[j]? = some x) : ys[j]? = some x := by
  have h1 := congrArg (fun z : List ID => z[0]?) h
  simpa [hx] using h1
set_option maxRecDepth 100000 in
set_option maxHeartbeats 2000000 in
theorem deleteHas_any (h : DagAt ok w p b1 b2 D) (v : Value) (l : List ID) (base : Nat) (hv : w.ownsRow base 66 32 v l.length (idE.flat l)) (hne : ∀ k, v.ownBlock = some k → ¬ ok k) (hlen : l.length ≤ 1000000) :
    Calls Tryz.prog 106 #[v, .func (.func 36) #[.pointer (some ⟨p, 0, none⟩)] #[]] w fun e w' => ∃ v', e = .returned v' ∧ w'.ownsRow base 66 32 v' (l.filter fun x => !hasB D x).length (idE.flat (l.filter fun x => !hasB D x)) ∧ Chg (fun k => v.ownBlock = some k) w w' ∧ v'.ownBlock = v.ownBlock := by
  obtain ⟨A, c, rfl⟩ : ∃ A c, v = .slice A l.length c := (Sl.of_own (E := idE) hv).form.imp fun A h => h.imp fun c h => h.1
  have HD := Lib.hid h
  have HV := Lib.hid hv
  have HN := Lib.hid hne
  clear h hv hne
  go_enter Tryz.func106, Tryz.ntmps106
  have HI := Lib.hid (indexHas_any HD.out (.slice A l.length c) l _ (Sl.of_own HV.out) hlen)
  by_cases hall : ∀ x ∈ l, hasB D x = false
  · go_wp2_with (go_at_call 149; refine HI.out.mono ?_; rintro e w1 ⟨hb1, ⟨rfl, -⟩ | ⟨n, x, hx, hh, -, -⟩⟩; rotate_left; exact absurd (hall x (List.mem_of_getElem? hx)) (by rw [hh]; decide))
    go_ret
    refine ⟨_, rfl, ?_, Chg.of_below hb1, rfl⟩
    rw [List.filter_eq_self.2 fun x hx => by simp [hall x hx]]
    exact own_below HV.out hb1
  · have hpos : 0 < l.length := by
      rcases Nat.eq_zero_or_pos l.length with h0 | h0
      · exact absurd (fun x hx => by rw [List.eq_nil_of_length_eq_zero h0] at hx; cases hx) hall
      · exact h0
    obtain ⟨g, c', hA, hgb, hgl⟩ := HV.out.form hpos
    injection hA with hA _ hc'
    subst hA
    subst hc'
    have HX : Hid (¬ ∀ x ∈ l, hasB D x = false) := Lib.hid hall
    clear hall
    go_wp2_with (go_at_call 149; refine HI.out.mono ?_; rintro e w1 ⟨hb1, ⟨-, hno⟩ | ⟨n, x, hx, hh, hpre, rfl⟩⟩; exact absurd hno HX.out)
    have hnl : n < l.length := (List.getElem?_eq_some_iff.1 hx).1
    have hn1 : ((n : Int) == -1) = false := by simp
    have HXX := Lib.hid hx
    have HPRE := Lib.hid hpre
    have HH := Lib.hid hh
    have HB1 := Lib.hid hb1
    clear hx hpre hh hb1
    go_wp2
    go_loopw [5, 6] (fun c5 c6 W => ∃ (i j : Nat) (ys : List ID), c5 = .int .i64 (i : Int) ∧ c6 = .int .i64 (j : Int) ∧ i < j ∧ j ≤ l.length ∧ ys.length = l.length ∧ ys.take i = (l.take j).filter (fun x => !hasB D x) ∧ ys.drop j = l.drop j ∧ W.ownsRow base 66 32 (.slice (some ⟨g, 0, none⟩) l.length c) l.length (idE.flat ys) ∧ Chg (fun k => k = g) w W) (fun _ c6 _ => l.length - (intOf c6).toNat)
    case atStart =>
      refine ⟨n, n + 1, l, rfl, by (have h1 := IntWalk.wrap64_in ((n : Int) + 1) (by omega); rw [h1]; rfl), by omega, by omega, rfl, ?_, rfl, own_below HV.out HB1.out, Chg.of_below HB1.out⟩
      rw [List.take_add_one, HXX.out, List.filter_append, List.filter_eq_self.2 (fun y hy => by simp [HPRE.out y hy])]
      simp [HH.out]
    case round =>
      obtain ⟨i, j, ys, rfl, rfl, hij, hjl, hyl, htk, hdr, hO, hC⟩ := hrel
      have HTK := Lib.hid htk
      have HDR := Lib.hid hdr
      have HO := Lib.hid hO
      have HC := Lib.hid hC
      clear htk hdr hO hC
      by_cases hj : j < l.length
      · obtain ⟨y, hy⟩ : ∃ y, l[j]? = some y := ⟨_, List.getElem?_eq_getElem hj⟩
        have HY := Lib.hid hy
        have hyy : ys[j]? = some y := getElem_drop_head HDR.out hy
        obtain ⟨b, off, hbo, hbl, -, hcx⟩ := (Sl.of_own (E := idE) (ys := ys) (by rw [hyl]; exact HO.out)).at_ j y hyy
        injection hbo with hbo
        injection hbo with e1 e2
        subst e1
        subst e2
        have HCX : Hid (∀ m u, (idc y)[m]? = some u → wr.cell? ⟨g, j * 32 + m, none⟩ = some u) := Lib.hid fun m u hu => by have h1 := hcx m u hu; rwa [Nat.zero_add] at h1
        clear hcx hyy hy hbl
        have HDr : Hid (DagAt ok wr p b1 b2 D) := Lib.hid (HD.out.fr (HC.out.fr fun k hk e => HN.out g rfl (e ▸ hk)))
        have HBX : Hid ((wr.alloc (.cells (idc y).toArray 66)).heap[wr.heap.size]? = some (.cells (idc y).toArray 66 (0, 0))) := Lib.hid (heap_alloc_new wr _)
        have HDa := Lib.hid (HDr.out.below ((Below.refl _ wr).alloc (Nat.le_refl _) (.cells (idc y).toArray 66)))
        have HOa : Hid ((wr.alloc (.cells (idc y).toArray 66)).ownsRow base 66 32 (.slice (some ⟨g, 0, none⟩) l.length c) l.length (idE.flat ys)) := Lib.hid (HO.out.alloc _)
        have HCa : Hid (Chg (fun k => k = g) w (wr.alloc (.cells (idc y).toArray 66))) := Lib.hid (HC.out.trans (Chg.of_below ((Below.refl _ wr).alloc (Nat.le_refl _) _)))
        go_upto_region 8 with (first
          | (refine wpl_load rfl 66 (.tmp 24) rfl g _ rfl (idc y) _ HCX.out Tryz.underlying66 rfl (by rw [idc_length]; exact id_size) ?_)
          | (refine wpl_store_new rfl 66 _ _ rfl rfl (idc y) rfl _ _ (by rw [idc_length]; rfl) (idE.one y) (by rw [idc_length]; exact id_size) ?_))
        generalize wr.alloc (.cells (idc y).toArray 66) = W1 at HBX HDa HOa HCa
        generalize wr.heap.size = gx at HBX
        by_cases hh : hasB D y = true
        · go_wp2_with (first
            | (refine wpl_load rfl 66 (.tmp 7) rfl gx 0 rfl (idc y) _ (fun j u hu => by rw [Nat.zero_add]; exact cell_block HBX.out (by simpa using hu)) Tryz.underlying66 rfl (by rw [idc_length]; exact id_size) ?_)
            | (go_at_call 36; refine (dhas_any _ p b1 b2 D ok HDa.out y).mono ?_; rintro e w2 ⟨rfl, hb2⟩; rw [hh]))
          go_roundw
          case rel =>
            repeat apply Exists.intro (α := Value)
            refine ⟨?_, rfl⟩
            refine ⟨i, j + 1, ys, rfl, by go_num, by omega, by omega, hyl, ?_, ?_, own_below HOa.out hb2, HCa.out.trans (Chg.of_below hb2)⟩
            · rw [HTK.out, List.take_add_one, HY.out, List.filter_append]
              simp [hh]
            · rw [← List.drop_drop (i := 1) (j := j), HDR.out, List.drop_drop]
          case measure => simp [intOf]; omega
        · have hh : hasB D y = false := by simpa using hh
          go_wp2_with (first
            | (refine wpl_load rfl 66 (.tmp 7) rfl gx 0 rfl (idc y) _ (fun j u hu => by rw [Nat.zero_add]; first | exact cell_block HBX.out (by simpa using hu) | exact cell_block HB2.out (by simpa using hu)) Tryz.underlying66 rfl (by rw [idc_length]; exact id_size) ?_)
            | (go_at_call 36; refine (dhas_any _ p b1 b2 D ok HDa.out y).mono ?_; rintro e w2 ⟨rfl, hb2⟩; rw [hh]; have HB2 : Hid (w2.heap[gx]? = some (.cells (idc y).toArray 66 (0, 0))) := Lib.hid ((hb2.block gx (Array.getElem?_eq_some_iff.1 HBX.out).1).trans HBX.out); have HO2 := Lib.hid (own_below HOa.out hb2); have HC2 := Lib.hid (HCa.out.trans (Chg.of_below hb2)); clear hb2)
            | (refine wpl_setE (E := idE) base 66 66 rfl (.tmp 33) (.tmp 32) rfl g (i * 32) l.length c i rfl rfl ys y rfl HO2.out (by omega) id_size ?_; intro w3 ho3 hg3))
          go_roundw
          case rel =>
            repeat apply Exists.intro (α := Value)
            refine ⟨?_, rfl⟩
            refine ⟨i + 1, j + 1, ys.set i y, by go_num, by go_num, by omega, by omega, by rw [List.length_set, hyl], ?_, ?_, ho3, HC2.out.trans ((Chg.row hg3).mono fun k hk => by injection hk with hk; exact hk.symm)⟩
            · have h1 : (l.take (j + 1)).filter (fun x => !hasB D x) = (l.take j).filter (fun x => !hasB D x) ++ [y] := by
                rw [List.take_add_one, HY.out, List.filter_append]
                simp [hh]
              rw [h1, ← HTK.out, List.take_add_one, List.getElem?_set_self (by omega), List.take_set_of_le (Nat.le_refl _)]
              rfl
            · rw [List.drop_set_of_lt (by omega), ← List.drop_drop (i := 1) (j := j), HDR.out, List.drop_drop]
          case measure => simp [intOf]; omega
      · have hjj : j = l.length := by omega
        subst hjj
        have hlc : l.length ≤ c := by
          obtain ⟨-, ⟨h0, -⟩ | ⟨g', cap', cur, he, -, -, h2, -⟩⟩ := HO.out
          · cases h0
          · injection he with _ _ e3
            omega
        have hic : i < c := by omega
        have hcm : c ≤ maxLen := by
          obtain ⟨-, ⟨h0, -⟩ | ⟨g', cap', cur, he, -, -, h2, h3, -⟩⟩ := HO.out
          · cases h0
          · injection he with _ _ e3
            omega
        unfold maxLen at hcm
        go_wp2_with (refine wpl_clearE (E := idE) base 39 66 66 g l.length c i ys HO.out hij Tryz.underlying39 (.agg (idc default).toArray) zeroID rfl (idE.one default) rfl (.tmp 38) rfl rfl ?_; intro w2 ho2 hg2)
        go_ret
        have hfi : (l.filter fun x => !hasB D x) = ys.take i := by rw [HTK.out, List.take_length]
        refine ⟨_, rfl, ?_, ((HC.out.trans ((Chg.row hg2).mono fun k hk => by injection hk with hk; exact hk.symm)).mono fun k hk => by rw [hk]; rfl), rfl⟩
        rw [hfi, List.length_take, Nat.min_eq_left (by omega)]
        exact ho2
set_option maxRecDepth 100000 in
set_option maxHeartbeats 2000000 in
theorem missing_any (h : DagAt ok w p b1 b2 D) (v : Value) (l : List ID) (ok2 : Nat → Prop) (hv : Sl idE ok2 w v l) (hnd : l.Nodup) (hlen : l.length ≤ 1000000) :
    Calls Tryz.prog 33 #[.pointer (some ⟨p, 0, none⟩), v] w fun e w' => ∃ v', e = .returned v' ∧ w'.ownsRow w.heap.size 66 32 v' (l.filter fun x => !hasB D x).length (idE.flat (sortI (l.filter fun x => !hasB D x))) ∧ Below w.heap.size w w' := by
  obtain ⟨A, c, rfl, hc, hm⟩ := hv.form
  have HD := Lib.hid h.old
  have HV := Lib.hid hv
  have HN := Lib.hid hnd
  have hfl : (l.filter fun x => !hasB D x).length ≤ l.length := List.length_filter_le _ _
  clear h hv hnd
  go_enter Tryz.func33, Tryz.ntmps33
  go_wp2_with (first
    | (go_at_call 107; refine (clone_id _ _ l _ HV.out (by omega)).mono ?_; rintro e w1 ⟨v1, rfl, ho1, hb1⟩; have HO1 := Lib.hid ho1; have HB1 := Lib.hid hb1; clear ho1 hb1)
    | (go_at_call 106; refine (deleteHas_any (HD.out.below HB1.out) v1 l w.heap.size HO1.out (fun k hk hok => by (have h1 := own_ge HO1.out k hk; have h2 := hok.2; omega)) hlen).mono ?_; rintro e w2 ⟨v2, rfl, ho2, hc2, hv2⟩; have HO2 := Lib.hid ho2; have HB2 : Hid (Below w.heap.size w w2) := Lib.hid (HB1.out.trans (hc2.below HB1.out.size fun k hk => own_ge HO1.out k hk)); clear ho2 hc2 hv2)
    | (go_at_call 108; refine (sortD_id _ v2 (l.filter fun x => !hasB D x) w.heap.size 66 HO2.out (by omega)).mono ?_; rintro e w3 ⟨rfl, ho3, hg3⟩; have HO3 := Lib.hid ho3; have HB3 : Hid (Below w.heap.size w w3) := Lib.hid (below_grown_own HB2.out HO2.out (Nat.le_refl _) HB2.out.size hg3); clear ho3 hg3)
    | (go_at_call 110; refine (compact_any _ v2 (sortI (l.filter fun x => !hasB D x)) _ (Sl.of_own (E := idE) (by rw [(sortI_perm _).length_eq]; exact HO3.out)) (unlike_sorted (HN.out.filter _))).mono ?_; rintro e w4 ⟨rfl, hb4⟩))
  go_ret
  exact ⟨_, rfl, own_below HO3.out hb4, HB3.out.trans (hb4.mono HB3.out.size)⟩
end
end Go.Proofs.YtcohdfkdhdhegaaGreatDoor
namespace Go.Proofs.YtcohdfkdhdhegaaGreatDoor
open Go.RowKit

/-- Names one behind the other: k of them. -/
def chunkI : Nat → List UInt8 → List ID
  | 0, _ => []
  | k + 1, z => idOf ⟨z.toArray⟩ :: chunkI k (z.drop 32)
theorem chunkI_length (k : Nat) (z : List UInt8) : (chunkI k z).length = k := by
  induction k generalizing z with
  | zero => rfl
  | succ k ih => simp [chunkI, ih]
theorem idOf_front (x : ID) (z : List UInt8) : idOf ⟨(x.1.data.toList ++ z).toArray⟩ = x := by
  have hl : x.1.data.toList.length = 32 := by simpa using x.2
  have h : idB ⟨(x.1.data.toList ++ z).toArray⟩ = x.1.data.toList := by
    unfold idB
    simp only
    rw [List.take_append_of_le_length (by omega), List.take_of_length_le (by omega), hl]
    simp
  refine Subtype.ext (ByteArray.ext (Array.toList_inj.1 ?_))
  show (idB _).toArray.toList = _
  rw [h]
theorem chunkI_join (l : List ID) : chunkI l.length (joinI l) = l := by
  induction l with
  | nil => rfl
  | cons x l ih =>
    have hl : x.1.data.toList.length = 32 := by simpa using x.2
    have hj : joinI (x :: l) = x.1.data.toList ++ joinI l := by simp [joinI]
    rw [List.length_cons, chunkI, hj, idOf_front]
    congr 1
    rw [List.drop_append_of_le_length (by omega), List.drop_of_length_le (by omega), List.nil_append, ih]
/-- The names of a key. -/
def namesF (s : ByteArray) : Option (List ID) :=
  if s.size % 32 = 0 ∧ 1 ≤ s.size / 32 ∧ s.size / 32 ≤ 5 ∧ riseB (chunkI (s.size / 32) s.data.toList) = true then some (chunkI (s.size / 32) s.data.toList) else none
theorem sortI_rise {l : List ID} (h : riseB l = true) : sortI l = l := by
  have hp : l.Pairwise fun a b => cmpI a b ≤ 0 := by
    rw [List.pairwise_iff_getElem]
    have key : ∀ d i x y, l[i]? = some x → l[i + d + 1]? = some y → cmpI x y < 0 := by
      intro d
      induction d with
      | zero => exact fun i x y hx hy => (riseB_iff l).1 h i x y hx hy
      | succ d ih =>
        intro i x y hx hy
        have hlt : i + d + 1 < l.length := by have := (List.getElem?_eq_some_iff.1 hy).1; omega
        have h1 := ih i x _ hx (List.getElem?_eq_getElem hlt)
        have h2 := (riseB_iff l).1 h (i + d + 1) _ y (List.getElem?_eq_getElem hlt) hy
        exact cmpI_lt_trans x _ y h1 (by omega)
    intro i j hi hj hij
    have := key (j - i - 1) i _ _ (List.getElem?_eq_getElem hi) (by rw [show i + (j - i - 1) + 1 = j by omega]; exact List.getElem?_eq_getElem hj)
    omega
  exact (sortI_only (List.Perm.refl l) hp).symm
theorem rise_nodup {l : List ID} (h : riseB l = true) : l.Nodup := by
  have key : ∀ d i x y, l[i]? = some x → l[i + d + 1]? = some y → cmpI x y < 0 := by
    intro d
    induction d with
    | zero => exact fun i x y hx hy => (riseB_iff l).1 h i x y hx hy
    | succ d ih =>
      intro i x y hx hy
      have hlt : i + d + 1 < l.length := by have := (List.getElem?_eq_some_iff.1 hy).1; omega
      have h1 := ih i x _ hx (List.getElem?_eq_getElem hlt)
      have h2 := (riseB_iff l).1 h (i + d + 1) _ y (List.getElem?_eq_getElem hlt) hy
      exact cmpI_lt_trans x _ y h1 (by omega)
  unfold List.Nodup
  rw [List.pairwise_iff_getElem]
  intro i j hi hj hij he
  have := key (j - i - 1) i _ _ (List.getElem?_eq_getElem hi) (by rw [show i + (j - i - 1) + 1 = j by omega]; exact List.getElem?_eq_getElem hj)
  rw [he, cmpI_self] at this
  omega
theorem namesF_key {l : List ID} (h : riseB l = true) (h1 : 1 ≤ l.length) (h5 : l.length ≤ 5) : namesF (keyB l) = some l := by
  have hz := keyB_size l
  have hd : (keyB l).data.toList = joinI l := by unfold keyB; rw [sortI_rise h]
  have hq : (keyB l).size / 32 = l.length := by omega
  unfold namesF
  rw [hq, hd, chunkI_join, if_pos ⟨by omega, h1, h5, h⟩]
theorem namesF_parts {s : ByteArray} {l : List ID} (h : namesF s = some l) : riseB l = true ∧ 1 ≤ l.length ∧ l.length ≤ 5 := by
  unfold namesF at h
  split at h
  · rename_i hc
    cases h
    exact ⟨hc.2.2.2, by rw [chunkI_length]; exact hc.2.1, by rw [chunkI_length]; exact hc.2.2.1⟩
  · cases h

theorem slice32 (W : World) (z : List UInt8) (h : 32 ≤ z.length) : (Instr.slice 9 (.string ⟨z.toArray⟩) (some (.int .i64 32)) none none).run Tryz.prog W = .ok (.string ⟨(z.drop 32).toArray⟩) W := by
  rw [run_slice_string_l W 9 ⟨z.toArray⟩ Tryz.underlying9 .i64 32 (by decide) (by show (32 : Int) ≤ ((z.toArray.size : Nat) : Int); simp; omega)]
  show Result.ok (Value.string ((⟨z.toArray⟩ : ByteArray).extract 32 z.toArray.size)) W = _
  rw [List.size_toArray, extract_drop z 32]
theorem own_setRow {W : World} {base : Nat} {e : TypeId} {size : Nat} {v : Value} {n g : Nat} {xs : List Value} (cs : Array Value) (h : W.ownsRow base e size v n xs) (hne : ∀ k, v.ownBlock = some k → k ≠ g) : (W.setRow g cs).ownsRow base e size v n xs :=
  ⟨h.1, h.2.imp id fun ⟨g', cap, cur, hv, hb, hg, r⟩ => ⟨g', cap, cur, hv, hb, (heap_setRow_ne W g g' cs (hne g' (by rw [hv]; rfl))).trans hg, r⟩⟩
def sizeOfV : Value → Nat
  | .string z => z.size
  | _ => 0
set_option maxRecDepth 100000 in
set_option maxHeartbeats 2000000 in
theorem names_any (w : World) (s : ByteArray) (hs : s.size ≤ 1000000000) :
    Calls Tryz.prog 32 #[.string s] w fun e w' => Below w.heap.size w w' ∧ ((namesF s = none ∧ e = .returned (.tuple #[.slice none 0 0, .bool false])) ∨ ∃ l v, namesF s = some l ∧ e = .returned (.tuple #[v, .bool true]) ∧ w'.ownsRow w.heap.size 66 32 v l.length (idE.flat l)) := by
  obtain ⟨n, hn⟩ : ∃ n, s.size = n := ⟨_, rfl⟩
  have hdl : s.data.toList.length = n := by simpa using hn
  by_cases h32 : n % 32 = 0
  · obtain ⟨m, rfl⟩ : ∃ m, n = 32 * m := ⟨n / 32, by omega⟩
    have hnI : ((s.size : Nat) : Int) = 32 * (m : Int) := by rw [hn]; omega
    by_cases h15 : 1 ≤ m ∧ m ≤ 5
    · obtain ⟨h1, h5⟩ := h15
      have HNN := Lib.hid hn
      have hNF : namesF s = if riseB (chunkI m s.data.toList) = true then some (chunkI m s.data.toList) else none := by
        unfold namesF
        rw [hn, show 32 * m / 32 = m by omega]
        by_cases hr : riseB (chunkI m s.data.toList) = true
        · rw [if_pos ⟨by omega, h1, h5, hr⟩, if_pos hr]
        · rw [if_neg (fun h => hr h.2.2.2), if_neg hr]
      have HNF := Lib.hid hNF
      obtain ⟨z0, hz0⟩ : ∃ z0, s.data.toList = z0 := ⟨_, rfl⟩
      have hsz : s = ⟨z0.toArray⟩ := ByteArray.ext (by rw [← hz0])
      rw [hz0] at hdl HNF
      have HZ0 := Lib.hid hdl
      have hd0 : ((s.size : Int) % 32 == 0) = true := by rw [hnI]; simp
      have hd1 : ((s.size : Int) % 32 != 0) = false := by rw [hnI]; simp
      have HSZ := Lib.hid hsz
      clear hn hNF hz0 hdl hsz hs h32
      go_enter Tryz.func32, Tryz.ntmps32
      go_wp2_with (go_at_call 104; refine (among_any _ _ 1 5).mono ?_; rintro e w1 ⟨rfl, rfl⟩; rw [decide_eq_true (by omega)])
      clear hd0 hd1
      rw [HSZ.out]
      go_loopw [0, 4] (fun c0 c4 W => ∃ (r : Nat) (z : List UInt8) (l : List ID), c0 = .string ⟨z.toArray⟩ ∧ z.length = 32 * r ∧ l.length + r = m ∧ l ++ chunkI r z = chunkI m z0 ∧ W.ownsRow w.heap.size 66 32 c4 l.length (idE.flat l) ∧ Below w.heap.size w W) (fun c0 _ _ => sizeOfV c0)
      case atStart => exact ⟨m, z0, [], rfl, HZ0.out, by simp, by simp, ⟨rfl, .inl ⟨rfl, rfl⟩⟩, Below.refl _ _⟩
      case round =>
        obtain ⟨r, z, l, rfl, hzl, hlm, hj, hO, hB⟩ := hrel
        have HJ := Lib.hid hj
        have HO := Lib.hid hO
        have HB := Lib.hid hB
        clear hj hO hB
        by_cases hr0 : 0 < r
        · obtain ⟨q, rfl⟩ : ∃ q, r = q + 1 := ⟨r - 1, by omega⟩
          have hze : z.isEmpty = false := by
            cases z with
            | nil => simp at hzl
            | cons a l => rfl
          have hsl := fun W => slice32 W z (by omega)
          have HG1 : Hid ((wr.alloc (.cells (idc default).toArray 66)).heap[wr.heap.size]? = some (.cells (idc default).toArray 66 (0, 0))) := Lib.hid (heap_alloc_new wr _)
          have HOa : Hid ((wr.alloc (.cells (idc default).toArray 66)).ownsRow w.heap.size 66 32 u4 l.length (idE.flat l)) := Lib.hid (HO.out.alloc _)
          have HBa : Hid (Below w.heap.size w (wr.alloc (.cells (idc default).toArray 66))) := Lib.hid (HB.out.alloc HB.out.size _)
          go_upto_region 7 with fail
          change Code.wp _ _ _ _ (wr.alloc (.cells (idc default).toArray 66))
          have hne : ∀ k, u4.ownBlock = some k → k ≠ wr.heap.size := fun k hk => by have := (own_lt HO.out k hk).2; omega
          have HNE := Lib.hid hne
          have HGL : Hid (w.heap.size ≤ wr.heap.size) := Lib.hid HB.out.size
          clear hne HO HB
          generalize wr.alloc (.cells (idc default).toArray 66) = W1 at HG1 HOa HBa
          generalize wr.heap.size = g at HG1 HNE HGL
          obtain ⟨i0, hi0⟩ : ∃ i, idOf ⟨z.toArray⟩ = i := ⟨_, rfl⟩
          have HI0 := Lib.hid hi0
          clear hi0
          go_wp2_with (first
            | (refine wpl_copy_id rfl (.tmp 21) (.tmp 22) rfl g rfl ⟨z.toArray⟩ rfl _ HG1.out ?_; intro W2 hW2; rw [HI0.out] at hW2; have HB2 : Hid (Below w.heap.size w W2) := Lib.hid (by subst hW2; exact below_setRow HBa.out HGL.out _); have HK2 : Hid (W2.heap[g]? = some (.cells (idc i0).toArray 66 (0, 0))) := Lib.hid (by subst hW2; exact setRow_heap _ _ _ _ _ _ HG1.out); have HO2 : Hid (W2.ownsRow w.heap.size 66 32 u4 l.length (idE.flat l)) := Lib.hid (by subst hW2; exact own_setRow _ HOa.out HNE.out); clear hW2)
            | (refine wpl_load rfl 66 (.tmp 5) rfl g 0 rfl (idc i0) _ (fun j u hu => by rw [Nat.zero_add]; exact cell_block HK2.out (by simpa using hu)) Tryz.underlying66 rfl (by rw [idc_length]; exact id_size) ?_)
            | (refine wpl_slice1 rfl 39 66 (.tmp 25) rfl (idc i0).toArray rfl _ 32 32 Tryz.underlying39 id_info idZ_cells (by rw [List.size_toArray, idc_length]) (by decide) (by decide) ?_)
            | (at_builtin; refine wpl_app1 (idc i0).toArray w.heap.size rfl (.tmp 24) (.tmp 26) 39 66 _ 32 32 rfl Tryz.underlying39 id_info idZ_cells (by decide) (by decide) u4 l.length _ rfl rfl (by rw [List.size_toArray, idc_length]) (fun u hu => idE.one i0 u hu) HO2.out HB2.out.size (by omega) ?_; intro v' w3 ho3 hg3 hat3))
          go_roundw
          case rel =>
            refine ⟨q, z.drop 32, l ++ [i0], rfl, by simp; omega, by simp; omega, ?_, ?_, below_grown_own HB2.out HO2.out (Nat.le_refl _) HB2.out.size hg3⟩
            · rw [List.append_assoc, ← HJ.out, chunkI, HI0.out]; rfl
            · rw [List.length_append, idE.flat_append, idE.flat_one]; exact ho3
          case measure => (show (z.drop 32).toArray.size < z.toArray.size; rw [List.size_toArray, List.size_toArray, List.length_drop]; omega)
        · have hr00 : r = 0 := by omega
          subst hr00
          have hz0 : z = [] := List.eq_nil_of_length_eq_zero (by omega)
          subst hz0
          have HLC : Hid (chunkI m z0 = l) := Lib.hid (by rw [← HJ.out]; simp [chunkI])
          obtain ⟨A, c, rfl⟩ : ∃ A c, u4 = .slice A l.length c := (Sl.of_own (E := idE) HO.out).form.imp fun A h => h.imp fun c h => h.1
          by_cases hri : riseB l = true
          · go_wp2_with (go_at_call 105; refine (rise_any _ _ l _ (Sl.of_own HO.out)).mono ?_; rintro e w4 ⟨rfl, hb4⟩; rw [hri])
            (try simp only [Exit.inBlock, Exit.then])
            refine ⟨rfl, .tuple #[.slice A l.length c, .bool true], by kernel_rfl, ?_⟩
            refine ⟨HB.out.trans (hb4.mono HB.out.size), .inr ⟨l, _, ?_, rfl, own_below HO.out hb4⟩⟩
            rw [HNF.out, HLC.out, if_pos hri]
          · have hrf : riseB l = false := by simpa using hri
            go_wp2_with (go_at_call 105; refine (rise_any _ _ l _ (Sl.of_own HO.out)).mono ?_; rintro e w4 ⟨rfl, hb4⟩; rw [hrf])
            (try simp only [Exit.inBlock, Exit.then])
            refine ⟨rfl, .tuple #[.slice none 0 0, .bool false], by kernel_rfl, ?_⟩
            refine ⟨HB.out.trans (hb4.mono HB.out.size), .inl ⟨?_, rfl⟩⟩
            rw [HNF.out, HLC.out, if_neg hri]
    · have hNF : namesF s = none := by
        unfold namesF
        rw [if_neg fun h => h15 ⟨by rw [hn] at h; omega, by rw [hn] at h; omega⟩]
      have HNF := Lib.hid hNF
      clear hNF h32
      go_enter Tryz.func32, Tryz.ntmps32
      go_wp2_with (go_at_call 104; refine (among_any _ _ 1 5).mono ?_; rintro e w1 ⟨rfl, rfl⟩; rw [decide_eq_false (by omega)])
      (try simp only [Exit.inBlock, Exit.then])
      refine ⟨rfl, .tuple #[.slice none 0 0, .bool false], by kernel_rfl, ?_⟩
      exact ⟨Below.refl _ _, .inl ⟨HNF.out, rfl⟩⟩
  · have hNF : namesF s = none := by
      unfold namesF
      rw [if_neg fun h => h32 (by rw [hn] at h; exact h.1)]
    have HNF := Lib.hid hNF
    clear hNF
    go_enter Tryz.func32, Tryz.ntmps32
    go_wp2
    (try simp only [Exit.inBlock, Exit.then])
    refine ⟨rfl, .tuple #[.slice none 0 0, .bool false], by kernel_rfl, ?_⟩
    exact ⟨Below.refl _ _, .inl ⟨HNF.out, rfl⟩⟩
end Go.Proofs.YtcohdfkdhdhegaaGreatDoor
namespace Go.Proofs.YtcohdfkdhdhegaaGreatDoor
open Go.RowKit

section
variable {P : Program} {ops : Array Oper} {Q : Exit → Act → World → Prop} {md : Region.Mode} {S : World → Prop} {ds : List Nat}
theorem wpT_first {i : Nat} {oi : Oper} {v : Value} (hi : ops[i]? = some oi) (hsel : ∀ (j : Nat) (o : Oper) cs b, ops[j]? = some o → o.op ≠ .select cs b)
    (hQ : ∀ c a w, Q (.panic c) (a.put oi.dst v) w → Q (.panic c) a w) (C : List Nat) (hdC : ∀ d ∈ ds, d ∈ C)
    (hC : ∀ d ∈ C, d ≠ i ∧ ∀ od, ops[d]? = some od → ∃ e ∈ od.after, Region.binds md e = true ∧ (e.on = i ∨ e.on ∈ C)) :
    ∀ (n : Nat) (l : Array Bool) (a : Act) (w : World),
      (∀ j oj, ops[j]? = some oj → j ≠ i → l.getD j true = false → (∀ e ∈ oj.after, Region.binds md e = true → e.on ≠ i) → oi.apart ops oj = true) → (∀ d ∈ C, l.getD d false = false) →
      i ∈ Region.ready md ops l → YieldsIf P ops S oi v a → S w → wpD P md ops Q S ds n (l.setIfInBounds i true) (a.put oi.dst v) w → wpD P md ops Q S ds (n + 1) l a w := by
  intro n
  induction n with
  | zero =>
    intro l a w _ _ hr hy hS H
    refine ⟨fun h => (by rw [h] at hr; cases hr), fun j hj => ?_⟩
    rcases Nat.decEq j i with hji | hji
    · have := ready_mono hj hji
      rw [H.1] at this
      cases this
    · subst hji; exact hy.wpOp hi hS ⟨fun _ => hS, H⟩
  | succ n ih =>
    intro l a w hfree hl hr hy hS H
    refine ⟨fun h => (by rw [h] at hr; cases hr), fun j hj => ?_⟩
    rcases Nat.decEq j i with hji | hji
    · obtain ⟨hjun, oj, hoj, hall⟩ := mem_ready.1 hj
      have hjC : j ∉ C := fun hd => by
        obtain ⟨e, he, hb, hon | hon⟩ := (hC j hd).2 oj hoj
        · exact waits_not hr hall he hb hon
        · have h1 := hall e he hb
          rw [hl _ hon] at h1
          cases h1
      have hnd : j ∉ ds := fun hd => hjC (hdC j hd)
      have h2 := wpOp_putIf hoj (hfree j oj hoj hji hjun fun e he hb heq => waits_not hr hall he hb heq) (fun cs b => hsel i oi cs b hi) (fun cs b => hsel j oj cs b hoj) hQ hy (H.2 j (ready_mono hj hji))
      refine wpOp_mono (fun a' w' h3 => ⟨h3.2.1, ih _ a' w' (fun k ok hk hki hun hno => ?_) (fun d hd => ?_) (ready_mono hr (Ne.symm hji)) h3.1 (h3.2.1 hnd) ?_⟩) h2
      · refine hfree k ok hk hki ?_ hno
        rcases Nat.decEq j k with hjk | hjk
        · rw [getD_set_ne true hjk] at hun; exact hun
        · subst hjk; exact hjun
      · have hne : j ≠ d := fun e => hjC (by rw [e]; exact hd)
        rw [getD_set_ne false hne]
        exact hl d hd
      · rw [Array.setIfInBounds_comm _ _ hji]
        exact h3.2.2
    · subst hji; exact hy.wpOp hi hS ⟨fun _ => hS, H⟩
/-- Those that wait for an operation, through others too. -/
def afterC (md : Region.Mode) (ops : Array Oper) (i : Nat) : List Nat :=
  (List.range ops.size).foldl (fun C j => if decide (j ≠ i) && (match ops[j]? with | some o => o.after.any (fun e => Region.binds md e && (e.on == i || C.contains e.on)) | none => false) then j :: C else C) []
def endT (md : Region.Mode) (ops : Array Oper) (l : Array Bool) (ds : List Nat) (i : Nat) : Bool :=
  let C := afterC md ops i
  ds.all (fun d => C.contains d) && C.all fun d => decide (d ≠ i) && !(l.getD d false) && match ops[d]? with | some od => od.after.any (fun e => Region.binds md e && (e.on == i || C.contains e.on)) | none => true
theorem tkT_ (i : Nat) (N : Option Tmp) (l' : Array Bool) {oi : Oper} {v : Value} {fuel : Nat} {l : Array Bool} {a : Act} {w : World} (hi : ops[i]? = some oi) (hN : oi.dst = N) (hc : (tkB md ops l l' i && endT md ops l ds i) = true)
    (hQ : ∀ c a w, Q (.panic c) (a.put oi.dst v) w → Q (.panic c) a w) (hy : YieldsIf P ops S oi v a) (hS : S w) {a' : Act} (ha : a.put N v = a')
    (h : wpD P md ops Q S ds fuel l' a' w) : wpD P md ops Q S ds (fuel + 1) l a w := by
  subst ha
  subst hN
  simp only [tkB, endT, Bool.and_eq_true, beq_iff_eq] at hc
  obtain ⟨⟨⟨⟨h1, h2⟩, h3⟩, h4⟩, h5, h6⟩ := hc
  subst h4
  refine wpT_first hi (Region.noSelect_spec h1) hQ (afterC md ops i) (fun d hd => by simpa using List.all_eq_true.1 h5 d hd) (fun d hd => ?_) fuel l a w (Region.free_spec hi h2) (fun d hd => ?_) (by simpa using h3) hy hS h
  · have h7 := List.all_eq_true.1 h6 d hd
    simp only [Bool.and_eq_true, decide_eq_true_eq] at h7
    refine ⟨h7.1.1, fun od ho => ?_⟩
    have h8 := h7.2
    rw [ho] at h8
    obtain ⟨e, he, hx⟩ := Array.any_eq_true'.1 h8
    simp only [Bool.and_eq_true, Bool.or_eq_true, beq_iff_eq, List.contains_iff_mem] at hx
    exact ⟨e, he, hx.1, hx.2⟩
  · have h7 := List.all_eq_true.1 h6 d hd
    simp only [Bool.and_eq_true, decide_eq_true_eq, Bool.not_eq_true'] at h7
    exact h7.1.2
end
end Go.Proofs.YtcohdfkdhdhegaaGreatDoor
