/- Ways through a dag, in plain words. No program in sight. coxswainref01.Num, Text. coxswainref01.Text; coxswainref05.Join, Bytes. -/
import Derived.Test.YtcohdfkdhdhegaaGreatDoorPbAF
import Derived.Test.YtcohdfkdhdhegaaGreatDoorPbAL
import Derived.Test.YtcohdfkdhdhegaaGreatDoorPbAO
namespace Go.Proofs.YtcohdfkdhdhegaaGreatDoor

/-- A tipset of a dag, by its names. -/
structure TipOf (G : List Hdr) (T : List ID) : Prop where
  rise : riseB T = true
  one : 1 ≤ T.length
  five : T.length ≤ 5
  ok : (tipG G T).1 = 0
def headG (G : List Hdr) : List ID → Option Hdr
  | i :: _ => getG G i
  | [] => none
def parG (G : List Hdr) (T : List ID) : List ID := match headG G T with | some h => h.parents | none => []
def hgtG (G : List Hdr) (T : List ID) : Int := match headG G T with | some h => h.height | none => 0
def valsG (G : List Hdr) (T : List ID) : List (ID × Hdr) := T.filterMap fun i => (getG G i).map blkG
theorem tipG_all {G : List Hdr} {T : List ID} (h : (tipG G T).1 = 0) : T.all (hasG G) = true ∧ tipB (valsG G T) = true ∧ tipG G T = (0, valsG G T) := by
  unfold tipG at h ⊢
  by_cases ha : T.all (hasG G) = true
  · rw [if_pos ha] at h ⊢
    by_cases hb : tipB (T.filterMap fun i => (getG G i).map blkG) = true
    · rw [if_pos hb]; exact ⟨ha, hb, rfl⟩
    · rw [if_neg hb] at h; cases h
  · rw [if_neg ha] at h; cases h
theorem TipOf.all {G : List Hdr} {T : List ID} (h : TipOf G T) : ∀ i ∈ T, hasG G i = true := List.all_eq_true.1 (tipG_all h.ok).1
theorem TipOf.val {G : List Hdr} {T : List ID} (h : TipOf G T) : tipG G T = (0, valsG G T) := (tipG_all h.ok).2.2
theorem TipOf.head {G : List Hdr} {T : List ID} (h : TipOf G T) : ∃ x, headG G T = some x ∧ x ∈ G ∧ ∃ l, T = hdrID x :: l := by
  cases T with
  | nil => have := h.one; simp at this
  | cons i l =>
    obtain ⟨x, hx⟩ := hasG_get (h.all i (by simp))
    obtain ⟨h1, h2⟩ := getG_some hx
    exact ⟨x, hx, h1, l, by rw [h2]⟩
theorem hgt_val {G : List Hdr} {T : List ID} (h : TipOf G T) : heightV (valsG G T) = hgtG G T := by
  obtain ⟨x, hx, -, l, rfl⟩ := h.head
  unfold hgtG
  rw [hx]
  unfold valsG
  have hg : getG G (hdrID x) = some x := hx
  rw [List.filterMap_cons, hg]
  rfl
theorem getG_app {G : List Hdr} {i : ID} (h : hasG G i = true) (l : List Hdr) : getG (G ++ l) i = getG G i := by
  obtain ⟨x, hx⟩ := hasG_get h
  unfold getG at *
  rw [List.find?_append, hx]
  rfl
theorem hasG_app {G : List Hdr} {i : ID} (h : hasG G i = true) (l : List Hdr) : hasG (G ++ l) i = true := by
  obtain ⟨x, hx, he⟩ := hasG_iff.1 h
  exact hasG_iff.2 ⟨x, List.mem_append_left _ hx, he⟩
theorem valsG_app {G : List Hdr} {T : List ID} (h : ∀ i ∈ T, hasG G i = true) (l : List Hdr) : valsG (G ++ l) T = valsG G T := by
  unfold valsG
  induction T with
  | nil => rfl
  | cons i T ih =>
    rw [List.filterMap_cons, List.filterMap_cons, getG_app (h i (by simp)) l, ih fun j hj => h j (List.mem_cons_of_mem _ hj)]
theorem TipOf.app {G : List Hdr} {T : List ID} (h : TipOf G T) (l : List Hdr) : TipOf (G ++ l) T where
  rise := h.rise
  one := h.one
  five := h.five
  ok := by
    have h1 := valsG_app h.all l
    have h2 := (tipG_all h.ok).2.1
    unfold tipG
    rw [if_pos (List.all_eq_true.2 fun i hi => hasG_app (h.all i hi) l)]
    show (if tipB (valsG (G ++ l) T) = true then ((0 : Int), valsG (G ++ l) T) else (15, [])).1 = 0
    rw [h1, if_pos h2]
theorem headG_app {G : List Hdr} {T : List ID} (h : TipOf G T) (l : List Hdr) : headG (G ++ l) T = headG G T := by
  cases T with
  | nil => rfl
  | cons i T => exact getG_app (h.all i (by simp)) l
theorem hgtG_app {G : List Hdr} {T : List ID} (h : TipOf G T) (l : List Hdr) : hgtG (G ++ l) T = hgtG G T := by unfold hgtG; rw [headG_app h l]
/-- A block's parents are a tipset below it; only the first one has none. -/
theorem GoodG.parents {G : List Hdr} (g : GoodG G) : ∀ h ∈ G, h = genH ∨ (TipOf G h.parents ∧ hgtG G h.parents < h.height ∧ 1 ≤ h.height) := by
  induction g with
  | start => intro h hh; exact .inl (List.mem_singleton.1 hh)
  | @add G h0 g hc ih =>
    intro h hh
    rcases List.mem_append.1 hh with hh | hh
    · rcases ih h hh with rfl | ⟨h1, h2, h3⟩
      · exact .inl rfl
      · exact .inr ⟨h1.app _, by rw [hgtG_app h1]; exact h2, h3⟩
    · rw [List.mem_singleton.1 hh]
      obtain ⟨p1, -, p3, p4⟩ := checkG_parts hc
      obtain ⟨r1, r2, r3⟩ := check_parts p1
      have ht : TipOf G h0.parents := ⟨r1, r2, r3, p3⟩
      refine .inr ⟨ht.app _, ?_, ?_⟩
      · rw [hgtG_app ht, ← hgt_val ht]
        rw [ht.val] at p4
        exact p4
      · unfold checkH at p1
        split at p1
        · cases p1
        · split at p1
          · rename_i hc2; exact hc2.1.1
          · cases p1
theorem GoodG.gen {G : List Hdr} (g : GoodG G) : genH ∈ G := by
  induction g with
  | start => simp
  | add _ _ ih => exact List.mem_append_left _ ih
theorem GoodG.hgt0 {G : List Hdr} (g : GoodG G) {T : List ID} (h : TipOf G T) : 0 ≤ hgtG G T := by
  obtain ⟨x, hx, hm, -⟩ := h.head
  unfold hgtG
  rw [hx]
  rcases g.parents x hm with rfl | ⟨-, -, h3⟩
  · exact Int.le_refl _
  · show 0 ≤ x.height
    omega
/-- Behind a tipset lies its parents' one, below it; or nothing. -/
theorem GoodG.par {G : List Hdr} (g : GoodG G) {T : List ID} (h : TipOf G T) : (parG G T = [] ∧ ∃ l, T = rootID :: l) ∨ (TipOf G (parG G T) ∧ hgtG G (parG G T) < hgtG G T ∧ 1 ≤ hgtG G T) := by
  obtain ⟨x, hx, hm, l, hT⟩ := h.head
  unfold parG hgtG
  rw [hx]
  rcases g.parents x hm with rfl | ⟨h1, h2, h3⟩
  · exact .inl ⟨rfl, l, hT⟩
  · exact .inr ⟨h1, h2, h3⟩
/-- A tipset and all behind it, the highest first. -/
def chainN (G : List Hdr) : Nat → List ID → List (List ID)
  | 0, _ => []
  | n + 1, T => if T = [] then [] else T :: chainN G n (parG G T)
theorem chainN_stop (G : List Hdr) : ∀ n, chainN G n [] = []
  | 0 => rfl
  | n + 1 => by rw [chainN, if_pos rfl]
theorem GoodG.chain_more {G : List Hdr} (g : GoodG G) : ∀ (n : Nat) (T : List ID), TipOf G T → (hgtG G T).toNat < n → chainN G (n + 1) T = chainN G n T
  | 0, T, _, hl => by omega
  | n + 1, T, h, hl => by
    show (if T = [] then [] else T :: chainN G (n + 1) (parG G T)) = (if T = [] then [] else T :: chainN G n (parG G T))
    split
    · rfl
    · rcases g.par h with ⟨h0, -⟩ | ⟨h1, h2, h3⟩
      · rw [h0, chainN_stop, chainN_stop]
      · have h4 := g.hgt0 h1
        rw [g.chain_more n _ h1 (by omega)]
/-- .. of a tipset of a dag. -/
def chainG (G : List Hdr) (T : List ID) : List (List ID) := chainN G ((hgtG G T).toNat + 1) T
theorem GoodG.chainN_eq {G : List Hdr} (g : GoodG G) {T : List ID} (h : TipOf G T) : ∀ n, (hgtG G T).toNat < n → chainN G n T = chainG G T := by
  intro n hn
  obtain ⟨k, rfl⟩ : ∃ k, n = (hgtG G T).toNat + 1 + k := ⟨n - ((hgtG G T).toNat + 1), by omega⟩
  induction k with
  | zero => rfl
  | succ k ih =>
    rw [← Nat.add_assoc, g.chain_more _ T h (by omega)]
    exact ih (by omega)
theorem GoodG.chain_step {G : List Hdr} (g : GoodG G) {T : List ID} (h : TipOf G T) : chainG G T = T :: (if parG G T = [] then [] else chainG G (parG G T)) := by
  have hne : T ≠ [] := fun e => by have := h.one; rw [e] at this; simp at this
  unfold chainG
  rw [chainN, if_neg hne]
  congr 1
  rcases g.par h with ⟨h0, -⟩ | ⟨h1, h2, h3⟩
  · rw [h0, chainN_stop, if_pos rfl]
  · have h4 := g.hgt0 h1
    have hp : parG G T ≠ [] := fun e => by have := h1.one; rw [e] at this; simp at this
    rw [if_neg hp]
    exact g.chainN_eq h1 _ (by omega)
end Go.Proofs.YtcohdfkdhdhegaaGreatDoor
namespace Go.Proofs.YtcohdfkdhdhegaaGreatDoor
open Go.RowKit

/-- How many bytes a number has: the greatest one is not nought. -/
theorem numLen_stop (f : Nat) : ∀ (y i : Nat), y < 256 ^ f → (∀ j, j < i → 0 < y / 256 ^ j) → y / 256 ^ i = 0 → numLen f y = i := by
  induction f with
  | zero =>
    intro y i hy h _
    have hy0 : y = 0 := by simpa using hy
    subst hy0
    cases i with
    | zero => rfl
    | succ i => exact absurd (h 0 (by omega)) (by simp)
  | succ f ih =>
    intro y i hy h h0
    cases i with
    | zero =>
      have : y = 0 := by simpa using h0
      subst this
      simp [numLen]
    | succ i =>
      have hp : 0 < y := by simpa using h 0 (by omega)
      rw [numLen_succ f y hp, ih (y / 256) i]
      · omega
      · rw [Nat.pow_succ] at hy
        exact Nat.div_lt_of_lt_mul (by rw [Nat.mul_comm]; exact hy)
      · intro j hj
        have := h (j + 1) (by omega)
        rwa [Nat.div_div_eq_div_mul, Nat.mul_comm, ← Nat.pow_succ]
      · rwa [Nat.div_div_eq_div_mul, Nat.mul_comm, ← Nat.pow_succ]

set_option maxRecDepth 100000 in
set_option maxHeartbeats 2000000 in
theorem rnum_any (w : World) (x : Int) (h0 : -9223372036854775808 ≤ x) (h1 : x ≤ 9223372036854775807) :
    Calls Tryz.prog 145 #[.int .i64 x] w fun e w' => e = .returned (.string ⟨(numB x.toNat).toArray⟩) ∧ Below w.heap.size w w' := by
  obtain ⟨X, hX⟩ : ∃ X : Nat, max x 0 = (X : Int) := ⟨x.toNat, by omega⟩
  have hXl : X ≤ 9223372036854775807 := by omega
  have HXT : Hid (x.toNat = X) := Lib.hid (by omega)
  have HM := Lib.hid hX
  clear hX
  go_enter Tryz.func145, Tryz.ntmps145
  have hX := HM.out
  go_wp2
  clear hX
  go_loopw [0, 3] (fun c0 c3 wr => ∃ i : Nat, i ≤ 8 ∧ c0 = .int .i64 ((X / 256 ^ i : Nat) : Int) ∧ c3 = .string ⟨(dig X i).toArray⟩ ∧ (∀ j, j < i → 0 < X / 256 ^ j) ∧ Below w.heap.size w wr) (fun c0 _ _ => (intOf c0).toNat)
  case atStart => exact ⟨0, by omega, by simp, rfl, fun j hj => by omega, Below.refl _ _⟩
  case round =>
    obtain ⟨i, hi, rfl, rfl, hp, hB⟩ := hrel
    have HP := Lib.hid hp
    have HB := Lib.hid hB
    obtain ⟨y, hy⟩ : ∃ y, X / 256 ^ i = y := ⟨_, rfl⟩
    have hyX : y ≤ X := by rw [← hy]; exact Nat.div_le_self _ _
    rw [hy]
    have hS : X / 256 ^ (i + 1) = y / 256 := by rw [← hy, Nat.pow_succ, Nat.div_div_eq_div_mul]
    have HS := Lib.hid hS
    have hD : dig X (i + 1) = UInt8.ofNat y :: dig X i := by rw [← hy]; rfl
    have HD := Lib.hid hD
    have HY := Lib.hid hy
    have h8 : i = 8 → y = 0 := by
      intro e
      subst e
      have := HY.out
      have h2 : X < 256 ^ 8 := by have : (256 : Nat) ^ 8 = 18446744073709551616 := by decide
                                  omega
      rw [Nat.div_eq_of_lt h2] at this
      exact this.symm
    clear hp hB hy hS hD
    obtain ⟨z, hz⟩ : ∃ z, dig X i = z := ⟨_, rfl⟩
    have hzl : z.length = i := by rw [← hz, dig_length]
    rw [hz]
    have HZ := Lib.hid hz
    clear hz
    by_cases hlt : 0 < y
    · have hi8 : i < 8 := by have := h8; omega
      obtain ⟨b, hb⟩ : ∃ b, UInt8.ofNat y = b := ⟨_, rfl⟩
      have hby : (y : Int) % 256 = ((b.toNat : Nat) : Int) := by rw [← hb]; simp
      have hcv := conv_one wr b
      have HBB := Lib.hid hb
      clear hb h8
      go_wp2
      go_roundw
      case rel =>
        refine ⟨i + 1, by omega, by rw [HS.out]; congr 1, ?_, ?_, HB.out.alloc HB.out.size _⟩
        · rw [HD.out, HZ.out, HBB.out]
          congr 1
        · intro j hj
          rcases Nat.lt_or_eq_of_le (Nat.le_of_lt_succ hj) with h | h
          · exact HP.out j h
          · subst h; rw [HY.out]; exact hlt
      case measure => simp [intOf]; omega
    · have hy0 : y = 0 := by omega
      subst hy0
      have hL : numLen 8 X = i := numLen_stop 8 X i (by have : (256 : Nat) ^ 8 = 18446744073709551616 := by decide
                                                        omega) HP.out HY.out
      obtain ⟨b, hb⟩ : ∃ b, UInt8.ofNat i = b := ⟨_, rfl⟩
      have hby : (i : Int) = ((b.toNat : Nat) : Int) := by rw [← hb, UInt8.toNat_ofNat_of_lt' (by show i < 256; omega)]
      have hcv := conv_one wr b
      have HF : Hid (numB X = b :: z) := Lib.hid (by rw [numB, hL, hb, HZ.out])
      clear hL hb
      go_wp2
      go_ret
      refine ⟨?_, HB.out.alloc HB.out.size _⟩
      rw [HXT.out, HF.out]
      congr 1
end Go.Proofs.YtcohdfkdhdhegaaGreatDoor
namespace Go.Proofs.YtcohdfkdhdhegaaGreatDoor
open Go.RowKit

theorem str_add (a b : List UInt8) : (⟨a.toArray⟩ : ByteArray) ++ ⟨b.toArray⟩ = ⟨(a ++ b).toArray⟩ := ByteArray.ext (Array.toList_inj.1 (by simp))
theorem str_of (s : ByteArray) : s = ⟨s.data.toList.toArray⟩ := ByteArray.ext (by simp)

set_option maxRecDepth 100000 in
set_option maxHeartbeats 2000000 in
theorem rtext_any (w : World) (s : ByteArray) (hs : s.size ≤ 1099511627776) :
    Calls Tryz.prog 146 #[.string s] w fun e w' => e = .returned (.string ⟨(textB s).toArray⟩) ∧ Below w.heap.size w w' := by
  obtain ⟨nb, hnb⟩ : ∃ nb, numB s.size = nb := ⟨_, rfl⟩
  have hnl : nb.length ≤ 9 := by rw [← hnb]; exact numB_length _
  have HN := Lib.hid (rnum_any w (s.size : Int) (by omega) (by omega))
  rw [Int.toNat_natCast, hnb] at HN
  have HNB := Lib.hid hnb
  clear hnb
  have hz : (⟨nb.toArray⟩ : ByteArray).size ≤ 9 := by show nb.toArray.size ≤ 9; simpa using hnl
  go_enter Tryz.func146, Tryz.ntmps146
  go_wp2_with (go_at_call 145; refine HN.out.mono ?_; rintro e w1 ⟨rfl, hb1⟩)
  go_ret
  refine ⟨?_, hb1⟩
  have h1 : (⟨nb.toArray⟩ : ByteArray) ++ s = ⟨(textB s).toArray⟩ := by
    conv => lhs; rw [str_of s]
    rw [str_add, textB, HNB.out]
  exact congrArg (fun o => Ending.returned (Value.string o)) h1

/-- Texts, one behind the other. -/
def joinS (l : List ByteArray) : List UInt8 := l.flatMap fun s => s.data.toList
set_option maxRecDepth 100000 in
set_option maxHeartbeats 2000000 in
theorem rjoin_any (w : World) (v : Value) (l : List ByteArray) (ok : Nat → Prop) (hl : Sl strE ok w v l) (hlen : l.length ≤ 1000) (hz : ∀ s ∈ l, s.size ≤ 1000000) :
    Calls Tryz.prog 26 #[v] w fun e w' => e = .returned (.string ⟨(joinS l).toArray⟩) ∧ w = w' := by
  obtain ⟨A, c, rfl, hc, hm⟩ := hl.form
  have HL := Lib.hid hl
  have HZ := Lib.hid hz
  clear hl hz
  go_enter Tryz.func26, Tryz.ntmps26
  go_wp2
  go_loop [3, 8] (fun c3 c8 => ∃ (i : Nat) (o : ByteArray), i ≤ l.length ∧ c8 = .int .i64 (i : Int) ∧ c3 = .string o ∧ o.data.toList = joinS (l.take i) ∧ o.size ≤ 1000000 * i) (fun _ c8 => l.length - (intOf c8).toNat)
  case atStart => exact ⟨0, ⟨#[]⟩, by omega, rfl, rfl, rfl, by show (0 : Nat) ≤ _; omega⟩
  case round =>
    obtain ⟨i, o, hi, rfl, rfl, ho, hos⟩ := hrel
    have HO := Lib.hid ho
    clear ho
    by_cases hil : i < l.length
    · obtain ⟨x, hx⟩ : ∃ x, l[i]? = some x := ⟨_, List.getElem?_eq_getElem hil⟩
      obtain ⟨b, off, rfl, hbl, -, hcx⟩ := HL.out.at_ i x hx
      have hxs : x.size ≤ 1000000 := HZ.out x (List.mem_of_getElem? hx)
      have hcell : w.cell? ⟨b, off + i * 1, none⟩ = some (.string x) := hcx 0 _ rfl
      rw [Nat.mul_one] at hcell
      have HTK : Hid (joinS (l.take (i + 1)) = joinS (l.take i) ++ x.data.toList) := Lib.hid (by rw [List.take_add_one, hx]; simp [joinS])
      have hos2 : o.size ≤ 1000000000 := by omega
      clear hcx hx
      go_wp2
      go_round
      case rel => exact ⟨i + 1, o ++ x, by omega, by go_num, rfl, by rw [ba_append, HO.out, HTK.out], by rw [ByteArray.size_append]; omega⟩
      case measure => simp [intOf]; omega
    · have hin : i = l.length := by omega
      subst hin
      go_wp2
      go_ret
      have h1 : o = ⟨(joinS l).toArray⟩ := ByteArray.ext (Array.toList_inj.1 (by rw [HO.out, List.take_length]))
      exact ⟨congrArg (fun o => Ending.returned (Value.string o)) h1, rfl⟩

theorem exec_addS {o : Oper} {a : Act} {W : World} (x y : Operand) (ho : o.op = .binOp .add 9 x y 9) {s t : ByteArray} (hx : a.eval x = .string s) (hy : a.eval y = .string t) (hz : s.size + t.size ≤ 9223372036854775807) :
    (execOp a.eval o).run Tryz.prog W = .ok (.value (.string (s ++ t))) W := by
  unfold execOp
  simp only [ho, hx, hy]
  have hlt : ¬ 9223372036854775807 < s.size + t.size := by omega
  go_simp
/-- A header's bytes, as the document tells them. -/
def rhdrB (h : RH) : List UInt8 :=
  numB h.height.toNat ++ numB h.miner.toNat ++ textB h.ticket ++ (numB h.wins.toNat ++ numB (IntKind.i64.wrap h.power).toNat ++ numB h.parents.length) ++ joinS h.parents ++ numB h.salt.toNat
/-- A header that may be told. -/
structure TellH (h : RH) : Prop where
  height : I64 h.height
  miner : I64 h.miner
  wins : I64 h.wins
  salt : I64 h.salt
  ticket : h.ticket.size ≤ 1000
  parents : h.parents.length ≤ 100
  names : ∀ s ∈ h.parents, s.size ≤ 1000
structure BytS (w W : World) (x : LRH) (ok : Nat → Prop) : Prop where
  box : W.heap[w.heap.size]? = some (.cells x.cells.toArray 29 (0, 0))
  at_ : x.At ok W
  below : Below w.heap.size w W
theorem BytS.next {w W W' : World} {x : LRH} {ok : Nat → Prop} (h : BytS w W x ok) (hb : Below W.heap.size W W') : BytS w W' x ok where
  box := (hb.block _ (Array.getElem?_eq_some_iff.1 h.box).1).trans h.box
  at_ := Sl.below h.at_ hb
  below := h.below.trans (hb.mono h.below.size)
theorem numS_size (x : Nat) : (⟨(numB x).toArray⟩ : ByteArray).size ≤ 9 := by
  show (numB x).toArray.size ≤ 9
  have := numB_length x
  simpa using this

set_option maxRecDepth 100000 in
set_option maxHeartbeats 2000000 in
theorem rbytes_any (w : World) (x : LRH) (ok : Nat → Prop) (hx : x.At ok w) (hok : TellH x.h) :
    Calls Tryz.prog 139 #[.agg x.cells.toArray] w fun e w' => e = .returned (.string ⟨(rhdrB x.h).toArray⟩) ∧ Below w.heap.size w w' := by
  obtain ⟨⟨height, miner, ticket, wins, power, parents, salt⟩, A, c⟩ := x
  have HS0 : Hid (BytS w (w.alloc (.cells (LRH.cells ⟨⟨height, miner, ticket, wins, power, parents, salt⟩, A, c⟩).toArray 29)) ⟨⟨height, miner, ticket, wins, power, parents, salt⟩, A, c⟩ ok) := Lib.hid ⟨heap_alloc_new w _, Sl.below hx ((Below.refl _ w).alloc (Nat.le_refl _) _), (Below.refl _ w).alloc (Nat.le_refl _) _⟩
  have HOK := Lib.hid hok
  have htk : ticket.size ≤ 1000 := hok.ticket
  obtain ⟨s1, h1⟩ : ∃ s : ByteArray, (⟨(numB height.toNat).toArray⟩ : ByteArray) = s := ⟨_, rfl⟩
  obtain ⟨s2, h2⟩ : ∃ s : ByteArray, (⟨(numB miner.toNat).toArray⟩ : ByteArray) = s := ⟨_, rfl⟩
  obtain ⟨s3, h3⟩ : ∃ s : ByteArray, (⟨(textB ticket).toArray⟩ : ByteArray) = s := ⟨_, rfl⟩
  obtain ⟨s4, h4⟩ : ∃ s : ByteArray, (⟨(numB wins.toNat).toArray⟩ : ByteArray) = s := ⟨_, rfl⟩
  obtain ⟨s5, h5⟩ : ∃ s : ByteArray, (⟨(numB (IntKind.i64.wrap power).toNat).toArray⟩ : ByteArray) = s := ⟨_, rfl⟩
  obtain ⟨s6, h6⟩ : ∃ s : ByteArray, (⟨(numB parents.length).toArray⟩ : ByteArray) = s := ⟨_, rfl⟩
  obtain ⟨s8, h8⟩ : ∃ s : ByteArray, (⟨(numB salt.toNat).toArray⟩ : ByteArray) = s := ⟨_, rfl⟩
  have z1 : s1.size ≤ 9 := by rw [← h1]; exact numS_size _
  have z2 : s2.size ≤ 9 := by rw [← h2]; exact numS_size _
  have z4 : s4.size ≤ 9 := by rw [← h4]; exact numS_size _
  have z5 : s5.size ≤ 9 := by rw [← h5]; exact numS_size _
  have z6 : s6.size ≤ 9 := by rw [← h6]; exact numS_size _
  have z8 : s8.size ≤ 9 := by rw [← h8]; exact numS_size _
  have z3 : s3.size ≤ 1009 := by
    rw [← h3]
    show (textB ticket).toArray.size ≤ 1009
    have := numB_length ticket.size
    have h0 : ticket.data.toList.length = ticket.size := by simp
    rw [List.size_toArray, textB, List.length_append, h0]
    omega
  have HC1 : Hid (∀ W, Calls Tryz.prog 145 #[.int .i64 height] W fun e w' => e = .returned (.string s1) ∧ Below W.heap.size W w') := Lib.hid fun W => by rw [← h1]; exact rnum_any W _ hok.height.1 hok.height.2
  have HC2 : Hid (∀ W, Calls Tryz.prog 145 #[.int .i64 miner] W fun e w' => e = .returned (.string s2) ∧ Below W.heap.size W w') := Lib.hid fun W => by rw [← h2]; exact rnum_any W _ hok.miner.1 hok.miner.2
  have HC3 : Hid (∀ W, Calls Tryz.prog 146 #[.string ticket] W fun e w' => e = .returned (.string s3) ∧ Below W.heap.size W w') := Lib.hid fun W => by rw [← h3]; exact rtext_any W _ (by omega)
  have HC4 : Hid (∀ W, Calls Tryz.prog 145 #[.int .i64 wins] W fun e w' => e = .returned (.string s4) ∧ Below W.heap.size W w') := Lib.hid fun W => by rw [← h4]; exact rnum_any W _ hok.wins.1 hok.wins.2
  have HC5 : Hid (∀ W, Calls Tryz.prog 145 #[.int .i64 (IntKind.i64.wrap power)] W fun e w' => e = .returned (.string s5) ∧ Below W.heap.size W w') := Lib.hid fun W => by rw [← h5]; exact rnum_any W _ (by simp [IntKind.wrap, IntKind.bits, IntKind.signed]; omega) (by simp [IntKind.wrap, IntKind.bits, IntKind.signed]; omega)
  have HC6 : Hid (∀ W, Calls Tryz.prog 145 #[.int .i64 (parents.length : Int)] W fun e w' => e = .returned (.string s6) ∧ Below W.heap.size W w') := Lib.hid fun W => by
    have := rnum_any W (parents.length : Int) (by omega) (by have : parents.length ≤ 100 := hok.parents; omega)
    rw [Int.toNat_natCast, h6] at this
    exact this
  have HC8 : Hid (∀ W, Calls Tryz.prog 145 #[.int .i64 salt] W fun e w' => e = .returned (.string s8) ∧ Below W.heap.size W w') := Lib.hid fun W => by rw [← h8]; exact rnum_any W _ hok.salt.1 hok.salt.2
  have HB := Lib.hid (show (rhdrB ⟨height, miner, ticket, wins, power, parents, salt⟩) = s1.data.toList ++ s2.data.toList ++ s3.data.toList ++ (s4.data.toList ++ s5.data.toList ++ s6.data.toList) ++ joinS parents ++ s8.data.toList by
    rw [← h1, ← h2, ← h3, ← h4, ← h5, ← h6, ← h8]; simp [rhdrB])
  clear h1 h2 h3 h4 h5 h6 h8 hx hok
  go_enter Tryz.func139, Tryz.ntmps139
  go_upto_region 1 with fail
  change Code.wp _ _ _ _ (w.alloc (.cells (LRH.cells ⟨⟨height, miner, ticket, wins, power, parents, salt⟩, A, c⟩).toArray 29))
  generalize w.alloc (.cells (LRH.cells ⟨⟨height, miner, ticket, wins, power, parents, salt⟩, A, c⟩).toArray 29) = W0 at HS0 ⊢
  have HS1 := Lib.hid (HS0.out.next (Below.refl _ W0).drew)
  refine st_ (S := (fun W' => BytS w W' ⟨⟨height, miner, ticket, wins, power, parents, salt⟩, A, c⟩ ok)) 12 (bt 0 12) (by kernel_rfl) rfl (by rfl) HS1.out (fun hHeld => ?_)
  refine tk_ 0 (some 6) (bt 1 11) (v := ?_) (a' := ?_) rfl rfl (by kernel_rfl) (fun _ _ _ h => h) (yieldsIf_run rfl ?_) hHeld ?_ ?_
  rotate_left
  · intro w'
    go_simp
    with_reducible rfl
  rotate_left
  · simp only [Act.put, List.setIfInBounds_toArray, List.set_cons_zero, List.set_cons_succ]
    rfl
  refine tk_ 1 (some 7) (bt 2 10) rfl rfl (by kernel_rfl) (fun _ _ _ h => h) (yieldsIf_cell rfl 3 (.tmp 6) rfl ⟨w.heap.size, 0, none⟩ rfl (.int .i64 height) _ (fun W' h => cell_block h.box rfl) Tryz.underlying3 rfl) hHeld (a' := ?_) ?_ ?_
  rotate_left
  · simp only [Act.put, List.setIfInBounds_toArray, List.set_cons_zero, List.set_cons_succ]
    rfl
  refine tk_ 3 (some 9) #[true, true, false, true, false, false, false, false, false, false, false, false] (v := ?_) (a' := ?_) rfl rfl (by kernel_rfl) (fun _ _ _ h => h) (yieldsIf_run rfl ?_) hHeld ?_ ?_
  rotate_left
  · intro w'
    go_simp
    with_reducible rfl
  rotate_left
  · simp only [Act.put, List.setIfInBounds_toArray, List.set_cons_zero, List.set_cons_succ]
    rfl
  refine tk_ 4 (some 10) #[true, true, false, true, true, false, false, false, false, false, false, false] rfl rfl (by kernel_rfl) (fun _ _ _ h => h) (yieldsIf_cell rfl 3 (.tmp 9) rfl ⟨w.heap.size, 1, none⟩ rfl (.int .i64 miner) _ (fun W' h => cell_block h.box rfl) Tryz.underlying3 rfl) hHeld (a' := ?_) ?_ ?_
  rotate_left
  · simp only [Act.put, List.setIfInBounds_toArray, List.set_cons_zero, List.set_cons_succ]
    rfl
  refine tk_ 7 (some 13) #[true, true, false, true, true, false, false, true, false, false, false, false] (v := ?_) (a' := ?_) rfl rfl (by kernel_rfl) (fun _ _ _ h => h) (yieldsIf_run rfl ?_) hHeld ?_ ?_
  rotate_left
  · intro w'
    go_simp
    with_reducible rfl
  rotate_left
  · simp only [Act.put, List.setIfInBounds_toArray, List.set_cons_zero, List.set_cons_succ]
    rfl
  refine tk_ 8 (some 14) #[true, true, false, true, true, false, false, true, true, false, false, false] rfl rfl (by kernel_rfl) (fun _ _ _ h => h) (yieldsIf_cell rfl 9 (.tmp 13) rfl ⟨w.heap.size, 2, none⟩ rfl (.string ticket) _ (fun W' h => cell_block h.box rfl) Tryz.underlying9 rfl) hHeld (a' := ?_) ?_ ?_
  rotate_left
  · simp only [Act.put, List.setIfInBounds_toArray, List.set_cons_zero, List.set_cons_succ]
    rfl
  refine call_ 2 (some 8) #[true, true, true, true, true, false, false, true, true, false, false, false] rfl rfl (by kernel_rfl) rfl 145 _ (by kernel_rfl) (HC1.out _) ?_
  rintro e w1 ⟨rfl, hb1⟩
  refine ⟨_, rfl, hHeld.next hb1, fun hHeld => ⟨?_, ?_, ?_⟩⟩
  rotate_left
  · simp only [Act.put, List.setIfInBounds_toArray, List.set_cons_zero, List.set_cons_succ]
    rfl
  refine call_ 5 (some 11) #[true, true, true, true, true, true, false, true, true, false, false, false] rfl rfl (by kernel_rfl) rfl 145 _ (by kernel_rfl) (HC2.out _) ?_
  rintro e w2 ⟨rfl, hb2⟩
  refine ⟨_, rfl, hHeld.next hb2, fun hHeld => ⟨?_, ?_, ?_⟩⟩
  rotate_left
  · simp only [Act.put, List.setIfInBounds_toArray, List.set_cons_zero, List.set_cons_succ]
    rfl
  refine tk_ 6 (some 12) (bt 9 3) rfl rfl (by kernel_rfl) (fun _ _ _ h => h) (yieldsIf_of (v := .string (s1 ++ s2)) rfl fun W' _ => exec_addS (.tmp 8) (.tmp 11) rfl rfl rfl (by omega)) hHeld (a' := ?_) ?_ ?_
  rotate_left
  · simp only [Act.put, List.setIfInBounds_toArray, List.set_cons_zero, List.set_cons_succ]
    rfl
  refine call_ 9 (some 15) (bt 10 2) rfl rfl (by kernel_rfl) rfl 146 _ (by kernel_rfl) (HC3.out _) ?_
  rintro e w3 ⟨rfl, hb3⟩
  refine ⟨_, rfl, hHeld.next hb3, fun hHeld => ⟨?_, ?_, ?_⟩⟩
  rotate_left
  · simp only [Act.put, List.setIfInBounds_toArray, List.set_cons_zero, List.set_cons_succ]
    rfl
  refine tk_ 10 (some 16) (bt 11 1) rfl rfl (by kernel_rfl) (fun _ _ _ h => h) (yieldsIf_of (v := .string (s1 ++ s2 ++ s3)) rfl fun W' _ => exec_addS (.tmp 12) (.tmp 15) rfl rfl rfl (by rw [ByteArray.size_append]; omega)) hHeld (a' := ?_) ?_ ?_
  rotate_left
  · simp only [Act.put, List.setIfInBounds_toArray, List.set_cons_zero, List.set_cons_succ]
    rfl
  refine tk_ 11 (some 3) (bt 12 0) (v := ?_) (a' := ?_) rfl rfl (by kernel_rfl) (fun _ _ _ h => h) (yieldsIf_run rfl ?_) hHeld ?_ ?_
  rotate_left
  · intro w'
    go_simp
    with_reducible rfl
  rotate_left
  · simp only [Act.put, List.setIfInBounds_toArray, List.set_cons_zero, List.set_cons_succ]
    rfl
  refine wpAnyH_done (by kernel_rfl) ?_ _
  change Exit.then _ _ _ _ _
  have HS3 := Lib.hid (hHeld.next (Below.refl _ _).drew)
  obtain ⟨sa, hsa⟩ : ∃ s, s1 ++ s2 ++ s3 = s := ⟨_, rfl⟩
  have za : sa.size ≤ 1100 := by rw [← hsa, ByteArray.size_append, ByteArray.size_append]; omega
  rw [hsa]
  have HSA : Hid (sa.data.toList = s1.data.toList ++ s2.data.toList ++ s3.data.toList) := Lib.hid (by rw [← hsa, ba_append, ba_append])
  clear hsa z1 z2 z3
  go_upto_region 2 with fail
  refine st_ (S := (fun W' => BytS w W' ⟨⟨height, miner, ticket, wins, power, parents, salt⟩, A, c⟩ ok)) 16 (bt 0 16) (by kernel_rfl) rfl (by rfl) HS3.out (fun hHeld => ?_)
  refine tk_ 0 (some 17) (bt 1 15) (v := ?_) (a' := ?_) rfl rfl (by kernel_rfl) (fun _ _ _ h => h) (yieldsIf_run rfl ?_) hHeld ?_ ?_
  rotate_left
  · intro w'
    go_simp
    with_reducible rfl
  rotate_left
  · simp only [Act.put, List.setIfInBounds_toArray, List.set_cons_zero, List.set_cons_succ]
    rfl
  refine tk_ 1 (some 18) (bt 2 14) (v := ?_) (a' := ?_) rfl rfl (by kernel_rfl) (fun _ _ _ h => h) (yieldsIf_run rfl ?_) hHeld ?_ ?_
  rotate_left
  · intro w'
    go_simp
    with_reducible rfl
  rotate_left
  · simp only [Act.put, List.setIfInBounds_toArray, List.set_cons_zero, List.set_cons_succ]
    rfl
  refine tk_ 2 (some 19) (bt 3 13) rfl rfl (by kernel_rfl) (fun _ _ _ h => h) (yieldsIf_cell rfl 3 (.tmp 18) rfl ⟨w.heap.size, 3, none⟩ rfl (.int .i64 wins) _ (fun W' h => cell_block h.box rfl) Tryz.underlying3 rfl) hHeld (a' := ?_) ?_ ?_
  rotate_left
  · simp only [Act.put, List.setIfInBounds_toArray, List.set_cons_zero, List.set_cons_succ]
    rfl
  refine tk_ 4 (some 21) #[true, true, true, false, true, false, false, false, false, false, false, false, false, false, false, false] (v := ?_) (a' := ?_) rfl rfl (by kernel_rfl) (fun _ _ _ h => h) (yieldsIf_run rfl ?_) hHeld ?_ ?_
  rotate_left
  · intro w'
    go_simp
    with_reducible rfl
  rotate_left
  · simp only [Act.put, List.setIfInBounds_toArray, List.set_cons_zero, List.set_cons_succ]
    rfl
  refine tk_ 5 (some 22) #[true, true, true, false, true, true, false, false, false, false, false, false, false, false, false, false] rfl rfl (by kernel_rfl) (fun _ _ _ h => h) (yieldsIf_cell rfl 26 (.tmp 21) rfl ⟨w.heap.size, 4, none⟩ rfl (.int .u64 power) _ (fun W' h => cell_block h.box rfl) Tryz.underlying26 rfl) hHeld (a' := ?_) ?_ ?_
  rotate_left
  · simp only [Act.put, List.setIfInBounds_toArray, List.set_cons_zero, List.set_cons_succ]
    rfl
  refine tk_ 6 (some 23) #[true, true, true, false, true, true, true, false, false, false, false, false, false, false, false, false] rfl rfl (by kernel_rfl) (fun _ _ _ h => h) (yieldsIf_of (v := .int .i64 (IntKind.i64.wrap power)) rfl fun W' _ => by kernel_rfl) hHeld (a' := ?_) ?_ ?_
  rotate_left
  · simp only [Act.put, List.setIfInBounds_toArray, List.set_cons_zero, List.set_cons_succ]
    rfl
  refine tk_ 9 (some 26) #[true, true, true, false, true, true, true, false, false, true, false, false, false, false, false, false] (v := ?_) (a' := ?_) rfl rfl (by kernel_rfl) (fun _ _ _ h => h) (yieldsIf_run rfl ?_) hHeld ?_ ?_
  rotate_left
  · intro w'
    go_simp
    with_reducible rfl
  rotate_left
  · simp only [Act.put, List.setIfInBounds_toArray, List.set_cons_zero, List.set_cons_succ]
    rfl
  refine tk_ 10 (some 27) #[true, true, true, false, true, true, true, false, false, true, true, false, false, false, false, false] rfl rfl (by kernel_rfl) (fun _ _ _ h => h) (yieldsIf_cell rfl 27 (.tmp 26) rfl ⟨w.heap.size, 5, none⟩ rfl (.slice A parents.length c) _ (fun W' h => cell_block h.box rfl) Tryz.underlying27 rfl) hHeld (a' := ?_) ?_ ?_
  rotate_left
  · simp only [Act.put, List.setIfInBounds_toArray, List.set_cons_zero, List.set_cons_succ]
    rfl
  refine tk_ 11 (some 28) #[true, true, true, false, true, true, true, false, false, true, true, true, false, false, false, false] (v := ?_) (a' := ?_) rfl rfl (by kernel_rfl) (fun _ _ _ h => h) (yieldsIf_run rfl ?_) hHeld ?_ ?_
  rotate_left
  · intro w'
    go_simp
    with_reducible rfl
  rotate_left
  · simp only [Act.put, List.setIfInBounds_toArray, List.set_cons_zero, List.set_cons_succ]
    rfl
  refine call_ 3 (some 20) #[true, true, true, true, true, true, true, false, false, true, true, true, false, false, false, false] rfl rfl (by kernel_rfl) rfl 145 _ (by kernel_rfl) (HC4.out _) ?_
  rintro e w4 ⟨rfl, hb4⟩
  refine ⟨_, rfl, hHeld.next hb4, fun hHeld => ⟨?_, ?_, ?_⟩⟩
  rotate_left
  · simp only [Act.put, List.setIfInBounds_toArray, List.set_cons_zero, List.set_cons_succ]
    rfl
  refine call_ 7 (some 24) #[true, true, true, true, true, true, true, true, false, true, true, true, false, false, false, false] rfl rfl (by kernel_rfl) rfl 145 _ (by kernel_rfl) (HC5.out _) ?_
  rintro e w5 ⟨rfl, hb5⟩
  refine ⟨_, rfl, hHeld.next hb5, fun hHeld => ⟨?_, ?_, ?_⟩⟩
  rotate_left
  · simp only [Act.put, List.setIfInBounds_toArray, List.set_cons_zero, List.set_cons_succ]
    rfl
  refine tk_ 8 (some 25) (bt 12 4) rfl rfl (by kernel_rfl) (fun _ _ _ h => h) (yieldsIf_of (v := .string (s4 ++ s5)) rfl fun W' _ => exec_addS (.tmp 20) (.tmp 24) rfl rfl rfl (by omega)) hHeld (a' := ?_) ?_ ?_
  rotate_left
  · simp only [Act.put, List.setIfInBounds_toArray, List.set_cons_zero, List.set_cons_succ]
    rfl
  refine call_ 12 (some 29) (bt 13 3) rfl rfl (by kernel_rfl) rfl 145 _ (by kernel_rfl) (HC6.out _) ?_
  rintro e w6 ⟨rfl, hb6⟩
  refine ⟨_, rfl, hHeld.next hb6, fun hHeld => ⟨?_, ?_, ?_⟩⟩
  rotate_left
  · simp only [Act.put, List.setIfInBounds_toArray, List.set_cons_zero, List.set_cons_succ]
    rfl
  refine tk_ 13 (some 30) (bt 14 2) rfl rfl (by kernel_rfl) (fun _ _ _ h => h) (yieldsIf_of (v := .string (s4 ++ s5 ++ s6)) rfl fun W' _ => exec_addS (.tmp 25) (.tmp 29) rfl rfl rfl (by rw [ByteArray.size_append]; omega)) hHeld (a' := ?_) ?_ ?_
  rotate_left
  · simp only [Act.put, List.setIfInBounds_toArray, List.set_cons_zero, List.set_cons_succ]
    rfl
  refine tk_ 14 (some 31) (bt 15 1) rfl rfl (by kernel_rfl) (fun _ _ _ h => h) (yieldsIf_of (v := .string (sa ++ (s4 ++ s5 ++ s6))) rfl fun W' _ => exec_addS (.tmp 17) (.tmp 30) rfl rfl rfl (by rw [ByteArray.size_append, ByteArray.size_append]; omega)) hHeld (a' := ?_) ?_ ?_
  rotate_left
  · simp only [Act.put, List.setIfInBounds_toArray, List.set_cons_zero, List.set_cons_succ]
    rfl
  refine tk_ 15 (some 3) (bt 16 0) (v := ?_) (a' := ?_) rfl rfl (by kernel_rfl) (fun _ _ _ h => h) (yieldsIf_run rfl ?_) hHeld ?_ ?_
  rotate_left
  · intro w'
    go_simp
    with_reducible rfl
  rotate_left
  · simp only [Act.put, List.setIfInBounds_toArray, List.set_cons_zero, List.set_cons_succ]
    rfl
  refine wpAnyH_done (by kernel_rfl) ?_ _
  change Exit.then _ _ _ _ _
  have HS6 := Lib.hid hHeld
  obtain ⟨sb, hsb⟩ : ∃ s, sa ++ (s4 ++ s5 ++ s6) = s := ⟨_, rfl⟩
  have zb : sb.size ≤ 1200 := by rw [← hsb, ByteArray.size_append, ByteArray.size_append, ByteArray.size_append]; omega
  rw [hsb]
  have HSB : Hid (sb.data.toList = s1.data.toList ++ s2.data.toList ++ s3.data.toList ++ (s4.data.toList ++ s5.data.toList ++ s6.data.toList)) := Lib.hid (by rw [← hsb, ba_append, ba_append, ba_append, HSA.out])
  clear hsb za z4 z5 z6 hHeld
  have hpl : parents.length ≤ 100 := HOK.out.parents
  have hnm : ∀ s ∈ parents, s.size ≤ 1000 := HOK.out.names
  have HNM := Lib.hid hnm
  clear hnm
  have hc5 : w6.cell? ⟨w.heap.size, 5, none⟩ = some (.slice A parents.length c) := cell_block HS6.out.box rfl
  have hc6 : w6.cell? ⟨w.heap.size, 6, none⟩ = some (.int .i64 salt) := cell_block HS6.out.box rfl
  have HAT : Hid (Sl strE ok w6 (.slice A parents.length c) parents) := Lib.hid HS6.out.at_
  obtain ⟨-, hcl, hcm⟩ := HAT.out.len
  go_wp2
  go_loop [3, 35] (fun c3 c8 => ∃ (i : Nat) (o : ByteArray), i ≤ parents.length ∧ c8 = .int .i64 (i : Int) ∧ c3 = .string o ∧ o.data.toList = sb.data.toList ++ joinS (parents.take i) ∧ o.size ≤ 1200 + 1000 * i) (fun _ c8 => parents.length - (intOf c8).toNat)
  case atStart => exact ⟨0, sb, by omega, rfl, rfl, by simp [joinS], by omega⟩
  case round =>
    obtain ⟨i, o, hi, rfl, rfl, ho, hos⟩ := hrel
    have HO := Lib.hid ho
    clear ho
    by_cases hil : i < parents.length
    · obtain ⟨x, hx⟩ : ∃ x, parents[i]? = some x := ⟨_, List.getElem?_eq_getElem hil⟩
      obtain ⟨b, off, rfl, hbl, -, hcx⟩ := HAT.out.at_ i x hx
      have hxs : x.size ≤ 1000 := HNM.out x (List.mem_of_getElem? hx)
      have hcell : w6.cell? ⟨b, off + i * 1, none⟩ = some (.string x) := hcx 0 _ rfl
      rw [Nat.mul_one] at hcell
      have HTK : Hid (joinS (parents.take (i + 1)) = joinS (parents.take i) ++ x.data.toList) := Lib.hid (by rw [List.take_add_one, hx]; simp [joinS])
      have hos2 : o.size ≤ 1000000 := by omega
      clear hcx hx
      go_wp2
      go_round
      case rel => exact ⟨i + 1, o ++ x, by omega, by go_num, rfl, by rw [ba_append, HO.out, HTK.out, List.append_assoc], by rw [ByteArray.size_append]; omega⟩
      case measure => simp [intOf]; omega
    · have hin : i = parents.length := by omega
      subst hin
      have hos2 : o.size ≤ 1000000 := by omega
      go_wp2_with (go_at_call 145; refine (HC8.out _).mono ?_; rintro e w8 ⟨rfl, hb8⟩)
      go_ret
      have h1 : o ++ s8 = ⟨(rhdrB ⟨height, miner, ticket, wins, power, parents, salt⟩).toArray⟩ := ByteArray.ext (Array.toList_inj.1 (by rw [ba_append, HO.out, List.take_length, HSB.out, HB.out]))
      exact ⟨congrArg (fun o => Ending.returned (Value.string o)) h1, HS6.out.below.trans (hb8.mono HS6.out.below.size)⟩
end Go.Proofs.YtcohdfkdhdhegaaGreatDoor
