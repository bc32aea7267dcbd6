/- A header: how it lies; header.Bytes. -/
import Derived.Test.YthpcedficlhanaaGreatDoorNum
import Derived.Test.YthpcedficlhanaaGreatDoorKey
import Derived.Deep.RegionHeld3
import Derived.Laws.IdiomStrings
namespace Go.Proofs.YthpcedficlhanaaGreatDoor
open Go.RowKit

structure Hdr where
  height : Int
  miner : Int
  ticket : ByteArray
  wins : Int
  power : Int
  parents : List ID
  salt : Int

/-- A header whose parents lie somewhere. -/
structure LH where
  h : Hdr
  A : Option Addr
  c : Nat
def LH.v (x : LH) : Value := .slice x.A x.h.parents.length x.c
def LH.cells (x : LH) : List Value := [.int .i64 x.h.height, .int .i64 x.h.miner, .string x.h.ticket, .int .i64 x.h.wins, .int .u64 x.h.power, x.v, .int .i64 x.h.salt]
def LH.At (ok : Nat → Prop) (w : World) (x : LH) : Prop := Sl idE ok w x.v x.h.parents

def I64 (x : Int) : Prop := -9223372036854775808 ≤ x ∧ x ≤ 9223372036854775807
/-- What is asked of a header where its bytes are made. -/
structure Hdr.Ok (h : Hdr) : Prop where
  height : I64 h.height
  miner : I64 h.miner
  wins : I64 h.wins
  salt : I64 h.salt
  p0 : 0 ≤ h.power
  p1 : h.power ≤ 4611686018427387904
  ticket : h.ticket.size ≤ 1048576
  parents : h.parents.length ≤ 1048576

/-- Its bytes. -/
def hdrB (h : Hdr) : List UInt8 :=
  numB h.height.toNat ++ numB h.miner.toNat ++ textB h.ticket ++ numB h.wins.toNat ++ numB h.power.toNat ++ numB h.parents.length ++ joinI h.parents ++ numB h.salt.toNat

theorem num_s (B b n : Nat) (l : List UInt8) (x : Int) (w W : World) (h : BufAt 217 B b l w) (hB : B ≤ w.heap.size) (hW : Below B W w) (hl : l.length ≤ n) (hn : n ≤ 1099511627776) (h0 : -9223372036854775808 ≤ x) (h1 : x ≤ 9223372036854775807) :
    Calls Tryz.prog 159 #[.pointer (some ⟨b, 0, none⟩), .int .i64 x] w fun e w' => e = .returned (.pointer (some ⟨b, 0, none⟩)) ∧ BufAt 217 B b (l ++ numB x.toNat) w' ∧ B ≤ w'.heap.size ∧ (l ++ numB x.toNat).length ≤ n + 9 ∧ Below B W w' :=
  (num_any B b l x w h h0 h1 (by omega) hB).mono fun e w' ⟨he, hu, hb⟩ => ⟨he, hu.buf, Nat.le_trans hB hb.size, by have := numB_length x.toNat; simp; omega, hW.trans hb⟩
theorem text_s (B b n : Nat) (l : List UInt8) (x : ByteArray) (w W : World) (h : BufAt 217 B b l w) (hB : B ≤ w.heap.size) (hW : Below B W w) (hl : l.length ≤ n) (hn : n ≤ 1099511627776) (hx : x.size ≤ 68719476736) :
    Calls Tryz.prog 160 #[.pointer (some ⟨b, 0, none⟩), .string x] w fun e w' => e = .returned (.pointer (some ⟨b, 0, none⟩)) ∧ BufAt 217 B b (l ++ textB x) w' ∧ B ≤ w'.heap.size ∧ (l ++ textB x).length ≤ n + 68719476745 ∧ Below B W w' :=
  (text_any B b l x w h (by omega) hB).mono fun e w' ⟨he, hu, hb⟩ => ⟨he, hu.buf, Nat.le_trans hB hb.size, by have := numB_length x.size; simp [textB]; omega, hW.trans hb⟩

/-- A name's bytes as a text. -/
theorem conv_id (w : World) (b off : Nat) (x : ID) (h : BytesAt w b off x.1) : (convert 133 9 (.slice (some ⟨b, off, none⟩) 32 32)).run Tryz.prog w = .ok (.string x.1) w := by
  have h2 := run_convert_bytes_back (P := Tryz.prog) w 133 9 5 ⟨b, off, none⟩ 32 x.1.data.toList Tryz.underlying133 Tryz.underlying5 Tryz.underlying9 (fun j hj => by
    rw [add_off]
    exact h j _ (bytesC_at x.1 j _ (List.getElem?_eq_getElem hj)))
  rw [show x.1.data.toList.length = 32 by simpa using x.2] at h2
  simpa using h2

theorem keep6 {w w' : World} {B b : Nat} {v0 v1 v2 v3 v4 v5 : Value} (hb : Below B w w') (hlt : b < B)
    (h : w.cell? ⟨b, 0, none⟩ = some v0 ∧ w.cell? ⟨b, 1, none⟩ = some v1 ∧ w.cell? ⟨b, 2, none⟩ = some v2 ∧ w.cell? ⟨b, 3, none⟩ = some v3 ∧ w.cell? ⟨b, 4, none⟩ = some v4 ∧ w.cell? ⟨b, 5, none⟩ = some v5) :
    w'.cell? ⟨b, 0, none⟩ = some v0 ∧ w'.cell? ⟨b, 1, none⟩ = some v1 ∧ w'.cell? ⟨b, 2, none⟩ = some v2 ∧ w'.cell? ⟨b, 3, none⟩ = some v3 ∧ w'.cell? ⟨b, 4, none⟩ = some v4 ∧ w'.cell? ⟨b, 5, none⟩ = some v5 := by
  have hc : ∀ i, w'.cell? ⟨b, i, none⟩ = w.cell? ⟨b, i, none⟩ := fun i => hb.cell (p := ⟨b, i, none⟩) hlt
  simpa only [hc] using h

set_option maxRecDepth 100000 in
set_option maxHeartbeats 2000000 in
theorem hdrBytes_any (w : World) (x : LH) (ok : Nat → Prop) (hx : x.At ok w) (hok : x.h.Ok) :
    Calls Tryz.prog 111 #[.agg x.cells.toArray] w fun e w' => e = .returned (.string ⟨(hdrB x.h).toArray⟩) ∧ Below w.heap.size w w' := by
  obtain ⟨⟨height, miner, ticket, wins, power, parents, salt⟩, A, c⟩ := x
  have HL := Lib.hid hx
  obtain ⟨⟨h1, h2⟩, ⟨h3, h4⟩, ⟨h5, h6⟩, ⟨h7, h8⟩, h9, h10, h11, h12⟩ := hok
  simp only at h1 h2 h3 h4 h5 h6 h7 h8 h9 h10 h11 h12
  clear hx
  change Calls _ _ #[.agg #[.int .i64 height, .int .i64 miner, .string ticket, .int .i64 wins, .int .u64 power, .slice A parents.length c, .int .i64 salt]] w fun e w' => e = .returned (.string ⟨(hdrB ⟨height, miner, ticket, wins, power, parents, salt⟩).toArray⟩) ∧ Below w.heap.size w w'
  change Hid (Sl idE ok w (.slice A parents.length c) parents) at HL
  obtain ⟨-, hc, hm⟩ := HL.out.len
  go_enter Tryz.func111, Tryz.ntmps111
  go_wp2
  have hb0 : BufAt 217 (w.heap.size + 1) (w.heap.size + 1) [] ((w.alloc (.cells #[.int .i64 height, .int .i64 miner, .string ticket, .int .i64 wins, .int .u64 power, .slice A parents.length c, .int .i64 salt] 38)).alloc (.cells #[.pointer none, .slice none 0 0] 217)) := by
    have := buf_new 217 (w.alloc (.cells #[.int .i64 height, .int .i64 miner, .string ticket, .int .i64 wins, .int .u64 power, .slice A parents.length c, .int .i64 salt] 38)) (w.heap.size + 1) (by simp)
    rwa [World.size_alloc] at this
  have hB0 : Below w.heap.size w ((w.alloc (.cells #[.int .i64 height, .int .i64 miner, .string ticket, .int .i64 wins, .int .u64 power, .slice A parents.length c, .int .i64 salt] 38)).alloc (.cells #[.pointer none, .slice none 0 0] 217)) := ((Below.refl _ w).alloc (Nat.le_refl _) _).alloc (by simp) _
  have hK : ∀ i u, (#[Value.int .i64 height, .int .i64 miner, .string ticket, .int .i64 wins, .int .u64 power, .slice A parents.length c, .int .i64 salt] : Array Value)[i]? = some u → ((w.alloc (.cells #[.int .i64 height, .int .i64 miner, .string ticket, .int .i64 wins, .int .u64 power, .slice A parents.length c, .int .i64 salt] 38)).alloc (.cells #[.pointer none, .slice none 0 0] 217)).cell? ⟨w.heap.size, i, none⟩ = some u := fun i u hu => by
    refine cell_block (fr := (0, 0)) (T := 38) ?_ hu
    rw [heap_alloc_if, if_neg (by simp), heap_alloc_if, if_pos rfl]
  generalize hW : (w.alloc (.cells #[.int .i64 height, .int .i64 miner, .string ticket, .int .i64 wins, .int .u64 power, .slice A parents.length c, .int .i64 salt] 38)).alloc (.cells #[.pointer none, .slice none 0 0] 217) = W at hb0 hB0 hK
  have hS0 : W.drew.cell? ⟨w.heap.size, 0, none⟩ = some (.int .i64 height) ∧ W.drew.cell? ⟨w.heap.size, 1, none⟩ = some (.int .i64 miner) ∧ W.drew.cell? ⟨w.heap.size, 2, none⟩ = some (.string ticket) ∧ W.drew.cell? ⟨w.heap.size, 3, none⟩ = some (.int .i64 wins) ∧ W.drew.cell? ⟨w.heap.size, 4, none⟩ = some (.int .u64 power) ∧ W.drew.cell? ⟨w.heap.size, 5, none⟩ = some (.slice A parents.length c) :=
    ⟨hK 0 _ rfl, hK 1 _ rfl, hK 2 _ rfl, hK 3 _ rfl, hK 4 _ rfl, hK 5 _ rfl⟩
  have hsz : w.heap.size + 1 ≤ W.heap.size := by rw [← hW]; simp
  have hk6 : W.cell? ⟨w.heap.size, 6, none⟩ = some (.int .i64 salt) := hK 6 _ rfl
  have hb0 : BufAt 217 (w.heap.size + 1) (w.heap.size + 1) [] W.drew := hb0
  have hbw : Below (w.heap.size + 1) W W.drew := (Below.refl _ W).drew
  have hsz' : w.heap.size + 1 ≤ W.drew.heap.size := hsz
  have hl0 : ([] : List UInt8).length ≤ 0 := Nat.le_refl _
  clear hK
  have hpw : IntKind.i64.wrap power = power := IntWalk.i64_in _ (by omega)
  go_region_held3 (fun w' => w'.cell? ⟨w.heap.size, 0, none⟩ = some (.int .i64 height) ∧ w'.cell? ⟨w.heap.size, 1, none⟩ = some (.int .i64 miner) ∧ w'.cell? ⟨w.heap.size, 2, none⟩ = some (.string ticket) ∧ w'.cell? ⟨w.heap.size, 3, none⟩ = some (.int .i64 wins) ∧ w'.cell? ⟨w.heap.size, 4, none⟩ = some (.int .u64 power) ∧ w'.cell? ⟨w.heap.size, 5, none⟩ = some (.slice A parents.length c))
    (first | assumption | exact keep6 (w := W) (by assumption) (Nat.lt_succ_self _) hS0)
    (first
      | (go_at_call 159; refine (num_s _ _ _ _ _ _ W (by assumption) (by assumption) (by assumption) (by assumption) (by omega) (by omega) (by omega)).mono ?_; rintro e w' ⟨rfl, hbu, hbs, hbl, hbb⟩)
      | (go_at_call 160; refine (text_s _ _ _ _ _ _ W (by assumption) (by assumption) (by assumption) (by assumption) (by omega) (by omega)).mono ?_; rintro e w' ⟨rfl, hbu, hbs, hbl, hbb⟩))
  rename_i hH
  obtain ⟨-, -, -, -, -, hc5⟩ := hH
  have hk6' : w'.cell? ⟨w.heap.size, 6, none⟩ = some (.int .i64 salt) := (hbb.cell (p := ⟨w.heap.size, 6, none⟩) (Nat.lt_succ_self _)).trans hk6
  have hbt : Below w.heap.size w w' := hB0.trans (hbb.mono (by omega))
  obtain ⟨L, hL⟩ : ∃ L, [] ++ numB height.toNat ++ numB miner.toNat ++ textB ticket ++ numB wins.toNat ++ numB power.toNat ++ numB ((parents.length : Int)).toNat = L := ⟨_, rfl⟩
  rw [hL] at hbu hbl
  have HH := Lib.hid hL
  obtain ⟨b, hb⟩ : ∃ b, w.heap.size + 1 = b := ⟨_, rfl⟩
  have hwb : w.heap.size < b := by omega
  rw [hb] at hbu
  simp only [hb]
  clear hb0 hB0 hS0 hsz hk6 hbw hsz' hl0 hbb hW hL
  have HBT := Lib.hid hbt
  have HBU := Lib.hid hbu
  clear hbt hbu
  go_wp2
  go_loopw [29] (fun ci wr => ∃ i : Nat, i ≤ parents.length ∧ ci = .int .i64 i ∧ BufAt 217 b b (L ++ joinI (parents.take i)) wr ∧ Below b w' wr) (fun ci _ => parents.length - (intOf ci).toNat)
  case atStart => exact ⟨0, by omega, rfl, by simpa [joinI] using HBU.out, Below.refl _ _⟩
  case round =>
    obtain ⟨i, hi, rfl, hbuf, hbel⟩ := hrel
    have hsr := hbel.size
    have HBUF := Lib.hid hbuf
    have HBEL := Lib.hid hbel
    clear hbuf hbel
    by_cases hlt : i < parents.length
    · obtain ⟨x, hx⟩ : ∃ x, parents[i]? = some x := ⟨_, List.getElem?_eq_getElem hlt⟩
      have hSr : Sl idE (fun k => ok k ∧ k < w.heap.size) wr (.slice A parents.length c) parents := HL.out.old.fr (Fr.trans (Fr.below HBT.out fun k hk _ => hk.2) (Fr.below HBEL.out fun k hk _ => by omega))
      obtain ⟨bk, off, rfl, hbkl, -, hcx⟩ := hSr.at_ i x hx
      have HX := Lib.hid hcx
      clear hcx hSr
      have hcv := conv_id (wr.alloc (.cells (idc x).toArray 34)) wr.heap.size 0 x (bytesAt_new wr x.1 _)
      have hraw := raw_any b b (L ++ joinI (parents.take i)) x.1 (wr.alloc (.cells (idc x).toArray 34)) (HBUF.out.below ((Below.refl _ wr).alloc (Nat.le_refl _) _)) (by have := List.length_take_le i parents; have := x.2; rw [List.length_append, joinI_length]; omega) (by simp; omega)
      have HR := Lib.hid hraw
      clear hraw
      go_wp2_with (first
        | (refine wpl_load rfl 34 (.tmp 31) rfl bk _ rfl (idc x) _ HX.out Tryz.underlying34 rfl (by rw [idc_length]; exact id_size) ?_)
        | (refine wpl_store_new rfl 34 _ _ rfl rfl (idc x) rfl _ _ (by rw [idc_length]; simp) (idE.one x) (by rw [idc_length]; exact id_size) ?_)
        | (go_at_call 161; refine HR.out.mono ?_; rintro e w4 ⟨rfl, hu4, hb4⟩))
      go_roundw
      case rel =>
        refine ⟨i + 1, by omega, by go_num, ?_, (HBEL.out.alloc (by omega) _).trans hb4⟩
        rw [List.take_add_one, hx]
        have := joinI_snoc (parents.take i) x
        simp only [Option.toList_some]
        rw [this, ← List.append_assoc]
        exact hu4.buf
      case measure => simp [intOf]; omega
    · have hil : i = parents.length := by omega
      subst hil
      have hk : wr.cell? ⟨w.heap.size, 6, none⟩ = some (.int .i64 salt) := (HBEL.out.cell (p := ⟨w.heap.size, 6, none⟩) hwb).trans hk6'
      have hnum := num_any b b (L ++ joinI (parents.take parents.length)) salt wr HBUF.out h7 h8 (by rw [List.length_append, joinI_length, List.take_length]; omega) (by omega)
      have HN := Lib.hid hnum
      clear hnum
      go_wp2_with (first
        | (go_at_call 159; refine HN.out.mono ?_; rintro e w4 ⟨rfl, hu4, hb4⟩; have HY := Lib.hid (bytes_any b b _ w4 hu4.buf (by have := numB_ne salt.toNat; simp [this])); clear hu4)
        | (go_at_call 162; refine HY.out.mono ?_; rintro e w5 ⟨rfl, hb5⟩))
      go_ret
      refine ⟨?_, HBT.out.trans ((HBEL.out.trans (hb4.trans hb5)).mono (by omega))⟩
      have := HH.out
      simp only [Int.toNat_natCast] at this
      rw [← this]
      show Ending.returned (Value.string ⟨_⟩) = Ending.returned (Value.string ⟨_⟩)
      simp only [hdrB, List.nil_append, List.append_assoc]
end Go.Proofs.YthpcedficlhanaaGreatDoor
