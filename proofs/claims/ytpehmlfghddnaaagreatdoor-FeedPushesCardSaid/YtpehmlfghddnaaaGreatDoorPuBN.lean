/- coxswainlaw23.FeedPushes: whatever the arguments: the call returns true; they read behind it as before. The two tables of digest are as the program's text lays them (the card ties that); no other condition. -/
import Derived.Test.YtpehmlfghddnaaaGreatDoorPuBL
import Derived.Test.YtpehmlfghddnaaaGreatDoorPuBM
import Derived.Test.YtpehmlfghddnaaaGreatDoorCards
import Derived.JoinedOf
import Derived.SevenTiedAt
import Derived.Stop.Joined
import Derived.Test.YtpehmlfghddnaaaGreatDoorTie
import Derived.ChangeSame
import Derived.ChangeVars
import Derived.RowKitTokens
import Derived.LaidHandle
namespace Go.Proofs.YtpehmlfghddnaaaGreatDoor.wds
open Go
set_option maxRecDepth 100000
theorem words_app : ∀ (w r : List Char), (w.all fun c => c != Char.ofNat 32) = true → wordsSigns (w ++ Char.ofNat 32 :: r) = w :: wordsSigns r
  | [], r, _ => by simp [wordsSigns]
  | c :: w, r, h => by
    rw [List.all_cons, Bool.and_eq_true] at h
    have hc : c ≠ Char.ofNat 32 := by simpa using h.1
    have ih := words_app w r h.2
    rw [List.cons_append, wordsSigns, ih]
    exact hc
theorem words_last : ∀ (w : List Char), (w.all fun c => c != Char.ofNat 32) = true → wordsSigns w = [w]
  | [], _ => by simp [wordsSigns]
  | c :: w, h => by
    rw [List.all_cons, Bool.and_eq_true] at h
    have hc : c ≠ Char.ofNat 32 := by simpa using h.1
    have ih := words_last w h.2
    rw [wordsSigns, ih]
    exact hc
def sg0 : List Char := [104, 97, 114, 110, 101, 115, 115].map Char.ofNat
def sg1 : List Char := [57, 53, 49, 98, 101, 50, 101, 99, 55, 102, 101, 97, 48, 102, 51, 100, 98, 50, 100, 56, 53, 102, 55, 48, 53, 98, 101, 50, 54, 53, 56, 102, 100, 100, 55, 50, 98, 52, 49, 54, 55, 51, 57, 98, 49, 49, 56, 52, 53, 54, 55, 101, 53, 51, 51, 102, 99, 48, 54, 54, 98, 55, 101, 49].map Char.ofNat
def sg2 : List Char := [99, 117, 116].map Char.ofNat
def sg3 : List Char := [97, 116].map Char.ofNat
def sg4 : List Char := [99, 111, 120, 115, 119, 97, 105, 110, 47, 99, 111, 120, 115, 119, 97, 105, 110, 108, 97, 119, 48, 56, 46, 84, 105, 112, 115, 101, 116, 79, 114, 100, 101, 114].map Char.ofNat
def sg5 : List Char := [99, 111, 120, 115, 119, 97, 105, 110, 47, 99, 111, 120, 115, 119, 97, 105, 110, 108, 97, 119, 49, 51, 46, 68, 97, 103, 71, 114, 111, 119, 115].map Char.ofNat
def sg6 : List Char := [99, 111, 120, 115, 119, 97, 105, 110, 47, 99, 111, 120, 115, 119, 97, 105, 110, 108, 97, 119, 49, 51, 46, 68, 97, 103, 65, 100, 100, 115].map Char.ofNat
def sg7 : List Char := [99, 111, 120, 115, 119, 97, 105, 110, 47, 99, 111, 120, 115, 119, 97, 105, 110, 108, 97, 119, 49, 51, 46, 68, 97, 103, 84, 105, 112, 115, 101, 116, 115].map Char.ofNat
def sg8 : List Char := [99, 111, 120, 115, 119, 97, 105, 110, 47, 99, 111, 120, 115, 119, 97, 105, 110, 108, 97, 119, 49, 51, 46, 68, 97, 103, 67, 108, 111, 115, 101, 100].map Char.ofNat
def sg9 : List Char := [99, 111, 120, 115, 119, 97, 105, 110, 47, 99, 111, 120, 115, 119, 97, 105, 110, 108, 97, 119, 49, 56, 46, 77, 97, 114, 107, 70, 108, 111, 111, 114, 115].map Char.ofNat
def sg10 : List Char := [99, 111, 120, 115, 119, 97, 105, 110, 47, 99, 111, 120, 115, 119, 97, 105, 110, 108, 97, 119, 49, 56, 46, 77, 97, 114, 107, 80, 111, 105, 110, 116, 115].map Char.ofNat
def sg11 : List Char := [99, 111, 120, 115, 119, 97, 105, 110, 47, 99, 111, 120, 115, 119, 97, 105, 110, 108, 97, 119, 50, 51, 46, 70, 101, 101, 100, 80, 117, 115, 104, 101, 115].map Char.ofNat
def sg12 : List Char := [99, 111, 120, 115, 119, 97, 105, 110, 47, 99, 111, 120, 115, 119, 97, 105, 110, 108, 97, 119, 50, 51, 46, 70, 101, 101, 100, 79, 118, 101, 114, 102, 108, 111, 119, 115].map Char.ofNat
def sg13 : List Char := [99, 111, 120, 115, 119, 97, 105, 110, 47, 99, 111, 120, 115, 119, 97, 105, 110, 108, 97, 119, 50, 51, 46, 70, 101, 101, 100, 82, 101, 102, 117, 115, 101, 115].map Char.ofNat
def sg14 : List Char := [99, 111, 120, 115, 119, 97, 105, 110, 47, 99, 111, 120, 115, 119, 97, 105, 110, 108, 97, 119, 50, 51, 46, 70, 101, 101, 100, 70, 111, 108, 100, 115].map Char.ofNat
def sg15 : List Char := [99, 111, 120, 115, 119, 97, 105, 110, 47, 99, 111, 120, 115, 119, 97, 105, 110, 108, 97, 119, 49, 52, 46, 80, 97, 116, 104, 72, 101, 105, 103, 104, 116, 115].map Char.ofNat
def sg16 : List Char := [99, 111, 120, 115, 119, 97, 105, 110, 47, 99, 111, 120, 115, 119, 97, 105, 110, 108, 97, 119, 49, 52, 46, 80, 97, 116, 104, 87, 97, 108, 107, 115].map Char.ofNat
def sg17 : List Char := [99, 111, 120, 115, 119, 97, 105, 110, 47, 99, 111, 120, 115, 119, 97, 105, 110, 108, 97, 119, 49, 52, 46, 80, 97, 116, 104, 84, 104, 114, 101, 101].map Char.ofNat
def sg18 : List Char := [99, 111, 120, 115, 119, 97, 105, 110, 47, 99, 111, 120, 115, 119, 97, 105, 110, 108, 97, 119, 49, 52, 46, 80, 97, 116, 104, 84, 119, 111].map Char.ofNat
def sg19 : List Char := [99, 111, 120, 115, 119, 97, 105, 110, 47, 99, 111, 120, 115, 119, 97, 105, 110, 108, 97, 119, 49, 52, 46, 80, 97, 116, 104, 87, 101, 105, 103, 104, 116, 115].map Char.ofNat
def sg20 : List Char := [99, 111, 120, 115, 119, 97, 105, 110, 47, 99, 111, 120, 115, 119, 97, 105, 110, 108, 97, 119, 49, 57, 46, 67, 104, 111, 105, 99, 101, 66, 101, 115, 116].map Char.ofNat
def sg21 : List Char := [99, 111, 120, 115, 119, 97, 105, 110, 47, 99, 111, 120, 115, 119, 97, 105, 110, 108, 97, 119, 49, 57, 46, 67, 104, 111, 105, 99, 101, 79, 114, 100, 101, 114].map Char.ofNat
def sg22 : List Char := [99, 111, 120, 115, 119, 97, 105, 110, 47, 99, 111, 120, 115, 119, 97, 105, 110, 108, 97, 119, 49, 57, 46, 67, 104, 111, 105, 99, 101, 82, 105, 115, 101, 115].map Char.ofNat
def sg23 : List Char := [99, 111, 120, 115, 119, 97, 105, 110, 47, 99, 111, 120, 115, 119, 97, 105, 110, 108, 97, 119, 49, 57, 46, 67, 104, 111, 105, 99, 101, 77, 111, 115, 116].map Char.ofNat
def sg24 : List Char := [99, 111, 120, 115, 119, 97, 105, 110, 47, 99, 111, 120, 115, 119, 97, 105, 110, 108, 97, 119, 50, 51, 46, 70, 101, 101, 100, 72, 117, 98, 115].map Char.ofNat
theorem signed : Tryz.prog.initOrder = String.ofList (sg0 ++ Char.ofNat 32 :: (sg1 ++ Char.ofNat 32 :: (sg2 ++ Char.ofNat 32 :: (sg3 ++ Char.ofNat 32 :: (sg4 ++ Char.ofNat 32 :: (sg5 ++ Char.ofNat 32 :: (sg6 ++ Char.ofNat 32 :: (sg7 ++ Char.ofNat 32 :: (sg8 ++ Char.ofNat 32 :: (sg9 ++ Char.ofNat 32 :: (sg10 ++ Char.ofNat 32 :: (sg11 ++ Char.ofNat 32 :: (sg12 ++ Char.ofNat 32 :: (sg13 ++ Char.ofNat 32 :: (sg14 ++ Char.ofNat 32 :: (sg15 ++ Char.ofNat 32 :: (sg16 ++ Char.ofNat 32 :: (sg17 ++ Char.ofNat 32 :: (sg18 ++ Char.ofNat 32 :: (sg19 ++ Char.ofNat 32 :: (sg20 ++ Char.ofNat 32 :: (sg21 ++ Char.ofNat 32 :: (sg22 ++ Char.ofNat 32 :: (sg23 ++ Char.ofNat 32 :: (sg24))))))))))))))))))))))))) := by kernel_rfl
theorem words : wordsSigns Tryz.prog.initOrder.toList = [sg0, sg1, sg2, sg3, sg4, sg5, sg6, sg7, sg8, sg9, sg10, sg11, sg12, sg13, sg14, sg15, sg16, sg17, sg18, sg19, sg20, sg21, sg22, sg23, sg24] := by
  rw [signed, String.toList_ofList, words_app sg0 _ (by kernel_rfl), words_app sg1 _ (by kernel_rfl), words_app sg2 _ (by kernel_rfl), words_app sg3 _ (by kernel_rfl), words_app sg4 _ (by kernel_rfl), words_app sg5 _ (by kernel_rfl), words_app sg6 _ (by kernel_rfl), words_app sg7 _ (by kernel_rfl), words_app sg8 _ (by kernel_rfl), words_app sg9 _ (by kernel_rfl), words_app sg10 _ (by kernel_rfl), words_app sg11 _ (by kernel_rfl), words_app sg12 _ (by kernel_rfl), words_app sg13 _ (by kernel_rfl), words_app sg14 _ (by kernel_rfl), words_app sg15 _ (by kernel_rfl), words_app sg16 _ (by kernel_rfl), words_app sg17 _ (by kernel_rfl), words_app sg18 _ (by kernel_rfl), words_app sg19 _ (by kernel_rfl), words_app sg20 _ (by kernel_rfl), words_app sg21 _ (by kernel_rfl), words_app sg22 _ (by kernel_rfl), words_app sg23 _ (by kernel_rfl), words_last _ (by kernel_rfl)]
theorem tl_finals : "finals".toList = [102, 105, 110, 97, 108, 115].map Char.ofNat := by
  rw [show "finals" = String.ofList ([102, 105, 110, 97, 108, 115].map Char.ofNat) from by kernel_rfl]
  exact String.toList_ofList
theorem tl_reflectrows : "reflectrows".toList = [114, 101, 102, 108, 101, 99, 116, 114, 111, 119, 115].map Char.ofNat := by
  rw [show "reflectrows" = String.ofList ([114, 101, 102, 108, 101, 99, 116, 114, 111, 119, 115].map Char.ofNat) from by kernel_rfl]
  exact String.toList_ofList
theorem tl_leanrows : "leanrows".toList = [108, 101, 97, 110, 114, 111, 119, 115].map Char.ofNat := by
  rw [show "leanrows" = String.ofList ([108, 101, 97, 110, 114, 111, 119, 115].map Char.ofNat) from by kernel_rfl]
  exact String.toList_ofList
theorem tl_onebuild : "onebuild".toList = [111, 110, 101, 98, 117, 105, 108, 100].map Char.ofNat := by
  rw [show "onebuild" = String.ofList ([111, 110, 101, 98, 117, 105, 108, 100].map Char.ofNat) from by kernel_rfl]
  exact String.toList_ofList
theorem tl_publicsums : "publicsums".toList = [112, 117, 98, 108, 105, 99, 115, 117, 109, 115].map Char.ofNat := by
  rw [show "publicsums" = String.ofList ([112, 117, 98, 108, 105, 99, 115, 117, 109, 115].map Char.ofNat) from by kernel_rfl]
  exact String.toList_ofList
theorem tl_eqguard : "eqguard".toList = [101, 113, 103, 117, 97, 114, 100].map Char.ofNat := by
  rw [show "eqguard" = String.ofList ([101, 113, 103, 117, 97, 114, 100].map Char.ofNat) from by kernel_rfl]
  exact String.toList_ofList
theorem tl_ownunsafe : "ownunsafe".toList = [111, 119, 110, 117, 110, 115, 97, 102, 101].map Char.ofNat := by
  rw [show "ownunsafe" = String.ofList ([111, 119, 110, 117, 110, 115, 97, 102, 101].map Char.ofNat) from by kernel_rfl]
  exact String.toList_ofList
theorem tl_libbeside : "libbeside".toList = [108, 105, 98, 98, 101, 115, 105, 100, 101].map Char.ofNat := by
  rw [show "libbeside" = String.ofList ([108, 105, 98, 98, 101, 115, 105, 100, 101].map Char.ofNat) from by kernel_rfl]
  exact String.toList_ofList
theorem tl_ownbeside : "ownbeside".toList = [111, 119, 110, 98, 101, 115, 105, 100, 101].map Char.ofNat := by
  rw [show "ownbeside" = String.ofList ([111, 119, 110, 98, 101, 115, 105, 100, 101].map Char.ofNat) from by kernel_rfl]
  exact String.toList_ofList
theorem tl_reflbeside : "reflbeside".toList = [114, 101, 102, 108, 98, 101, 115, 105, 100, 101].map Char.ofNat := by
  rw [show "reflbeside" = String.ofList ([114, 101, 102, 108, 98, 101, 115, 105, 100, 101].map Char.ofNat) from by kernel_rfl]
  exact String.toList_ofList
theorem tl_aliases : "aliases".toList = [97, 108, 105, 97, 115, 101, 115].map Char.ofNat := by
  rw [show "aliases" = String.ofList ([97, 108, 105, 97, 115, 101, 115].map Char.ofNat) from by kernel_rfl]
  exact String.toList_ofList
theorem tl_afterinit : "afterinit".toList = [97, 102, 116, 101, 114, 105, 110, 105, 116].map Char.ofNat := by
  rw [show "afterinit" = String.ofList ([97, 102, 116, 101, 114, 105, 110, 105, 116].map Char.ofNat) from by kernel_rfl]
  exact String.toList_ofList
theorem tl_crcplain : "crcplain".toList = [99, 114, 99, 112, 108, 97, 105, 110].map Char.ofNat := by
  rw [show "crcplain" = String.ofList ([99, 114, 99, 112, 108, 97, 105, 110].map Char.ofNat) from by kernel_rfl]
  exact String.toList_ofList
theorem tl_roadunsafe : "roadunsafe".toList = [114, 111, 97, 100, 117, 110, 115, 97, 102, 101].map Char.ofNat := by
  rw [show "roadunsafe" = String.ofList ([114, 111, 97, 100, 117, 110, 115, 97, 102, 101].map Char.ofNat) from by kernel_rfl]
  exact String.toList_ofList
theorem tl_fmthandon : "fmthandon".toList = [102, 109, 116, 104, 97, 110, 100, 111, 110].map Char.ofNat := by
  rw [show "fmthandon" = String.ofList ([102, 109, 116, 104, 97, 110, 100, 111, 110].map Char.ofNat) from by kernel_rfl]
  exact String.toList_ofList
theorem tl_harness : "harness".toList = [104, 97, 114, 110, 101, 115, 115].map Char.ofNat := by
  rw [show "harness" = String.ofList ([104, 97, 114, 110, 101, 115, 115].map Char.ofNat) from by kernel_rfl]
  exact String.toList_ofList
theorem tl_ownmain : "ownmain".toList = [111, 119, 110, 109, 97, 105, 110].map Char.ofNat := by
  rw [show "ownmain" = String.ofList ([111, 119, 110, 109, 97, 105, 110].map Char.ofNat) from by kernel_rfl]
  exact String.toList_ofList
theorem tl_gc : "gc".toList = [103, 99].map Char.ofNat := by
  rw [show "gc" = String.ofList ([103, 99].map Char.ofNat) from by kernel_rfl]
  exact String.toList_ofList
theorem tl_spec : "spec".toList = [115, 112, 101, 99].map Char.ofNat := by
  rw [show "spec" = String.ofList ([115, 112, 101, 99].map Char.ofNat) from by kernel_rfl]
  exact String.toList_ofList
theorem tl_carried : "carried".toList = [99, 97, 114, 114, 105, 101, 100].map Char.ofNat := by
  rw [show "carried" = String.ofList ([99, 97, 114, 114, 105, 101, 100].map Char.ofNat) from by kernel_rfl]
  exact String.toList_ofList
theorem tl_cut : "cut".toList = [99, 117, 116].map Char.ofNat := by
  rw [show "cut" = String.ofList ([99, 117, 116].map Char.ofNat) from by kernel_rfl]
  exact String.toList_ofList
theorem strip_none : ∀ (os : List String) (w : List Char) (ws : List (List Char)), (os.map String.toList).all (fun l => w != l) = true → stripLifts os (w :: ws) = ([], w :: ws)
  | [], _, _, _ => rfl
  | o :: os, w, ws, h => by
    rw [List.map_cons, List.all_cons, Bool.and_eq_true] at h
    have hw : ¬ (w == o.toList) = true := by simpa using h.1
    rw [stripLifts, if_neg hw]
    exact strip_none os w ws h.2
theorem lifts : liftWords.map String.toList = [([102, 105, 110, 97, 108, 115].map Char.ofNat), ([114, 101, 102, 108, 101, 99, 116, 114, 111, 119, 115].map Char.ofNat), ([108, 101, 97, 110, 114, 111, 119, 115].map Char.ofNat), ([111, 110, 101, 98, 117, 105, 108, 100].map Char.ofNat), ([112, 117, 98, 108, 105, 99, 115, 117, 109, 115].map Char.ofNat), ([101, 113, 103, 117, 97, 114, 100].map Char.ofNat), ([111, 119, 110, 117, 110, 115, 97, 102, 101].map Char.ofNat), ([108, 105, 98, 98, 101, 115, 105, 100, 101].map Char.ofNat), ([111, 119, 110, 98, 101, 115, 105, 100, 101].map Char.ofNat), ([114, 101, 102, 108, 98, 101, 115, 105, 100, 101].map Char.ofNat), ([97, 108, 105, 97, 115, 101, 115].map Char.ofNat), ([97, 102, 116, 101, 114, 105, 110, 105, 116].map Char.ofNat), ([99, 114, 99, 112, 108, 97, 105, 110].map Char.ofNat), ([114, 111, 97, 100, 117, 110, 115, 97, 102, 101].map Char.ofNat), ([102, 109, 116, 104, 97, 110, 100, 111, 110].map Char.ofNat)] := by
  unfold liftWords
  simp only [List.map_cons, List.map_nil, tl_finals, tl_reflectrows, tl_leanrows, tl_onebuild, tl_publicsums, tl_eqguard, tl_ownunsafe, tl_libbeside, tl_ownbeside, tl_reflbeside, tl_aliases, tl_afterinit, tl_crcplain, tl_roadunsafe, tl_fmthandon]
theorem behind : behindMainWord (wordsSigns Tryz.prog.initOrder.toList) = [sg2, sg3, sg4, sg5, sg6, sg7, sg8, sg9, sg10, sg11, sg12, sg13, sg14, sg15, sg16, sg17, sg18, sg19, sg20, sg21, sg22, sg23, sg24] := by
  rw [words]
  unfold behindMainWord
  rw [tl_harness, tl_ownmain]
  kernel_rfl
theorem strips : stripLifts liftWords [sg2, sg3, sg4, sg5, sg6, sg7, sg8, sg9, sg10, sg11, sg12, sg13, sg14, sg15, sg16, sg17, sg18, sg19, sg20, sg21, sg22, sg23, sg24] = ([], [sg2, sg3, sg4, sg5, sg6, sg7, sg8, sg9, sg10, sg11, sg12, sg13, sg14, sg15, sg16, sg17, sg18, sg19, sg20, sg21, sg22, sg23, sg24]) := strip_none _ _ _ (by rw [lifts]; kernel_rfl)
theorem mayEnter_of (P : Program) (c : List Char) (rest : List (List Char)) (h : behindMainWord (wordsSigns P.initOrder.toList) = c :: rest) (hs : stripLifts liftWords (c :: rest) = ([], c :: rest)) (hc : (some c == some "cut".toList) = true) (hl : P.laysLater = false) (hr : P.bearsReflect = false) (hd : P.doorFits [] = true) : P.mayEnter = true := by
  unfold Program.mayEnter
  rw [h]
  simp only [hs, hl, hr, hd, List.head?_cons, hc, Bool.not_false, Bool.or_true, Bool.and_true, List.contains_nil]
theorem liftsFinal_of (P : Program) (c : List Char) (rest : List (List Char)) (h : behindMainWord (wordsSigns P.initOrder.toList) = c :: rest) (hs : stripLifts liftWords (c :: rest) = ([], c :: rest)) (hc : (some c == some "carried".toList) = false) : P.liftsFinal = false := by
  unfold Program.liftsFinal Program.headLifts
  rw [h]
  simp only [hs, List.head?_cons, hc, Bool.false_and, Bool.false_or, ite_self, List.contains_nil]
theorem make_of (P : Program) (c : List Char) (rest : List (List Char)) (h : behindMainWord (wordsSigns P.initOrder.toList) = c :: rest) (h1 : (c == "gc".toList || c == "spec".toList) = false) (h2 : (c == "cut".toList) = true) : P.make = some .cut := by
  unfold Program.make
  rw [h]
  simp only [h1, h2, Bool.true_or, if_true, Bool.false_eq_true, if_false]
theorem mainIs_of (P : Program) (a s : List Char) (r : List (List Char)) (h : wordsSigns P.initOrder.toList = a :: s :: r) (h1 : isSumSigns s = true) (h2 : (a == "harness".toList) = true) : P.mainIs = some (true, s) := by
  unfold Program.mainIs
  rw [h]
  simp only [h1, h2, Bool.not_true, Bool.false_eq_true, if_false, if_true]
theorem later : Tryz.prog.laysLater = false := by kernel_rfl
theorem refl : Tryz.prog.bearsReflect = false := by kernel_rfl
theorem door : Tryz.prog.doorFits [] = true := by kernel_rfl
theorem mayEnter_ : Tryz.prog.mayEnter = true := mayEnter_of _ _ _ behind strips (by rw [tl_cut]; kernel_rfl) later refl door
theorem liftsFinal_ : Tryz.prog.liftsFinal = false := liftsFinal_of _ _ _ behind strips (by rw [tl_carried]; kernel_rfl)
theorem make_ : Tryz.prog.make = some .cut := make_of _ _ _ behind (by rw [tl_gc, tl_spec]; kernel_rfl) (by rw [tl_cut]; kernel_rfl)
theorem mainIs_ : Tryz.prog.mainIs = some (true, sg1) := mainIs_of _ _ _ _ words (by kernel_rfl) (by rw [tl_harness]; kernel_rfl)
/-- The harness' sum, as its signs. -/
theorem told {b : Bool} {t : String} (hb : b = true) (ht : t = String.ofList sg1) : Tryz.prog.mainIs = some (b, t.toList) := by rw [hb, ht, String.toList_ofList]; exact mainIs_
end Go.Proofs.YtpehmlfghddnaaaGreatDoor.wds
namespace Go.Proofs.YtpehmlfghddnaaaGreatDoor.feedPushes
open Go
set_option maxRecDepth 100000
theorem k0 : (fun (_ : Program) (_ : FuncId) (_ : Func) (s : ChangeSpec) (c : OpenClaim) => (c.wf (OpenSpec.ofChange s) : Bool)) Tryz.prog 10 Tryz.f10 Rows.feedPushesSpec Rows.feedPushesRow = true := by kernel_rfl
theorem k1 : (fun (P : Program) (_ : FuncId) (_ : Func) (_ : ChangeSpec) (_ : OpenClaim) => (laidOutB P : Bool)) Tryz.prog 10 Tryz.f10 Rows.feedPushesSpec Rows.feedPushesRow = true := by kernel_rfl
theorem k2 : (fun (P : Program) (_ : FuncId) (_ : Func) (_ : ChangeSpec) (_ : OpenClaim) => (mapsRowed P : Bool)) Tryz.prog 10 Tryz.f10 Rows.feedPushesSpec Rows.feedPushesRow = true := by kernel_rfl
theorem k3 : (fun (P : Program) (_ : FuncId) (fn : Func) (_ : ChangeSpec) (_ : OpenClaim) => (fn.params.all (P.readableRec ·) : Bool)) Tryz.prog 10 Tryz.f10 Rows.feedPushesSpec Rows.feedPushesRow = true := by kernel_rfl
theorem k4 : (fun (P : Program) (_ : FuncId) (_ : Func) (s : ChangeSpec) (c : OpenClaim) => (namedTie P c.named s.vars : Bool)) Tryz.prog 10 Tryz.f10 Rows.feedPushesSpec Rows.feedPushesRow = true := by kernel_rfl
theorem k5 : (fun (_ : Program) (_ : FuncId) (_ : Func) (_ : ChangeSpec) (c : OpenClaim) => ((c.stops == []) : Bool)) Tryz.prog 10 Tryz.f10 Rows.feedPushesSpec Rows.feedPushesRow = true := by kernel_rfl
theorem k6 : (fun (P : Program) (_ : FuncId) (_ : Func) (_ : ChangeSpec) (_ : OpenClaim) => ((P.stops == []) : Bool)) Tryz.prog 10 Tryz.f10 Rows.feedPushesSpec Rows.feedPushesRow = true := by kernel_rfl
theorem k7 : (fun (_ : Program) (_ : FuncId) (_ : Func) (_ : ChangeSpec) (c : OpenClaim) => ((c.knobs == []) : Bool)) Tryz.prog 10 Tryz.f10 Rows.feedPushesSpec Rows.feedPushesRow = true := by kernel_rfl
theorem k8 : (fun (P : Program) (_ : FuncId) (_ : Func) (_ : ChangeSpec) (_ : OpenClaim) => ((P.stopKnobs == []) : Bool)) Tryz.prog 10 Tryz.f10 Rows.feedPushesSpec Rows.feedPushesRow = true := by kernel_rfl
theorem k9 : (fun (P : Program) (f : FuncId) (_ : Func) (_ : ChangeSpec) (c : OpenClaim) => ((c.inPlace == P.inPlace f) : Bool)) Tryz.prog 10 Tryz.f10 Rows.feedPushesSpec Rows.feedPushesRow = true := by kernel_rfl
theorem k10 : (fun (P : Program) (f : FuncId) (_ : Func) (_ : ChangeSpec) (c : OpenClaim) => ((c.unfollowed == P.unfollowed f) : Bool)) Tryz.prog 10 Tryz.f10 Rows.feedPushesSpec Rows.feedPushesRow = true := by kernel_rfl
theorem k11 : (fun (P : Program) (f : FuncId) (_ : Func) (_ : ChangeSpec) (c : OpenClaim) => ((c.recurses == P.recurses f) : Bool)) Tryz.prog 10 Tryz.f10 Rows.feedPushesSpec Rows.feedPushesRow = true := by kernel_rfl
theorem k12 : (fun (P : Program) (f : FuncId) (_ : Func) (_ : ChangeSpec) (c : OpenClaim) => ((c.named == P.varsNamed f) : Bool)) Tryz.prog 10 Tryz.f10 Rows.feedPushesSpec Rows.feedPushesRow = true := by kernel_rfl
theorem k13 : (fun (P : Program) (_ : FuncId) (fn : Func) (s : ChangeSpec) (c : OpenClaim) => ((c.maps == (fn.params.toList ++ s.plain.varTypes P).any (P.mapsRec ·)) : Bool)) Tryz.prog 10 Tryz.f10 Rows.feedPushesSpec Rows.feedPushesRow = true := by kernel_rfl
theorem k14 : (fun (P : Program) (_ : FuncId) (fn : Func) (s : ChangeSpec) (c : OpenClaim) => ((c.ifaces == (fn.params.toList ++ s.plain.varTypes P).any (P.ifacesRec ·)) : Bool)) Tryz.prog 10 Tryz.f10 Rows.feedPushesSpec Rows.feedPushesRow = true := by kernel_rfl
theorem k15 : (fun (P : Program) (_ : FuncId) (fn : Func) (_ : ChangeSpec) (c : OpenClaim) => ((c.mapsOut == P.mapsAmong fn.resultTypes.toList) : Bool)) Tryz.prog 10 Tryz.f10 Rows.feedPushesSpec Rows.feedPushesRow = true := by kernel_rfl
theorem k16 : (fun (P : Program) (_ : FuncId) (fn : Func) (s : ChangeSpec) (c : OpenClaim) => ((c.loops == (fn.params.toList ++ s.plain.varTypes P).any (P.loopsFrom ·)) : Bool)) Tryz.prog 10 Tryz.f10 Rows.feedPushesSpec Rows.feedPushesRow = true := by kernel_rfl
theorem k17 : (fun (P : Program) (_ : FuncId) (fn : Func) (s : ChangeSpec) (c : OpenClaim) => ((c.wideKeys == (fn.params.toList ++ s.plain.varTypes P ++ fn.resultTypes.toList).any (P.wideKeysFrom ·)) : Bool)) Tryz.prog 10 Tryz.f10 Rows.feedPushesSpec Rows.feedPushesRow = true := by kernel_rfl
theorem k18 : (fun (P : Program) (_ : FuncId) (_ : Func) (s : ChangeSpec) (_ : OpenClaim) => (s.vars.all (P.varReadable ·) : Bool)) Tryz.prog 10 Tryz.f10 Rows.feedPushesSpec Rows.feedPushesRow = true := by kernel_rfl
theorem k19 : (fun (P : Program) (_ : FuncId) (fn : Func) (_ : ChangeSpec) (_ : OpenClaim) => (fn.resultTypes.all (fun t => P.readableRec t && decide (t < P.types.size)) : Bool)) Tryz.prog 10 Tryz.f10 Rows.feedPushesSpec Rows.feedPushesRow = true := by kernel_rfl
theorem k20 : (fun (P : Program) (_ : FuncId) (fn : Func) (_ : ChangeSpec) (c : OpenClaim) => ((c.ifacesOut == fn.resultTypes.toList.any (P.ifacesRec ·)) : Bool)) Tryz.prog 10 Tryz.f10 Rows.feedPushesSpec Rows.feedPushesRow = true := by kernel_rfl
theorem k21 : (fun (P : Program) (_ : FuncId) (fn : Func) (_ : ChangeSpec) (c : OpenClaim) => ((c.loopsOut == fn.resultTypes.toList.any (P.loopsFrom ·)) : Bool)) Tryz.prog 10 Tryz.f10 Rows.feedPushesSpec Rows.feedPushesRow = true := by kernel_rfl
theorem k22 : (fun (P : Program) (_ : FuncId) (_ : Func) (_ : ChangeSpec) (c : OpenClaim) => ((c.plainKeys == P.plainKeys) : Bool)) Tryz.prog 10 Tryz.f10 Rows.feedPushesSpec Rows.feedPushesRow = true := by kernel_rfl
theorem k23 : (fun (_ : Program) (_ : FuncId) (_ : Func) (_ : ChangeSpec) (c : OpenClaim) => (c.shortTexts.isNone : Bool)) Tryz.prog 10 Tryz.f10 Rows.feedPushesSpec Rows.feedPushesRow = true := by kernel_rfl
theorem k24 : (fun (P : Program) (_ : FuncId) (_ : Func) (_ : ChangeSpec) (_ : OpenClaim) => (P.stopsHeard : Bool)) Tryz.prog 10 Tryz.f10 Rows.feedPushesSpec Rows.feedPushesRow = true := by kernel_rfl
theorem k25 : (fun (P : Program) (_ : FuncId) (_ : Func) (_ : ChangeSpec) (_ : OpenClaim) => (P.mayEnter : Bool)) Tryz.prog 10 Tryz.f10 Rows.feedPushesSpec Rows.feedPushesRow = true := wds.mayEnter_
theorem k26 : (fun (P : Program) (_ : FuncId) (_ : Func) (_ : ChangeSpec) (c : OpenClaim) => ((c.lifted == P.liftsFinal) : Bool)) Tryz.prog 10 Tryz.f10 Rows.feedPushesSpec Rows.feedPushesRow = true := by show (Rows.feedPushesRow.lifted == Tryz.prog.liftsFinal) = true; rw [wds.liftsFinal_]; kernel_rfl
theorem k27 : (fun (P : Program) (_ : FuncId) (_ : Func) (_ : ChangeSpec) (c : OpenClaim) => ((P.make == some c.make) : Bool)) Tryz.prog 10 Tryz.f10 Rows.feedPushesSpec Rows.feedPushesRow = true := by show (Tryz.prog.make == some Rows.feedPushesRow.make) = true; rw [wds.make_]; kernel_rfl
theorem k28 : (fun (P : Program) (_ : FuncId) (fn : Func) (_ : ChangeSpec) (c : OpenClaim) => ((c.kinds == (if c.domain.isEmpty then [] else fn.params.toList.map fun t => match P.underlying t with | some (.int k) => some k | _ => none)) : Bool)) Tryz.prog 10 Tryz.f10 Rows.feedPushesSpec Rows.feedPushesRow = true := by kernel_rfl
theorem k29 : (fun (_ : Program) (_ : FuncId) (_ : Func) (_ : ChangeSpec) (c : OpenClaim) => ((c.pinned == c.pinnedBy) : Bool)) Tryz.prog 10 Tryz.f10 Rows.feedPushesSpec Rows.feedPushesRow = true := by kernel_rfl
theorem k30 : (fun (P : Program) (_ : FuncId) (fn : Func) (s : ChangeSpec) (c : OpenClaim) => ((c.veiled == (fn.params.toList ++ s.plain.varTypes P ++ fn.resultTypes.toList).any (P.veiledRec ·)) : Bool)) Tryz.prog 10 Tryz.f10 Rows.feedPushesSpec Rows.feedPushesRow = true := by kernel_rfl
theorem k31 : (fun (P : Program) (_ : FuncId) (fn : Func) (s : ChangeSpec) (c : OpenClaim) => (c.veiledFits P fn.params.toList (fn.params.toList ++ s.plain.varTypes P ++ fn.resultTypes.toList) : Bool)) Tryz.prog 10 Tryz.f10 Rows.feedPushesSpec Rows.feedPushesRow = true := by kernel_rfl
theorem both {a b : Bool} (ha : a = true) (hb : b = true) : (a && b) = true := by rw [ha, hb]; rfl
theorem closed : joinedFacts Tryz.pinned.checked.prog 10 Tryz.f10 Rows.feedPushesSpec Rows.feedPushesRow = true := (both (both (both (both (both (both (both (both (both (both (both (both (both (both (both (both (both (both (both (both (both (both (both (both (both (both (both (both (both (both (both k0 k1) k2) k3) k4) k5) k6) k7) k8) k9) k10) k11) k12) k13) k14) k15) k16) k17) k18) k19) k20) k21) k22) k23) k24) k25) k26) k27) k28) k29) k30) k31)
theorem named : Tryz.pinned.checked.prog.funcNamed Rows.feedPushesRow.func = some 10 := by kernel_rfl
theorem inst : Tryz.f10.isInstance Tryz.pinned.checked.prog Rows.feedPushesRow.origin Rows.feedPushesRow.targs := of_decide_eq_true (by kernel_rfl)
theorem wrap : Tryz.f10.isWrapper Tryz.pinned.checked.prog Rows.feedPushesRow.wrapper Rows.feedPushesRow.mainSum := by unfold Func.isWrapper; rw [if_neg (of_decide_eq_false (by kernel_rfl))]; exact ⟨rfl, rfl⟩
theorem wfT : Rows.feedPushesRow.wfByText (OpenSpec.ofChange Rows.feedPushesSpec) = true := by kernel_rfl
theorem mainT : Tryz.pinned.checked.prog.mainIs = some (Rows.feedPushesCard.stood.harness.1, Rows.feedPushesCard.stood.harness.2.toList) := wds.told (by kernel_rfl) (by kernel_rfl)
theorem looksT : true = Tryz.prog.looks [] := by kernel_rfl
theorem goesT : false = Rows.feedPushesRow.goesBy Tryz.pinned.checked.prog := by kernel_rfl
theorem stand0 : Tryz.prog.wantsStandIn 40 = false := by kernel_rfl
theorem stand1 : Tryz.prog.wantsStandIn 69 = false := by kernel_rfl
theorem stand2 : Tryz.prog.wantsStandIn 3 = false := by kernel_rfl
end Go.Proofs.YtpehmlfghddnaaaGreatDoor.feedPushes
namespace Go.Proofs.YtpehmlfghddnaaaGreatDoor.feedPushes
open Go.ChangeShapes Go.WideShapes Go.ChangeAt Go.RowKit

set_option maxRecDepth 100000 in
theorem lifted (os : Os) (started : os.Started) (H : Type) (enc : TypeId × Value → H) :
    ReturnsInHanded {} Tryz.checked os 10 .any (fun w args => (Rows.feedPushesSpec.pre enc Tryz.prog Tryz.f10 [] false w args ∧ laidMetH Tryz.prog Rows.feedPushesRow.laid w) ∧ sizedMet enc Tryz.prog Tryz.f10 (OpenSpec.ofChange Rows.feedPushesSpec) false w args)
      (Rows.feedPushesSpec.post enc Tryz.prog Tryz.f10 false true false false) := by
  refine returnsInHanded_of_change_and (C := Tryz.checked) (X := fun w _ => laidMetH Tryz.prog Rows.feedPushesRow.laid w) (fun _ _ _ hh h => h.of_heap hh) ownKn started (by kernel_rfl) Tryz.func10
    (ChangeSpec.witness_shaped (enc := enc) (C := Tryz.checked) (os := os) (X := fun w _ => laidMetH Tryz.prog Rows.feedPushesRow.laid w) false (World.doorLaid Tryz.prog 19 os) #[.slice none 0 0, .int .i64 0, .slice none 0 0] 8 rfl (World.shaped_of_RefB (by kernel_rfl) (by kernel_rfl)) (by kernel_rfl) (by kernel_rfl) (by kernel_rfl) (door_met os _)) ?_
  intro W base args ds gs before hval0 hW _ hsz0 hL _
  have hval : ∀ (j : Nat) t v, Tryz.f10.params[j]? = some t → args[j]? = some v → Value.okWide Tryz.prog W .any base t v := hval0
  have hsz : (DataW.weightsEach Tryz.prog (Tryz.f10.params.toList ++ Rows.feedPushesSpec.plain.varTypes Tryz.prog) (ds ++ gs)).all (· ≤ reachBytes) = true := hsz0
  have hW' := hW
  obtain ⟨p, q, hA0, hV, rfl, hfz, hnd⟩ := hW
  have hA : DataW.TrodAll enc Tryz.prog W 0 (fun _ => true) true Tryz.f10.params.toList args.toList ds p := hA0
  rw [Tryz.params10] at hA hval hsz
  obtain ⟨v0, vs0, d0, ds0, p0, q0, hargs, rfl, rfl, h0, r0⟩ := trodAll_cons hA
  obtain ⟨v1, vs1, d1, ds1, p1, q1, rfl, rfl, rfl, h1, r1⟩ := trodAll_cons r0
  obtain ⟨v2, vs2, d2, ds2, p2, q2, rfl, rfl, rfl, h2, r2⟩ := trodAll_cons r1
  obtain ⟨rfl, rfl, rfl⟩ := trodAll_nil r2
  obtain rfl : args = #[v0, v1, v2] := by cases args; simp_all
  obtain ⟨rfl, rfl⟩ := trodVars_none hV
  have hk0 := hval 0 40 v0 rfl rfl
  obtain ⟨A0, n0, c0, rfl⟩ := okWide_slice Tryz.underlying40 hk0
  have k0 := h0
  have lt0 : ∀ x ∈ p0, x.block < W.heap.size := by obtain ⟨m, hm⟩ := k0; exact DataW.trod_lt m _ _ _ hm
  obtain ⟨fuel0, hf0⟩ := h0
  obtain ⟨l0, hl0, hin0⟩ := open_seeds hf0 fun m hm => of_decide_eq_true (List.all_eq_true.1 hsz m (DataW.weights_mem_each (j := 0) rfl rfl m hm))
  obtain ⟨a1, rfl, rfl, rfl, w1⟩ := open_int Tryz.underlying3 (hval 1 3 v1 rfl rfl) h1
  have hin1 := wf_i64 w1
  have hk2 := hval 2 69 v2 rfl rfl
  obtain ⟨A2, n2, c2, rfl⟩ := okWide_slice Tryz.underlying69 hk2
  have k2 := h2
  have lt2 : ∀ x ∈ p2, x.block < W.heap.size := by obtain ⟨m, hm⟩ := k2; exact DataW.trod_lt m _ _ _ hm
  obtain ⟨fuel2, hf2⟩ := h2
  obtain ⟨_, _, _, l2, -, hl2, hin2⟩ := open_intsE hf2
  have hT : Tab W := tab_of_laid hL
  clear hA0 hval0 hsz0 hsz
  refine (pushes_any W (.slice A0 n0 c0) l0 _ _ (hl0.strong (spot_of_ok Tryz.underlying40 hk0)) (fun x hx => ⟨(hin0 x hx).at_, (hin0 x hx).ok⟩) hT a1 (.slice A2 n2 c2) l2 _ (hl2.strong (spot_of_ok Tryz.underlying69 hk2))).mono fun e W' ⟨he, bel⟩ => ?_
  subst he
  exact ⟨_, rfl, _, _, _, [], _, [], hW', trodAll_mk1 (shut_bool Tryz.underlying4 _), (trodAll_cons_mk (Below.trod laidOutA (by kernel_rfl) (of_decide_eq_true (by kernel_rfl)) k0 bel lt0) (trodAll_cons_mk (shut_int Tryz.underlying3 w1) (trodAll_cons_mk (Below.trod laidOutA (by kernel_rfl) (of_decide_eq_true (by kernel_rfl)) k2 bel lt2) trodAll_mk0))), rfl, bel.frame _, fun h => by cases h⟩

/-- The row. -/
theorem over : Rows.FeedPushesSaid :=
  OpenClaim.holds_of_wide 10 Tryz.f10 rfl rfl rfl rfl rfl rfl rfl ⟨rfl, rfl, rfl, rfl, rfl⟩ rfl rfl rfl rfl rfl named Tryz.func10 closed inst wrap
    (fun os started H enc _ => lifted os started H enc)

/-- The statement. -/
theorem proved : Rows.FeedPushesCardSaid :=
  Claim7.holds_tied_plain_at .later [] [.data, .data] true Rows.feedPushesCard.stood.harness true
    over (fun _ h => by cases h) wfT (fun _ h => by cases h) feedPushes_row_tie rfl ⟨rfl, rfl⟩ mainT rfl
    (fun f fn hf hfn => by
      obtain rfl : f = 10 := Option.some.inj (named.symm.trans hf) |>.symm
      obtain rfl : fn = Tryz.f10 := (Option.some.inj (Tryz.func10.symm.trans hfn)).symm
      exact ⟨looksT, fun j t ht => by
        rw [Tryz.params10] at ht
        rcases j with _ | j
        · obtain rfl : 40 = t := by simpa using ht
          exact stand0
        rcases j with _ | j
        · obtain rfl : 3 = t := by simpa using ht
          exact stand2
        rcases j with _ | j
        · obtain rfl : 69 = t := by simpa using ht
          exact stand1
        · simp at ht⟩)
    goesT
#print axioms proved
end Go.Proofs.YtpehmlfghddnaaaGreatDoor.feedPushes
