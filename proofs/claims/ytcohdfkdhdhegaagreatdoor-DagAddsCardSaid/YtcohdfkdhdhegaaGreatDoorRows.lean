/-
  NARROWER THAN 'FOR EVERY INPUT', by the rows' own cells (each row's printed sentence says how): DagAdds: laid · DagTipsets: laid · DagClosed: laid · MarkFloors: laid · MarkPoints: laid · PathHeights: laid · PathWalks: laid · PathThree: laid · PathTwo: laid · FeedHubs: laid.
  DERIVED. THE GIVEN ROWS OF THIS SEAT. 10 by the template 'for every input the law returns true; each argument reads behind the call as it read before'; 0 by the template 'total and deterministic' (their statements: YtcohdfkdhdhegaaGreatDoorTotals.lean).
  GIVEN WITH THE SEED: the statements are not yours to turn. If you find one false, say at which input.
  Laid BY PROGRAM, IN A SANDBOX (cutbox-rows.mjs): the forced cells as the released guide's own fill.sh prints them over the translation e6550f2027641ed8… (all of the seat's roots in one cut). By AI agents, Wed Nov 11 2026. No macro, syntax, notation, axiom, sorry.
-/
import Derived.Test.YtcohdfkdhdhegaaGreatDoorChecked
import GoSem.Claim
import GoSem.ClaimJoined
import GoSem.ClaimMapViews
import Derived.JoinedTies
import Derived.KernelRfl
namespace Go.Proofs.YtcohdfkdhdhegaaGreatDoor
/- THE CELL 'sum', in the pinned program and in every row, IS THE sha256 OF THE DUMP (.gsa) THAT YtcohdfkdhdhegaaGreatDoorProg.lean LOADS. Nothing in Lean hashes anything: it is a label: what it is worth is what the hold of that sum in a sandbox is worth. -/
noncomputable def Tryz.pinned : Pinned := { name := "ytcohdfkdhdhegaagreatdoor", sum := "e6550f2027641ed8dca1869ea0cdd64f2b501827b7d46c9d6cfa328f72135de4", checked := Tryz.checked }
namespace Rows
def none {H : Type} : Left H := { results := [], args := [] }

/- WHAT THE LISTED PACKAGE-LEVEL VARIABLES READ AS WHEN THE CALL BEGINS. Each datum BY PROGRAM (the guide's laid-datum.mjs) off the statement by which the dump's own 'gosem.cut.vars' lays the variable. In a bare row this is a premise. The card (YtcohdfkdhdhegaaGreatDoorCards.lean) ties it to the program's text. -/
def laid_coxswain_digest_start {H : Type} : DataW H := .agg [.lit (.int .u32 1779033703), .lit (.int .u32 3144134277), .lit (.int .u32 1013904242), .lit (.int .u32 2773480762), .lit (.int .u32 1359893119), .lit (.int .u32 2600822924), .lit (.int .u32 528734635), .lit (.int .u32 1541459225)]
def laid_coxswain_digest_key {H : Type} : DataW H := .agg [.lit (.int .u32 1116352408), .lit (.int .u32 1899447441), .lit (.int .u32 3049323471), .lit (.int .u32 3921009573), .lit (.int .u32 961987163), .lit (.int .u32 1508970993), .lit (.int .u32 2453635748), .lit (.int .u32 2870763221), .lit (.int .u32 3624381080), .lit (.int .u32 310598401), .lit (.int .u32 607225278), .lit (.int .u32 1426881987), .lit (.int .u32 1925078388), .lit (.int .u32 2162078206), .lit (.int .u32 2614888103), .lit (.int .u32 3248222580), .lit (.int .u32 3835390401), .lit (.int .u32 4022224774), .lit (.int .u32 264347078), .lit (.int .u32 604807628), .lit (.int .u32 770255983), .lit (.int .u32 1249150122), .lit (.int .u32 1555081692), .lit (.int .u32 1996064986), .lit (.int .u32 2554220882), .lit (.int .u32 2821834349), .lit (.int .u32 2952996808), .lit (.int .u32 3210313671), .lit (.int .u32 3336571891), .lit (.int .u32 3584528711), .lit (.int .u32 113926993), .lit (.int .u32 338241895), .lit (.int .u32 666307205), .lit (.int .u32 773529912), .lit (.int .u32 1294757372), .lit (.int .u32 1396182291), .lit (.int .u32 1695183700), .lit (.int .u32 1986661051), .lit (.int .u32 2177026350), .lit (.int .u32 2456956037), .lit (.int .u32 2730485921), .lit (.int .u32 2820302411), .lit (.int .u32 3259730800), .lit (.int .u32 3345764771), .lit (.int .u32 3516065817), .lit (.int .u32 3600352804), .lit (.int .u32 4094571909), .lit (.int .u32 275423344), .lit (.int .u32 430227734), .lit (.int .u32 506948616), .lit (.int .u32 659060556), .lit (.int .u32 883997877), .lit (.int .u32 958139571), .lit (.int .u32 1322822218), .lit (.int .u32 1537002063), .lit (.int .u32 1747873779), .lit (.int .u32 1955562222), .lit (.int .u32 2024104815), .lit (.int .u32 2227730452), .lit (.int .u32 2361852424), .lit (.int .u32 2428436474), .lit (.int .u32 2756734187), .lit (.int .u32 3204031479), .lit (.int .u32 3329325298)]

/-- 'coxswainlaw13.DagAdds': WHATEVER THE INPUT: true; the input reads as it did. -/
def dagAddsSpec : ChangeSpec := { name := "dagAdds", fn := fun _ => fun
  | [d] => { results := [.lit (.bool true)], args := [d] }
  | _ => none }
def dagAddsRow : OpenClaim := { program := "ytcohdfkdhdhegaagreatdoor", sum := "e6550f2027641ed8dca1869ea0cdd64f2b501827b7d46c9d6cfa328f72135de4", func := "coxswain/coxswainlaw13.DagAdds", spec := "dagAdds", inPlace := ["internal/abi.NoEscape", "internal/bytealg.MakeNoZero", "internal/bytealg.Compare"], unfollowed := true, recurses := true, named := ["coxswain/digest.start", "coxswain/digest.key"], plainKeys := false, apart := false, laid := [("coxswain/digest.start", laid_coxswain_digest_start), ("coxswain/digest.key", laid_coxswain_digest_key)] }
def DagAddsSaid : Prop := dagAddsRow.holds Tryz.pinned (OpenSpec.ofChange dagAddsSpec)

/-- ITS FALSE NEIGHBOUR: 'it returns false'. Refute it at one input. -/
def dagAddsWrong : ChangeSpec := { name := "dagAdds", fn := fun _ => fun
  | [d] => { results := [.lit (.bool false)], args := [d] }
  | _ => none }
def DagAddsWrongFalsely : Prop := dagAddsRow.holds Tryz.pinned (OpenSpec.ofChange dagAddsWrong)

/-- 'coxswainlaw13.DagTipsets': WHATEVER THE INPUT: true; the input reads as it did. -/
def dagTipsetsSpec : ChangeSpec := { name := "dagTipsets", fn := fun _ => fun
  | [d1, d2, d3] => { results := [.lit (.bool true)], args := [d1, d2, d3] }
  | _ => none }
def dagTipsetsRow : OpenClaim := { program := "ytcohdfkdhdhegaagreatdoor", sum := "e6550f2027641ed8dca1869ea0cdd64f2b501827b7d46c9d6cfa328f72135de4", func := "coxswain/coxswainlaw13.DagTipsets", spec := "dagTipsets", inPlace := ["internal/abi.NoEscape", "internal/bytealg.MakeNoZero", "internal/bytealg.Compare"], unfollowed := true, recurses := true, named := ["coxswain/digest.start", "coxswain/digest.key"], plainKeys := false, apart := false, laid := [("coxswain/digest.start", laid_coxswain_digest_start), ("coxswain/digest.key", laid_coxswain_digest_key)] }
def DagTipsetsSaid : Prop := dagTipsetsRow.holds Tryz.pinned (OpenSpec.ofChange dagTipsetsSpec)

/-- ITS FALSE NEIGHBOUR: 'it returns false'. Refute it at one input. -/
def dagTipsetsWrong : ChangeSpec := { name := "dagTipsets", fn := fun _ => fun
  | [d1, d2, d3] => { results := [.lit (.bool false)], args := [d1, d2, d3] }
  | _ => none }
def DagTipsetsWrongFalsely : Prop := dagTipsetsRow.holds Tryz.pinned (OpenSpec.ofChange dagTipsetsWrong)

/-- 'coxswainlaw13.DagClosed': WHATEVER THE INPUT: true; the input reads as it did. -/
def dagClosedSpec : ChangeSpec := { name := "dagClosed", fn := fun _ => fun
  | [d] => { results := [.lit (.bool true)], args := [d] }
  | _ => none }
def dagClosedRow : OpenClaim := { program := "ytcohdfkdhdhegaagreatdoor", sum := "e6550f2027641ed8dca1869ea0cdd64f2b501827b7d46c9d6cfa328f72135de4", func := "coxswain/coxswainlaw13.DagClosed", spec := "dagClosed", inPlace := ["internal/abi.NoEscape", "internal/bytealg.MakeNoZero", "internal/bytealg.Compare", "maps.clone"], unfollowed := true, recurses := true, named := ["coxswain/digest.start", "coxswain/digest.key"], plainKeys := false, apart := false, laid := [("coxswain/digest.start", laid_coxswain_digest_start), ("coxswain/digest.key", laid_coxswain_digest_key)] }
def DagClosedSaid : Prop := dagClosedRow.holds Tryz.pinned (OpenSpec.ofChange dagClosedSpec)

/-- ITS FALSE NEIGHBOUR: 'it returns false'. Refute it at one input. -/
def dagClosedWrong : ChangeSpec := { name := "dagClosed", fn := fun _ => fun
  | [d] => { results := [.lit (.bool false)], args := [d] }
  | _ => none }
def DagClosedWrongFalsely : Prop := dagClosedRow.holds Tryz.pinned (OpenSpec.ofChange dagClosedWrong)

/-- 'coxswainlaw18.MarkFloors': WHATEVER THE INPUT: true; the input reads as it did. -/
def markFloorsSpec : ChangeSpec := { name := "markFloors", fn := fun _ => fun
  | [d] => { results := [.lit (.bool true)], args := [d] }
  | _ => none }
def markFloorsRow : OpenClaim := { program := "ytcohdfkdhdhegaagreatdoor", sum := "e6550f2027641ed8dca1869ea0cdd64f2b501827b7d46c9d6cfa328f72135de4", func := "coxswain/coxswainlaw18.MarkFloors", spec := "markFloors", inPlace := ["internal/abi.NoEscape", "internal/bytealg.MakeNoZero", "internal/bytealg.Compare"], unfollowed := true, recurses := true, named := ["coxswain/digest.start", "coxswain/digest.key"], plainKeys := false, apart := false, laid := [("coxswain/digest.start", laid_coxswain_digest_start), ("coxswain/digest.key", laid_coxswain_digest_key)] }
def MarkFloorsSaid : Prop := markFloorsRow.holds Tryz.pinned (OpenSpec.ofChange markFloorsSpec)

/-- ITS FALSE NEIGHBOUR: 'it returns false'. Refute it at one input. -/
def markFloorsWrong : ChangeSpec := { name := "markFloors", fn := fun _ => fun
  | [d] => { results := [.lit (.bool false)], args := [d] }
  | _ => none }
def MarkFloorsWrongFalsely : Prop := markFloorsRow.holds Tryz.pinned (OpenSpec.ofChange markFloorsWrong)

/-- 'coxswainlaw18.MarkPoints': WHATEVER THE INPUT: true; the input reads as it did. -/
def markPointsSpec : ChangeSpec := { name := "markPoints", fn := fun _ => fun
  | [d1, d2] => { results := [.lit (.bool true)], args := [d1, d2] }
  | _ => none }
def markPointsRow : OpenClaim := { program := "ytcohdfkdhdhegaagreatdoor", sum := "e6550f2027641ed8dca1869ea0cdd64f2b501827b7d46c9d6cfa328f72135de4", func := "coxswain/coxswainlaw18.MarkPoints", spec := "markPoints", inPlace := ["internal/abi.NoEscape", "internal/bytealg.MakeNoZero", "internal/bytealg.Compare"], unfollowed := true, recurses := true, named := ["coxswain/digest.start", "coxswain/digest.key"], plainKeys := false, apart := false, laid := [("coxswain/digest.start", laid_coxswain_digest_start), ("coxswain/digest.key", laid_coxswain_digest_key)] }
def MarkPointsSaid : Prop := markPointsRow.holds Tryz.pinned (OpenSpec.ofChange markPointsSpec)

/-- ITS FALSE NEIGHBOUR: 'it returns false'. Refute it at one input. -/
def markPointsWrong : ChangeSpec := { name := "markPoints", fn := fun _ => fun
  | [d1, d2] => { results := [.lit (.bool false)], args := [d1, d2] }
  | _ => none }
def MarkPointsWrongFalsely : Prop := markPointsRow.holds Tryz.pinned (OpenSpec.ofChange markPointsWrong)

/-- 'coxswainlaw14.PathHeights': WHATEVER THE INPUT: true; the input reads as it did. -/
def pathHeightsSpec : ChangeSpec := { name := "pathHeights", fn := fun _ => fun
  | [d1, d2, d3] => { results := [.lit (.bool true)], args := [d1, d2, d3] }
  | _ => none }
def pathHeightsRow : OpenClaim := { program := "ytcohdfkdhdhegaagreatdoor", sum := "e6550f2027641ed8dca1869ea0cdd64f2b501827b7d46c9d6cfa328f72135de4", func := "coxswain/coxswainlaw14.PathHeights", spec := "pathHeights", inPlace := ["internal/abi.NoEscape", "internal/bytealg.MakeNoZero", "internal/bytealg.Compare"], unfollowed := true, recurses := true, named := ["coxswain/digest.start", "coxswain/digest.key", "math/bits.overflowError"], plainKeys := false, apart := false, laid := [("coxswain/digest.start", laid_coxswain_digest_start), ("coxswain/digest.key", laid_coxswain_digest_key)] }
def PathHeightsSaid : Prop := pathHeightsRow.holds Tryz.pinned (OpenSpec.ofChange pathHeightsSpec)

/-- ITS FALSE NEIGHBOUR: 'it returns false'. Refute it at one input. -/
def pathHeightsWrong : ChangeSpec := { name := "pathHeights", fn := fun _ => fun
  | [d1, d2, d3] => { results := [.lit (.bool false)], args := [d1, d2, d3] }
  | _ => none }
def PathHeightsWrongFalsely : Prop := pathHeightsRow.holds Tryz.pinned (OpenSpec.ofChange pathHeightsWrong)

/-- 'coxswainlaw14.PathWalks': WHATEVER THE INPUT: true; the input reads as it did. -/
def pathWalksSpec : ChangeSpec := { name := "pathWalks", fn := fun _ => fun
  | [d1, d2, d3] => { results := [.lit (.bool true)], args := [d1, d2, d3] }
  | _ => none }
def pathWalksRow : OpenClaim := { program := "ytcohdfkdhdhegaagreatdoor", sum := "e6550f2027641ed8dca1869ea0cdd64f2b501827b7d46c9d6cfa328f72135de4", func := "coxswain/coxswainlaw14.PathWalks", spec := "pathWalks", inPlace := ["internal/abi.NoEscape", "internal/bytealg.MakeNoZero", "internal/bytealg.Compare"], unfollowed := true, recurses := true, named := ["coxswain/digest.start", "coxswain/digest.key", "math/bits.overflowError"], plainKeys := false, apart := false, laid := [("coxswain/digest.start", laid_coxswain_digest_start), ("coxswain/digest.key", laid_coxswain_digest_key)] }
def PathWalksSaid : Prop := pathWalksRow.holds Tryz.pinned (OpenSpec.ofChange pathWalksSpec)

/-- ITS FALSE NEIGHBOUR: 'it returns false'. Refute it at one input. -/
def pathWalksWrong : ChangeSpec := { name := "pathWalks", fn := fun _ => fun
  | [d1, d2, d3] => { results := [.lit (.bool false)], args := [d1, d2, d3] }
  | _ => none }
def PathWalksWrongFalsely : Prop := pathWalksRow.holds Tryz.pinned (OpenSpec.ofChange pathWalksWrong)

/-- 'coxswainlaw14.PathThree': WHATEVER THE INPUT: true; the input reads as it did. -/
def pathThreeSpec : ChangeSpec := { name := "pathThree", fn := fun _ => fun
  | [d] => { results := [.lit (.bool true)], args := [d] }
  | _ => none }
def pathThreeRow : OpenClaim := { program := "ytcohdfkdhdhegaagreatdoor", sum := "e6550f2027641ed8dca1869ea0cdd64f2b501827b7d46c9d6cfa328f72135de4", func := "coxswain/coxswainlaw14.PathThree", spec := "pathThree", inPlace := ["internal/abi.NoEscape", "internal/bytealg.MakeNoZero", "internal/bytealg.Compare"], unfollowed := true, recurses := true, named := ["coxswain/digest.start", "coxswain/digest.key", "math/bits.overflowError"], plainKeys := false, apart := false, laid := [("coxswain/digest.start", laid_coxswain_digest_start), ("coxswain/digest.key", laid_coxswain_digest_key)] }
def PathThreeSaid : Prop := pathThreeRow.holds Tryz.pinned (OpenSpec.ofChange pathThreeSpec)

/-- ITS FALSE NEIGHBOUR: 'it returns false'. Refute it at one input. -/
def pathThreeWrong : ChangeSpec := { name := "pathThree", fn := fun _ => fun
  | [d] => { results := [.lit (.bool false)], args := [d] }
  | _ => none }
def PathThreeWrongFalsely : Prop := pathThreeRow.holds Tryz.pinned (OpenSpec.ofChange pathThreeWrong)

/-- 'coxswainlaw14.PathTwo': WHATEVER THE INPUT: true; the input reads as it did. -/
def pathTwoSpec : ChangeSpec := { name := "pathTwo", fn := fun _ => fun
  | [d1, d2, d3] => { results := [.lit (.bool true)], args := [d1, d2, d3] }
  | _ => none }
def pathTwoRow : OpenClaim := { program := "ytcohdfkdhdhegaagreatdoor", sum := "e6550f2027641ed8dca1869ea0cdd64f2b501827b7d46c9d6cfa328f72135de4", func := "coxswain/coxswainlaw14.PathTwo", spec := "pathTwo", inPlace := ["internal/abi.NoEscape", "internal/bytealg.MakeNoZero", "internal/bytealg.Compare"], unfollowed := true, recurses := true, named := ["coxswain/digest.start", "coxswain/digest.key", "math/bits.overflowError"], plainKeys := false, apart := false, laid := [("coxswain/digest.start", laid_coxswain_digest_start), ("coxswain/digest.key", laid_coxswain_digest_key)] }
def PathTwoSaid : Prop := pathTwoRow.holds Tryz.pinned (OpenSpec.ofChange pathTwoSpec)

/-- ITS FALSE NEIGHBOUR: 'it returns false'. Refute it at one input. -/
def pathTwoWrong : ChangeSpec := { name := "pathTwo", fn := fun _ => fun
  | [d1, d2, d3] => { results := [.lit (.bool false)], args := [d1, d2, d3] }
  | _ => none }
def PathTwoWrongFalsely : Prop := pathTwoRow.holds Tryz.pinned (OpenSpec.ofChange pathTwoWrong)

/-- 'coxswainlaw23.FeedHubs': WHATEVER THE INPUT: true; the input reads as it did. -/
def feedHubsSpec : ChangeSpec := { name := "feedHubs", fn := fun _ => fun
  | [d1, d2] => { results := [.lit (.bool true)], args := [d1, d2] }
  | _ => none }
def feedHubsRow : OpenClaim := { program := "ytcohdfkdhdhegaagreatdoor", sum := "e6550f2027641ed8dca1869ea0cdd64f2b501827b7d46c9d6cfa328f72135de4", func := "coxswain/coxswainlaw23.FeedHubs", spec := "feedHubs", inPlace := ["internal/abi.NoEscape", "internal/bytealg.MakeNoZero", "internal/bytealg.Compare"], unfollowed := true, recurses := true, named := ["coxswain/digest.start", "coxswain/digest.key"], plainKeys := false, apart := false, laid := [("coxswain/digest.start", laid_coxswain_digest_start), ("coxswain/digest.key", laid_coxswain_digest_key)] }
def FeedHubsSaid : Prop := feedHubsRow.holds Tryz.pinned (OpenSpec.ofChange feedHubsSpec)

/-- ITS FALSE NEIGHBOUR: 'it returns false'. Refute it at one input. -/
def feedHubsWrong : ChangeSpec := { name := "feedHubs", fn := fun _ => fun
  | [d1, d2] => { results := [.lit (.bool false)], args := [d1, d2] }
  | _ => none }
def FeedHubsWrongFalsely : Prop := feedHubsRow.holds Tryz.pinned (OpenSpec.ofChange feedHubsWrong)

/- THE SECOND FORM. 'bulk': how many values and letters a reading holds, each counted each time it is reached (what is shared counts as often as it is met; a slice's spare places count too). A statement '..UptoSaid' is the law's where the arguments, and the package variables that the reading takes, are together of bulk at most 1048576: NARROWER than '..Said'. Prove '..Said' where nothing that the law and all that it calls make is longer than what came in: it says more and counts as full. Else prove '..UptoSaid'. A law counts once. -/
mutual
def uptoBulk {H : Type} : DataW H → Nat
  | .lit (.string bytes) => bytes.length + 1
  | .lit _ => 1
  | .nil => 1
  | .ptr d => uptoBulk d + 1
  | .slice elems spare => uptoBulkAll elems + uptoBulkAll spare + 1
  | .agg parts => uptoBulkAll parts + 1
  | .iface _ d => uptoBulk d + 1
  | .map entries => uptoBulkEntries entries + 1
  | .held _ => 1
def uptoBulkAll {H : Type} : List (DataW H) → Nat
  | [] => 0
  | d :: r => uptoBulk d + uptoBulkAll r
def uptoBulkEntries {H : Type} : List (Lit × DataW H) → Nat
  | [] => 0
  | x :: r => uptoBulkEntry x + uptoBulkEntries r
def uptoBulkEntry {H : Type} : Lit × DataW H → Nat
  | (.string bytes, d) => bytes.length + uptoBulk d + 1
  | (_, d) => uptoBulk d + 1
 end
def uptoSmall : (H : Type) → List (DataW H) → Bool := fun _ ds => decide (uptoBulkAll ds ≤ 1048576)
def OpenSpec.upto (s : _root_.Go.ChangeSpec) : _root_.Go.OpenSpec := { _root_.Go.OpenSpec.ofChange s with cond := some uptoSmall }

/-- 'coxswainlaw13.DagAdds', WHERE WHAT IT READS IS OF BULK AT MOST 1048576: true; the input reads as it did. -/
def dagAddsUptoRow : OpenClaim := { program := "ytcohdfkdhdhegaagreatdoor", sum := "e6550f2027641ed8dca1869ea0cdd64f2b501827b7d46c9d6cfa328f72135de4", func := "coxswain/coxswainlaw13.DagAdds", spec := "dagAdds", inPlace := ["internal/abi.NoEscape", "internal/bytealg.MakeNoZero", "internal/bytealg.Compare"], unfollowed := true, recurses := true, named := ["coxswain/digest.start", "coxswain/digest.key"], plainKeys := false, apart := false, laid := [("coxswain/digest.start", laid_coxswain_digest_start), ("coxswain/digest.key", laid_coxswain_digest_key)], narrowed := true }
def DagAddsUptoSaid : Prop := dagAddsUptoRow.holds Tryz.pinned (OpenSpec.upto dagAddsSpec)

/-- 'coxswainlaw13.DagTipsets', WHERE WHAT IT READS IS OF BULK AT MOST 1048576: true; the input reads as it did. -/
def dagTipsetsUptoRow : OpenClaim := { program := "ytcohdfkdhdhegaagreatdoor", sum := "e6550f2027641ed8dca1869ea0cdd64f2b501827b7d46c9d6cfa328f72135de4", func := "coxswain/coxswainlaw13.DagTipsets", spec := "dagTipsets", inPlace := ["internal/abi.NoEscape", "internal/bytealg.MakeNoZero", "internal/bytealg.Compare"], unfollowed := true, recurses := true, named := ["coxswain/digest.start", "coxswain/digest.key"], plainKeys := false, apart := false, laid := [("coxswain/digest.start", laid_coxswain_digest_start), ("coxswain/digest.key", laid_coxswain_digest_key)], narrowed := true }
def DagTipsetsUptoSaid : Prop := dagTipsetsUptoRow.holds Tryz.pinned (OpenSpec.upto dagTipsetsSpec)

/-- 'coxswainlaw13.DagClosed', WHERE WHAT IT READS IS OF BULK AT MOST 1048576: true; the input reads as it did. -/
def dagClosedUptoRow : OpenClaim := { program := "ytcohdfkdhdhegaagreatdoor", sum := "e6550f2027641ed8dca1869ea0cdd64f2b501827b7d46c9d6cfa328f72135de4", func := "coxswain/coxswainlaw13.DagClosed", spec := "dagClosed", inPlace := ["internal/abi.NoEscape", "internal/bytealg.MakeNoZero", "internal/bytealg.Compare", "maps.clone"], unfollowed := true, recurses := true, named := ["coxswain/digest.start", "coxswain/digest.key"], plainKeys := false, apart := false, laid := [("coxswain/digest.start", laid_coxswain_digest_start), ("coxswain/digest.key", laid_coxswain_digest_key)], narrowed := true }
def DagClosedUptoSaid : Prop := dagClosedUptoRow.holds Tryz.pinned (OpenSpec.upto dagClosedSpec)

/-- 'coxswainlaw18.MarkFloors', WHERE WHAT IT READS IS OF BULK AT MOST 1048576: true; the input reads as it did. -/
def markFloorsUptoRow : OpenClaim := { program := "ytcohdfkdhdhegaagreatdoor", sum := "e6550f2027641ed8dca1869ea0cdd64f2b501827b7d46c9d6cfa328f72135de4", func := "coxswain/coxswainlaw18.MarkFloors", spec := "markFloors", inPlace := ["internal/abi.NoEscape", "internal/bytealg.MakeNoZero", "internal/bytealg.Compare"], unfollowed := true, recurses := true, named := ["coxswain/digest.start", "coxswain/digest.key"], plainKeys := false, apart := false, laid := [("coxswain/digest.start", laid_coxswain_digest_start), ("coxswain/digest.key", laid_coxswain_digest_key)], narrowed := true }
def MarkFloorsUptoSaid : Prop := markFloorsUptoRow.holds Tryz.pinned (OpenSpec.upto markFloorsSpec)

/-- 'coxswainlaw18.MarkPoints', WHERE WHAT IT READS IS OF BULK AT MOST 1048576: true; the input reads as it did. -/
def markPointsUptoRow : OpenClaim := { program := "ytcohdfkdhdhegaagreatdoor", sum := "e6550f2027641ed8dca1869ea0cdd64f2b501827b7d46c9d6cfa328f72135de4", func := "coxswain/coxswainlaw18.MarkPoints", spec := "markPoints", inPlace := ["internal/abi.NoEscape", "internal/bytealg.MakeNoZero", "internal/bytealg.Compare"], unfollowed := true, recurses := true, named := ["coxswain/digest.start", "coxswain/digest.key"], plainKeys := false, apart := false, laid := [("coxswain/digest.start", laid_coxswain_digest_start), ("coxswain/digest.key", laid_coxswain_digest_key)], narrowed := true }
def MarkPointsUptoSaid : Prop := markPointsUptoRow.holds Tryz.pinned (OpenSpec.upto markPointsSpec)

/-- 'coxswainlaw14.PathHeights', WHERE WHAT IT READS IS OF BULK AT MOST 1048576: true; the input reads as it did. -/
def pathHeightsUptoRow : OpenClaim := { program := "ytcohdfkdhdhegaagreatdoor", sum := "e6550f2027641ed8dca1869ea0cdd64f2b501827b7d46c9d6cfa328f72135de4", func := "coxswain/coxswainlaw14.PathHeights", spec := "pathHeights", inPlace := ["internal/abi.NoEscape", "internal/bytealg.MakeNoZero", "internal/bytealg.Compare"], unfollowed := true, recurses := true, named := ["coxswain/digest.start", "coxswain/digest.key", "math/bits.overflowError"], plainKeys := false, apart := false, laid := [("coxswain/digest.start", laid_coxswain_digest_start), ("coxswain/digest.key", laid_coxswain_digest_key)], narrowed := true }
def PathHeightsUptoSaid : Prop := pathHeightsUptoRow.holds Tryz.pinned (OpenSpec.upto pathHeightsSpec)

/-- 'coxswainlaw14.PathWalks', WHERE WHAT IT READS IS OF BULK AT MOST 1048576: true; the input reads as it did. -/
def pathWalksUptoRow : OpenClaim := { program := "ytcohdfkdhdhegaagreatdoor", sum := "e6550f2027641ed8dca1869ea0cdd64f2b501827b7d46c9d6cfa328f72135de4", func := "coxswain/coxswainlaw14.PathWalks", spec := "pathWalks", inPlace := ["internal/abi.NoEscape", "internal/bytealg.MakeNoZero", "internal/bytealg.Compare"], unfollowed := true, recurses := true, named := ["coxswain/digest.start", "coxswain/digest.key", "math/bits.overflowError"], plainKeys := false, apart := false, laid := [("coxswain/digest.start", laid_coxswain_digest_start), ("coxswain/digest.key", laid_coxswain_digest_key)], narrowed := true }
def PathWalksUptoSaid : Prop := pathWalksUptoRow.holds Tryz.pinned (OpenSpec.upto pathWalksSpec)

/-- 'coxswainlaw14.PathThree', WHERE WHAT IT READS IS OF BULK AT MOST 1048576: true; the input reads as it did. -/
def pathThreeUptoRow : OpenClaim := { program := "ytcohdfkdhdhegaagreatdoor", sum := "e6550f2027641ed8dca1869ea0cdd64f2b501827b7d46c9d6cfa328f72135de4", func := "coxswain/coxswainlaw14.PathThree", spec := "pathThree", inPlace := ["internal/abi.NoEscape", "internal/bytealg.MakeNoZero", "internal/bytealg.Compare"], unfollowed := true, recurses := true, named := ["coxswain/digest.start", "coxswain/digest.key", "math/bits.overflowError"], plainKeys := false, apart := false, laid := [("coxswain/digest.start", laid_coxswain_digest_start), ("coxswain/digest.key", laid_coxswain_digest_key)], narrowed := true }
def PathThreeUptoSaid : Prop := pathThreeUptoRow.holds Tryz.pinned (OpenSpec.upto pathThreeSpec)

/-- 'coxswainlaw14.PathTwo', WHERE WHAT IT READS IS OF BULK AT MOST 1048576: true; the input reads as it did. -/
def pathTwoUptoRow : OpenClaim := { program := "ytcohdfkdhdhegaagreatdoor", sum := "e6550f2027641ed8dca1869ea0cdd64f2b501827b7d46c9d6cfa328f72135de4", func := "coxswain/coxswainlaw14.PathTwo", spec := "pathTwo", inPlace := ["internal/abi.NoEscape", "internal/bytealg.MakeNoZero", "internal/bytealg.Compare"], unfollowed := true, recurses := true, named := ["coxswain/digest.start", "coxswain/digest.key", "math/bits.overflowError"], plainKeys := false, apart := false, laid := [("coxswain/digest.start", laid_coxswain_digest_start), ("coxswain/digest.key", laid_coxswain_digest_key)], narrowed := true }
def PathTwoUptoSaid : Prop := pathTwoUptoRow.holds Tryz.pinned (OpenSpec.upto pathTwoSpec)

/-- 'coxswainlaw23.FeedHubs', WHERE WHAT IT READS IS OF BULK AT MOST 1048576: true; the input reads as it did. -/
def feedHubsUptoRow : OpenClaim := { program := "ytcohdfkdhdhegaagreatdoor", sum := "e6550f2027641ed8dca1869ea0cdd64f2b501827b7d46c9d6cfa328f72135de4", func := "coxswain/coxswainlaw23.FeedHubs", spec := "feedHubs", inPlace := ["internal/abi.NoEscape", "internal/bytealg.MakeNoZero", "internal/bytealg.Compare"], unfollowed := true, recurses := true, named := ["coxswain/digest.start", "coxswain/digest.key"], plainKeys := false, apart := false, laid := [("coxswain/digest.start", laid_coxswain_digest_start), ("coxswain/digest.key", laid_coxswain_digest_key)], narrowed := true }
def FeedHubsUptoSaid : Prop := feedHubsUptoRow.holds Tryz.pinned (OpenSpec.upto feedHubsSpec)

end Rows
end Go.Proofs.YtcohdfkdhdhegaaGreatDoor
