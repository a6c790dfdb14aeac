/-
  NARROWER THAN 'FOR EVERY INPUT', by the rows' own cells (each row's printed sentence says how): KeysTags: laid · KeysPoints: laid · KeysHold: laid · KeysEnough: laid · KeysApart: laid · KeysBare: laid · KeysNone: laid · PartActs: laid · PartReceipts: laid · PartOnce: laid · PartAgain: laid · PartApart: laid · PartRefuses: laid · BookGone: laid.
  DERIVED. THE GIVEN ROWS OF THIS SEAT. 14 by the template 'for every input the law returns true; each argument reads behind the call as it read before'; 0 by the template 'total and deterministic' (their statements: YtklmhegmombegaaDoorTotals.lean).
  GIVEN WITH THE SEED: the statements are not yours to turn. If you find one false, say at which input.
  Laid BY PROGRAM, IN A SANDBOX (cutbox-rows.mjs): the forced cells as the released guide's own fill.sh prints them over the translation 0a7c3a894c7af3ac… (all of the seat's roots in one cut). By AI agents, Wed Nov 11 2026. No macro, syntax, notation, axiom, sorry.
-/
import Derived.Test.YtklmhegmombegaaDoorChecked
import GoSem.Claim
import GoSem.ClaimJoined
import GoSem.ClaimMapViews
import Derived.JoinedTies
import Derived.KernelRfl
namespace Go.Proofs.YtklmhegmombegaaDoor
/- THE CELL 'sum', in the pinned program and in every row, IS THE sha256 OF THE DUMP (.gsa) THAT YtklmhegmombegaaDoorProg.lean LOADS. Nothing in Lean hashes anything: it is a label: what it is worth is what the hold of that sum in a sandbox is worth. -/
noncomputable def Tryd.pinned : Pinned := { name := "ytklmhegmombegaadoor", sum := "0a7c3a894c7af3ac3b7bfd132e64a3d56ddf304230a11306221bbed8f12691c2", checked := Tryd.checked }
namespace Rows
def none {H : Type} : Left H := { results := [], args := [] }

/- WHAT THE LISTED PACKAGE-LEVEL VARIABLES READ AS WHEN THE CALL BEGINS. Each datum BY PROGRAM (the guide's laid-datum.mjs) off the statement by which the dump's own 'gosem.cut.vars' lays the variable. In a bare row this is a premise. The card (YtklmhegmombegaaDoorCards.lean) ties it to the program's text. -/
def laid_inspeximus_api_K {H : Type} : DataW H := .agg [.lit (.int .u32 1116352408), .lit (.int .u32 1899447441), .lit (.int .u32 3049323471), .lit (.int .u32 3921009573), .lit (.int .u32 961987163), .lit (.int .u32 1508970993), .lit (.int .u32 2453635748), .lit (.int .u32 2870763221), .lit (.int .u32 3624381080), .lit (.int .u32 310598401), .lit (.int .u32 607225278), .lit (.int .u32 1426881987), .lit (.int .u32 1925078388), .lit (.int .u32 2162078206), .lit (.int .u32 2614888103), .lit (.int .u32 3248222580), .lit (.int .u32 3835390401), .lit (.int .u32 4022224774), .lit (.int .u32 264347078), .lit (.int .u32 604807628), .lit (.int .u32 770255983), .lit (.int .u32 1249150122), .lit (.int .u32 1555081692), .lit (.int .u32 1996064986), .lit (.int .u32 2554220882), .lit (.int .u32 2821834349), .lit (.int .u32 2952996808), .lit (.int .u32 3210313671), .lit (.int .u32 3336571891), .lit (.int .u32 3584528711), .lit (.int .u32 113926993), .lit (.int .u32 338241895), .lit (.int .u32 666307205), .lit (.int .u32 773529912), .lit (.int .u32 1294757372), .lit (.int .u32 1396182291), .lit (.int .u32 1695183700), .lit (.int .u32 1986661051), .lit (.int .u32 2177026350), .lit (.int .u32 2456956037), .lit (.int .u32 2730485921), .lit (.int .u32 2820302411), .lit (.int .u32 3259730800), .lit (.int .u32 3345764771), .lit (.int .u32 3516065817), .lit (.int .u32 3600352804), .lit (.int .u32 4094571909), .lit (.int .u32 275423344), .lit (.int .u32 430227734), .lit (.int .u32 506948616), .lit (.int .u32 659060556), .lit (.int .u32 883997877), .lit (.int .u32 958139571), .lit (.int .u32 1322822218), .lit (.int .u32 1537002063), .lit (.int .u32 1747873779), .lit (.int .u32 1955562222), .lit (.int .u32 2024104815), .lit (.int .u32 2227730452), .lit (.int .u32 2361852424), .lit (.int .u32 2428436474), .lit (.int .u32 2756734187), .lit (.int .u32 3204031479), .lit (.int .u32 3329325298)]
def laid_inspeximus_api_First {H : Type} : DataW H := .agg [.lit (.int .u32 1779033703), .lit (.int .u32 3144134277), .lit (.int .u32 1013904242), .lit (.int .u32 2773480762), .lit (.int .u32 1359893119), .lit (.int .u32 2600822924), .lit (.int .u32 528734635), .lit (.int .u32 1541459225)]

/-- 'inspeximuslaw10.KeysTags': WHATEVER THE INPUT: true; the input reads as it did. -/
def keysTagsSpec : ChangeSpec := { name := "keysTags", fn := fun _ => fun
  | [d1, d2, d3, d4] => { results := [.lit (.bool true)], args := [d1, d2, d3, d4] }
  | _ => none }
def keysTagsRow : OpenClaim := { program := "ytklmhegmombegaadoor", sum := "0a7c3a894c7af3ac3b7bfd132e64a3d56ddf304230a11306221bbed8f12691c2", func := "inspeximus/inspeximuslaw10.KeysTags", spec := "keysTags", unfollowed := true, recurses := true, named := ["inspeximus/api.First", "inspeximus/api.K"], plainKeys := false, apart := false, laid := [("inspeximus/api.K", laid_inspeximus_api_K), ("inspeximus/api.First", laid_inspeximus_api_First)] }
def KeysTagsSaid : Prop := keysTagsRow.holds Tryd.pinned (OpenSpec.ofChange keysTagsSpec)

/-- ITS FALSE NEIGHBOUR: 'it returns false'. Refute it at one input. -/
def keysTagsWrong : ChangeSpec := { name := "keysTags", fn := fun _ => fun
  | [d1, d2, d3, d4] => { results := [.lit (.bool false)], args := [d1, d2, d3, d4] }
  | _ => none }
def KeysTagsWrongFalsely : Prop := keysTagsRow.holds Tryd.pinned (OpenSpec.ofChange keysTagsWrong)

/-- 'inspeximuslaw10.KeysPoints': WHATEVER THE INPUT: true; the input reads as it did. -/
def keysPointsSpec : ChangeSpec := { name := "keysPoints", fn := fun _ => fun
  | [d1, d2, d3] => { results := [.lit (.bool true)], args := [d1, d2, d3] }
  | _ => none }
def keysPointsRow : OpenClaim := { program := "ytklmhegmombegaadoor", sum := "0a7c3a894c7af3ac3b7bfd132e64a3d56ddf304230a11306221bbed8f12691c2", func := "inspeximus/inspeximuslaw10.KeysPoints", spec := "keysPoints", unfollowed := true, recurses := true, named := ["inspeximus/api.First", "inspeximus/api.K"], plainKeys := false, apart := false, laid := [("inspeximus/api.K", laid_inspeximus_api_K), ("inspeximus/api.First", laid_inspeximus_api_First)] }
def KeysPointsSaid : Prop := keysPointsRow.holds Tryd.pinned (OpenSpec.ofChange keysPointsSpec)

/-- ITS FALSE NEIGHBOUR: 'it returns false'. Refute it at one input. -/
def keysPointsWrong : ChangeSpec := { name := "keysPoints", fn := fun _ => fun
  | [d1, d2, d3] => { results := [.lit (.bool false)], args := [d1, d2, d3] }
  | _ => none }
def KeysPointsWrongFalsely : Prop := keysPointsRow.holds Tryd.pinned (OpenSpec.ofChange keysPointsWrong)

/-- 'inspeximuslaw10.KeysHold': WHATEVER THE INPUT: true; the input reads as it did. -/
def keysHoldSpec : ChangeSpec := { name := "keysHold", fn := fun _ => fun
  | [d1, d2, d3] => { results := [.lit (.bool true)], args := [d1, d2, d3] }
  | _ => none }
def keysHoldRow : OpenClaim := { program := "ytklmhegmombegaadoor", sum := "0a7c3a894c7af3ac3b7bfd132e64a3d56ddf304230a11306221bbed8f12691c2", func := "inspeximus/inspeximuslaw10.KeysHold", spec := "keysHold", unfollowed := true, recurses := true, named := ["inspeximus/api.First", "inspeximus/api.K"], plainKeys := false, apart := false, laid := [("inspeximus/api.K", laid_inspeximus_api_K), ("inspeximus/api.First", laid_inspeximus_api_First)] }
def KeysHoldSaid : Prop := keysHoldRow.holds Tryd.pinned (OpenSpec.ofChange keysHoldSpec)

/-- ITS FALSE NEIGHBOUR: 'it returns false'. Refute it at one input. -/
def keysHoldWrong : ChangeSpec := { name := "keysHold", fn := fun _ => fun
  | [d1, d2, d3] => { results := [.lit (.bool false)], args := [d1, d2, d3] }
  | _ => none }
def KeysHoldWrongFalsely : Prop := keysHoldRow.holds Tryd.pinned (OpenSpec.ofChange keysHoldWrong)

/-- 'inspeximuslaw10.KeysEnough': WHATEVER THE INPUT: true; the input reads as it did. -/
def keysEnoughSpec : ChangeSpec := { name := "keysEnough", fn := fun _ => fun
  | [d1, d2, d3, d4, d5] => { results := [.lit (.bool true)], args := [d1, d2, d3, d4, d5] }
  | _ => none }
def keysEnoughRow : OpenClaim := { program := "ytklmhegmombegaadoor", sum := "0a7c3a894c7af3ac3b7bfd132e64a3d56ddf304230a11306221bbed8f12691c2", func := "inspeximus/inspeximuslaw10.KeysEnough", spec := "keysEnough", unfollowed := true, recurses := true, named := ["inspeximus/api.First", "inspeximus/api.K"], plainKeys := false, apart := false, laid := [("inspeximus/api.K", laid_inspeximus_api_K), ("inspeximus/api.First", laid_inspeximus_api_First)] }
def KeysEnoughSaid : Prop := keysEnoughRow.holds Tryd.pinned (OpenSpec.ofChange keysEnoughSpec)

/-- ITS FALSE NEIGHBOUR: 'it returns false'. Refute it at one input. -/
def keysEnoughWrong : ChangeSpec := { name := "keysEnough", fn := fun _ => fun
  | [d1, d2, d3, d4, d5] => { results := [.lit (.bool false)], args := [d1, d2, d3, d4, d5] }
  | _ => none }
def KeysEnoughWrongFalsely : Prop := keysEnoughRow.holds Tryd.pinned (OpenSpec.ofChange keysEnoughWrong)

/-- 'inspeximuslaw10.KeysApart': WHATEVER THE INPUT: true; the input reads as it did. -/
def keysApartSpec : ChangeSpec := { name := "keysApart", fn := fun _ => fun
  | [d1, d2, d3] => { results := [.lit (.bool true)], args := [d1, d2, d3] }
  | _ => none }
def keysApartRow : OpenClaim := { program := "ytklmhegmombegaadoor", sum := "0a7c3a894c7af3ac3b7bfd132e64a3d56ddf304230a11306221bbed8f12691c2", func := "inspeximus/inspeximuslaw10.KeysApart", spec := "keysApart", unfollowed := true, recurses := true, named := ["inspeximus/api.First", "inspeximus/api.K"], plainKeys := false, apart := false, laid := [("inspeximus/api.K", laid_inspeximus_api_K), ("inspeximus/api.First", laid_inspeximus_api_First)] }
def KeysApartSaid : Prop := keysApartRow.holds Tryd.pinned (OpenSpec.ofChange keysApartSpec)

/-- ITS FALSE NEIGHBOUR: 'it returns false'. Refute it at one input. -/
def keysApartWrong : ChangeSpec := { name := "keysApart", fn := fun _ => fun
  | [d1, d2, d3] => { results := [.lit (.bool false)], args := [d1, d2, d3] }
  | _ => none }
def KeysApartWrongFalsely : Prop := keysApartRow.holds Tryd.pinned (OpenSpec.ofChange keysApartWrong)

/-- 'inspeximuslaw10.KeysBare': WHATEVER THE INPUT: true; the input reads as it did. -/
def keysBareSpec : ChangeSpec := { name := "keysBare", fn := fun _ => fun
  | [d1, d2, d3] => { results := [.lit (.bool true)], args := [d1, d2, d3] }
  | _ => none }
def keysBareRow : OpenClaim := { program := "ytklmhegmombegaadoor", sum := "0a7c3a894c7af3ac3b7bfd132e64a3d56ddf304230a11306221bbed8f12691c2", func := "inspeximus/inspeximuslaw10.KeysBare", spec := "keysBare", unfollowed := true, recurses := true, named := ["inspeximus/api.First", "inspeximus/api.K"], plainKeys := false, apart := false, laid := [("inspeximus/api.K", laid_inspeximus_api_K), ("inspeximus/api.First", laid_inspeximus_api_First)] }
def KeysBareSaid : Prop := keysBareRow.holds Tryd.pinned (OpenSpec.ofChange keysBareSpec)

/-- ITS FALSE NEIGHBOUR: 'it returns false'. Refute it at one input. -/
def keysBareWrong : ChangeSpec := { name := "keysBare", fn := fun _ => fun
  | [d1, d2, d3] => { results := [.lit (.bool false)], args := [d1, d2, d3] }
  | _ => none }
def KeysBareWrongFalsely : Prop := keysBareRow.holds Tryd.pinned (OpenSpec.ofChange keysBareWrong)

/-- 'inspeximuslaw10.KeysNone': WHATEVER THE INPUT: true; the input reads as it did. -/
def keysNoneSpec : ChangeSpec := { name := "keysNone", fn := fun _ => fun
  | [d1, d2, d3, d4] => { results := [.lit (.bool true)], args := [d1, d2, d3, d4] }
  | _ => none }
def keysNoneRow : OpenClaim := { program := "ytklmhegmombegaadoor", sum := "0a7c3a894c7af3ac3b7bfd132e64a3d56ddf304230a11306221bbed8f12691c2", func := "inspeximus/inspeximuslaw10.KeysNone", spec := "keysNone", unfollowed := true, recurses := true, named := ["inspeximus/api.First", "inspeximus/api.K"], plainKeys := false, apart := false, laid := [("inspeximus/api.K", laid_inspeximus_api_K), ("inspeximus/api.First", laid_inspeximus_api_First)] }
def KeysNoneSaid : Prop := keysNoneRow.holds Tryd.pinned (OpenSpec.ofChange keysNoneSpec)

/-- ITS FALSE NEIGHBOUR: 'it returns false'. Refute it at one input. -/
def keysNoneWrong : ChangeSpec := { name := "keysNone", fn := fun _ => fun
  | [d1, d2, d3, d4] => { results := [.lit (.bool false)], args := [d1, d2, d3, d4] }
  | _ => none }
def KeysNoneWrongFalsely : Prop := keysNoneRow.holds Tryd.pinned (OpenSpec.ofChange keysNoneWrong)

/-- 'inspeximuslaw13.PartActs': WHATEVER THE INPUT: true; the input reads as it did. -/
def partActsSpec : ChangeSpec := { name := "partActs", fn := fun _ => fun
  | [d1, d2, d3] => { results := [.lit (.bool true)], args := [d1, d2, d3] }
  | _ => none }
def partActsRow : OpenClaim := { program := "ytklmhegmombegaadoor", sum := "0a7c3a894c7af3ac3b7bfd132e64a3d56ddf304230a11306221bbed8f12691c2", func := "inspeximus/inspeximuslaw13.PartActs", spec := "partActs", unfollowed := true, recurses := true, named := ["inspeximus/api.First", "inspeximus/api.K"], plainKeys := false, apart := false, laid := [("inspeximus/api.K", laid_inspeximus_api_K), ("inspeximus/api.First", laid_inspeximus_api_First)] }
def PartActsSaid : Prop := partActsRow.holds Tryd.pinned (OpenSpec.ofChange partActsSpec)

/-- ITS FALSE NEIGHBOUR: 'it returns false'. Refute it at one input. -/
def partActsWrong : ChangeSpec := { name := "partActs", fn := fun _ => fun
  | [d1, d2, d3] => { results := [.lit (.bool false)], args := [d1, d2, d3] }
  | _ => none }
def PartActsWrongFalsely : Prop := partActsRow.holds Tryd.pinned (OpenSpec.ofChange partActsWrong)

/-- 'inspeximuslaw13.PartReceipts': WHATEVER THE INPUT: true; the input reads as it did. -/
def partReceiptsSpec : ChangeSpec := { name := "partReceipts", fn := fun _ => fun
  | [d1, d2, d3, d4, d5] => { results := [.lit (.bool true)], args := [d1, d2, d3, d4, d5] }
  | _ => none }
def partReceiptsRow : OpenClaim := { program := "ytklmhegmombegaadoor", sum := "0a7c3a894c7af3ac3b7bfd132e64a3d56ddf304230a11306221bbed8f12691c2", func := "inspeximus/inspeximuslaw13.PartReceipts", spec := "partReceipts", unfollowed := true, recurses := true, named := ["inspeximus/api.First", "inspeximus/api.K"], plainKeys := false, apart := false, laid := [("inspeximus/api.K", laid_inspeximus_api_K), ("inspeximus/api.First", laid_inspeximus_api_First)] }
def PartReceiptsSaid : Prop := partReceiptsRow.holds Tryd.pinned (OpenSpec.ofChange partReceiptsSpec)

/-- ITS FALSE NEIGHBOUR: 'it returns false'. Refute it at one input. -/
def partReceiptsWrong : ChangeSpec := { name := "partReceipts", fn := fun _ => fun
  | [d1, d2, d3, d4, d5] => { results := [.lit (.bool false)], args := [d1, d2, d3, d4, d5] }
  | _ => none }
def PartReceiptsWrongFalsely : Prop := partReceiptsRow.holds Tryd.pinned (OpenSpec.ofChange partReceiptsWrong)

/-- 'inspeximuslaw13.PartOnce': WHATEVER THE INPUT: true; the input reads as it did. -/
def partOnceSpec : ChangeSpec := { name := "partOnce", fn := fun _ => fun
  | [d1, d2, d3] => { results := [.lit (.bool true)], args := [d1, d2, d3] }
  | _ => none }
def partOnceRow : OpenClaim := { program := "ytklmhegmombegaadoor", sum := "0a7c3a894c7af3ac3b7bfd132e64a3d56ddf304230a11306221bbed8f12691c2", func := "inspeximus/inspeximuslaw13.PartOnce", spec := "partOnce", unfollowed := true, recurses := true, named := ["inspeximus/api.First", "inspeximus/api.K"], plainKeys := false, apart := false, laid := [("inspeximus/api.K", laid_inspeximus_api_K), ("inspeximus/api.First", laid_inspeximus_api_First)] }
def PartOnceSaid : Prop := partOnceRow.holds Tryd.pinned (OpenSpec.ofChange partOnceSpec)

/-- ITS FALSE NEIGHBOUR: 'it returns false'. Refute it at one input. -/
def partOnceWrong : ChangeSpec := { name := "partOnce", fn := fun _ => fun
  | [d1, d2, d3] => { results := [.lit (.bool false)], args := [d1, d2, d3] }
  | _ => none }
def PartOnceWrongFalsely : Prop := partOnceRow.holds Tryd.pinned (OpenSpec.ofChange partOnceWrong)

/-- 'inspeximuslaw13.PartAgain': WHATEVER THE INPUT: true; the input reads as it did. -/
def partAgainSpec : ChangeSpec := { name := "partAgain", fn := fun _ => fun
  | [d1, d2, d3, d4] => { results := [.lit (.bool true)], args := [d1, d2, d3, d4] }
  | _ => none }
def partAgainRow : OpenClaim := { program := "ytklmhegmombegaadoor", sum := "0a7c3a894c7af3ac3b7bfd132e64a3d56ddf304230a11306221bbed8f12691c2", func := "inspeximus/inspeximuslaw13.PartAgain", spec := "partAgain", unfollowed := true, recurses := true, named := ["inspeximus/api.First", "inspeximus/api.K"], plainKeys := false, apart := false, laid := [("inspeximus/api.K", laid_inspeximus_api_K), ("inspeximus/api.First", laid_inspeximus_api_First)] }
def PartAgainSaid : Prop := partAgainRow.holds Tryd.pinned (OpenSpec.ofChange partAgainSpec)

/-- ITS FALSE NEIGHBOUR: 'it returns false'. Refute it at one input. -/
def partAgainWrong : ChangeSpec := { name := "partAgain", fn := fun _ => fun
  | [d1, d2, d3, d4] => { results := [.lit (.bool false)], args := [d1, d2, d3, d4] }
  | _ => none }
def PartAgainWrongFalsely : Prop := partAgainRow.holds Tryd.pinned (OpenSpec.ofChange partAgainWrong)

/-- 'inspeximuslaw13.PartApart': WHATEVER THE INPUT: true; the input reads as it did. -/
def partApartSpec : ChangeSpec := { name := "partApart", fn := fun _ => fun
  | [d1, d2, d3, d4] => { results := [.lit (.bool true)], args := [d1, d2, d3, d4] }
  | _ => none }
def partApartRow : OpenClaim := { program := "ytklmhegmombegaadoor", sum := "0a7c3a894c7af3ac3b7bfd132e64a3d56ddf304230a11306221bbed8f12691c2", func := "inspeximus/inspeximuslaw13.PartApart", spec := "partApart", unfollowed := true, recurses := true, named := ["inspeximus/api.First", "inspeximus/api.K"], plainKeys := false, apart := false, laid := [("inspeximus/api.K", laid_inspeximus_api_K), ("inspeximus/api.First", laid_inspeximus_api_First)] }
def PartApartSaid : Prop := partApartRow.holds Tryd.pinned (OpenSpec.ofChange partApartSpec)

/-- ITS FALSE NEIGHBOUR: 'it returns false'. Refute it at one input. -/
def partApartWrong : ChangeSpec := { name := "partApart", fn := fun _ => fun
  | [d1, d2, d3, d4] => { results := [.lit (.bool false)], args := [d1, d2, d3, d4] }
  | _ => none }
def PartApartWrongFalsely : Prop := partApartRow.holds Tryd.pinned (OpenSpec.ofChange partApartWrong)

/-- 'inspeximuslaw13.PartRefuses': WHATEVER THE INPUT: true; the input reads as it did. -/
def partRefusesSpec : ChangeSpec := { name := "partRefuses", fn := fun _ => fun
  | [d1, d2, d3] => { results := [.lit (.bool true)], args := [d1, d2, d3] }
  | _ => none }
def partRefusesRow : OpenClaim := { program := "ytklmhegmombegaadoor", sum := "0a7c3a894c7af3ac3b7bfd132e64a3d56ddf304230a11306221bbed8f12691c2", func := "inspeximus/inspeximuslaw13.PartRefuses", spec := "partRefuses", unfollowed := true, recurses := true, named := ["inspeximus/api.First", "inspeximus/api.K"], plainKeys := false, apart := false, laid := [("inspeximus/api.K", laid_inspeximus_api_K), ("inspeximus/api.First", laid_inspeximus_api_First)] }
def PartRefusesSaid : Prop := partRefusesRow.holds Tryd.pinned (OpenSpec.ofChange partRefusesSpec)

/-- ITS FALSE NEIGHBOUR: 'it returns false'. Refute it at one input. -/
def partRefusesWrong : ChangeSpec := { name := "partRefuses", fn := fun _ => fun
  | [d1, d2, d3] => { results := [.lit (.bool false)], args := [d1, d2, d3] }
  | _ => none }
def PartRefusesWrongFalsely : Prop := partRefusesRow.holds Tryd.pinned (OpenSpec.ofChange partRefusesWrong)

/-- 'inspeximuslaw12.BookGone': WHATEVER THE INPUT: true; the input reads as it did. -/
def bookGoneSpec : ChangeSpec := { name := "bookGone", fn := fun _ => fun
  | [d1, d2, d3] => { results := [.lit (.bool true)], args := [d1, d2, d3] }
  | _ => none }
def bookGoneRow : OpenClaim := { program := "ytklmhegmombegaadoor", sum := "0a7c3a894c7af3ac3b7bfd132e64a3d56ddf304230a11306221bbed8f12691c2", func := "inspeximus/inspeximuslaw12.BookGone", spec := "bookGone", unfollowed := true, recurses := true, named := ["inspeximus/api.First", "inspeximus/api.K"], plainKeys := false, apart := false, laid := [("inspeximus/api.K", laid_inspeximus_api_K), ("inspeximus/api.First", laid_inspeximus_api_First)] }
def BookGoneSaid : Prop := bookGoneRow.holds Tryd.pinned (OpenSpec.ofChange bookGoneSpec)

/-- ITS FALSE NEIGHBOUR: 'it returns false'. Refute it at one input. -/
def bookGoneWrong : ChangeSpec := { name := "bookGone", fn := fun _ => fun
  | [d1, d2, d3] => { results := [.lit (.bool false)], args := [d1, d2, d3] }
  | _ => none }
def BookGoneWrongFalsely : Prop := bookGoneRow.holds Tryd.pinned (OpenSpec.ofChange bookGoneWrong)

/- THE SECOND FORM. 'bulk': how many values and letters a reading holds, each counted each time it is reached (what is shared counts as often as it is met; a slice's spare places count too). A statement '..UptoSaid' is the law's where the arguments, and the package variables that the reading takes, are together of bulk at most 1048576: NARROWER than '..Said'. Prove '..Said' where nothing that the law and all that it calls make is longer than what came in: it says more and counts as full. Else prove '..UptoSaid'. A law counts once. -/
mutual
def uptoBulk {H : Type} : DataW H → Nat
  | .lit (.string bytes) => bytes.length + 1
  | .lit _ => 1
  | .nil => 1
  | .ptr d => uptoBulk d + 1
  | .slice elems spare => uptoBulkAll elems + uptoBulkAll spare + 1
  | .agg parts => uptoBulkAll parts + 1
  | .iface _ d => uptoBulk d + 1
  | .map entries => uptoBulkEntries entries + 1
  | .held _ => 1
def uptoBulkAll {H : Type} : List (DataW H) → Nat
  | [] => 0
  | d :: r => uptoBulk d + uptoBulkAll r
def uptoBulkEntries {H : Type} : List (Lit × DataW H) → Nat
  | [] => 0
  | x :: r => uptoBulkEntry x + uptoBulkEntries r
def uptoBulkEntry {H : Type} : Lit × DataW H → Nat
  | (.string bytes, d) => bytes.length + uptoBulk d + 1
  | (_, d) => uptoBulk d + 1
 end
def uptoSmall : (H : Type) → List (DataW H) → Bool := fun _ ds => decide (uptoBulkAll ds ≤ 1048576)
def OpenSpec.upto (s : _root_.Go.ChangeSpec) : _root_.Go.OpenSpec := { _root_.Go.OpenSpec.ofChange s with cond := some uptoSmall }

/-- 'inspeximuslaw10.KeysTags', WHERE WHAT IT READS IS OF BULK AT MOST 1048576: true; the input reads as it did. -/
def keysTagsUptoRow : OpenClaim := { program := "ytklmhegmombegaadoor", sum := "0a7c3a894c7af3ac3b7bfd132e64a3d56ddf304230a11306221bbed8f12691c2", func := "inspeximus/inspeximuslaw10.KeysTags", spec := "keysTags", unfollowed := true, recurses := true, named := ["inspeximus/api.First", "inspeximus/api.K"], plainKeys := false, apart := false, laid := [("inspeximus/api.K", laid_inspeximus_api_K), ("inspeximus/api.First", laid_inspeximus_api_First)], narrowed := true }
def KeysTagsUptoSaid : Prop := keysTagsUptoRow.holds Tryd.pinned (OpenSpec.upto keysTagsSpec)

/-- 'inspeximuslaw10.KeysPoints', WHERE WHAT IT READS IS OF BULK AT MOST 1048576: true; the input reads as it did. -/
def keysPointsUptoRow : OpenClaim := { program := "ytklmhegmombegaadoor", sum := "0a7c3a894c7af3ac3b7bfd132e64a3d56ddf304230a11306221bbed8f12691c2", func := "inspeximus/inspeximuslaw10.KeysPoints", spec := "keysPoints", unfollowed := true, recurses := true, named := ["inspeximus/api.First", "inspeximus/api.K"], plainKeys := false, apart := false, laid := [("inspeximus/api.K", laid_inspeximus_api_K), ("inspeximus/api.First", laid_inspeximus_api_First)], narrowed := true }
def KeysPointsUptoSaid : Prop := keysPointsUptoRow.holds Tryd.pinned (OpenSpec.upto keysPointsSpec)

/-- 'inspeximuslaw10.KeysHold', WHERE WHAT IT READS IS OF BULK AT MOST 1048576: true; the input reads as it did. -/
def keysHoldUptoRow : OpenClaim := { program := "ytklmhegmombegaadoor", sum := "0a7c3a894c7af3ac3b7bfd132e64a3d56ddf304230a11306221bbed8f12691c2", func := "inspeximus/inspeximuslaw10.KeysHold", spec := "keysHold", unfollowed := true, recurses := true, named := ["inspeximus/api.First", "inspeximus/api.K"], plainKeys := false, apart := false, laid := [("inspeximus/api.K", laid_inspeximus_api_K), ("inspeximus/api.First", laid_inspeximus_api_First)], narrowed := true }
def KeysHoldUptoSaid : Prop := keysHoldUptoRow.holds Tryd.pinned (OpenSpec.upto keysHoldSpec)

/-- 'inspeximuslaw10.KeysEnough', WHERE WHAT IT READS IS OF BULK AT MOST 1048576: true; the input reads as it did. -/
def keysEnoughUptoRow : OpenClaim := { program := "ytklmhegmombegaadoor", sum := "0a7c3a894c7af3ac3b7bfd132e64a3d56ddf304230a11306221bbed8f12691c2", func := "inspeximus/inspeximuslaw10.KeysEnough", spec := "keysEnough", unfollowed := true, recurses := true, named := ["inspeximus/api.First", "inspeximus/api.K"], plainKeys := false, apart := false, laid := [("inspeximus/api.K", laid_inspeximus_api_K), ("inspeximus/api.First", laid_inspeximus_api_First)], narrowed := true }
def KeysEnoughUptoSaid : Prop := keysEnoughUptoRow.holds Tryd.pinned (OpenSpec.upto keysEnoughSpec)

/-- 'inspeximuslaw10.KeysApart', WHERE WHAT IT READS IS OF BULK AT MOST 1048576: true; the input reads as it did. -/
def keysApartUptoRow : OpenClaim := { program := "ytklmhegmombegaadoor", sum := "0a7c3a894c7af3ac3b7bfd132e64a3d56ddf304230a11306221bbed8f12691c2", func := "inspeximus/inspeximuslaw10.KeysApart", spec := "keysApart", unfollowed := true, recurses := true, named := ["inspeximus/api.First", "inspeximus/api.K"], plainKeys := false, apart := false, laid := [("inspeximus/api.K", laid_inspeximus_api_K), ("inspeximus/api.First", laid_inspeximus_api_First)], narrowed := true }
def KeysApartUptoSaid : Prop := keysApartUptoRow.holds Tryd.pinned (OpenSpec.upto keysApartSpec)

/-- 'inspeximuslaw10.KeysBare', WHERE WHAT IT READS IS OF BULK AT MOST 1048576: true; the input reads as it did. -/
def keysBareUptoRow : OpenClaim := { program := "ytklmhegmombegaadoor", sum := "0a7c3a894c7af3ac3b7bfd132e64a3d56ddf304230a11306221bbed8f12691c2", func := "inspeximus/inspeximuslaw10.KeysBare", spec := "keysBare", unfollowed := true, recurses := true, named := ["inspeximus/api.First", "inspeximus/api.K"], plainKeys := false, apart := false, laid := [("inspeximus/api.K", laid_inspeximus_api_K), ("inspeximus/api.First", laid_inspeximus_api_First)], narrowed := true }
def KeysBareUptoSaid : Prop := keysBareUptoRow.holds Tryd.pinned (OpenSpec.upto keysBareSpec)

/-- 'inspeximuslaw10.KeysNone', WHERE WHAT IT READS IS OF BULK AT MOST 1048576: true; the input reads as it did. -/
def keysNoneUptoRow : OpenClaim := { program := "ytklmhegmombegaadoor", sum := "0a7c3a894c7af3ac3b7bfd132e64a3d56ddf304230a11306221bbed8f12691c2", func := "inspeximus/inspeximuslaw10.KeysNone", spec := "keysNone", unfollowed := true, recurses := true, named := ["inspeximus/api.First", "inspeximus/api.K"], plainKeys := false, apart := false, laid := [("inspeximus/api.K", laid_inspeximus_api_K), ("inspeximus/api.First", laid_inspeximus_api_First)], narrowed := true }
def KeysNoneUptoSaid : Prop := keysNoneUptoRow.holds Tryd.pinned (OpenSpec.upto keysNoneSpec)

/-- 'inspeximuslaw13.PartActs', WHERE WHAT IT READS IS OF BULK AT MOST 1048576: true; the input reads as it did. -/
def partActsUptoRow : OpenClaim := { program := "ytklmhegmombegaadoor", sum := "0a7c3a894c7af3ac3b7bfd132e64a3d56ddf304230a11306221bbed8f12691c2", func := "inspeximus/inspeximuslaw13.PartActs", spec := "partActs", unfollowed := true, recurses := true, named := ["inspeximus/api.First", "inspeximus/api.K"], plainKeys := false, apart := false, laid := [("inspeximus/api.K", laid_inspeximus_api_K), ("inspeximus/api.First", laid_inspeximus_api_First)], narrowed := true }
def PartActsUptoSaid : Prop := partActsUptoRow.holds Tryd.pinned (OpenSpec.upto partActsSpec)

/-- 'inspeximuslaw13.PartReceipts', WHERE WHAT IT READS IS OF BULK AT MOST 1048576: true; the input reads as it did. -/
def partReceiptsUptoRow : OpenClaim := { program := "ytklmhegmombegaadoor", sum := "0a7c3a894c7af3ac3b7bfd132e64a3d56ddf304230a11306221bbed8f12691c2", func := "inspeximus/inspeximuslaw13.PartReceipts", spec := "partReceipts", unfollowed := true, recurses := true, named := ["inspeximus/api.First", "inspeximus/api.K"], plainKeys := false, apart := false, laid := [("inspeximus/api.K", laid_inspeximus_api_K), ("inspeximus/api.First", laid_inspeximus_api_First)], narrowed := true }
def PartReceiptsUptoSaid : Prop := partReceiptsUptoRow.holds Tryd.pinned (OpenSpec.upto partReceiptsSpec)

/-- 'inspeximuslaw13.PartOnce', WHERE WHAT IT READS IS OF BULK AT MOST 1048576: true; the input reads as it did. -/
def partOnceUptoRow : OpenClaim := { program := "ytklmhegmombegaadoor", sum := "0a7c3a894c7af3ac3b7bfd132e64a3d56ddf304230a11306221bbed8f12691c2", func := "inspeximus/inspeximuslaw13.PartOnce", spec := "partOnce", unfollowed := true, recurses := true, named := ["inspeximus/api.First", "inspeximus/api.K"], plainKeys := false, apart := false, laid := [("inspeximus/api.K", laid_inspeximus_api_K), ("inspeximus/api.First", laid_inspeximus_api_First)], narrowed := true }
def PartOnceUptoSaid : Prop := partOnceUptoRow.holds Tryd.pinned (OpenSpec.upto partOnceSpec)

/-- 'inspeximuslaw13.PartAgain', WHERE WHAT IT READS IS OF BULK AT MOST 1048576: true; the input reads as it did. -/
def partAgainUptoRow : OpenClaim := { program := "ytklmhegmombegaadoor", sum := "0a7c3a894c7af3ac3b7bfd132e64a3d56ddf304230a11306221bbed8f12691c2", func := "inspeximus/inspeximuslaw13.PartAgain", spec := "partAgain", unfollowed := true, recurses := true, named := ["inspeximus/api.First", "inspeximus/api.K"], plainKeys := false, apart := false, laid := [("inspeximus/api.K", laid_inspeximus_api_K), ("inspeximus/api.First", laid_inspeximus_api_First)], narrowed := true }
def PartAgainUptoSaid : Prop := partAgainUptoRow.holds Tryd.pinned (OpenSpec.upto partAgainSpec)

/-- 'inspeximuslaw13.PartApart', WHERE WHAT IT READS IS OF BULK AT MOST 1048576: true; the input reads as it did. -/
def partApartUptoRow : OpenClaim := { program := "ytklmhegmombegaadoor", sum := "0a7c3a894c7af3ac3b7bfd132e64a3d56ddf304230a11306221bbed8f12691c2", func := "inspeximus/inspeximuslaw13.PartApart", spec := "partApart", unfollowed := true, recurses := true, named := ["inspeximus/api.First", "inspeximus/api.K"], plainKeys := false, apart := false, laid := [("inspeximus/api.K", laid_inspeximus_api_K), ("inspeximus/api.First", laid_inspeximus_api_First)], narrowed := true }
def PartApartUptoSaid : Prop := partApartUptoRow.holds Tryd.pinned (OpenSpec.upto partApartSpec)

/-- 'inspeximuslaw13.PartRefuses', WHERE WHAT IT READS IS OF BULK AT MOST 1048576: true; the input reads as it did. -/
def partRefusesUptoRow : OpenClaim := { program := "ytklmhegmombegaadoor", sum := "0a7c3a894c7af3ac3b7bfd132e64a3d56ddf304230a11306221bbed8f12691c2", func := "inspeximus/inspeximuslaw13.PartRefuses", spec := "partRefuses", unfollowed := true, recurses := true, named := ["inspeximus/api.First", "inspeximus/api.K"], plainKeys := false, apart := false, laid := [("inspeximus/api.K", laid_inspeximus_api_K), ("inspeximus/api.First", laid_inspeximus_api_First)], narrowed := true }
def PartRefusesUptoSaid : Prop := partRefusesUptoRow.holds Tryd.pinned (OpenSpec.upto partRefusesSpec)

/-- 'inspeximuslaw12.BookGone', WHERE WHAT IT READS IS OF BULK AT MOST 1048576: true; the input reads as it did. -/
def bookGoneUptoRow : OpenClaim := { program := "ytklmhegmombegaadoor", sum := "0a7c3a894c7af3ac3b7bfd132e64a3d56ddf304230a11306221bbed8f12691c2", func := "inspeximus/inspeximuslaw12.BookGone", spec := "bookGone", unfollowed := true, recurses := true, named := ["inspeximus/api.First", "inspeximus/api.K"], plainKeys := false, apart := false, laid := [("inspeximus/api.K", laid_inspeximus_api_K), ("inspeximus/api.First", laid_inspeximus_api_First)], narrowed := true }
def BookGoneUptoSaid : Prop := bookGoneUptoRow.holds Tryd.pinned (OpenSpec.upto bookGoneSpec)

end Rows
end Go.Proofs.YtklmhegmombegaaDoor
