/-
  NARROWER THAN 'FOR EVERY INPUT', by the rows' own cells (each row's printed sentence says how): JoiningForms: laid · JoiningPairs: laid · JoiningPasses: laid · JoiningAgree: laid · JoiningKnown: laid · ClusterBounds: laid · ClusterParted: laid · ClusterAlone: laid · ClusterBehind: laid · ClusterKnown: laid.
  DERIVED. THE GIVEN ROWS OF THIS SEAT. 10 by the template 'for every input the law returns true; each argument reads behind the call as it read before'; 0 by the template 'total and deterministic' (their statements: YtffmdnckapalfaaDoorTotals.lean).
  GIVEN WITH THE SEED: the statements are not yours to turn. If you find one false, say at which input.
  Laid BY PROGRAM, IN A SANDBOX (cutbox-rows.mjs): the forced cells as the released guide's own fill.sh prints them over the translation 06942cb516ac4aca… (all of the seat's roots in one cut). By AI agents, Wed Nov 11 2026. No macro, syntax, notation, axiom, sorry.
-/
import Derived.Test.YtffmdnckapalfaaDoorChecked
import GoSem.Claim
import GoSem.ClaimJoined
import GoSem.ClaimMapViews
import Derived.JoinedTies
import Derived.KernelRfl
namespace Go.Proofs.YtffmdnckapalfaaDoor
/- THE CELL 'sum', in the pinned program and in every row, IS THE sha256 OF THE DUMP (.gsa) THAT YtffmdnckapalfaaDoorProg.lean LOADS. Nothing in Lean hashes anything: it is a label: what it is worth is what the hold of that sum in a sandbox is worth. -/
noncomputable def Tryd.pinned : Pinned := { name := "ytffmdnckapalfaadoor", sum := "06942cb516ac4aca5eb9b0ca1bb11f9e6570ef406a096cd2fe55363c64ba18d4", checked := Tryd.checked }
namespace Rows
def none {H : Type} : Left H := { results := [], args := [] }

/- WHAT THE LISTED PACKAGE-LEVEL VARIABLES READ AS WHEN THE CALL BEGINS. Each datum BY PROGRAM (the guide's laid-datum.mjs) off the statement by which the dump's own 'gosem.cut.vars' lays the variable. In a bare row this is a premise. The card (YtffmdnckapalfaaDoorCards.lean) ties it to the program's text. -/
def laid_calamus_ucd_joinings {H : Type} : DataW H := .agg [.agg [.lit (.int .i32 1570), .lit (.int .i32 1573), .lit (.int .u8 1)], .agg [.lit (.int .i32 1575), .lit (.int .i32 1575), .lit (.int .u8 1)], .agg [.lit (.int .i32 1577), .lit (.int .i32 1577), .lit (.int .u8 1)], .agg [.lit (.int .i32 1583), .lit (.int .i32 1586), .lit (.int .u8 1)], .agg [.lit (.int .i32 1608), .lit (.int .i32 1608), .lit (.int .u8 1)], .agg [.lit (.int .i32 1649), .lit (.int .i32 1651), .lit (.int .u8 1)], .agg [.lit (.int .i32 1653), .lit (.int .i32 1655), .lit (.int .u8 1)], .agg [.lit (.int .i32 1672), .lit (.int .i32 1689), .lit (.int .u8 1)], .agg [.lit (.int .i32 1728), .lit (.int .i32 1728), .lit (.int .u8 1)], .agg [.lit (.int .i32 1731), .lit (.int .i32 1739), .lit (.int .u8 1)], .agg [.lit (.int .i32 1741), .lit (.int .i32 1741), .lit (.int .u8 1)], .agg [.lit (.int .i32 1743), .lit (.int .i32 1743), .lit (.int .u8 1)], .agg [.lit (.int .i32 1746), .lit (.int .i32 1747), .lit (.int .u8 1)], .agg [.lit (.int .i32 1749), .lit (.int .i32 1749), .lit (.int .u8 1)], .agg [.lit (.int .i32 1774), .lit (.int .i32 1775), .lit (.int .u8 1)], .agg [.lit (.int .i32 1568), .lit (.int .i32 1568), .lit (.int .u8 2)], .agg [.lit (.int .i32 1574), .lit (.int .i32 1574), .lit (.int .u8 2)], .agg [.lit (.int .i32 1576), .lit (.int .i32 1576), .lit (.int .u8 2)], .agg [.lit (.int .i32 1578), .lit (.int .i32 1582), .lit (.int .u8 2)], .agg [.lit (.int .i32 1587), .lit (.int .i32 1599), .lit (.int .u8 2)], .agg [.lit (.int .i32 1601), .lit (.int .i32 1607), .lit (.int .u8 2)], .agg [.lit (.int .i32 1609), .lit (.int .i32 1610), .lit (.int .u8 2)], .agg [.lit (.int .i32 1646), .lit (.int .i32 1647), .lit (.int .u8 2)], .agg [.lit (.int .i32 1656), .lit (.int .i32 1671), .lit (.int .u8 2)], .agg [.lit (.int .i32 1690), .lit (.int .i32 1727), .lit (.int .u8 2)], .agg [.lit (.int .i32 1729), .lit (.int .i32 1730), .lit (.int .u8 2)], .agg [.lit (.int .i32 1740), .lit (.int .i32 1740), .lit (.int .u8 2)], .agg [.lit (.int .i32 1742), .lit (.int .i32 1742), .lit (.int .u8 2)], .agg [.lit (.int .i32 1744), .lit (.int .i32 1745), .lit (.int .u8 2)], .agg [.lit (.int .i32 1786), .lit (.int .i32 1788), .lit (.int .u8 2)], .agg [.lit (.int .i32 1791), .lit (.int .i32 1791), .lit (.int .u8 2)], .agg [.lit (.int .i32 1600), .lit (.int .i32 1600), .lit (.int .u8 3)], .agg [.lit (.int .i32 8205), .lit (.int .i32 8205), .lit (.int .u8 3)], .agg [.lit (.int .i32 768), .lit (.int .i32 879), .lit (.int .u8 4)], .agg [.lit (.int .i32 1155), .lit (.int .i32 1161), .lit (.int .u8 4)], .agg [.lit (.int .i32 1425), .lit (.int .i32 1469), .lit (.int .u8 4)], .agg [.lit (.int .i32 1471), .lit (.int .i32 1471), .lit (.int .u8 4)], .agg [.lit (.int .i32 1473), .lit (.int .i32 1474), .lit (.int .u8 4)], .agg [.lit (.int .i32 1476), .lit (.int .i32 1477), .lit (.int .u8 4)], .agg [.lit (.int .i32 1479), .lit (.int .i32 1479), .lit (.int .u8 4)], .agg [.lit (.int .i32 1552), .lit (.int .i32 1562), .lit (.int .u8 4)], .agg [.lit (.int .i32 1611), .lit (.int .i32 1631), .lit (.int .u8 4)], .agg [.lit (.int .i32 1648), .lit (.int .i32 1648), .lit (.int .u8 4)], .agg [.lit (.int .i32 1750), .lit (.int .i32 1756), .lit (.int .u8 4)], .agg [.lit (.int .i32 1759), .lit (.int .i32 1764), .lit (.int .u8 4)], .agg [.lit (.int .i32 1767), .lit (.int .i32 1768), .lit (.int .u8 4)], .agg [.lit (.int .i32 1770), .lit (.int .i32 1773), .lit (.int .u8 4)], .agg [.lit (.int .i32 1809), .lit (.int .i32 1809), .lit (.int .u8 4)], .agg [.lit (.int .i32 1840), .lit (.int .i32 1866), .lit (.int .u8 4)], .agg [.lit (.int .i32 1958), .lit (.int .i32 1968), .lit (.int .u8 4)], .agg [.lit (.int .i32 8400), .lit (.int .i32 8432), .lit (.int .u8 4)], .agg [.lit (.int .i32 64286), .lit (.int .i32 64286), .lit (.int .u8 4)], .agg [.lit (.int .i32 65024), .lit (.int .i32 65039), .lit (.int .u8 4)], .agg [.lit (.int .i32 65056), .lit (.int .i32 65071), .lit (.int .u8 4)], .agg [.lit (.int .i32 125252), .lit (.int .i32 125258), .lit (.int .u8 4)], .agg [.lit (.int .i32 917760), .lit (.int .i32 917999), .lit (.int .u8 4)], .agg [.lit (.int .i32 173), .lit (.int .i32 173), .lit (.int .u8 4)], .agg [.lit (.int .i32 8203), .lit (.int .i32 8203), .lit (.int .u8 4)], .agg [.lit (.int .i32 8206), .lit (.int .i32 8207), .lit (.int .u8 4)], .agg [.lit (.int .i32 8234), .lit (.int .i32 8238), .lit (.int .u8 4)], .agg [.lit (.int .i32 8288), .lit (.int .i32 8292), .lit (.int .u8 4)], .agg [.lit (.int .i32 65279), .lit (.int .i32 65279), .lit (.int .u8 4)]]
def laid_calamus_joining_forms {H : Type} : DataW H := .agg [.agg [.lit (.int .u8 1), .lit (.int .u8 2)], .agg [.lit (.int .u8 4), .lit (.int .u8 3)]]
def laid_calamus_ucd_clusters {H : Type} : DataW H := .agg [.agg [.lit (.int .i32 13), .lit (.int .i32 13), .lit (.int .u8 1)], .agg [.lit (.int .i32 10), .lit (.int .i32 10), .lit (.int .u8 2)], .agg [.lit (.int .i32 0), .lit (.int .i32 9), .lit (.int .u8 3)], .agg [.lit (.int .i32 11), .lit (.int .i32 12), .lit (.int .u8 3)], .agg [.lit (.int .i32 14), .lit (.int .i32 31), .lit (.int .u8 3)], .agg [.lit (.int .i32 127), .lit (.int .i32 159), .lit (.int .u8 3)], .agg [.lit (.int .i32 173), .lit (.int .i32 173), .lit (.int .u8 3)], .agg [.lit (.int .i32 8203), .lit (.int .i32 8203), .lit (.int .u8 3)], .agg [.lit (.int .i32 8206), .lit (.int .i32 8207), .lit (.int .u8 3)], .agg [.lit (.int .i32 8232), .lit (.int .i32 8238), .lit (.int .u8 3)], .agg [.lit (.int .i32 8288), .lit (.int .i32 8303), .lit (.int .u8 3)], .agg [.lit (.int .i32 65279), .lit (.int .i32 65279), .lit (.int .u8 3)], .agg [.lit (.int .i32 8205), .lit (.int .i32 8205), .lit (.int .u8 5)], .agg [.lit (.int .i32 768), .lit (.int .i32 879), .lit (.int .u8 4)], .agg [.lit (.int .i32 1155), .lit (.int .i32 1161), .lit (.int .u8 4)], .agg [.lit (.int .i32 1425), .lit (.int .i32 1469), .lit (.int .u8 4)], .agg [.lit (.int .i32 1471), .lit (.int .i32 1471), .lit (.int .u8 4)], .agg [.lit (.int .i32 1473), .lit (.int .i32 1474), .lit (.int .u8 4)], .agg [.lit (.int .i32 1476), .lit (.int .i32 1477), .lit (.int .u8 4)], .agg [.lit (.int .i32 1479), .lit (.int .i32 1479), .lit (.int .u8 4)], .agg [.lit (.int .i32 1552), .lit (.int .i32 1562), .lit (.int .u8 4)], .agg [.lit (.int .i32 1611), .lit (.int .i32 1631), .lit (.int .u8 4)], .agg [.lit (.int .i32 1648), .lit (.int .i32 1648), .lit (.int .u8 4)], .agg [.lit (.int .i32 1750), .lit (.int .i32 1756), .lit (.int .u8 4)], .agg [.lit (.int .i32 1759), .lit (.int .i32 1764), .lit (.int .u8 4)], .agg [.lit (.int .i32 1767), .lit (.int .i32 1768), .lit (.int .u8 4)], .agg [.lit (.int .i32 1770), .lit (.int .i32 1773), .lit (.int .u8 4)], .agg [.lit (.int .i32 1809), .lit (.int .i32 1809), .lit (.int .u8 4)], .agg [.lit (.int .i32 1840), .lit (.int .i32 1866), .lit (.int .u8 4)], .agg [.lit (.int .i32 1958), .lit (.int .i32 1968), .lit (.int .u8 4)], .agg [.lit (.int .i32 8400), .lit (.int .i32 8432), .lit (.int .u8 4)], .agg [.lit (.int .i32 64286), .lit (.int .i32 64286), .lit (.int .u8 4)], .agg [.lit (.int .i32 65024), .lit (.int .i32 65039), .lit (.int .u8 4)], .agg [.lit (.int .i32 65056), .lit (.int .i32 65071), .lit (.int .u8 4)], .agg [.lit (.int .i32 125252), .lit (.int .i32 125258), .lit (.int .u8 4)], .agg [.lit (.int .i32 917760), .lit (.int .i32 917999), .lit (.int .u8 4)], .agg [.lit (.int .i32 8204), .lit (.int .i32 8204), .lit (.int .u8 4)], .agg [.lit (.int .i32 127995), .lit (.int .i32 127999), .lit (.int .u8 4)], .agg [.lit (.int .i32 127462), .lit (.int .i32 127487), .lit (.int .u8 6)], .agg [.lit (.int .i32 1536), .lit (.int .i32 1541), .lit (.int .u8 7)], .agg [.lit (.int .i32 1757), .lit (.int .i32 1757), .lit (.int .u8 7)], .agg [.lit (.int .i32 4352), .lit (.int .i32 4447), .lit (.int .u8 8)], .agg [.lit (.int .i32 4448), .lit (.int .i32 4519), .lit (.int .u8 9)], .agg [.lit (.int .i32 4520), .lit (.int .i32 4607), .lit (.int .u8 10)], .agg [.lit (.int .i32 169), .lit (.int .i32 169), .lit (.int .u8 13)], .agg [.lit (.int .i32 174), .lit (.int .i32 174), .lit (.int .u8 13)], .agg [.lit (.int .i32 8252), .lit (.int .i32 8252), .lit (.int .u8 13)], .agg [.lit (.int .i32 8265), .lit (.int .i32 8265), .lit (.int .u8 13)], .agg [.lit (.int .i32 127744), .lit (.int .i32 127994), .lit (.int .u8 13)], .agg [.lit (.int .i32 128000), .lit (.int .i32 128591), .lit (.int .u8 13)]]

/-- 'calamuslaw15.JoiningForms': WHATEVER THE INPUT: true; the input reads as it did. -/
def joiningFormsSpec : ChangeSpec := { name := "joiningForms", fn := fun _ => fun
  | [d] => { results := [.lit (.bool true)], args := [d] }
  | _ => none }
def joiningFormsRow : OpenClaim := { program := "ytffmdnckapalfaadoor", sum := "06942cb516ac4aca5eb9b0ca1bb11f9e6570ef406a096cd2fe55363c64ba18d4", func := "calamus/calamuslaw15.JoiningForms", spec := "joiningForms", unfollowed := true, recurses := true, named := ["calamus/joining.forms", "calamus/ucd.joinings"], apart := false, laid := [("calamus/ucd.joinings", laid_calamus_ucd_joinings), ("calamus/joining.forms", laid_calamus_joining_forms)] }
def JoiningFormsSaid : Prop := joiningFormsRow.holds Tryd.pinned (OpenSpec.ofChange joiningFormsSpec)

/-- ITS FALSE NEIGHBOUR: 'it returns false'. Refute it at one input. -/
def joiningFormsWrong : ChangeSpec := { name := "joiningForms", fn := fun _ => fun
  | [d] => { results := [.lit (.bool false)], args := [d] }
  | _ => none }
def JoiningFormsWrongFalsely : Prop := joiningFormsRow.holds Tryd.pinned (OpenSpec.ofChange joiningFormsWrong)

/-- 'calamuslaw15.JoiningPairs': WHATEVER THE INPUT: true; the input reads as it did. -/
def joiningPairsSpec : ChangeSpec := { name := "joiningPairs", fn := fun _ => fun
  | [d1, d2] => { results := [.lit (.bool true)], args := [d1, d2] }
  | _ => none }
def joiningPairsRow : OpenClaim := { program := "ytffmdnckapalfaadoor", sum := "06942cb516ac4aca5eb9b0ca1bb11f9e6570ef406a096cd2fe55363c64ba18d4", func := "calamus/calamuslaw15.JoiningPairs", spec := "joiningPairs", unfollowed := true, recurses := true, named := ["calamus/ucd.joinings", "calamus/joining.forms"], apart := false, laid := [("calamus/ucd.joinings", laid_calamus_ucd_joinings), ("calamus/joining.forms", laid_calamus_joining_forms)] }
def JoiningPairsSaid : Prop := joiningPairsRow.holds Tryd.pinned (OpenSpec.ofChange joiningPairsSpec)

/-- ITS FALSE NEIGHBOUR: 'it returns false'. Refute it at one input. -/
def joiningPairsWrong : ChangeSpec := { name := "joiningPairs", fn := fun _ => fun
  | [d1, d2] => { results := [.lit (.bool false)], args := [d1, d2] }
  | _ => none }
def JoiningPairsWrongFalsely : Prop := joiningPairsRow.holds Tryd.pinned (OpenSpec.ofChange joiningPairsWrong)

/-- 'calamuslaw15.JoiningPasses': WHATEVER THE INPUT: true; the input reads as it did. -/
def joiningPassesSpec : ChangeSpec := { name := "joiningPasses", fn := fun _ => fun
  | [d1, d2] => { results := [.lit (.bool true)], args := [d1, d2] }
  | _ => none }
def joiningPassesRow : OpenClaim := { program := "ytffmdnckapalfaadoor", sum := "06942cb516ac4aca5eb9b0ca1bb11f9e6570ef406a096cd2fe55363c64ba18d4", func := "calamus/calamuslaw15.JoiningPasses", spec := "joiningPasses", unfollowed := true, recurses := true, named := ["calamus/joining.forms", "calamus/ucd.joinings"], apart := false, laid := [("calamus/ucd.joinings", laid_calamus_ucd_joinings), ("calamus/joining.forms", laid_calamus_joining_forms)] }
def JoiningPassesSaid : Prop := joiningPassesRow.holds Tryd.pinned (OpenSpec.ofChange joiningPassesSpec)

/-- ITS FALSE NEIGHBOUR: 'it returns false'. Refute it at one input. -/
def joiningPassesWrong : ChangeSpec := { name := "joiningPasses", fn := fun _ => fun
  | [d1, d2] => { results := [.lit (.bool false)], args := [d1, d2] }
  | _ => none }
def JoiningPassesWrongFalsely : Prop := joiningPassesRow.holds Tryd.pinned (OpenSpec.ofChange joiningPassesWrong)

/-- 'calamuslaw15.JoiningAgree': WHATEVER THE INPUT: true; the input reads as it did. -/
def joiningAgreeSpec : ChangeSpec := { name := "joiningAgree", fn := fun _ => fun
  | [d] => { results := [.lit (.bool true)], args := [d] }
  | _ => none }
def joiningAgreeRow : OpenClaim := { program := "ytffmdnckapalfaadoor", sum := "06942cb516ac4aca5eb9b0ca1bb11f9e6570ef406a096cd2fe55363c64ba18d4", func := "calamus/calamuslaw15.JoiningAgree", spec := "joiningAgree", unfollowed := true, recurses := true, named := ["calamus/joining.forms", "calamus/ucd.joinings"], apart := false, laid := [("calamus/ucd.joinings", laid_calamus_ucd_joinings), ("calamus/joining.forms", laid_calamus_joining_forms)] }
def JoiningAgreeSaid : Prop := joiningAgreeRow.holds Tryd.pinned (OpenSpec.ofChange joiningAgreeSpec)

/-- ITS FALSE NEIGHBOUR: 'it returns false'. Refute it at one input. -/
def joiningAgreeWrong : ChangeSpec := { name := "joiningAgree", fn := fun _ => fun
  | [d] => { results := [.lit (.bool false)], args := [d] }
  | _ => none }
def JoiningAgreeWrongFalsely : Prop := joiningAgreeRow.holds Tryd.pinned (OpenSpec.ofChange joiningAgreeWrong)

/-- 'calamuslaw15.JoiningKnown': WHATEVER THE INPUT: true; the input reads as it did. -/
def joiningKnownSpec : ChangeSpec := { name := "joiningKnown", fn := fun _ => fun
  | [] => { results := [.lit (.bool true)], args := [] }
  | _ => none }
def joiningKnownRow : OpenClaim := { program := "ytffmdnckapalfaadoor", sum := "06942cb516ac4aca5eb9b0ca1bb11f9e6570ef406a096cd2fe55363c64ba18d4", func := "calamus/calamuslaw15.JoiningKnown", spec := "joiningKnown", unfollowed := true, recurses := true, named := ["calamus/joining.forms", "calamus/ucd.joinings"], apart := false, laid := [("calamus/ucd.joinings", laid_calamus_ucd_joinings), ("calamus/joining.forms", laid_calamus_joining_forms)] }
def JoiningKnownSaid : Prop := joiningKnownRow.holds Tryd.pinned (OpenSpec.ofChange joiningKnownSpec)

/-- ITS FALSE NEIGHBOUR: 'it returns false'. Refute it at one input. -/
def joiningKnownWrong : ChangeSpec := { name := "joiningKnown", fn := fun _ => fun
  | [] => { results := [.lit (.bool false)], args := [] }
  | _ => none }
def JoiningKnownWrongFalsely : Prop := joiningKnownRow.holds Tryd.pinned (OpenSpec.ofChange joiningKnownWrong)

/-- 'calamuslaw03.ClusterBounds': WHATEVER THE INPUT: true; the input reads as it did. -/
def clusterBoundsSpec : ChangeSpec := { name := "clusterBounds", fn := fun _ => fun
  | [d] => { results := [.lit (.bool true)], args := [d] }
  | _ => none }
def clusterBoundsRow : OpenClaim := { program := "ytffmdnckapalfaadoor", sum := "06942cb516ac4aca5eb9b0ca1bb11f9e6570ef406a096cd2fe55363c64ba18d4", func := "calamus/calamuslaw03.ClusterBounds", spec := "clusterBounds", unfollowed := true, recurses := true, named := ["calamus/ucd.clusters"], apart := false, laid := [("calamus/ucd.clusters", laid_calamus_ucd_clusters)] }
def ClusterBoundsSaid : Prop := clusterBoundsRow.holds Tryd.pinned (OpenSpec.ofChange clusterBoundsSpec)

/-- ITS FALSE NEIGHBOUR: 'it returns false'. Refute it at one input. -/
def clusterBoundsWrong : ChangeSpec := { name := "clusterBounds", fn := fun _ => fun
  | [d] => { results := [.lit (.bool false)], args := [d] }
  | _ => none }
def ClusterBoundsWrongFalsely : Prop := clusterBoundsRow.holds Tryd.pinned (OpenSpec.ofChange clusterBoundsWrong)

/-- 'calamuslaw03.ClusterParted': WHATEVER THE INPUT: true; the input reads as it did. -/
def clusterPartedSpec : ChangeSpec := { name := "clusterParted", fn := fun _ => fun
  | [d1, d2] => { results := [.lit (.bool true)], args := [d1, d2] }
  | _ => none }
def clusterPartedRow : OpenClaim := { program := "ytffmdnckapalfaadoor", sum := "06942cb516ac4aca5eb9b0ca1bb11f9e6570ef406a096cd2fe55363c64ba18d4", func := "calamus/calamuslaw03.ClusterParted", spec := "clusterParted", unfollowed := true, recurses := true, named := ["calamus/ucd.clusters"], apart := false, laid := [("calamus/ucd.clusters", laid_calamus_ucd_clusters)] }
def ClusterPartedSaid : Prop := clusterPartedRow.holds Tryd.pinned (OpenSpec.ofChange clusterPartedSpec)

/-- ITS FALSE NEIGHBOUR: 'it returns false'. Refute it at one input. -/
def clusterPartedWrong : ChangeSpec := { name := "clusterParted", fn := fun _ => fun
  | [d1, d2] => { results := [.lit (.bool false)], args := [d1, d2] }
  | _ => none }
def ClusterPartedWrongFalsely : Prop := clusterPartedRow.holds Tryd.pinned (OpenSpec.ofChange clusterPartedWrong)

/-- 'calamuslaw03.ClusterAlone': WHATEVER THE INPUT: true; the input reads as it did. -/
def clusterAloneSpec : ChangeSpec := { name := "clusterAlone", fn := fun _ => fun
  | [d] => { results := [.lit (.bool true)], args := [d] }
  | _ => none }
def clusterAloneRow : OpenClaim := { program := "ytffmdnckapalfaadoor", sum := "06942cb516ac4aca5eb9b0ca1bb11f9e6570ef406a096cd2fe55363c64ba18d4", func := "calamus/calamuslaw03.ClusterAlone", spec := "clusterAlone", unfollowed := true, recurses := true, named := ["calamus/ucd.clusters"], apart := false, laid := [("calamus/ucd.clusters", laid_calamus_ucd_clusters)] }
def ClusterAloneSaid : Prop := clusterAloneRow.holds Tryd.pinned (OpenSpec.ofChange clusterAloneSpec)

/-- ITS FALSE NEIGHBOUR: 'it returns false'. Refute it at one input. -/
def clusterAloneWrong : ChangeSpec := { name := "clusterAlone", fn := fun _ => fun
  | [d] => { results := [.lit (.bool false)], args := [d] }
  | _ => none }
def ClusterAloneWrongFalsely : Prop := clusterAloneRow.holds Tryd.pinned (OpenSpec.ofChange clusterAloneWrong)

/-- 'calamuslaw03.ClusterBehind': WHATEVER THE INPUT: true; the input reads as it did. -/
def clusterBehindSpec : ChangeSpec := { name := "clusterBehind", fn := fun _ => fun
  | [d1, d2] => { results := [.lit (.bool true)], args := [d1, d2] }
  | _ => none }
def clusterBehindRow : OpenClaim := { program := "ytffmdnckapalfaadoor", sum := "06942cb516ac4aca5eb9b0ca1bb11f9e6570ef406a096cd2fe55363c64ba18d4", func := "calamus/calamuslaw03.ClusterBehind", spec := "clusterBehind", unfollowed := true, recurses := true, named := ["calamus/ucd.clusters"], apart := false, laid := [("calamus/ucd.clusters", laid_calamus_ucd_clusters)] }
def ClusterBehindSaid : Prop := clusterBehindRow.holds Tryd.pinned (OpenSpec.ofChange clusterBehindSpec)

/-- ITS FALSE NEIGHBOUR: 'it returns false'. Refute it at one input. -/
def clusterBehindWrong : ChangeSpec := { name := "clusterBehind", fn := fun _ => fun
  | [d1, d2] => { results := [.lit (.bool false)], args := [d1, d2] }
  | _ => none }
def ClusterBehindWrongFalsely : Prop := clusterBehindRow.holds Tryd.pinned (OpenSpec.ofChange clusterBehindWrong)

/-- 'calamuslaw03.ClusterKnown': WHATEVER THE INPUT: true; the input reads as it did. -/
def clusterKnownSpec : ChangeSpec := { name := "clusterKnown", fn := fun _ => fun
  | [] => { results := [.lit (.bool true)], args := [] }
  | _ => none }
def clusterKnownRow : OpenClaim := { program := "ytffmdnckapalfaadoor", sum := "06942cb516ac4aca5eb9b0ca1bb11f9e6570ef406a096cd2fe55363c64ba18d4", func := "calamus/calamuslaw03.ClusterKnown", spec := "clusterKnown", unfollowed := true, recurses := true, named := ["calamus/ucd.clusters"], apart := false, laid := [("calamus/ucd.clusters", laid_calamus_ucd_clusters)] }
def ClusterKnownSaid : Prop := clusterKnownRow.holds Tryd.pinned (OpenSpec.ofChange clusterKnownSpec)

/-- ITS FALSE NEIGHBOUR: 'it returns false'. Refute it at one input. -/
def clusterKnownWrong : ChangeSpec := { name := "clusterKnown", fn := fun _ => fun
  | [] => { results := [.lit (.bool false)], args := [] }
  | _ => none }
def ClusterKnownWrongFalsely : Prop := clusterKnownRow.holds Tryd.pinned (OpenSpec.ofChange clusterKnownWrong)

/- THE SECOND FORM. 'bulk': how many values and letters a reading holds, each counted each time it is reached (what is shared counts as often as it is met; a slice's spare places count too). A statement '..UptoSaid' is the law's where the arguments, and the package variables that the reading takes, are together of bulk at most 1048576: NARROWER than '..Said'. Prove '..Said' where nothing that the law and all that it calls make is longer than what came in: it says more and counts as full. Else prove '..UptoSaid'. A law counts once. -/
mutual
def uptoBulk {H : Type} : DataW H → Nat
  | .lit (.string bytes) => bytes.length + 1
  | .lit _ => 1
  | .nil => 1
  | .ptr d => uptoBulk d + 1
  | .slice elems spare => uptoBulkAll elems + uptoBulkAll spare + 1
  | .agg parts => uptoBulkAll parts + 1
  | .iface _ d => uptoBulk d + 1
  | .map entries => uptoBulkEntries entries + 1
  | .held _ => 1
def uptoBulkAll {H : Type} : List (DataW H) → Nat
  | [] => 0
  | d :: r => uptoBulk d + uptoBulkAll r
def uptoBulkEntries {H : Type} : List (Lit × DataW H) → Nat
  | [] => 0
  | x :: r => uptoBulkEntry x + uptoBulkEntries r
def uptoBulkEntry {H : Type} : Lit × DataW H → Nat
  | (.string bytes, d) => bytes.length + uptoBulk d + 1
  | (_, d) => uptoBulk d + 1
 end
def uptoSmall : (H : Type) → List (DataW H) → Bool := fun _ ds => decide (uptoBulkAll ds ≤ 1048576)
def OpenSpec.upto (s : _root_.Go.ChangeSpec) : _root_.Go.OpenSpec := { _root_.Go.OpenSpec.ofChange s with cond := some uptoSmall }

/-- 'calamuslaw15.JoiningForms', WHERE WHAT IT READS IS OF BULK AT MOST 1048576: true; the input reads as it did. -/
def joiningFormsUptoRow : OpenClaim := { program := "ytffmdnckapalfaadoor", sum := "06942cb516ac4aca5eb9b0ca1bb11f9e6570ef406a096cd2fe55363c64ba18d4", func := "calamus/calamuslaw15.JoiningForms", spec := "joiningForms", unfollowed := true, recurses := true, named := ["calamus/joining.forms", "calamus/ucd.joinings"], apart := false, laid := [("calamus/ucd.joinings", laid_calamus_ucd_joinings), ("calamus/joining.forms", laid_calamus_joining_forms)], narrowed := true }
def JoiningFormsUptoSaid : Prop := joiningFormsUptoRow.holds Tryd.pinned (OpenSpec.upto joiningFormsSpec)

/-- 'calamuslaw15.JoiningPairs', WHERE WHAT IT READS IS OF BULK AT MOST 1048576: true; the input reads as it did. -/
def joiningPairsUptoRow : OpenClaim := { program := "ytffmdnckapalfaadoor", sum := "06942cb516ac4aca5eb9b0ca1bb11f9e6570ef406a096cd2fe55363c64ba18d4", func := "calamus/calamuslaw15.JoiningPairs", spec := "joiningPairs", unfollowed := true, recurses := true, named := ["calamus/ucd.joinings", "calamus/joining.forms"], apart := false, laid := [("calamus/ucd.joinings", laid_calamus_ucd_joinings), ("calamus/joining.forms", laid_calamus_joining_forms)], narrowed := true }
def JoiningPairsUptoSaid : Prop := joiningPairsUptoRow.holds Tryd.pinned (OpenSpec.upto joiningPairsSpec)

/-- 'calamuslaw15.JoiningPasses', WHERE WHAT IT READS IS OF BULK AT MOST 1048576: true; the input reads as it did. -/
def joiningPassesUptoRow : OpenClaim := { program := "ytffmdnckapalfaadoor", sum := "06942cb516ac4aca5eb9b0ca1bb11f9e6570ef406a096cd2fe55363c64ba18d4", func := "calamus/calamuslaw15.JoiningPasses", spec := "joiningPasses", unfollowed := true, recurses := true, named := ["calamus/joining.forms", "calamus/ucd.joinings"], apart := false, laid := [("calamus/ucd.joinings", laid_calamus_ucd_joinings), ("calamus/joining.forms", laid_calamus_joining_forms)], narrowed := true }
def JoiningPassesUptoSaid : Prop := joiningPassesUptoRow.holds Tryd.pinned (OpenSpec.upto joiningPassesSpec)

/-- 'calamuslaw15.JoiningAgree', WHERE WHAT IT READS IS OF BULK AT MOST 1048576: true; the input reads as it did. -/
def joiningAgreeUptoRow : OpenClaim := { program := "ytffmdnckapalfaadoor", sum := "06942cb516ac4aca5eb9b0ca1bb11f9e6570ef406a096cd2fe55363c64ba18d4", func := "calamus/calamuslaw15.JoiningAgree", spec := "joiningAgree", unfollowed := true, recurses := true, named := ["calamus/joining.forms", "calamus/ucd.joinings"], apart := false, laid := [("calamus/ucd.joinings", laid_calamus_ucd_joinings), ("calamus/joining.forms", laid_calamus_joining_forms)], narrowed := true }
def JoiningAgreeUptoSaid : Prop := joiningAgreeUptoRow.holds Tryd.pinned (OpenSpec.upto joiningAgreeSpec)

/-- 'calamuslaw15.JoiningKnown', WHERE WHAT IT READS IS OF BULK AT MOST 1048576: true; the input reads as it did. -/
def joiningKnownUptoRow : OpenClaim := { program := "ytffmdnckapalfaadoor", sum := "06942cb516ac4aca5eb9b0ca1bb11f9e6570ef406a096cd2fe55363c64ba18d4", func := "calamus/calamuslaw15.JoiningKnown", spec := "joiningKnown", unfollowed := true, recurses := true, named := ["calamus/joining.forms", "calamus/ucd.joinings"], apart := false, laid := [("calamus/ucd.joinings", laid_calamus_ucd_joinings), ("calamus/joining.forms", laid_calamus_joining_forms)], narrowed := true }
def JoiningKnownUptoSaid : Prop := joiningKnownUptoRow.holds Tryd.pinned (OpenSpec.upto joiningKnownSpec)

/-- 'calamuslaw03.ClusterBounds', WHERE WHAT IT READS IS OF BULK AT MOST 1048576: true; the input reads as it did. -/
def clusterBoundsUptoRow : OpenClaim := { program := "ytffmdnckapalfaadoor", sum := "06942cb516ac4aca5eb9b0ca1bb11f9e6570ef406a096cd2fe55363c64ba18d4", func := "calamus/calamuslaw03.ClusterBounds", spec := "clusterBounds", unfollowed := true, recurses := true, named := ["calamus/ucd.clusters"], apart := false, laid := [("calamus/ucd.clusters", laid_calamus_ucd_clusters)], narrowed := true }
def ClusterBoundsUptoSaid : Prop := clusterBoundsUptoRow.holds Tryd.pinned (OpenSpec.upto clusterBoundsSpec)

/-- 'calamuslaw03.ClusterParted', WHERE WHAT IT READS IS OF BULK AT MOST 1048576: true; the input reads as it did. -/
def clusterPartedUptoRow : OpenClaim := { program := "ytffmdnckapalfaadoor", sum := "06942cb516ac4aca5eb9b0ca1bb11f9e6570ef406a096cd2fe55363c64ba18d4", func := "calamus/calamuslaw03.ClusterParted", spec := "clusterParted", unfollowed := true, recurses := true, named := ["calamus/ucd.clusters"], apart := false, laid := [("calamus/ucd.clusters", laid_calamus_ucd_clusters)], narrowed := true }
def ClusterPartedUptoSaid : Prop := clusterPartedUptoRow.holds Tryd.pinned (OpenSpec.upto clusterPartedSpec)

/-- 'calamuslaw03.ClusterAlone', WHERE WHAT IT READS IS OF BULK AT MOST 1048576: true; the input reads as it did. -/
def clusterAloneUptoRow : OpenClaim := { program := "ytffmdnckapalfaadoor", sum := "06942cb516ac4aca5eb9b0ca1bb11f9e6570ef406a096cd2fe55363c64ba18d4", func := "calamus/calamuslaw03.ClusterAlone", spec := "clusterAlone", unfollowed := true, recurses := true, named := ["calamus/ucd.clusters"], apart := false, laid := [("calamus/ucd.clusters", laid_calamus_ucd_clusters)], narrowed := true }
def ClusterAloneUptoSaid : Prop := clusterAloneUptoRow.holds Tryd.pinned (OpenSpec.upto clusterAloneSpec)

/-- 'calamuslaw03.ClusterBehind', WHERE WHAT IT READS IS OF BULK AT MOST 1048576: true; the input reads as it did. -/
def clusterBehindUptoRow : OpenClaim := { program := "ytffmdnckapalfaadoor", sum := "06942cb516ac4aca5eb9b0ca1bb11f9e6570ef406a096cd2fe55363c64ba18d4", func := "calamus/calamuslaw03.ClusterBehind", spec := "clusterBehind", unfollowed := true, recurses := true, named := ["calamus/ucd.clusters"], apart := false, laid := [("calamus/ucd.clusters", laid_calamus_ucd_clusters)], narrowed := true }
def ClusterBehindUptoSaid : Prop := clusterBehindUptoRow.holds Tryd.pinned (OpenSpec.upto clusterBehindSpec)

/-- 'calamuslaw03.ClusterKnown', WHERE WHAT IT READS IS OF BULK AT MOST 1048576: true; the input reads as it did. -/
def clusterKnownUptoRow : OpenClaim := { program := "ytffmdnckapalfaadoor", sum := "06942cb516ac4aca5eb9b0ca1bb11f9e6570ef406a096cd2fe55363c64ba18d4", func := "calamus/calamuslaw03.ClusterKnown", spec := "clusterKnown", unfollowed := true, recurses := true, named := ["calamus/ucd.clusters"], apart := false, laid := [("calamus/ucd.clusters", laid_calamus_ucd_clusters)], narrowed := true }
def ClusterKnownUptoSaid : Prop := clusterKnownUptoRow.holds Tryd.pinned (OpenSpec.upto clusterKnownSpec)

end Rows
end Go.Proofs.YtffmdnckapalfaaDoor
