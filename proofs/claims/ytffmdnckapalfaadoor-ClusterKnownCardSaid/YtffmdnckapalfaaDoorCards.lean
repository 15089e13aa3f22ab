/-
  DERIVED. GIVEN WITH THE SEED: THE CARDS: each row of YtffmdnckapalfaaDoorRows.lean that lists a variable, with what it lists TIED to the program's text (the seventh form; the later family's looks); each row that meets fmt, with fmt's text TOLD by the authors' own Lean function (tested against real Go, not proved from fmt's source: count such statements apart). THE CARD IS WHAT COUNTS. Prove the row's statement (the work); the ties are given (YtffmdnckapalfaaDoorTie.lean); close each card by the builder's one call (the guide's Derived/Test/ToyasCard.lean, 'card_holds'). Laid BY PROGRAM, IN A SANDBOX (cutbox-door.mjs). By AI agents, Wed Nov 11 2026. No macro, syntax, notation, axiom, sorry.
-/
import Derived.Test.YtffmdnckapalfaaDoorRows
import GoSem.ClaimSeven
namespace Go.Proofs.YtffmdnckapalfaaDoor
namespace Rows

/-- THE TIED CARD OF 'calamuslaw15.JoiningForms'. -/
def joiningFormsCard : Claim7 := { stood := { row := joiningFormsRow, standIns := [], harness := (true, "fdb9bd419e410d59db402cf91e42cd8f9b91adfa8b646696dc32b7418386a1ea"), looks := false }, kinds := [], alts := [], laidByText := true, laidKinds := [.widerDeep, .data], laidTests := true, laidLooks := .later }
def JoiningFormsCardSaid : Prop := Claim7.holds Tryd.pinned (.plain (OpenSpec.ofChange joiningFormsSpec)) joiningFormsCard

/-- THE TIED CARD OF 'calamuslaw15.JoiningPairs'. -/
def joiningPairsCard : Claim7 := { stood := { row := joiningPairsRow, standIns := [], harness := (true, "fdb9bd419e410d59db402cf91e42cd8f9b91adfa8b646696dc32b7418386a1ea"), looks := false }, kinds := [], alts := [], laidByText := true, laidKinds := [.widerDeep, .data], laidTests := true, laidLooks := .later }
def JoiningPairsCardSaid : Prop := Claim7.holds Tryd.pinned (.plain (OpenSpec.ofChange joiningPairsSpec)) joiningPairsCard

/-- THE TIED CARD OF 'calamuslaw15.JoiningPasses'. -/
def joiningPassesCard : Claim7 := { stood := { row := joiningPassesRow, standIns := [], harness := (true, "fdb9bd419e410d59db402cf91e42cd8f9b91adfa8b646696dc32b7418386a1ea"), looks := false }, kinds := [], alts := [], laidByText := true, laidKinds := [.widerDeep, .data], laidTests := true, laidLooks := .later }
def JoiningPassesCardSaid : Prop := Claim7.holds Tryd.pinned (.plain (OpenSpec.ofChange joiningPassesSpec)) joiningPassesCard

/-- THE TIED CARD OF 'calamuslaw15.JoiningAgree'. -/
def joiningAgreeCard : Claim7 := { stood := { row := joiningAgreeRow, standIns := [], harness := (true, "fdb9bd419e410d59db402cf91e42cd8f9b91adfa8b646696dc32b7418386a1ea"), looks := false }, kinds := [], alts := [], laidByText := true, laidKinds := [.widerDeep, .data], laidTests := true, laidLooks := .later }
def JoiningAgreeCardSaid : Prop := Claim7.holds Tryd.pinned (.plain (OpenSpec.ofChange joiningAgreeSpec)) joiningAgreeCard

/-- THE TIED CARD OF 'calamuslaw15.JoiningKnown'. -/
def joiningKnownCard : Claim7 := { stood := { row := joiningKnownRow, standIns := [], harness := (true, "fdb9bd419e410d59db402cf91e42cd8f9b91adfa8b646696dc32b7418386a1ea"), looks := false }, kinds := [], alts := [], laidByText := true, laidKinds := [.widerDeep, .data], laidTests := true, laidLooks := .later }
def JoiningKnownCardSaid : Prop := Claim7.holds Tryd.pinned (.plain (OpenSpec.ofChange joiningKnownSpec)) joiningKnownCard

/-- THE TIED CARD OF 'calamuslaw03.ClusterBounds'. -/
def clusterBoundsCard : Claim7 := { stood := { row := clusterBoundsRow, standIns := [], harness := (true, "fdb9bd419e410d59db402cf91e42cd8f9b91adfa8b646696dc32b7418386a1ea"), looks := false }, kinds := [], alts := [], laidByText := true, laidKinds := [.widerDeep], laidTests := true, laidLooks := .later }
def ClusterBoundsCardSaid : Prop := Claim7.holds Tryd.pinned (.plain (OpenSpec.ofChange clusterBoundsSpec)) clusterBoundsCard

/-- THE TIED CARD OF 'calamuslaw03.ClusterParted'. -/
def clusterPartedCard : Claim7 := { stood := { row := clusterPartedRow, standIns := [], harness := (true, "fdb9bd419e410d59db402cf91e42cd8f9b91adfa8b646696dc32b7418386a1ea"), looks := false }, kinds := [], alts := [], laidByText := true, laidKinds := [.widerDeep], laidTests := true, laidLooks := .later }
def ClusterPartedCardSaid : Prop := Claim7.holds Tryd.pinned (.plain (OpenSpec.ofChange clusterPartedSpec)) clusterPartedCard

/-- THE TIED CARD OF 'calamuslaw03.ClusterAlone'. -/
def clusterAloneCard : Claim7 := { stood := { row := clusterAloneRow, standIns := [], harness := (true, "fdb9bd419e410d59db402cf91e42cd8f9b91adfa8b646696dc32b7418386a1ea"), looks := false }, kinds := [], alts := [], laidByText := true, laidKinds := [.widerDeep], laidTests := true, laidLooks := .later }
def ClusterAloneCardSaid : Prop := Claim7.holds Tryd.pinned (.plain (OpenSpec.ofChange clusterAloneSpec)) clusterAloneCard

/-- THE TIED CARD OF 'calamuslaw03.ClusterBehind'. -/
def clusterBehindCard : Claim7 := { stood := { row := clusterBehindRow, standIns := [], harness := (true, "fdb9bd419e410d59db402cf91e42cd8f9b91adfa8b646696dc32b7418386a1ea"), looks := false }, kinds := [], alts := [], laidByText := true, laidKinds := [.widerDeep], laidTests := true, laidLooks := .later }
def ClusterBehindCardSaid : Prop := Claim7.holds Tryd.pinned (.plain (OpenSpec.ofChange clusterBehindSpec)) clusterBehindCard

/-- THE TIED CARD OF 'calamuslaw03.ClusterKnown'. -/
def clusterKnownCard : Claim7 := { stood := { row := clusterKnownRow, standIns := [], harness := (true, "fdb9bd419e410d59db402cf91e42cd8f9b91adfa8b646696dc32b7418386a1ea"), looks := false }, kinds := [], alts := [], laidByText := true, laidKinds := [.widerDeep], laidTests := true, laidLooks := .later }
def ClusterKnownCardSaid : Prop := Claim7.holds Tryd.pinned (.plain (OpenSpec.ofChange clusterKnownSpec)) clusterKnownCard

/-- THE SECOND FORM's CARD OF 'calamuslaw15.JoiningForms'. -/
def joiningFormsUptoCard : Claim7 := { stood := { row := joiningFormsUptoRow, standIns := [], harness := (true, "fdb9bd419e410d59db402cf91e42cd8f9b91adfa8b646696dc32b7418386a1ea"), looks := false }, kinds := [], alts := [], laidByText := true, laidKinds := [.widerDeep, .data], laidTests := true, laidLooks := .later }
def JoiningFormsUptoCardSaid : Prop := Claim7.holds Tryd.pinned (.plain (OpenSpec.upto joiningFormsSpec)) joiningFormsUptoCard

/-- THE SECOND FORM's CARD OF 'calamuslaw15.JoiningPairs'. -/
def joiningPairsUptoCard : Claim7 := { stood := { row := joiningPairsUptoRow, standIns := [], harness := (true, "fdb9bd419e410d59db402cf91e42cd8f9b91adfa8b646696dc32b7418386a1ea"), looks := false }, kinds := [], alts := [], laidByText := true, laidKinds := [.widerDeep, .data], laidTests := true, laidLooks := .later }
def JoiningPairsUptoCardSaid : Prop := Claim7.holds Tryd.pinned (.plain (OpenSpec.upto joiningPairsSpec)) joiningPairsUptoCard

/-- THE SECOND FORM's CARD OF 'calamuslaw15.JoiningPasses'. -/
def joiningPassesUptoCard : Claim7 := { stood := { row := joiningPassesUptoRow, standIns := [], harness := (true, "fdb9bd419e410d59db402cf91e42cd8f9b91adfa8b646696dc32b7418386a1ea"), looks := false }, kinds := [], alts := [], laidByText := true, laidKinds := [.widerDeep, .data], laidTests := true, laidLooks := .later }
def JoiningPassesUptoCardSaid : Prop := Claim7.holds Tryd.pinned (.plain (OpenSpec.upto joiningPassesSpec)) joiningPassesUptoCard

/-- THE SECOND FORM's CARD OF 'calamuslaw15.JoiningAgree'. -/
def joiningAgreeUptoCard : Claim7 := { stood := { row := joiningAgreeUptoRow, standIns := [], harness := (true, "fdb9bd419e410d59db402cf91e42cd8f9b91adfa8b646696dc32b7418386a1ea"), looks := false }, kinds := [], alts := [], laidByText := true, laidKinds := [.widerDeep, .data], laidTests := true, laidLooks := .later }
def JoiningAgreeUptoCardSaid : Prop := Claim7.holds Tryd.pinned (.plain (OpenSpec.upto joiningAgreeSpec)) joiningAgreeUptoCard

/-- THE SECOND FORM's CARD OF 'calamuslaw15.JoiningKnown'. -/
def joiningKnownUptoCard : Claim7 := { stood := { row := joiningKnownUptoRow, standIns := [], harness := (true, "fdb9bd419e410d59db402cf91e42cd8f9b91adfa8b646696dc32b7418386a1ea"), looks := false }, kinds := [], alts := [], laidByText := true, laidKinds := [.widerDeep, .data], laidTests := true, laidLooks := .later }
def JoiningKnownUptoCardSaid : Prop := Claim7.holds Tryd.pinned (.plain (OpenSpec.upto joiningKnownSpec)) joiningKnownUptoCard

/-- THE SECOND FORM's CARD OF 'calamuslaw03.ClusterBounds'. -/
def clusterBoundsUptoCard : Claim7 := { stood := { row := clusterBoundsUptoRow, standIns := [], harness := (true, "fdb9bd419e410d59db402cf91e42cd8f9b91adfa8b646696dc32b7418386a1ea"), looks := false }, kinds := [], alts := [], laidByText := true, laidKinds := [.widerDeep], laidTests := true, laidLooks := .later }
def ClusterBoundsUptoCardSaid : Prop := Claim7.holds Tryd.pinned (.plain (OpenSpec.upto clusterBoundsSpec)) clusterBoundsUptoCard

/-- THE SECOND FORM's CARD OF 'calamuslaw03.ClusterParted'. -/
def clusterPartedUptoCard : Claim7 := { stood := { row := clusterPartedUptoRow, standIns := [], harness := (true, "fdb9bd419e410d59db402cf91e42cd8f9b91adfa8b646696dc32b7418386a1ea"), looks := false }, kinds := [], alts := [], laidByText := true, laidKinds := [.widerDeep], laidTests := true, laidLooks := .later }
def ClusterPartedUptoCardSaid : Prop := Claim7.holds Tryd.pinned (.plain (OpenSpec.upto clusterPartedSpec)) clusterPartedUptoCard

/-- THE SECOND FORM's CARD OF 'calamuslaw03.ClusterAlone'. -/
def clusterAloneUptoCard : Claim7 := { stood := { row := clusterAloneUptoRow, standIns := [], harness := (true, "fdb9bd419e410d59db402cf91e42cd8f9b91adfa8b646696dc32b7418386a1ea"), looks := false }, kinds := [], alts := [], laidByText := true, laidKinds := [.widerDeep], laidTests := true, laidLooks := .later }
def ClusterAloneUptoCardSaid : Prop := Claim7.holds Tryd.pinned (.plain (OpenSpec.upto clusterAloneSpec)) clusterAloneUptoCard

/-- THE SECOND FORM's CARD OF 'calamuslaw03.ClusterBehind'. -/
def clusterBehindUptoCard : Claim7 := { stood := { row := clusterBehindUptoRow, standIns := [], harness := (true, "fdb9bd419e410d59db402cf91e42cd8f9b91adfa8b646696dc32b7418386a1ea"), looks := false }, kinds := [], alts := [], laidByText := true, laidKinds := [.widerDeep], laidTests := true, laidLooks := .later }
def ClusterBehindUptoCardSaid : Prop := Claim7.holds Tryd.pinned (.plain (OpenSpec.upto clusterBehindSpec)) clusterBehindUptoCard

/-- THE SECOND FORM's CARD OF 'calamuslaw03.ClusterKnown'. -/
def clusterKnownUptoCard : Claim7 := { stood := { row := clusterKnownUptoRow, standIns := [], harness := (true, "fdb9bd419e410d59db402cf91e42cd8f9b91adfa8b646696dc32b7418386a1ea"), looks := false }, kinds := [], alts := [], laidByText := true, laidKinds := [.widerDeep], laidTests := true, laidLooks := .later }
def ClusterKnownUptoCardSaid : Prop := Claim7.holds Tryd.pinned (.plain (OpenSpec.upto clusterKnownSpec)) clusterKnownUptoCard
end Rows
end Go.Proofs.YtffmdnckapalfaaDoor
