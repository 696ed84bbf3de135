/-
  DERIVED. GIVEN WITH THE SEED: THE CARDS: each row of YtbgooadmonnjaaaGreatDoorRows.lean that lists a variable, with what it lists TIED to the program's text (the seventh form; the later family's looks); each row that meets fmt, with fmt's text TOLD by the authors' own Lean function (tested against real Go, not proved from fmt's source: count such statements apart). THE CARD IS WHAT COUNTS. Prove the row's statement (the work); the ties are given (YtbgooadmonnjaaaGreatDoorTie.lean); close each card by the builder's one call (the guide's Derived/Test/ToyasCard.lean, 'card_holds'). Laid BY PROGRAM, IN A SANDBOX (cutbox-door.mjs). By AI agents, Wed Nov 11 2026. No macro, syntax, notation, axiom, sorry.
-/
import Derived.Test.YtbgooadmonnjaaaGreatDoorRows
import GoSem.ClaimSeven
namespace Go.Proofs.YtbgooadmonnjaaaGreatDoor
namespace Rows

/-- THE TIED CARD OF 'gnomonlaw19.TimesRuns'. -/
def timesRunsCard : Claim7 := { stood := { row := timesRunsRow, standIns := [], harness := (true, "c7a696a56e196901000ffea68bc83615a71f11136df2164e83d0abb882f09d30"), looks := false }, kinds := [], alts := [], laidByText := true, laidKinds := [.data, .widerDeep], laidTests := true, laidLooks := .later }
def TimesRunsCardSaid : Prop := Claim7.holds Tryz.pinned (.plain (OpenSpec.ofChange timesRunsSpec)) timesRunsCard

/-- THE TIED CARD OF 'gnomonlaw21.ReplayRuns'. -/
def replayRunsCard : Claim7 := { stood := { row := replayRunsRow, standIns := [], harness := (true, "c7a696a56e196901000ffea68bc83615a71f11136df2164e83d0abb882f09d30"), looks := false }, kinds := [], alts := [], laidByText := true, laidKinds := [.data, .widerDeep], laidTests := true, laidLooks := .later }
def ReplayRunsCardSaid : Prop := Claim7.holds Tryz.pinned (.plain (OpenSpec.ofChange replayRunsSpec)) replayRunsCard

/-- THE TIED CARD OF 'gnomonlaw21.ReplaySums'. -/
def replaySumsCard : Claim7 := { stood := { row := replaySumsRow, standIns := [], harness := (true, "c7a696a56e196901000ffea68bc83615a71f11136df2164e83d0abb882f09d30"), looks := false }, kinds := [], alts := [], laidByText := true, laidKinds := [.data, .widerDeep], laidTests := true, laidLooks := .later }
def ReplaySumsCardSaid : Prop := Claim7.holds Tryz.pinned (.plain (OpenSpec.ofChange replaySumsSpec)) replaySumsCard

/-- THE TIED CARD OF 'gnomonlaw21.ReplayCuts'. -/
def replayCutsCard : Claim7 := { stood := { row := replayCutsRow, standIns := [], harness := (true, "c7a696a56e196901000ffea68bc83615a71f11136df2164e83d0abb882f09d30"), looks := false }, kinds := [], alts := [], laidByText := true, laidKinds := [.data, .widerDeep], laidTests := true, laidLooks := .later }
def ReplayCutsCardSaid : Prop := Claim7.holds Tryz.pinned (.plain (OpenSpec.ofChange replayCutsSpec)) replayCutsCard

/-- THE TIED CARD OF 'gnomonlaw21.ReplayOwn'. -/
def replayOwnCard : Claim7 := { stood := { row := replayOwnRow, standIns := [], harness := (true, "c7a696a56e196901000ffea68bc83615a71f11136df2164e83d0abb882f09d30"), looks := false }, kinds := [], alts := [], laidByText := true, laidKinds := [.data, .widerDeep], laidTests := true, laidLooks := .later }
def ReplayOwnCardSaid : Prop := Claim7.holds Tryz.pinned (.plain (OpenSpec.ofChange replayOwnSpec)) replayOwnCard

/-- THE TIED CARD OF 'gnomonlaw21.ReplaySteps'. -/
def replayStepsCard : Claim7 := { stood := { row := replayStepsRow, standIns := [], harness := (true, "c7a696a56e196901000ffea68bc83615a71f11136df2164e83d0abb882f09d30"), looks := false }, kinds := [], alts := [], laidByText := true, laidKinds := [.data, .widerDeep], laidTests := true, laidLooks := .later }
def ReplayStepsCardSaid : Prop := Claim7.holds Tryz.pinned (.plain (OpenSpec.ofChange replayStepsSpec)) replayStepsCard

/-- THE TIED CARD OF 'gnomonlaw21.ReplayLonger'. -/
def replayLongerCard : Claim7 := { stood := { row := replayLongerRow, standIns := [], harness := (true, "c7a696a56e196901000ffea68bc83615a71f11136df2164e83d0abb882f09d30"), looks := false }, kinds := [], alts := [], laidByText := true, laidKinds := [.data, .widerDeep], laidTests := true, laidLooks := .later }
def ReplayLongerCardSaid : Prop := Claim7.holds Tryz.pinned (.plain (OpenSpec.ofChange replayLongerSpec)) replayLongerCard

/-- THE SECOND FORM's CARD OF 'gnomonlaw19.TimesRuns'. -/
def timesRunsUptoCard : Claim7 := { stood := { row := timesRunsUptoRow, standIns := [], harness := (true, "c7a696a56e196901000ffea68bc83615a71f11136df2164e83d0abb882f09d30"), looks := false }, kinds := [], alts := [], laidByText := true, laidKinds := [.data, .widerDeep], laidTests := true, laidLooks := .later }
def TimesRunsUptoCardSaid : Prop := Claim7.holds Tryz.pinned (.plain (OpenSpec.upto timesRunsSpec)) timesRunsUptoCard

/-- THE SECOND FORM's CARD OF 'gnomonlaw21.ReplayRuns'. -/
def replayRunsUptoCard : Claim7 := { stood := { row := replayRunsUptoRow, standIns := [], harness := (true, "c7a696a56e196901000ffea68bc83615a71f11136df2164e83d0abb882f09d30"), looks := false }, kinds := [], alts := [], laidByText := true, laidKinds := [.data, .widerDeep], laidTests := true, laidLooks := .later }
def ReplayRunsUptoCardSaid : Prop := Claim7.holds Tryz.pinned (.plain (OpenSpec.upto replayRunsSpec)) replayRunsUptoCard

/-- THE SECOND FORM's CARD OF 'gnomonlaw21.ReplaySums'. -/
def replaySumsUptoCard : Claim7 := { stood := { row := replaySumsUptoRow, standIns := [], harness := (true, "c7a696a56e196901000ffea68bc83615a71f11136df2164e83d0abb882f09d30"), looks := false }, kinds := [], alts := [], laidByText := true, laidKinds := [.data, .widerDeep], laidTests := true, laidLooks := .later }
def ReplaySumsUptoCardSaid : Prop := Claim7.holds Tryz.pinned (.plain (OpenSpec.upto replaySumsSpec)) replaySumsUptoCard

/-- THE SECOND FORM's CARD OF 'gnomonlaw21.ReplayCuts'. -/
def replayCutsUptoCard : Claim7 := { stood := { row := replayCutsUptoRow, standIns := [], harness := (true, "c7a696a56e196901000ffea68bc83615a71f11136df2164e83d0abb882f09d30"), looks := false }, kinds := [], alts := [], laidByText := true, laidKinds := [.data, .widerDeep], laidTests := true, laidLooks := .later }
def ReplayCutsUptoCardSaid : Prop := Claim7.holds Tryz.pinned (.plain (OpenSpec.upto replayCutsSpec)) replayCutsUptoCard

/-- THE SECOND FORM's CARD OF 'gnomonlaw21.ReplayOwn'. -/
def replayOwnUptoCard : Claim7 := { stood := { row := replayOwnUptoRow, standIns := [], harness := (true, "c7a696a56e196901000ffea68bc83615a71f11136df2164e83d0abb882f09d30"), looks := false }, kinds := [], alts := [], laidByText := true, laidKinds := [.data, .widerDeep], laidTests := true, laidLooks := .later }
def ReplayOwnUptoCardSaid : Prop := Claim7.holds Tryz.pinned (.plain (OpenSpec.upto replayOwnSpec)) replayOwnUptoCard

/-- THE SECOND FORM's CARD OF 'gnomonlaw21.ReplaySteps'. -/
def replayStepsUptoCard : Claim7 := { stood := { row := replayStepsUptoRow, standIns := [], harness := (true, "c7a696a56e196901000ffea68bc83615a71f11136df2164e83d0abb882f09d30"), looks := false }, kinds := [], alts := [], laidByText := true, laidKinds := [.data, .widerDeep], laidTests := true, laidLooks := .later }
def ReplayStepsUptoCardSaid : Prop := Claim7.holds Tryz.pinned (.plain (OpenSpec.upto replayStepsSpec)) replayStepsUptoCard

/-- THE SECOND FORM's CARD OF 'gnomonlaw21.ReplayLonger'. -/
def replayLongerUptoCard : Claim7 := { stood := { row := replayLongerUptoRow, standIns := [], harness := (true, "c7a696a56e196901000ffea68bc83615a71f11136df2164e83d0abb882f09d30"), looks := false }, kinds := [], alts := [], laidByText := true, laidKinds := [.data, .widerDeep], laidTests := true, laidLooks := .later }
def ReplayLongerUptoCardSaid : Prop := Claim7.holds Tryz.pinned (.plain (OpenSpec.upto replayLongerSpec)) replayLongerUptoCard
end Rows
end Go.Proofs.YtbgooadmonnjaaaGreatDoor
