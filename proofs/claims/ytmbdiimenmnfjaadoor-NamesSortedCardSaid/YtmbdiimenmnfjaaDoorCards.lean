/-
  DERIVED. GIVEN WITH THE SEED: THE CARDS: each row of YtmbdiimenmnfjaaDoorRows.lean that lists a variable, with what it lists TIED to the program's text (the seventh form; the later family's looks); each row that meets fmt, with fmt's text TOLD by the authors' own Lean function (tested against real Go, not proved from fmt's source: count such statements apart). THE CARD IS WHAT COUNTS. Prove the row's statement (the work); the ties are given (YtmbdiimenmnfjaaDoorTie.lean); close each card by the builder's one call (the guide's Derived/Test/ToyasCard.lean, 'card_holds'). Laid BY PROGRAM, IN A SANDBOX (cutbox-door.mjs). By AI agents, Wed Nov 11 2026. No macro, syntax, notation, axiom, sorry.
-/
import Derived.Test.YtmbdiimenmnfjaaDoorRows
import GoSem.ClaimSeven
namespace Go.Proofs.YtmbdiimenmnfjaaDoor
namespace Rows

/-- THE TIED CARD OF 'archivoltlaw05.NamesNames'. -/
def namesNamesCard : Claim7 := { stood := { row := namesNamesRow, standIns := [], harness := (true, "66086631d20495c7847d46aa70f2f13bc49942b8d180c92b9434ef6fd88d0904"), looks := true }, kinds := [], alts := [], laidByText := true, laidKinds := [.data, .data, .data], laidTests := true, laidLooks := .later }
def NamesNamesCardSaid : Prop := Claim7.holds Tryd.pinned (.plain (OpenSpec.ofChange namesNamesSpec)) namesNamesCard

/-- THE TIED CARD OF 'archivoltlaw05.NamesShorts'. -/
def namesShortsCard : Claim7 := { stood := { row := namesShortsRow, standIns := [], harness := (true, "66086631d20495c7847d46aa70f2f13bc49942b8d180c92b9434ef6fd88d0904"), looks := true }, kinds := [], alts := [], laidByText := true, laidKinds := [.data, .data, .data], laidTests := true, laidLooks := .later }
def NamesShortsCardSaid : Prop := Claim7.holds Tryd.pinned (.plain (OpenSpec.ofChange namesShortsSpec)) namesShortsCard

/-- THE TIED CARD OF 'archivoltlaw05.NamesMatches'. -/
def namesMatchesCard : Claim7 := { stood := { row := namesMatchesRow, standIns := [], harness := (true, "66086631d20495c7847d46aa70f2f13bc49942b8d180c92b9434ef6fd88d0904"), looks := true }, kinds := [], alts := [], laidByText := true, laidKinds := [.data, .data, .data], laidTests := true, laidLooks := .later }
def NamesMatchesCardSaid : Prop := Claim7.holds Tryd.pinned (.plain (OpenSpec.ofChange namesMatchesSpec)) namesMatchesCard

/-- THE TIED CARD OF 'archivoltlaw05.NamesOrder'. -/
def namesOrderCard : Claim7 := { stood := { row := namesOrderRow, standIns := [], harness := (true, "66086631d20495c7847d46aa70f2f13bc49942b8d180c92b9434ef6fd88d0904"), looks := true }, kinds := [], alts := [], laidByText := true, laidKinds := [.data, .data, .data], laidTests := true, laidLooks := .later }
def NamesOrderCardSaid : Prop := Claim7.holds Tryd.pinned (.plain (OpenSpec.ofChange namesOrderSpec)) namesOrderCard

/-- THE TIED CARD OF 'archivoltlaw05.NamesAlike'. -/
def namesAlikeCard : Claim7 := { stood := { row := namesAlikeRow, standIns := [], harness := (true, "66086631d20495c7847d46aa70f2f13bc49942b8d180c92b9434ef6fd88d0904"), looks := true }, kinds := [], alts := [], laidByText := true, laidKinds := [.data, .data, .data], laidTests := true, laidLooks := .later }
def NamesAlikeCardSaid : Prop := Claim7.holds Tryd.pinned (.plain (OpenSpec.ofChange namesAlikeSpec)) namesAlikeCard

/-- THE TIED CARD OF 'archivoltlaw05.NamesTried'. -/
def namesTriedCard : Claim7 := { stood := { row := namesTriedRow, standIns := [], harness := (true, "66086631d20495c7847d46aa70f2f13bc49942b8d180c92b9434ef6fd88d0904"), looks := true }, kinds := [], alts := [], laidByText := true, laidKinds := [.data, .data, .data], laidTests := true, laidLooks := .later }
def NamesTriedCardSaid : Prop := Claim7.holds Tryd.pinned (.plain (OpenSpec.ofChange namesTriedSpec)) namesTriedCard

/-- THE TIED CARD OF 'archivoltlaw05.NamesUnits'. -/
def namesUnitsCard : Claim7 := { stood := { row := namesUnitsRow, standIns := [], harness := (true, "66086631d20495c7847d46aa70f2f13bc49942b8d180c92b9434ef6fd88d0904"), looks := true }, kinds := [], alts := [], laidByText := true, laidKinds := [.data, .data, .data], laidTests := true, laidLooks := .later }
def NamesUnitsCardSaid : Prop := Claim7.holds Tryd.pinned (.plain (OpenSpec.ofChange namesUnitsSpec)) namesUnitsCard

/-- THE TIED CARD OF 'archivoltlaw05.NamesBack'. -/
def namesBackCard : Claim7 := { stood := { row := namesBackRow, standIns := [], harness := (true, "66086631d20495c7847d46aa70f2f13bc49942b8d180c92b9434ef6fd88d0904"), looks := true }, kinds := [], alts := [], laidByText := true, laidKinds := [.data, .data, .data], laidTests := true, laidLooks := .later }
def NamesBackCardSaid : Prop := Claim7.holds Tryd.pinned (.plain (OpenSpec.ofChange namesBackSpec)) namesBackCard

/-- THE TIED CARD OF 'archivoltlaw05.NamesPatterns'. -/
def namesPatternsCard : Claim7 := { stood := { row := namesPatternsRow, standIns := [], harness := (true, "66086631d20495c7847d46aa70f2f13bc49942b8d180c92b9434ef6fd88d0904"), looks := true }, kinds := [], alts := [], laidByText := true, laidKinds := [.data, .data, .data], laidTests := true, laidLooks := .later }
def NamesPatternsCardSaid : Prop := Claim7.holds Tryd.pinned (.plain (OpenSpec.ofChange namesPatternsSpec)) namesPatternsCard

/-- THE TIED CARD OF 'archivoltlaw05.NamesSorts'. -/
def namesSortsCard : Claim7 := { stood := { row := namesSortsRow, standIns := [], harness := (true, "66086631d20495c7847d46aa70f2f13bc49942b8d180c92b9434ef6fd88d0904"), looks := true }, kinds := [], alts := [], laidByText := true, laidKinds := [.data, .data, .data], laidTests := true, laidLooks := .later }
def NamesSortsCardSaid : Prop := Claim7.holds Tryd.pinned (.plain (OpenSpec.ofChange namesSortsSpec)) namesSortsCard

/-- THE TIED CARD OF 'archivoltlaw05.NamesSorted'. -/
def namesSortedCard : Claim7 := { stood := { row := namesSortedRow, standIns := [], harness := (true, "66086631d20495c7847d46aa70f2f13bc49942b8d180c92b9434ef6fd88d0904"), looks := true }, kinds := [], alts := [], laidByText := true, laidKinds := [.data, .data, .data], laidTests := true, laidLooks := .later }
def NamesSortedCardSaid : Prop := Claim7.holds Tryd.pinned (.plain (OpenSpec.ofChange namesSortedSpec)) namesSortedCard

/-- THE SECOND FORM's CARD OF 'archivoltlaw05.NamesNames'. -/
def namesNamesUptoCard : Claim7 := { stood := { row := namesNamesUptoRow, standIns := [], harness := (true, "66086631d20495c7847d46aa70f2f13bc49942b8d180c92b9434ef6fd88d0904"), looks := true }, kinds := [], alts := [], laidByText := true, laidKinds := [.data, .data, .data], laidTests := true, laidLooks := .later }
def NamesNamesUptoCardSaid : Prop := Claim7.holds Tryd.pinned (.plain (OpenSpec.upto namesNamesSpec)) namesNamesUptoCard

/-- THE SECOND FORM's CARD OF 'archivoltlaw05.NamesShorts'. -/
def namesShortsUptoCard : Claim7 := { stood := { row := namesShortsUptoRow, standIns := [], harness := (true, "66086631d20495c7847d46aa70f2f13bc49942b8d180c92b9434ef6fd88d0904"), looks := true }, kinds := [], alts := [], laidByText := true, laidKinds := [.data, .data, .data], laidTests := true, laidLooks := .later }
def NamesShortsUptoCardSaid : Prop := Claim7.holds Tryd.pinned (.plain (OpenSpec.upto namesShortsSpec)) namesShortsUptoCard

/-- THE SECOND FORM's CARD OF 'archivoltlaw05.NamesMatches'. -/
def namesMatchesUptoCard : Claim7 := { stood := { row := namesMatchesUptoRow, standIns := [], harness := (true, "66086631d20495c7847d46aa70f2f13bc49942b8d180c92b9434ef6fd88d0904"), looks := true }, kinds := [], alts := [], laidByText := true, laidKinds := [.data, .data, .data], laidTests := true, laidLooks := .later }
def NamesMatchesUptoCardSaid : Prop := Claim7.holds Tryd.pinned (.plain (OpenSpec.upto namesMatchesSpec)) namesMatchesUptoCard

/-- THE SECOND FORM's CARD OF 'archivoltlaw05.NamesOrder'. -/
def namesOrderUptoCard : Claim7 := { stood := { row := namesOrderUptoRow, standIns := [], harness := (true, "66086631d20495c7847d46aa70f2f13bc49942b8d180c92b9434ef6fd88d0904"), looks := true }, kinds := [], alts := [], laidByText := true, laidKinds := [.data, .data, .data], laidTests := true, laidLooks := .later }
def NamesOrderUptoCardSaid : Prop := Claim7.holds Tryd.pinned (.plain (OpenSpec.upto namesOrderSpec)) namesOrderUptoCard

/-- THE SECOND FORM's CARD OF 'archivoltlaw05.NamesAlike'. -/
def namesAlikeUptoCard : Claim7 := { stood := { row := namesAlikeUptoRow, standIns := [], harness := (true, "66086631d20495c7847d46aa70f2f13bc49942b8d180c92b9434ef6fd88d0904"), looks := true }, kinds := [], alts := [], laidByText := true, laidKinds := [.data, .data, .data], laidTests := true, laidLooks := .later }
def NamesAlikeUptoCardSaid : Prop := Claim7.holds Tryd.pinned (.plain (OpenSpec.upto namesAlikeSpec)) namesAlikeUptoCard

/-- THE SECOND FORM's CARD OF 'archivoltlaw05.NamesTried'. -/
def namesTriedUptoCard : Claim7 := { stood := { row := namesTriedUptoRow, standIns := [], harness := (true, "66086631d20495c7847d46aa70f2f13bc49942b8d180c92b9434ef6fd88d0904"), looks := true }, kinds := [], alts := [], laidByText := true, laidKinds := [.data, .data, .data], laidTests := true, laidLooks := .later }
def NamesTriedUptoCardSaid : Prop := Claim7.holds Tryd.pinned (.plain (OpenSpec.upto namesTriedSpec)) namesTriedUptoCard

/-- THE SECOND FORM's CARD OF 'archivoltlaw05.NamesUnits'. -/
def namesUnitsUptoCard : Claim7 := { stood := { row := namesUnitsUptoRow, standIns := [], harness := (true, "66086631d20495c7847d46aa70f2f13bc49942b8d180c92b9434ef6fd88d0904"), looks := true }, kinds := [], alts := [], laidByText := true, laidKinds := [.data, .data, .data], laidTests := true, laidLooks := .later }
def NamesUnitsUptoCardSaid : Prop := Claim7.holds Tryd.pinned (.plain (OpenSpec.upto namesUnitsSpec)) namesUnitsUptoCard

/-- THE SECOND FORM's CARD OF 'archivoltlaw05.NamesBack'. -/
def namesBackUptoCard : Claim7 := { stood := { row := namesBackUptoRow, standIns := [], harness := (true, "66086631d20495c7847d46aa70f2f13bc49942b8d180c92b9434ef6fd88d0904"), looks := true }, kinds := [], alts := [], laidByText := true, laidKinds := [.data, .data, .data], laidTests := true, laidLooks := .later }
def NamesBackUptoCardSaid : Prop := Claim7.holds Tryd.pinned (.plain (OpenSpec.upto namesBackSpec)) namesBackUptoCard

/-- THE SECOND FORM's CARD OF 'archivoltlaw05.NamesPatterns'. -/
def namesPatternsUptoCard : Claim7 := { stood := { row := namesPatternsUptoRow, standIns := [], harness := (true, "66086631d20495c7847d46aa70f2f13bc49942b8d180c92b9434ef6fd88d0904"), looks := true }, kinds := [], alts := [], laidByText := true, laidKinds := [.data, .data, .data], laidTests := true, laidLooks := .later }
def NamesPatternsUptoCardSaid : Prop := Claim7.holds Tryd.pinned (.plain (OpenSpec.upto namesPatternsSpec)) namesPatternsUptoCard

/-- THE SECOND FORM's CARD OF 'archivoltlaw05.NamesSorts'. -/
def namesSortsUptoCard : Claim7 := { stood := { row := namesSortsUptoRow, standIns := [], harness := (true, "66086631d20495c7847d46aa70f2f13bc49942b8d180c92b9434ef6fd88d0904"), looks := true }, kinds := [], alts := [], laidByText := true, laidKinds := [.data, .data, .data], laidTests := true, laidLooks := .later }
def NamesSortsUptoCardSaid : Prop := Claim7.holds Tryd.pinned (.plain (OpenSpec.upto namesSortsSpec)) namesSortsUptoCard

/-- THE SECOND FORM's CARD OF 'archivoltlaw05.NamesSorted'. -/
def namesSortedUptoCard : Claim7 := { stood := { row := namesSortedUptoRow, standIns := [], harness := (true, "66086631d20495c7847d46aa70f2f13bc49942b8d180c92b9434ef6fd88d0904"), looks := true }, kinds := [], alts := [], laidByText := true, laidKinds := [.data, .data, .data], laidTests := true, laidLooks := .later }
def NamesSortedUptoCardSaid : Prop := Claim7.holds Tryd.pinned (.plain (OpenSpec.upto namesSortedSpec)) namesSortedUptoCard
end Rows
end Go.Proofs.YtmbdiimenmnfjaaDoor
