/-
  DERIVED. GIVEN WITH THE SEED: THE CARDS: each row of YtepklobkppdliaaDoorRows.lean that lists a variable, with what it lists TIED to the program's text (the seventh form; the later family's looks); each row that meets fmt, with fmt's text TOLD by the authors' own Lean function (tested against real Go, not proved from fmt's source: count such statements apart). THE CARD IS WHAT COUNTS. Prove the row's statement (the work); the ties are given (YtepklobkppdliaaDoorTie.lean); close each card by the builder's one call (the guide's Derived/Test/ToyasCard.lean, 'card_holds'). Laid BY PROGRAM, IN A SANDBOX (cutbox-door.mjs). By AI agents, Wed Nov 11 2026. No macro, syntax, notation, axiom, sorry.
-/
import Derived.Test.YtepklobkppdliaaDoorRows
import GoSem.ClaimSeven
namespace Go.Proofs.YtepklobkppdliaaDoor
namespace Rows

/-- THE TIED CARD OF 'depotlaw15.ModelRuns'. -/
def modelRunsCard : Claim7 := { stood := { row := modelRunsRow, standIns := [], harness := (true, "c18dc1cb50f2bdef2d4a3057a3e3f7e1812bbf32c68dc279dac4deb9c0cc26b6"), looks := false }, kinds := [], alts := [], laidByText := true, laidKinds := [.data, .data, .data], laidTests := true, laidLooks := .later }
def ModelRunsCardSaid : Prop := Claim7.holds Tryd.pinned (.plain (OpenSpec.ofChange modelRunsSpec)) modelRunsCard

/-- THE TIED CARD OF 'depotlaw15.ModelNext'. -/
def modelNextCard : Claim7 := { stood := { row := modelNextRow, standIns := [], harness := (true, "c18dc1cb50f2bdef2d4a3057a3e3f7e1812bbf32c68dc279dac4deb9c0cc26b6"), looks := false }, kinds := [], alts := [], laidByText := true, laidKinds := [.data, .data, .data], laidTests := true, laidLooks := .later }
def ModelNextCardSaid : Prop := Claim7.holds Tryd.pinned (.plain (OpenSpec.ofChange modelNextSpec)) modelNextCard

/-- THE TIED CARD OF 'depotlaw15.ModelCounts'. -/
def modelCountsCard : Claim7 := { stood := { row := modelCountsRow, standIns := [], harness := (true, "c18dc1cb50f2bdef2d4a3057a3e3f7e1812bbf32c68dc279dac4deb9c0cc26b6"), looks := false }, kinds := [], alts := [], laidByText := true, laidKinds := [.data, .data, .data], laidTests := true, laidLooks := .later }
def ModelCountsCardSaid : Prop := Claim7.holds Tryd.pinned (.plain (OpenSpec.ofChange modelCountsSpec)) modelCountsCard

/-- THE TIED CARD OF 'depotlaw15.ModelJoins'. -/
def modelJoinsCard : Claim7 := { stood := { row := modelJoinsRow, standIns := [], harness := (true, "c18dc1cb50f2bdef2d4a3057a3e3f7e1812bbf32c68dc279dac4deb9c0cc26b6"), looks := false }, kinds := [], alts := [], laidByText := true, laidKinds := [.data, .data, .data], laidTests := true, laidLooks := .later }
def ModelJoinsCardSaid : Prop := Claim7.holds Tryd.pinned (.plain (OpenSpec.ofChange modelJoinsSpec)) modelJoinsCard

/-- THE TIED CARD OF 'depotlaw15.ModelCas'. -/
def modelCasCard : Claim7 := { stood := { row := modelCasRow, standIns := [], harness := (true, "c18dc1cb50f2bdef2d4a3057a3e3f7e1812bbf32c68dc279dac4deb9c0cc26b6"), looks := false }, kinds := [], alts := [], laidByText := true, laidKinds := [.data, .data, .data], laidTests := true, laidLooks := .later }
def ModelCasCardSaid : Prop := Claim7.holds Tryd.pinned (.plain (OpenSpec.ofChange modelCasSpec)) modelCasCard

/-- THE TIED CARD OF 'depotlaw15.ModelStays'. -/
def modelStaysCard : Claim7 := { stood := { row := modelStaysRow, standIns := [], harness := (true, "c18dc1cb50f2bdef2d4a3057a3e3f7e1812bbf32c68dc279dac4deb9c0cc26b6"), looks := false }, kinds := [], alts := [], laidByText := true, laidKinds := [.data, .data, .data], laidTests := true, laidLooks := .later }
def ModelStaysCardSaid : Prop := Claim7.holds Tryd.pinned (.plain (OpenSpec.ofChange modelStaysSpec)) modelStaysCard

/-- THE TIED CARD OF 'depotlaw15.ModelAdds'. -/
def modelAddsCard : Claim7 := { stood := { row := modelAddsRow, standIns := [], harness := (true, "c18dc1cb50f2bdef2d4a3057a3e3f7e1812bbf32c68dc279dac4deb9c0cc26b6"), looks := false }, kinds := [], alts := [], laidByText := true, laidKinds := [.data, .data, .data], laidTests := true, laidLooks := .later }
def ModelAddsCardSaid : Prop := Claim7.holds Tryd.pinned (.plain (OpenSpec.ofChange modelAddsSpec)) modelAddsCard

/-- THE TIED CARD OF 'depotlaw26.HistoryRuns'. -/
def historyRunsCard : Claim7 := { stood := { row := historyRunsRow, standIns := [], harness := (true, "c18dc1cb50f2bdef2d4a3057a3e3f7e1812bbf32c68dc279dac4deb9c0cc26b6"), looks := false }, kinds := [], alts := [], laidByText := true, laidKinds := [.data, .data, .data], laidTests := true, laidLooks := .later }
def HistoryRunsCardSaid : Prop := Claim7.holds Tryd.pinned (.plain (OpenSpec.ofChange historyRunsSpec)) historyRunsCard

/-- THE TIED CARD OF 'depotlaw26.HistoryMade'. -/
def historyMadeCard : Claim7 := { stood := { row := historyMadeRow, standIns := [], harness := (true, "c18dc1cb50f2bdef2d4a3057a3e3f7e1812bbf32c68dc279dac4deb9c0cc26b6"), looks := false }, kinds := [], alts := [], laidByText := true, laidKinds := [.data, .data, .data], laidTests := true, laidLooks := .later }
def HistoryMadeCardSaid : Prop := Claim7.holds Tryd.pinned (.plain (OpenSpec.ofChange historyMadeSpec)) historyMadeCard

/-- THE TIED CARD OF 'depotlaw26.HistoryRow'. -/
def historyRowCard : Claim7 := { stood := { row := historyRowRow, standIns := [], harness := (true, "c18dc1cb50f2bdef2d4a3057a3e3f7e1812bbf32c68dc279dac4deb9c0cc26b6"), looks := false }, kinds := [], alts := [], laidByText := true, laidKinds := [.data, .data, .data], laidTests := true, laidLooks := .later }
def HistoryRowCardSaid : Prop := Claim7.holds Tryd.pinned (.plain (OpenSpec.ofChange historyRowSpec)) historyRowCard

/-- THE TIED CARD OF 'depotlaw15.ModelPlays'. -/
def modelPlaysCard : Claim7 := { stood := { row := modelPlaysRow, standIns := [], harness := (true, "c18dc1cb50f2bdef2d4a3057a3e3f7e1812bbf32c68dc279dac4deb9c0cc26b6"), looks := false }, kinds := [], alts := [], laidByText := true, laidKinds := [.data, .data, .data], laidTests := true, laidLooks := .later }
def ModelPlaysCardSaid : Prop := Claim7.holds Tryd.pinned (.plain (OpenSpec.ofChange modelPlaysSpec)) modelPlaysCard

/-- THE SECOND FORM's CARD OF 'depotlaw15.ModelRuns'. -/
def modelRunsUptoCard : Claim7 := { stood := { row := modelRunsUptoRow, standIns := [], harness := (true, "c18dc1cb50f2bdef2d4a3057a3e3f7e1812bbf32c68dc279dac4deb9c0cc26b6"), looks := false }, kinds := [], alts := [], laidByText := true, laidKinds := [.data, .data, .data], laidTests := true, laidLooks := .later }
def ModelRunsUptoCardSaid : Prop := Claim7.holds Tryd.pinned (.plain (OpenSpec.upto modelRunsSpec)) modelRunsUptoCard

/-- THE SECOND FORM's CARD OF 'depotlaw15.ModelNext'. -/
def modelNextUptoCard : Claim7 := { stood := { row := modelNextUptoRow, standIns := [], harness := (true, "c18dc1cb50f2bdef2d4a3057a3e3f7e1812bbf32c68dc279dac4deb9c0cc26b6"), looks := false }, kinds := [], alts := [], laidByText := true, laidKinds := [.data, .data, .data], laidTests := true, laidLooks := .later }
def ModelNextUptoCardSaid : Prop := Claim7.holds Tryd.pinned (.plain (OpenSpec.upto modelNextSpec)) modelNextUptoCard

/-- THE SECOND FORM's CARD OF 'depotlaw15.ModelCounts'. -/
def modelCountsUptoCard : Claim7 := { stood := { row := modelCountsUptoRow, standIns := [], harness := (true, "c18dc1cb50f2bdef2d4a3057a3e3f7e1812bbf32c68dc279dac4deb9c0cc26b6"), looks := false }, kinds := [], alts := [], laidByText := true, laidKinds := [.data, .data, .data], laidTests := true, laidLooks := .later }
def ModelCountsUptoCardSaid : Prop := Claim7.holds Tryd.pinned (.plain (OpenSpec.upto modelCountsSpec)) modelCountsUptoCard

/-- THE SECOND FORM's CARD OF 'depotlaw15.ModelJoins'. -/
def modelJoinsUptoCard : Claim7 := { stood := { row := modelJoinsUptoRow, standIns := [], harness := (true, "c18dc1cb50f2bdef2d4a3057a3e3f7e1812bbf32c68dc279dac4deb9c0cc26b6"), looks := false }, kinds := [], alts := [], laidByText := true, laidKinds := [.data, .data, .data], laidTests := true, laidLooks := .later }
def ModelJoinsUptoCardSaid : Prop := Claim7.holds Tryd.pinned (.plain (OpenSpec.upto modelJoinsSpec)) modelJoinsUptoCard

/-- THE SECOND FORM's CARD OF 'depotlaw15.ModelCas'. -/
def modelCasUptoCard : Claim7 := { stood := { row := modelCasUptoRow, standIns := [], harness := (true, "c18dc1cb50f2bdef2d4a3057a3e3f7e1812bbf32c68dc279dac4deb9c0cc26b6"), looks := false }, kinds := [], alts := [], laidByText := true, laidKinds := [.data, .data, .data], laidTests := true, laidLooks := .later }
def ModelCasUptoCardSaid : Prop := Claim7.holds Tryd.pinned (.plain (OpenSpec.upto modelCasSpec)) modelCasUptoCard

/-- THE SECOND FORM's CARD OF 'depotlaw15.ModelStays'. -/
def modelStaysUptoCard : Claim7 := { stood := { row := modelStaysUptoRow, standIns := [], harness := (true, "c18dc1cb50f2bdef2d4a3057a3e3f7e1812bbf32c68dc279dac4deb9c0cc26b6"), looks := false }, kinds := [], alts := [], laidByText := true, laidKinds := [.data, .data, .data], laidTests := true, laidLooks := .later }
def ModelStaysUptoCardSaid : Prop := Claim7.holds Tryd.pinned (.plain (OpenSpec.upto modelStaysSpec)) modelStaysUptoCard

/-- THE SECOND FORM's CARD OF 'depotlaw15.ModelAdds'. -/
def modelAddsUptoCard : Claim7 := { stood := { row := modelAddsUptoRow, standIns := [], harness := (true, "c18dc1cb50f2bdef2d4a3057a3e3f7e1812bbf32c68dc279dac4deb9c0cc26b6"), looks := false }, kinds := [], alts := [], laidByText := true, laidKinds := [.data, .data, .data], laidTests := true, laidLooks := .later }
def ModelAddsUptoCardSaid : Prop := Claim7.holds Tryd.pinned (.plain (OpenSpec.upto modelAddsSpec)) modelAddsUptoCard

/-- THE SECOND FORM's CARD OF 'depotlaw26.HistoryRuns'. -/
def historyRunsUptoCard : Claim7 := { stood := { row := historyRunsUptoRow, standIns := [], harness := (true, "c18dc1cb50f2bdef2d4a3057a3e3f7e1812bbf32c68dc279dac4deb9c0cc26b6"), looks := false }, kinds := [], alts := [], laidByText := true, laidKinds := [.data, .data, .data], laidTests := true, laidLooks := .later }
def HistoryRunsUptoCardSaid : Prop := Claim7.holds Tryd.pinned (.plain (OpenSpec.upto historyRunsSpec)) historyRunsUptoCard

/-- THE SECOND FORM's CARD OF 'depotlaw26.HistoryMade'. -/
def historyMadeUptoCard : Claim7 := { stood := { row := historyMadeUptoRow, standIns := [], harness := (true, "c18dc1cb50f2bdef2d4a3057a3e3f7e1812bbf32c68dc279dac4deb9c0cc26b6"), looks := false }, kinds := [], alts := [], laidByText := true, laidKinds := [.data, .data, .data], laidTests := true, laidLooks := .later }
def HistoryMadeUptoCardSaid : Prop := Claim7.holds Tryd.pinned (.plain (OpenSpec.upto historyMadeSpec)) historyMadeUptoCard

/-- THE SECOND FORM's CARD OF 'depotlaw26.HistoryRow'. -/
def historyRowUptoCard : Claim7 := { stood := { row := historyRowUptoRow, standIns := [], harness := (true, "c18dc1cb50f2bdef2d4a3057a3e3f7e1812bbf32c68dc279dac4deb9c0cc26b6"), looks := false }, kinds := [], alts := [], laidByText := true, laidKinds := [.data, .data, .data], laidTests := true, laidLooks := .later }
def HistoryRowUptoCardSaid : Prop := Claim7.holds Tryd.pinned (.plain (OpenSpec.upto historyRowSpec)) historyRowUptoCard

/-- THE SECOND FORM's CARD OF 'depotlaw15.ModelPlays'. -/
def modelPlaysUptoCard : Claim7 := { stood := { row := modelPlaysUptoRow, standIns := [], harness := (true, "c18dc1cb50f2bdef2d4a3057a3e3f7e1812bbf32c68dc279dac4deb9c0cc26b6"), looks := false }, kinds := [], alts := [], laidByText := true, laidKinds := [.data, .data, .data], laidTests := true, laidLooks := .later }
def ModelPlaysUptoCardSaid : Prop := Claim7.holds Tryd.pinned (.plain (OpenSpec.upto modelPlaysSpec)) modelPlaysUptoCard
end Rows
end Go.Proofs.YtepklobkppdliaaDoor
