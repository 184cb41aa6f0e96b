/-
  DERIVED. GIVEN WITH THE SEED: THE CARDS: each row of YtobkcedmjeidfaaDoorRows.lean that lists a variable, with what it lists TIED to the program's text (the seventh form; the later family's looks); each row that meets fmt, with fmt's text TOLD by the authors' own Lean function (tested against real Go, not proved from fmt's source: count such statements apart). THE CARD IS WHAT COUNTS. Prove the row's statement (the work); the ties are given (YtobkcedmjeidfaaDoorTie.lean); close each card by the builder's one call (the guide's Derived/Test/ToyasCard.lean, 'card_holds'). Laid BY PROGRAM, IN A SANDBOX (cutbox-door.mjs). By AI agents, Wed Nov 11 2026. No macro, syntax, notation, axiom, sorry.
-/
import Derived.Test.YtobkcedmjeidfaaDoorRows
import GoSem.ClaimSeven
namespace Go.Proofs.YtobkcedmjeidfaaDoor
namespace Rows

/-- THE TIED CARD OF 'fletchlaw09.GramPuts'. -/
def gramPutsCard : Claim7 := { stood := { row := gramPutsRow, standIns := [], harness := (true, "406e89afec11ec3ef484869ea3a6e102b46268f743a41c0f42b7dedefb4e2b27"), looks := false }, kinds := [], alts := [], laidByText := true, laidKinds := [.data], laidTests := true, laidLooks := .later }
def GramPutsCardSaid : Prop := Claim7.holds Tryd.pinned (.plain (OpenSpec.ofChange gramPutsSpec)) gramPutsCard

/-- THE TIED CARD OF 'fletchlaw09.GramUnlike'. -/
def gramUnlikeCard : Claim7 := { stood := { row := gramUnlikeRow, standIns := [], harness := (true, "406e89afec11ec3ef484869ea3a6e102b46268f743a41c0f42b7dedefb4e2b27"), looks := false }, kinds := [], alts := [], laidByText := true, laidKinds := [.data], laidTests := true, laidLooks := .later }
def GramUnlikeCardSaid : Prop := Claim7.holds Tryd.pinned (.plain (OpenSpec.ofChange gramUnlikeSpec)) gramUnlikeCard

/-- THE TIED CARD OF 'fletchlaw09.GramTakes'. -/
def gramTakesCard : Claim7 := { stood := { row := gramTakesRow, standIns := [], harness := (true, "406e89afec11ec3ef484869ea3a6e102b46268f743a41c0f42b7dedefb4e2b27"), looks := false }, kinds := [], alts := [], laidByText := true, laidKinds := [.data], laidTests := true, laidLooks := .later }
def GramTakesCardSaid : Prop := Claim7.holds Tryd.pinned (.plain (OpenSpec.ofChange gramTakesSpec)) gramTakesCard

/-- THE TIED CARD OF 'fletchlaw09.GramBack'. -/
def gramBackCard : Claim7 := { stood := { row := gramBackRow, standIns := [], harness := (true, "406e89afec11ec3ef484869ea3a6e102b46268f743a41c0f42b7dedefb4e2b27"), looks := false }, kinds := [], alts := [], laidByText := true, laidKinds := [.data], laidTests := true, laidLooks := .later }
def GramBackCardSaid : Prop := Claim7.holds Tryd.pinned (.plain (OpenSpec.ofChange gramBackSpec)) gramBackCard

/-- THE TIED CARD OF 'fletchlaw09.GramTells'. -/
def gramTellsCard : Claim7 := { stood := { row := gramTellsRow, standIns := [], harness := (true, "406e89afec11ec3ef484869ea3a6e102b46268f743a41c0f42b7dedefb4e2b27"), looks := false }, kinds := [], alts := [], laidByText := true, laidKinds := [.data], laidTests := true, laidLooks := .later }
def GramTellsCardSaid : Prop := Claim7.holds Tryd.pinned (.plain (OpenSpec.ofChange gramTellsSpec)) gramTellsCard

/-- THE TIED CARD OF 'fletchlaw09.GramKeeps'. -/
def gramKeepsCard : Claim7 := { stood := { row := gramKeepsRow, standIns := [], harness := (true, "406e89afec11ec3ef484869ea3a6e102b46268f743a41c0f42b7dedefb4e2b27"), looks := false }, kinds := [], alts := [], laidByText := true, laidKinds := [.data], laidTests := true, laidLooks := .later }
def GramKeepsCardSaid : Prop := Claim7.holds Tryd.pinned (.plain (OpenSpec.ofChange gramKeepsSpec)) gramKeepsCard

/-- THE SECOND FORM's CARD OF 'fletchlaw09.GramPuts'. -/
def gramPutsUptoCard : Claim7 := { stood := { row := gramPutsUptoRow, standIns := [], harness := (true, "406e89afec11ec3ef484869ea3a6e102b46268f743a41c0f42b7dedefb4e2b27"), looks := false }, kinds := [], alts := [], laidByText := true, laidKinds := [.data], laidTests := true, laidLooks := .later }
def GramPutsUptoCardSaid : Prop := Claim7.holds Tryd.pinned (.plain (OpenSpec.upto gramPutsSpec)) gramPutsUptoCard

/-- THE SECOND FORM's CARD OF 'fletchlaw09.GramUnlike'. -/
def gramUnlikeUptoCard : Claim7 := { stood := { row := gramUnlikeUptoRow, standIns := [], harness := (true, "406e89afec11ec3ef484869ea3a6e102b46268f743a41c0f42b7dedefb4e2b27"), looks := false }, kinds := [], alts := [], laidByText := true, laidKinds := [.data], laidTests := true, laidLooks := .later }
def GramUnlikeUptoCardSaid : Prop := Claim7.holds Tryd.pinned (.plain (OpenSpec.upto gramUnlikeSpec)) gramUnlikeUptoCard

/-- THE SECOND FORM's CARD OF 'fletchlaw09.GramTakes'. -/
def gramTakesUptoCard : Claim7 := { stood := { row := gramTakesUptoRow, standIns := [], harness := (true, "406e89afec11ec3ef484869ea3a6e102b46268f743a41c0f42b7dedefb4e2b27"), looks := false }, kinds := [], alts := [], laidByText := true, laidKinds := [.data], laidTests := true, laidLooks := .later }
def GramTakesUptoCardSaid : Prop := Claim7.holds Tryd.pinned (.plain (OpenSpec.upto gramTakesSpec)) gramTakesUptoCard

/-- THE SECOND FORM's CARD OF 'fletchlaw09.GramBack'. -/
def gramBackUptoCard : Claim7 := { stood := { row := gramBackUptoRow, standIns := [], harness := (true, "406e89afec11ec3ef484869ea3a6e102b46268f743a41c0f42b7dedefb4e2b27"), looks := false }, kinds := [], alts := [], laidByText := true, laidKinds := [.data], laidTests := true, laidLooks := .later }
def GramBackUptoCardSaid : Prop := Claim7.holds Tryd.pinned (.plain (OpenSpec.upto gramBackSpec)) gramBackUptoCard

/-- THE SECOND FORM's CARD OF 'fletchlaw09.GramTells'. -/
def gramTellsUptoCard : Claim7 := { stood := { row := gramTellsUptoRow, standIns := [], harness := (true, "406e89afec11ec3ef484869ea3a6e102b46268f743a41c0f42b7dedefb4e2b27"), looks := false }, kinds := [], alts := [], laidByText := true, laidKinds := [.data], laidTests := true, laidLooks := .later }
def GramTellsUptoCardSaid : Prop := Claim7.holds Tryd.pinned (.plain (OpenSpec.upto gramTellsSpec)) gramTellsUptoCard

/-- THE SECOND FORM's CARD OF 'fletchlaw09.GramKeeps'. -/
def gramKeepsUptoCard : Claim7 := { stood := { row := gramKeepsUptoRow, standIns := [], harness := (true, "406e89afec11ec3ef484869ea3a6e102b46268f743a41c0f42b7dedefb4e2b27"), looks := false }, kinds := [], alts := [], laidByText := true, laidKinds := [.data], laidTests := true, laidLooks := .later }
def GramKeepsUptoCardSaid : Prop := Claim7.holds Tryd.pinned (.plain (OpenSpec.upto gramKeepsSpec)) gramKeepsUptoCard
end Rows
end Go.Proofs.YtobkcedmjeidfaaDoor
