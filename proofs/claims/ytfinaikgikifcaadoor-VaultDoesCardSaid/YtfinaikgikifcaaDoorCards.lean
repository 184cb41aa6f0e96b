/-
  DERIVED. GIVEN WITH THE SEED: THE CARDS: each row of YtfinaikgikifcaaDoorRows.lean that lists a variable, with what it lists TIED to the program's text (the seventh form; the later family's looks); each row that meets fmt, with fmt's text TOLD by the authors' own Lean function (tested against real Go, not proved from fmt's source: count such statements apart). THE CARD IS WHAT COUNTS. Prove the row's statement (the work); the ties are given (YtfinaikgikifcaaDoorTie.lean); close each card by the builder's one call (the guide's Derived/Test/ToyasCard.lean, 'card_holds'). Laid BY PROGRAM, IN A SANDBOX (cutbox-door.mjs). By AI agents, Wed Nov 11 2026. No macro, syntax, notation, axiom, sorry.
-/
import Derived.Test.YtfinaikgikifcaaDoorRows
import GoSem.ClaimSeven
namespace Go.Proofs.YtfinaikgikifcaaDoor
namespace Rows

/-- THE TIED CARD OF 'fletchlaw07.VaultTwice'. -/
def vaultTwiceCard : Claim7 := { stood := { row := vaultTwiceRow, standIns := [], harness := (true, "ccf269ad8a811609cea4700f2c61be3a17a8a240bd2cc394708f4a53fe40b418"), looks := false }, kinds := [], alts := [], laidByText := true, laidKinds := [.data], laidTests := true, laidLooks := .later }
def VaultTwiceCardSaid : Prop := Claim7.holds Tryd.pinned (.plain (OpenSpec.ofChange vaultTwiceSpec)) vaultTwiceCard

/-- THE TIED CARD OF 'fletchlaw07.VaultKeeps'. -/
def vaultKeepsCard : Claim7 := { stood := { row := vaultKeepsRow, standIns := [], harness := (true, "ccf269ad8a811609cea4700f2c61be3a17a8a240bd2cc394708f4a53fe40b418"), looks := false }, kinds := [], alts := [], laidByText := true, laidKinds := [.data], laidTests := true, laidLooks := .later }
def VaultKeepsCardSaid : Prop := Claim7.holds Tryd.pinned (.plain (OpenSpec.ofChange vaultKeepsSpec)) vaultKeepsCard

/-- THE TIED CARD OF 'fletchlaw07.VaultGoes'. -/
def vaultGoesCard : Claim7 := { stood := { row := vaultGoesRow, standIns := [], harness := (true, "ccf269ad8a811609cea4700f2c61be3a17a8a240bd2cc394708f4a53fe40b418"), looks := false }, kinds := [], alts := [], laidByText := true, laidKinds := [.data], laidTests := true, laidLooks := .later }
def VaultGoesCardSaid : Prop := Claim7.holds Tryd.pinned (.plain (OpenSpec.ofChange vaultGoesSpec)) vaultGoesCard

/-- THE TIED CARD OF 'fletchlaw07.VaultSick'. -/
def vaultSickCard : Claim7 := { stood := { row := vaultSickRow, standIns := [], harness := (true, "ccf269ad8a811609cea4700f2c61be3a17a8a240bd2cc394708f4a53fe40b418"), looks := false }, kinds := [], alts := [], laidByText := true, laidKinds := [.data], laidTests := true, laidLooks := .later }
def VaultSickCardSaid : Prop := Claim7.holds Tryd.pinned (.plain (OpenSpec.ofChange vaultSickSpec)) vaultSickCard

/-- THE TIED CARD OF 'fletchlaw07.VaultDoes'. -/
def vaultDoesCard : Claim7 := { stood := { row := vaultDoesRow, standIns := [], harness := (true, "ccf269ad8a811609cea4700f2c61be3a17a8a240bd2cc394708f4a53fe40b418"), looks := false }, kinds := [], alts := [], laidByText := true, laidKinds := [.data], laidTests := true, laidLooks := .later }
def VaultDoesCardSaid : Prop := Claim7.holds Tryd.pinned (.plain (OpenSpec.ofChange vaultDoesSpec)) vaultDoesCard

/-- THE SECOND FORM's CARD OF 'fletchlaw07.VaultTwice'. -/
def vaultTwiceUptoCard : Claim7 := { stood := { row := vaultTwiceUptoRow, standIns := [], harness := (true, "ccf269ad8a811609cea4700f2c61be3a17a8a240bd2cc394708f4a53fe40b418"), looks := false }, kinds := [], alts := [], laidByText := true, laidKinds := [.data], laidTests := true, laidLooks := .later }
def VaultTwiceUptoCardSaid : Prop := Claim7.holds Tryd.pinned (.plain (OpenSpec.upto vaultTwiceSpec)) vaultTwiceUptoCard

/-- THE SECOND FORM's CARD OF 'fletchlaw07.VaultKeeps'. -/
def vaultKeepsUptoCard : Claim7 := { stood := { row := vaultKeepsUptoRow, standIns := [], harness := (true, "ccf269ad8a811609cea4700f2c61be3a17a8a240bd2cc394708f4a53fe40b418"), looks := false }, kinds := [], alts := [], laidByText := true, laidKinds := [.data], laidTests := true, laidLooks := .later }
def VaultKeepsUptoCardSaid : Prop := Claim7.holds Tryd.pinned (.plain (OpenSpec.upto vaultKeepsSpec)) vaultKeepsUptoCard

/-- THE SECOND FORM's CARD OF 'fletchlaw07.VaultGoes'. -/
def vaultGoesUptoCard : Claim7 := { stood := { row := vaultGoesUptoRow, standIns := [], harness := (true, "ccf269ad8a811609cea4700f2c61be3a17a8a240bd2cc394708f4a53fe40b418"), looks := false }, kinds := [], alts := [], laidByText := true, laidKinds := [.data], laidTests := true, laidLooks := .later }
def VaultGoesUptoCardSaid : Prop := Claim7.holds Tryd.pinned (.plain (OpenSpec.upto vaultGoesSpec)) vaultGoesUptoCard

/-- THE SECOND FORM's CARD OF 'fletchlaw07.VaultSick'. -/
def vaultSickUptoCard : Claim7 := { stood := { row := vaultSickUptoRow, standIns := [], harness := (true, "ccf269ad8a811609cea4700f2c61be3a17a8a240bd2cc394708f4a53fe40b418"), looks := false }, kinds := [], alts := [], laidByText := true, laidKinds := [.data], laidTests := true, laidLooks := .later }
def VaultSickUptoCardSaid : Prop := Claim7.holds Tryd.pinned (.plain (OpenSpec.upto vaultSickSpec)) vaultSickUptoCard

/-- THE SECOND FORM's CARD OF 'fletchlaw07.VaultDoes'. -/
def vaultDoesUptoCard : Claim7 := { stood := { row := vaultDoesUptoRow, standIns := [], harness := (true, "ccf269ad8a811609cea4700f2c61be3a17a8a240bd2cc394708f4a53fe40b418"), looks := false }, kinds := [], alts := [], laidByText := true, laidKinds := [.data], laidTests := true, laidLooks := .later }
def VaultDoesUptoCardSaid : Prop := Claim7.holds Tryd.pinned (.plain (OpenSpec.upto vaultDoesSpec)) vaultDoesUptoCard
end Rows
end Go.Proofs.YtfinaikgikifcaaDoor
