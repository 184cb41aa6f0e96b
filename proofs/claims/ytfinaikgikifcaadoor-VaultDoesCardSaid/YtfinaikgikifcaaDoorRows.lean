/-
  NARROWER THAN 'FOR EVERY INPUT', by the rows' own cells (each row's printed sentence says how): VaultTwice: laid · VaultKeeps: laid · VaultGoes: laid · VaultSick: laid · VaultDoes: laid.
  DERIVED. THE GIVEN ROWS OF THIS SEAT. 5 by the template 'for every input the law returns true; each argument reads behind the call as it read before'; 0 by the template 'total and deterministic' (their statements: YtfinaikgikifcaaDoorTotals.lean).
  GIVEN WITH THE SEED: the statements are not yours to turn. If you find one false, say at which input.
  Laid BY PROGRAM, IN A SANDBOX (cutbox-rows.mjs): the forced cells as the released guide's own fill.sh prints them over the translation 379933b962648d2e… (all of the seat's roots in one cut). By AI agents, Wed Nov 11 2026. No macro, syntax, notation, axiom, sorry.
-/
import Derived.Test.YtfinaikgikifcaaDoorChecked
import GoSem.Claim
import GoSem.ClaimJoined
import GoSem.ClaimMapViews
import Derived.JoinedTies
import Derived.KernelRfl
namespace Go.Proofs.YtfinaikgikifcaaDoor
/- THE CELL 'sum', in the pinned program and in every row, IS THE sha256 OF THE DUMP (.gsa) THAT YtfinaikgikifcaaDoorProg.lean LOADS. Nothing in Lean hashes anything: it is a label: what it is worth is what the hold of that sum in a sandbox is worth. -/
noncomputable def Tryd.pinned : Pinned := { name := "ytfinaikgikifcaadoor", sum := "379933b962648d2ea8e29df285caeb3558cf0225e0a34d2ed0ad00ba5bc4ada0", checked := Tryd.checked }
namespace Rows
def none {H : Type} : Left H := { results := [], args := [] }

/- WHAT THE LISTED PACKAGE-LEVEL VARIABLES READ AS WHEN THE CALL BEGINS. Each datum BY PROGRAM (the guide's laid-datum.mjs) off the statement by which the dump's own 'gosem.cut.vars' lays the variable. In a bare row this is a premise. The card (YtfinaikgikifcaaDoorCards.lean) ties it to the program's text. -/
def laid_fletch_crc_half {H : Type} : DataW H := .agg [.lit (.int .u32 0), .lit (.int .u32 498536548), .lit (.int .u32 997073096), .lit (.int .u32 651767980), .lit (.int .u32 1994146192), .lit (.int .u32 1802195444), .lit (.int .u32 1303535960), .lit (.int .u32 1342533948), .lit (.int .u32 3988292384), .lit (.int .u32 4027552580), .lit (.int .u32 3604390888), .lit (.int .u32 3412177804), .lit (.int .u32 2607071920), .lit (.int .u32 2262029012), .lit (.int .u32 2685067896), .lit (.int .u32 3183342108)]

/-- 'fletchlaw07.VaultTwice': WHATEVER THE INPUT: true; the input reads as it did. -/
def vaultTwiceSpec : ChangeSpec := { name := "vaultTwice", fn := fun _ => fun
  | [d1, d2, d3] => { results := [.lit (.bool true)], args := [d1, d2, d3] }
  | _ => none }
def vaultTwiceRow : OpenClaim := { program := "ytfinaikgikifcaadoor", sum := "379933b962648d2ea8e29df285caeb3558cf0225e0a34d2ed0ad00ba5bc4ada0", func := "fletch/fletchlaw07.VaultTwice", spec := "vaultTwice", unfollowed := true, recurses := true, named := ["fletch/crc.half"], apart := false, laid := [("fletch/crc.half", laid_fletch_crc_half)] }
def VaultTwiceSaid : Prop := vaultTwiceRow.holds Tryd.pinned (OpenSpec.ofChange vaultTwiceSpec)

/-- ITS FALSE NEIGHBOUR: 'it returns false'. Refute it at one input. -/
def vaultTwiceWrong : ChangeSpec := { name := "vaultTwice", fn := fun _ => fun
  | [d1, d2, d3] => { results := [.lit (.bool false)], args := [d1, d2, d3] }
  | _ => none }
def VaultTwiceWrongFalsely : Prop := vaultTwiceRow.holds Tryd.pinned (OpenSpec.ofChange vaultTwiceWrong)

/-- 'fletchlaw07.VaultKeeps': WHATEVER THE INPUT: true; the input reads as it did. -/
def vaultKeepsSpec : ChangeSpec := { name := "vaultKeeps", fn := fun _ => fun
  | [d1, d2] => { results := [.lit (.bool true)], args := [d1, d2] }
  | _ => none }
def vaultKeepsRow : OpenClaim := { program := "ytfinaikgikifcaadoor", sum := "379933b962648d2ea8e29df285caeb3558cf0225e0a34d2ed0ad00ba5bc4ada0", func := "fletch/fletchlaw07.VaultKeeps", spec := "vaultKeeps", unfollowed := true, recurses := true, named := ["fletch/crc.half"], apart := false, laid := [("fletch/crc.half", laid_fletch_crc_half)] }
def VaultKeepsSaid : Prop := vaultKeepsRow.holds Tryd.pinned (OpenSpec.ofChange vaultKeepsSpec)

/-- ITS FALSE NEIGHBOUR: 'it returns false'. Refute it at one input. -/
def vaultKeepsWrong : ChangeSpec := { name := "vaultKeeps", fn := fun _ => fun
  | [d1, d2] => { results := [.lit (.bool false)], args := [d1, d2] }
  | _ => none }
def VaultKeepsWrongFalsely : Prop := vaultKeepsRow.holds Tryd.pinned (OpenSpec.ofChange vaultKeepsWrong)

/-- 'fletchlaw07.VaultGoes': WHATEVER THE INPUT: true; the input reads as it did. -/
def vaultGoesSpec : ChangeSpec := { name := "vaultGoes", fn := fun _ => fun
  | [d] => { results := [.lit (.bool true)], args := [d] }
  | _ => none }
def vaultGoesRow : OpenClaim := { program := "ytfinaikgikifcaadoor", sum := "379933b962648d2ea8e29df285caeb3558cf0225e0a34d2ed0ad00ba5bc4ada0", func := "fletch/fletchlaw07.VaultGoes", spec := "vaultGoes", unfollowed := true, recurses := true, named := ["fletch/crc.half"], apart := false, laid := [("fletch/crc.half", laid_fletch_crc_half)] }
def VaultGoesSaid : Prop := vaultGoesRow.holds Tryd.pinned (OpenSpec.ofChange vaultGoesSpec)

/-- ITS FALSE NEIGHBOUR: 'it returns false'. Refute it at one input. -/
def vaultGoesWrong : ChangeSpec := { name := "vaultGoes", fn := fun _ => fun
  | [d] => { results := [.lit (.bool false)], args := [d] }
  | _ => none }
def VaultGoesWrongFalsely : Prop := vaultGoesRow.holds Tryd.pinned (OpenSpec.ofChange vaultGoesWrong)

/-- 'fletchlaw07.VaultSick': WHATEVER THE INPUT: true; the input reads as it did. -/
def vaultSickSpec : ChangeSpec := { name := "vaultSick", fn := fun _ => fun
  | [d1, d2, d3] => { results := [.lit (.bool true)], args := [d1, d2, d3] }
  | _ => none }
def vaultSickRow : OpenClaim := { program := "ytfinaikgikifcaadoor", sum := "379933b962648d2ea8e29df285caeb3558cf0225e0a34d2ed0ad00ba5bc4ada0", func := "fletch/fletchlaw07.VaultSick", spec := "vaultSick", unfollowed := true, recurses := true, named := ["fletch/crc.half"], apart := false, laid := [("fletch/crc.half", laid_fletch_crc_half)] }
def VaultSickSaid : Prop := vaultSickRow.holds Tryd.pinned (OpenSpec.ofChange vaultSickSpec)

/-- ITS FALSE NEIGHBOUR: 'it returns false'. Refute it at one input. -/
def vaultSickWrong : ChangeSpec := { name := "vaultSick", fn := fun _ => fun
  | [d1, d2, d3] => { results := [.lit (.bool false)], args := [d1, d2, d3] }
  | _ => none }
def VaultSickWrongFalsely : Prop := vaultSickRow.holds Tryd.pinned (OpenSpec.ofChange vaultSickWrong)

/-- 'fletchlaw07.VaultDoes': WHATEVER THE INPUT: true; the input reads as it did. -/
def vaultDoesSpec : ChangeSpec := { name := "vaultDoes", fn := fun _ => fun
  | [d1, d2, d3] => { results := [.lit (.bool true)], args := [d1, d2, d3] }
  | _ => none }
def vaultDoesRow : OpenClaim := { program := "ytfinaikgikifcaadoor", sum := "379933b962648d2ea8e29df285caeb3558cf0225e0a34d2ed0ad00ba5bc4ada0", func := "fletch/fletchlaw07.VaultDoes", spec := "vaultDoes", unfollowed := true, recurses := true, named := ["fletch/crc.half"], apart := false, laid := [("fletch/crc.half", laid_fletch_crc_half)] }
def VaultDoesSaid : Prop := vaultDoesRow.holds Tryd.pinned (OpenSpec.ofChange vaultDoesSpec)

/-- ITS FALSE NEIGHBOUR: 'it returns false'. Refute it at one input. -/
def vaultDoesWrong : ChangeSpec := { name := "vaultDoes", fn := fun _ => fun
  | [d1, d2, d3] => { results := [.lit (.bool false)], args := [d1, d2, d3] }
  | _ => none }
def VaultDoesWrongFalsely : Prop := vaultDoesRow.holds Tryd.pinned (OpenSpec.ofChange vaultDoesWrong)

/- THE SECOND FORM. 'bulk': how many values and letters a reading holds, each counted each time it is reached (what is shared counts as often as it is met; a slice's spare places count too). A statement '..UptoSaid' is the law's where the arguments, and the package variables that the reading takes, are together of bulk at most 1048576: NARROWER than '..Said'. Prove '..Said' where nothing that the law and all that it calls make is longer than what came in: it says more and counts as full. Else prove '..UptoSaid'. A law counts once. -/
mutual
def uptoBulk {H : Type} : DataW H → Nat
  | .lit (.string bytes) => bytes.length + 1
  | .lit _ => 1
  | .nil => 1
  | .ptr d => uptoBulk d + 1
  | .slice elems spare => uptoBulkAll elems + uptoBulkAll spare + 1
  | .agg parts => uptoBulkAll parts + 1
  | .iface _ d => uptoBulk d + 1
  | .map entries => uptoBulkEntries entries + 1
  | .held _ => 1
def uptoBulkAll {H : Type} : List (DataW H) → Nat
  | [] => 0
  | d :: r => uptoBulk d + uptoBulkAll r
def uptoBulkEntries {H : Type} : List (Lit × DataW H) → Nat
  | [] => 0
  | x :: r => uptoBulkEntry x + uptoBulkEntries r
def uptoBulkEntry {H : Type} : Lit × DataW H → Nat
  | (.string bytes, d) => bytes.length + uptoBulk d + 1
  | (_, d) => uptoBulk d + 1
 end
def uptoSmall : (H : Type) → List (DataW H) → Bool := fun _ ds => decide (uptoBulkAll ds ≤ 1048576)
def OpenSpec.upto (s : _root_.Go.ChangeSpec) : _root_.Go.OpenSpec := { _root_.Go.OpenSpec.ofChange s with cond := some uptoSmall }

/-- 'fletchlaw07.VaultTwice', WHERE WHAT IT READS IS OF BULK AT MOST 1048576: true; the input reads as it did. -/
def vaultTwiceUptoRow : OpenClaim := { program := "ytfinaikgikifcaadoor", sum := "379933b962648d2ea8e29df285caeb3558cf0225e0a34d2ed0ad00ba5bc4ada0", func := "fletch/fletchlaw07.VaultTwice", spec := "vaultTwice", unfollowed := true, recurses := true, named := ["fletch/crc.half"], apart := false, laid := [("fletch/crc.half", laid_fletch_crc_half)], narrowed := true }
def VaultTwiceUptoSaid : Prop := vaultTwiceUptoRow.holds Tryd.pinned (OpenSpec.upto vaultTwiceSpec)

/-- 'fletchlaw07.VaultKeeps', WHERE WHAT IT READS IS OF BULK AT MOST 1048576: true; the input reads as it did. -/
def vaultKeepsUptoRow : OpenClaim := { program := "ytfinaikgikifcaadoor", sum := "379933b962648d2ea8e29df285caeb3558cf0225e0a34d2ed0ad00ba5bc4ada0", func := "fletch/fletchlaw07.VaultKeeps", spec := "vaultKeeps", unfollowed := true, recurses := true, named := ["fletch/crc.half"], apart := false, laid := [("fletch/crc.half", laid_fletch_crc_half)], narrowed := true }
def VaultKeepsUptoSaid : Prop := vaultKeepsUptoRow.holds Tryd.pinned (OpenSpec.upto vaultKeepsSpec)

/-- 'fletchlaw07.VaultGoes', WHERE WHAT IT READS IS OF BULK AT MOST 1048576: true; the input reads as it did. -/
def vaultGoesUptoRow : OpenClaim := { program := "ytfinaikgikifcaadoor", sum := "379933b962648d2ea8e29df285caeb3558cf0225e0a34d2ed0ad00ba5bc4ada0", func := "fletch/fletchlaw07.VaultGoes", spec := "vaultGoes", unfollowed := true, recurses := true, named := ["fletch/crc.half"], apart := false, laid := [("fletch/crc.half", laid_fletch_crc_half)], narrowed := true }
def VaultGoesUptoSaid : Prop := vaultGoesUptoRow.holds Tryd.pinned (OpenSpec.upto vaultGoesSpec)

/-- 'fletchlaw07.VaultSick', WHERE WHAT IT READS IS OF BULK AT MOST 1048576: true; the input reads as it did. -/
def vaultSickUptoRow : OpenClaim := { program := "ytfinaikgikifcaadoor", sum := "379933b962648d2ea8e29df285caeb3558cf0225e0a34d2ed0ad00ba5bc4ada0", func := "fletch/fletchlaw07.VaultSick", spec := "vaultSick", unfollowed := true, recurses := true, named := ["fletch/crc.half"], apart := false, laid := [("fletch/crc.half", laid_fletch_crc_half)], narrowed := true }
def VaultSickUptoSaid : Prop := vaultSickUptoRow.holds Tryd.pinned (OpenSpec.upto vaultSickSpec)

/-- 'fletchlaw07.VaultDoes', WHERE WHAT IT READS IS OF BULK AT MOST 1048576: true; the input reads as it did. -/
def vaultDoesUptoRow : OpenClaim := { program := "ytfinaikgikifcaadoor", sum := "379933b962648d2ea8e29df285caeb3558cf0225e0a34d2ed0ad00ba5bc4ada0", func := "fletch/fletchlaw07.VaultDoes", spec := "vaultDoes", unfollowed := true, recurses := true, named := ["fletch/crc.half"], apart := false, laid := [("fletch/crc.half", laid_fletch_crc_half)], narrowed := true }
def VaultDoesUptoSaid : Prop := vaultDoesUptoRow.holds Tryd.pinned (OpenSpec.upto vaultDoesSpec)

end Rows
end Go.Proofs.YtfinaikgikifcaaDoor
