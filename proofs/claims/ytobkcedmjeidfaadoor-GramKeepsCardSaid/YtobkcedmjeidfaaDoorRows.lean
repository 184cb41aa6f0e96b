/-
  NARROWER THAN 'FOR EVERY INPUT', by the rows' own cells (each row's printed sentence says how): GramPuts: laid · GramUnlike: laid · GramTakes: laid · GramBack: laid · GramTells: laid · GramKeeps: laid.
  DERIVED. THE GIVEN ROWS OF THIS SEAT. 6 by the template 'for every input the law returns true; each argument reads behind the call as it read before'; 0 by the template 'total and deterministic' (their statements: YtobkcedmjeidfaaDoorTotals.lean).
  GIVEN WITH THE SEED: the statements are not yours to turn. If you find one false, say at which input.
  Laid BY PROGRAM, IN A SANDBOX (cutbox-rows.mjs): the forced cells as the released guide's own fill.sh prints them over the translation 7e35fe4fca41dbf7… (all of the seat's roots in one cut). By AI agents, Wed Nov 11 2026. No macro, syntax, notation, axiom, sorry.
-/
import Derived.Test.YtobkcedmjeidfaaDoorChecked
import GoSem.Claim
import GoSem.ClaimJoined
import GoSem.ClaimMapViews
import Derived.JoinedTies
import Derived.KernelRfl
namespace Go.Proofs.YtobkcedmjeidfaaDoor
/- THE CELL 'sum', in the pinned program and in every row, IS THE sha256 OF THE DUMP (.gsa) THAT YtobkcedmjeidfaaDoorProg.lean LOADS. Nothing in Lean hashes anything: it is a label: what it is worth is what the hold of that sum in a sandbox is worth. -/
noncomputable def Tryd.pinned : Pinned := { name := "ytobkcedmjeidfaadoor", sum := "7e35fe4fca41dbf7173d06d102b17f6a2fe5f64b01e7295cd1dc27b0edf68a23", checked := Tryd.checked }
namespace Rows
def none {H : Type} : Left H := { results := [], args := [] }

/- WHAT THE LISTED PACKAGE-LEVEL VARIABLES READ AS WHEN THE CALL BEGINS. Each datum BY PROGRAM (the guide's laid-datum.mjs) off the statement by which the dump's own 'gosem.cut.vars' lays the variable. In a bare row this is a premise. The card (YtobkcedmjeidfaaDoorCards.lean) ties it to the program's text. -/
def laid_fletch_crc_half {H : Type} : DataW H := .agg [.lit (.int .u32 0), .lit (.int .u32 498536548), .lit (.int .u32 997073096), .lit (.int .u32 651767980), .lit (.int .u32 1994146192), .lit (.int .u32 1802195444), .lit (.int .u32 1303535960), .lit (.int .u32 1342533948), .lit (.int .u32 3988292384), .lit (.int .u32 4027552580), .lit (.int .u32 3604390888), .lit (.int .u32 3412177804), .lit (.int .u32 2607071920), .lit (.int .u32 2262029012), .lit (.int .u32 2685067896), .lit (.int .u32 3183342108)]

/-- 'fletchlaw09.GramPuts': WHATEVER THE INPUT: true; the input reads as it did. -/
def gramPutsSpec : ChangeSpec := { name := "gramPuts", fn := fun _ => fun
  | [d1, d2] => { results := [.lit (.bool true)], args := [d1, d2] }
  | _ => none }
def gramPutsRow : OpenClaim := { program := "ytobkcedmjeidfaadoor", sum := "7e35fe4fca41dbf7173d06d102b17f6a2fe5f64b01e7295cd1dc27b0edf68a23", func := "fletch/fletchlaw09.GramPuts", spec := "gramPuts", named := ["fletch/crc.half"], apart := false, laid := [("fletch/crc.half", laid_fletch_crc_half)] }
def GramPutsSaid : Prop := gramPutsRow.holds Tryd.pinned (OpenSpec.ofChange gramPutsSpec)

/-- ITS FALSE NEIGHBOUR: 'it returns false'. Refute it at one input. -/
def gramPutsWrong : ChangeSpec := { name := "gramPuts", fn := fun _ => fun
  | [d1, d2] => { results := [.lit (.bool false)], args := [d1, d2] }
  | _ => none }
def GramPutsWrongFalsely : Prop := gramPutsRow.holds Tryd.pinned (OpenSpec.ofChange gramPutsWrong)

/-- 'fletchlaw09.GramUnlike': WHATEVER THE INPUT: true; the input reads as it did. -/
def gramUnlikeSpec : ChangeSpec := { name := "gramUnlike", fn := fun _ => fun
  | [d1, d2] => { results := [.lit (.bool true)], args := [d1, d2] }
  | _ => none }
def gramUnlikeRow : OpenClaim := { program := "ytobkcedmjeidfaadoor", sum := "7e35fe4fca41dbf7173d06d102b17f6a2fe5f64b01e7295cd1dc27b0edf68a23", func := "fletch/fletchlaw09.GramUnlike", spec := "gramUnlike", named := ["fletch/crc.half"], apart := false, laid := [("fletch/crc.half", laid_fletch_crc_half)] }
def GramUnlikeSaid : Prop := gramUnlikeRow.holds Tryd.pinned (OpenSpec.ofChange gramUnlikeSpec)

/-- ITS FALSE NEIGHBOUR: 'it returns false'. Refute it at one input. -/
def gramUnlikeWrong : ChangeSpec := { name := "gramUnlike", fn := fun _ => fun
  | [d1, d2] => { results := [.lit (.bool false)], args := [d1, d2] }
  | _ => none }
def GramUnlikeWrongFalsely : Prop := gramUnlikeRow.holds Tryd.pinned (OpenSpec.ofChange gramUnlikeWrong)

/-- 'fletchlaw09.GramTakes': WHATEVER THE INPUT: true; the input reads as it did. -/
def gramTakesSpec : ChangeSpec := { name := "gramTakes", fn := fun _ => fun
  | [d] => { results := [.lit (.bool true)], args := [d] }
  | _ => none }
def gramTakesRow : OpenClaim := { program := "ytobkcedmjeidfaadoor", sum := "7e35fe4fca41dbf7173d06d102b17f6a2fe5f64b01e7295cd1dc27b0edf68a23", func := "fletch/fletchlaw09.GramTakes", spec := "gramTakes", named := ["fletch/crc.half"], apart := false, laid := [("fletch/crc.half", laid_fletch_crc_half)] }
def GramTakesSaid : Prop := gramTakesRow.holds Tryd.pinned (OpenSpec.ofChange gramTakesSpec)

/-- ITS FALSE NEIGHBOUR: 'it returns false'. Refute it at one input. -/
def gramTakesWrong : ChangeSpec := { name := "gramTakes", fn := fun _ => fun
  | [d] => { results := [.lit (.bool false)], args := [d] }
  | _ => none }
def GramTakesWrongFalsely : Prop := gramTakesRow.holds Tryd.pinned (OpenSpec.ofChange gramTakesWrong)

/-- 'fletchlaw09.GramBack': WHATEVER THE INPUT: true; the input reads as it did. -/
def gramBackSpec : ChangeSpec := { name := "gramBack", fn := fun _ => fun
  | [d1, d2] => { results := [.lit (.bool true)], args := [d1, d2] }
  | _ => none }
def gramBackRow : OpenClaim := { program := "ytobkcedmjeidfaadoor", sum := "7e35fe4fca41dbf7173d06d102b17f6a2fe5f64b01e7295cd1dc27b0edf68a23", func := "fletch/fletchlaw09.GramBack", spec := "gramBack", named := ["fletch/crc.half"], apart := false, laid := [("fletch/crc.half", laid_fletch_crc_half)] }
def GramBackSaid : Prop := gramBackRow.holds Tryd.pinned (OpenSpec.ofChange gramBackSpec)

/-- ITS FALSE NEIGHBOUR: 'it returns false'. Refute it at one input. -/
def gramBackWrong : ChangeSpec := { name := "gramBack", fn := fun _ => fun
  | [d1, d2] => { results := [.lit (.bool false)], args := [d1, d2] }
  | _ => none }
def GramBackWrongFalsely : Prop := gramBackRow.holds Tryd.pinned (OpenSpec.ofChange gramBackWrong)

/-- 'fletchlaw09.GramTells': WHATEVER THE INPUT: true; the input reads as it did. -/
def gramTellsSpec : ChangeSpec := { name := "gramTells", fn := fun _ => fun
  | [d1, d2, d3] => { results := [.lit (.bool true)], args := [d1, d2, d3] }
  | _ => none }
def gramTellsRow : OpenClaim := { program := "ytobkcedmjeidfaadoor", sum := "7e35fe4fca41dbf7173d06d102b17f6a2fe5f64b01e7295cd1dc27b0edf68a23", func := "fletch/fletchlaw09.GramTells", spec := "gramTells", named := ["fletch/crc.half"], apart := false, laid := [("fletch/crc.half", laid_fletch_crc_half)] }
def GramTellsSaid : Prop := gramTellsRow.holds Tryd.pinned (OpenSpec.ofChange gramTellsSpec)

/-- ITS FALSE NEIGHBOUR: 'it returns false'. Refute it at one input. -/
def gramTellsWrong : ChangeSpec := { name := "gramTells", fn := fun _ => fun
  | [d1, d2, d3] => { results := [.lit (.bool false)], args := [d1, d2, d3] }
  | _ => none }
def GramTellsWrongFalsely : Prop := gramTellsRow.holds Tryd.pinned (OpenSpec.ofChange gramTellsWrong)

/-- 'fletchlaw09.GramKeeps': WHATEVER THE INPUT: true; the input reads as it did. -/
def gramKeepsSpec : ChangeSpec := { name := "gramKeeps", fn := fun _ => fun
  | [d1, d2] => { results := [.lit (.bool true)], args := [d1, d2] }
  | _ => none }
def gramKeepsRow : OpenClaim := { program := "ytobkcedmjeidfaadoor", sum := "7e35fe4fca41dbf7173d06d102b17f6a2fe5f64b01e7295cd1dc27b0edf68a23", func := "fletch/fletchlaw09.GramKeeps", spec := "gramKeeps", named := ["fletch/crc.half"], apart := false, laid := [("fletch/crc.half", laid_fletch_crc_half)] }
def GramKeepsSaid : Prop := gramKeepsRow.holds Tryd.pinned (OpenSpec.ofChange gramKeepsSpec)

/-- ITS FALSE NEIGHBOUR: 'it returns false'. Refute it at one input. -/
def gramKeepsWrong : ChangeSpec := { name := "gramKeeps", fn := fun _ => fun
  | [d1, d2] => { results := [.lit (.bool false)], args := [d1, d2] }
  | _ => none }
def GramKeepsWrongFalsely : Prop := gramKeepsRow.holds Tryd.pinned (OpenSpec.ofChange gramKeepsWrong)

/- THE SECOND FORM. 'bulk': how many values and letters a reading holds, each counted each time it is reached (what is shared counts as often as it is met; a slice's spare places count too). A statement '..UptoSaid' is the law's where the arguments, and the package variables that the reading takes, are together of bulk at most 1048576: NARROWER than '..Said'. Prove '..Said' where nothing that the law and all that it calls make is longer than what came in: it says more and counts as full. Else prove '..UptoSaid'. A law counts once. -/
mutual
def uptoBulk {H : Type} : DataW H → Nat
  | .lit (.string bytes) => bytes.length + 1
  | .lit _ => 1
  | .nil => 1
  | .ptr d => uptoBulk d + 1
  | .slice elems spare => uptoBulkAll elems + uptoBulkAll spare + 1
  | .agg parts => uptoBulkAll parts + 1
  | .iface _ d => uptoBulk d + 1
  | .map entries => uptoBulkEntries entries + 1
  | .held _ => 1
def uptoBulkAll {H : Type} : List (DataW H) → Nat
  | [] => 0
  | d :: r => uptoBulk d + uptoBulkAll r
def uptoBulkEntries {H : Type} : List (Lit × DataW H) → Nat
  | [] => 0
  | x :: r => uptoBulkEntry x + uptoBulkEntries r
def uptoBulkEntry {H : Type} : Lit × DataW H → Nat
  | (.string bytes, d) => bytes.length + uptoBulk d + 1
  | (_, d) => uptoBulk d + 1
 end
def uptoSmall : (H : Type) → List (DataW H) → Bool := fun _ ds => decide (uptoBulkAll ds ≤ 1048576)
def OpenSpec.upto (s : _root_.Go.ChangeSpec) : _root_.Go.OpenSpec := { _root_.Go.OpenSpec.ofChange s with cond := some uptoSmall }

/-- 'fletchlaw09.GramPuts', WHERE WHAT IT READS IS OF BULK AT MOST 1048576: true; the input reads as it did. -/
def gramPutsUptoRow : OpenClaim := { program := "ytobkcedmjeidfaadoor", sum := "7e35fe4fca41dbf7173d06d102b17f6a2fe5f64b01e7295cd1dc27b0edf68a23", func := "fletch/fletchlaw09.GramPuts", spec := "gramPuts", named := ["fletch/crc.half"], apart := false, laid := [("fletch/crc.half", laid_fletch_crc_half)], narrowed := true }
def GramPutsUptoSaid : Prop := gramPutsUptoRow.holds Tryd.pinned (OpenSpec.upto gramPutsSpec)

/-- 'fletchlaw09.GramUnlike', WHERE WHAT IT READS IS OF BULK AT MOST 1048576: true; the input reads as it did. -/
def gramUnlikeUptoRow : OpenClaim := { program := "ytobkcedmjeidfaadoor", sum := "7e35fe4fca41dbf7173d06d102b17f6a2fe5f64b01e7295cd1dc27b0edf68a23", func := "fletch/fletchlaw09.GramUnlike", spec := "gramUnlike", named := ["fletch/crc.half"], apart := false, laid := [("fletch/crc.half", laid_fletch_crc_half)], narrowed := true }
def GramUnlikeUptoSaid : Prop := gramUnlikeUptoRow.holds Tryd.pinned (OpenSpec.upto gramUnlikeSpec)

/-- 'fletchlaw09.GramTakes', WHERE WHAT IT READS IS OF BULK AT MOST 1048576: true; the input reads as it did. -/
def gramTakesUptoRow : OpenClaim := { program := "ytobkcedmjeidfaadoor", sum := "7e35fe4fca41dbf7173d06d102b17f6a2fe5f64b01e7295cd1dc27b0edf68a23", func := "fletch/fletchlaw09.GramTakes", spec := "gramTakes", named := ["fletch/crc.half"], apart := false, laid := [("fletch/crc.half", laid_fletch_crc_half)], narrowed := true }
def GramTakesUptoSaid : Prop := gramTakesUptoRow.holds Tryd.pinned (OpenSpec.upto gramTakesSpec)

/-- 'fletchlaw09.GramBack', WHERE WHAT IT READS IS OF BULK AT MOST 1048576: true; the input reads as it did. -/
def gramBackUptoRow : OpenClaim := { program := "ytobkcedmjeidfaadoor", sum := "7e35fe4fca41dbf7173d06d102b17f6a2fe5f64b01e7295cd1dc27b0edf68a23", func := "fletch/fletchlaw09.GramBack", spec := "gramBack", named := ["fletch/crc.half"], apart := false, laid := [("fletch/crc.half", laid_fletch_crc_half)], narrowed := true }
def GramBackUptoSaid : Prop := gramBackUptoRow.holds Tryd.pinned (OpenSpec.upto gramBackSpec)

/-- 'fletchlaw09.GramTells', WHERE WHAT IT READS IS OF BULK AT MOST 1048576: true; the input reads as it did. -/
def gramTellsUptoRow : OpenClaim := { program := "ytobkcedmjeidfaadoor", sum := "7e35fe4fca41dbf7173d06d102b17f6a2fe5f64b01e7295cd1dc27b0edf68a23", func := "fletch/fletchlaw09.GramTells", spec := "gramTells", named := ["fletch/crc.half"], apart := false, laid := [("fletch/crc.half", laid_fletch_crc_half)], narrowed := true }
def GramTellsUptoSaid : Prop := gramTellsUptoRow.holds Tryd.pinned (OpenSpec.upto gramTellsSpec)

/-- 'fletchlaw09.GramKeeps', WHERE WHAT IT READS IS OF BULK AT MOST 1048576: true; the input reads as it did. -/
def gramKeepsUptoRow : OpenClaim := { program := "ytobkcedmjeidfaadoor", sum := "7e35fe4fca41dbf7173d06d102b17f6a2fe5f64b01e7295cd1dc27b0edf68a23", func := "fletch/fletchlaw09.GramKeeps", spec := "gramKeeps", named := ["fletch/crc.half"], apart := false, laid := [("fletch/crc.half", laid_fletch_crc_half)], narrowed := true }
def GramKeepsUptoSaid : Prop := gramKeepsUptoRow.holds Tryd.pinned (OpenSpec.upto gramKeepsSpec)

end Rows
end Go.Proofs.YtobkcedmjeidfaaDoor
