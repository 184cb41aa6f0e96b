/-
  NARROWER THAN 'FOR EVERY INPUT', by the rows' own cells (each row's printed sentence says how): FrameMakes: laid · FrameReads: laid · FrameChain: laid · FrameKeeps: laid · FrameHeads: laid · FrameTells: laid.
  DERIVED. THE GIVEN ROWS OF THIS SEAT. 6 by the template 'for every input the law returns true; each argument reads behind the call as it read before'; 0 by the template 'total and deterministic' (their statements: YtjebmlfcdnpepaaDoorTotals.lean).
  GIVEN WITH THE SEED: the statements are not yours to turn. If you find one false, say at which input.
  Laid BY PROGRAM, IN A SANDBOX (cutbox-rows.mjs): the forced cells as the released guide's own fill.sh prints them over the translation 503b2dd195d99996… (all of the seat's roots in one cut). By AI agents, Wed Nov 11 2026. No macro, syntax, notation, axiom, sorry.
-/
import Derived.Test.YtjebmlfcdnpepaaDoorChecked
import GoSem.Claim
import GoSem.ClaimJoined
import GoSem.ClaimMapViews
import Derived.JoinedTies
import Derived.KernelRfl
namespace Go.Proofs.YtjebmlfcdnpepaaDoor
/- THE CELL 'sum', in the pinned program and in every row, IS THE sha256 OF THE DUMP (.gsa) THAT YtjebmlfcdnpepaaDoorProg.lean LOADS. Nothing in Lean hashes anything: it is a label: what it is worth is what the hold of that sum in a sandbox is worth. -/
noncomputable def Tryd.pinned : Pinned := { name := "ytjebmlfcdnpepaadoor", sum := "503b2dd195d9999658dc2ad949b0f24e21990dd42903890bc3cb43815883602d", checked := Tryd.checked }
namespace Rows
def none {H : Type} : Left H := { results := [], args := [] }

/- WHAT THE LISTED PACKAGE-LEVEL VARIABLES READ AS WHEN THE CALL BEGINS. Each datum BY PROGRAM (the guide's laid-datum.mjs) off the statement by which the dump's own 'gosem.cut.vars' lays the variable. In a bare row this is a premise. The card (YtjebmlfcdnpepaaDoorCards.lean) ties it to the program's text. -/
def laid_fletch_crc_half {H : Type} : DataW H := .agg [.lit (.int .u32 0), .lit (.int .u32 498536548), .lit (.int .u32 997073096), .lit (.int .u32 651767980), .lit (.int .u32 1994146192), .lit (.int .u32 1802195444), .lit (.int .u32 1303535960), .lit (.int .u32 1342533948), .lit (.int .u32 3988292384), .lit (.int .u32 4027552580), .lit (.int .u32 3604390888), .lit (.int .u32 3412177804), .lit (.int .u32 2607071920), .lit (.int .u32 2262029012), .lit (.int .u32 2685067896), .lit (.int .u32 3183342108)]

/-- 'fletchlaw06.FrameMakes': WHATEVER THE INPUT: true; the input reads as it did. -/
def frameMakesSpec : ChangeSpec := { name := "frameMakes", fn := fun _ => fun
  | [d] => { results := [.lit (.bool true)], args := [d] }
  | _ => none }
def frameMakesRow : OpenClaim := { program := "ytjebmlfcdnpepaadoor", sum := "503b2dd195d9999658dc2ad949b0f24e21990dd42903890bc3cb43815883602d", func := "fletch/fletchlaw06.FrameMakes", spec := "frameMakes", unfollowed := true, recurses := true, named := ["fletch/crc.half"], apart := false, laid := [("fletch/crc.half", laid_fletch_crc_half)] }
def FrameMakesSaid : Prop := frameMakesRow.holds Tryd.pinned (OpenSpec.ofChange frameMakesSpec)

/-- ITS FALSE NEIGHBOUR: 'it returns false'. Refute it at one input. -/
def frameMakesWrong : ChangeSpec := { name := "frameMakes", fn := fun _ => fun
  | [d] => { results := [.lit (.bool false)], args := [d] }
  | _ => none }
def FrameMakesWrongFalsely : Prop := frameMakesRow.holds Tryd.pinned (OpenSpec.ofChange frameMakesWrong)

/-- 'fletchlaw06.FrameReads': WHATEVER THE INPUT: true; the input reads as it did. -/
def frameReadsSpec : ChangeSpec := { name := "frameReads", fn := fun _ => fun
  | [d1, d2] => { results := [.lit (.bool true)], args := [d1, d2] }
  | _ => none }
def frameReadsRow : OpenClaim := { program := "ytjebmlfcdnpepaadoor", sum := "503b2dd195d9999658dc2ad949b0f24e21990dd42903890bc3cb43815883602d", func := "fletch/fletchlaw06.FrameReads", spec := "frameReads", unfollowed := true, recurses := true, named := ["fletch/crc.half"], apart := false, laid := [("fletch/crc.half", laid_fletch_crc_half)] }
def FrameReadsSaid : Prop := frameReadsRow.holds Tryd.pinned (OpenSpec.ofChange frameReadsSpec)

/-- ITS FALSE NEIGHBOUR: 'it returns false'. Refute it at one input. -/
def frameReadsWrong : ChangeSpec := { name := "frameReads", fn := fun _ => fun
  | [d1, d2] => { results := [.lit (.bool false)], args := [d1, d2] }
  | _ => none }
def FrameReadsWrongFalsely : Prop := frameReadsRow.holds Tryd.pinned (OpenSpec.ofChange frameReadsWrong)

/-- 'fletchlaw06.FrameChain': WHATEVER THE INPUT: true; the input reads as it did. -/
def frameChainSpec : ChangeSpec := { name := "frameChain", fn := fun _ => fun
  | [d1, d2, d3] => { results := [.lit (.bool true)], args := [d1, d2, d3] }
  | _ => none }
def frameChainRow : OpenClaim := { program := "ytjebmlfcdnpepaadoor", sum := "503b2dd195d9999658dc2ad949b0f24e21990dd42903890bc3cb43815883602d", func := "fletch/fletchlaw06.FrameChain", spec := "frameChain", unfollowed := true, recurses := true, named := ["fletch/crc.half"], apart := false, laid := [("fletch/crc.half", laid_fletch_crc_half)] }
def FrameChainSaid : Prop := frameChainRow.holds Tryd.pinned (OpenSpec.ofChange frameChainSpec)

/-- ITS FALSE NEIGHBOUR: 'it returns false'. Refute it at one input. -/
def frameChainWrong : ChangeSpec := { name := "frameChain", fn := fun _ => fun
  | [d1, d2, d3] => { results := [.lit (.bool false)], args := [d1, d2, d3] }
  | _ => none }
def FrameChainWrongFalsely : Prop := frameChainRow.holds Tryd.pinned (OpenSpec.ofChange frameChainWrong)

/-- 'fletchlaw06.FrameKeeps': WHATEVER THE INPUT: true; the input reads as it did. -/
def frameKeepsSpec : ChangeSpec := { name := "frameKeeps", fn := fun _ => fun
  | [d] => { results := [.lit (.bool true)], args := [d] }
  | _ => none }
def frameKeepsRow : OpenClaim := { program := "ytjebmlfcdnpepaadoor", sum := "503b2dd195d9999658dc2ad949b0f24e21990dd42903890bc3cb43815883602d", func := "fletch/fletchlaw06.FrameKeeps", spec := "frameKeeps", unfollowed := true, recurses := true, named := ["fletch/crc.half"], apart := false, laid := [("fletch/crc.half", laid_fletch_crc_half)] }
def FrameKeepsSaid : Prop := frameKeepsRow.holds Tryd.pinned (OpenSpec.ofChange frameKeepsSpec)

/-- ITS FALSE NEIGHBOUR: 'it returns false'. Refute it at one input. -/
def frameKeepsWrong : ChangeSpec := { name := "frameKeeps", fn := fun _ => fun
  | [d] => { results := [.lit (.bool false)], args := [d] }
  | _ => none }
def FrameKeepsWrongFalsely : Prop := frameKeepsRow.holds Tryd.pinned (OpenSpec.ofChange frameKeepsWrong)

/-- 'fletchlaw06.FrameHeads': WHATEVER THE INPUT: true; the input reads as it did. -/
def frameHeadsSpec : ChangeSpec := { name := "frameHeads", fn := fun _ => fun
  | [d1, d2] => { results := [.lit (.bool true)], args := [d1, d2] }
  | _ => none }
def frameHeadsRow : OpenClaim := { program := "ytjebmlfcdnpepaadoor", sum := "503b2dd195d9999658dc2ad949b0f24e21990dd42903890bc3cb43815883602d", func := "fletch/fletchlaw06.FrameHeads", spec := "frameHeads", unfollowed := true, recurses := true, named := ["fletch/crc.half"], apart := false, laid := [("fletch/crc.half", laid_fletch_crc_half)] }
def FrameHeadsSaid : Prop := frameHeadsRow.holds Tryd.pinned (OpenSpec.ofChange frameHeadsSpec)

/-- ITS FALSE NEIGHBOUR: 'it returns false'. Refute it at one input. -/
def frameHeadsWrong : ChangeSpec := { name := "frameHeads", fn := fun _ => fun
  | [d1, d2] => { results := [.lit (.bool false)], args := [d1, d2] }
  | _ => none }
def FrameHeadsWrongFalsely : Prop := frameHeadsRow.holds Tryd.pinned (OpenSpec.ofChange frameHeadsWrong)

/-- 'fletchlaw06.FrameTells': WHATEVER THE INPUT: true; the input reads as it did. -/
def frameTellsSpec : ChangeSpec := { name := "frameTells", fn := fun _ => fun
  | [d1, d2, d3] => { results := [.lit (.bool true)], args := [d1, d2, d3] }
  | _ => none }
def frameTellsRow : OpenClaim := { program := "ytjebmlfcdnpepaadoor", sum := "503b2dd195d9999658dc2ad949b0f24e21990dd42903890bc3cb43815883602d", func := "fletch/fletchlaw06.FrameTells", spec := "frameTells", unfollowed := true, recurses := true, named := ["fletch/crc.half"], apart := false, laid := [("fletch/crc.half", laid_fletch_crc_half)] }
def FrameTellsSaid : Prop := frameTellsRow.holds Tryd.pinned (OpenSpec.ofChange frameTellsSpec)

/-- ITS FALSE NEIGHBOUR: 'it returns false'. Refute it at one input. -/
def frameTellsWrong : ChangeSpec := { name := "frameTells", fn := fun _ => fun
  | [d1, d2, d3] => { results := [.lit (.bool false)], args := [d1, d2, d3] }
  | _ => none }
def FrameTellsWrongFalsely : Prop := frameTellsRow.holds Tryd.pinned (OpenSpec.ofChange frameTellsWrong)

/- THE SECOND FORM. 'bulk': how many values and letters a reading holds, each counted each time it is reached (what is shared counts as often as it is met; a slice's spare places count too). A statement '..UptoSaid' is the law's where the arguments, and the package variables that the reading takes, are together of bulk at most 1048576: NARROWER than '..Said'. Prove '..Said' where nothing that the law and all that it calls make is longer than what came in: it says more and counts as full. Else prove '..UptoSaid'. A law counts once. -/
mutual
def uptoBulk {H : Type} : DataW H → Nat
  | .lit (.string bytes) => bytes.length + 1
  | .lit _ => 1
  | .nil => 1
  | .ptr d => uptoBulk d + 1
  | .slice elems spare => uptoBulkAll elems + uptoBulkAll spare + 1
  | .agg parts => uptoBulkAll parts + 1
  | .iface _ d => uptoBulk d + 1
  | .map entries => uptoBulkEntries entries + 1
  | .held _ => 1
def uptoBulkAll {H : Type} : List (DataW H) → Nat
  | [] => 0
  | d :: r => uptoBulk d + uptoBulkAll r
def uptoBulkEntries {H : Type} : List (Lit × DataW H) → Nat
  | [] => 0
  | x :: r => uptoBulkEntry x + uptoBulkEntries r
def uptoBulkEntry {H : Type} : Lit × DataW H → Nat
  | (.string bytes, d) => bytes.length + uptoBulk d + 1
  | (_, d) => uptoBulk d + 1
 end
def uptoSmall : (H : Type) → List (DataW H) → Bool := fun _ ds => decide (uptoBulkAll ds ≤ 1048576)
def OpenSpec.upto (s : _root_.Go.ChangeSpec) : _root_.Go.OpenSpec := { _root_.Go.OpenSpec.ofChange s with cond := some uptoSmall }

/-- 'fletchlaw06.FrameMakes', WHERE WHAT IT READS IS OF BULK AT MOST 1048576: true; the input reads as it did. -/
def frameMakesUptoRow : OpenClaim := { program := "ytjebmlfcdnpepaadoor", sum := "503b2dd195d9999658dc2ad949b0f24e21990dd42903890bc3cb43815883602d", func := "fletch/fletchlaw06.FrameMakes", spec := "frameMakes", unfollowed := true, recurses := true, named := ["fletch/crc.half"], apart := false, laid := [("fletch/crc.half", laid_fletch_crc_half)], narrowed := true }
def FrameMakesUptoSaid : Prop := frameMakesUptoRow.holds Tryd.pinned (OpenSpec.upto frameMakesSpec)

/-- 'fletchlaw06.FrameReads', WHERE WHAT IT READS IS OF BULK AT MOST 1048576: true; the input reads as it did. -/
def frameReadsUptoRow : OpenClaim := { program := "ytjebmlfcdnpepaadoor", sum := "503b2dd195d9999658dc2ad949b0f24e21990dd42903890bc3cb43815883602d", func := "fletch/fletchlaw06.FrameReads", spec := "frameReads", unfollowed := true, recurses := true, named := ["fletch/crc.half"], apart := false, laid := [("fletch/crc.half", laid_fletch_crc_half)], narrowed := true }
def FrameReadsUptoSaid : Prop := frameReadsUptoRow.holds Tryd.pinned (OpenSpec.upto frameReadsSpec)

/-- 'fletchlaw06.FrameChain', WHERE WHAT IT READS IS OF BULK AT MOST 1048576: true; the input reads as it did. -/
def frameChainUptoRow : OpenClaim := { program := "ytjebmlfcdnpepaadoor", sum := "503b2dd195d9999658dc2ad949b0f24e21990dd42903890bc3cb43815883602d", func := "fletch/fletchlaw06.FrameChain", spec := "frameChain", unfollowed := true, recurses := true, named := ["fletch/crc.half"], apart := false, laid := [("fletch/crc.half", laid_fletch_crc_half)], narrowed := true }
def FrameChainUptoSaid : Prop := frameChainUptoRow.holds Tryd.pinned (OpenSpec.upto frameChainSpec)

/-- 'fletchlaw06.FrameKeeps', WHERE WHAT IT READS IS OF BULK AT MOST 1048576: true; the input reads as it did. -/
def frameKeepsUptoRow : OpenClaim := { program := "ytjebmlfcdnpepaadoor", sum := "503b2dd195d9999658dc2ad949b0f24e21990dd42903890bc3cb43815883602d", func := "fletch/fletchlaw06.FrameKeeps", spec := "frameKeeps", unfollowed := true, recurses := true, named := ["fletch/crc.half"], apart := false, laid := [("fletch/crc.half", laid_fletch_crc_half)], narrowed := true }
def FrameKeepsUptoSaid : Prop := frameKeepsUptoRow.holds Tryd.pinned (OpenSpec.upto frameKeepsSpec)

/-- 'fletchlaw06.FrameHeads', WHERE WHAT IT READS IS OF BULK AT MOST 1048576: true; the input reads as it did. -/
def frameHeadsUptoRow : OpenClaim := { program := "ytjebmlfcdnpepaadoor", sum := "503b2dd195d9999658dc2ad949b0f24e21990dd42903890bc3cb43815883602d", func := "fletch/fletchlaw06.FrameHeads", spec := "frameHeads", unfollowed := true, recurses := true, named := ["fletch/crc.half"], apart := false, laid := [("fletch/crc.half", laid_fletch_crc_half)], narrowed := true }
def FrameHeadsUptoSaid : Prop := frameHeadsUptoRow.holds Tryd.pinned (OpenSpec.upto frameHeadsSpec)

/-- 'fletchlaw06.FrameTells', WHERE WHAT IT READS IS OF BULK AT MOST 1048576: true; the input reads as it did. -/
def frameTellsUptoRow : OpenClaim := { program := "ytjebmlfcdnpepaadoor", sum := "503b2dd195d9999658dc2ad949b0f24e21990dd42903890bc3cb43815883602d", func := "fletch/fletchlaw06.FrameTells", spec := "frameTells", unfollowed := true, recurses := true, named := ["fletch/crc.half"], apart := false, laid := [("fletch/crc.half", laid_fletch_crc_half)], narrowed := true }
def FrameTellsUptoSaid : Prop := frameTellsUptoRow.holds Tryd.pinned (OpenSpec.upto frameTellsSpec)

end Rows
end Go.Proofs.YtjebmlfcdnpepaaDoor
