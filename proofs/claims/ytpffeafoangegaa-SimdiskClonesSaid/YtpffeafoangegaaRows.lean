/-
  No cell of these rows narrows 'for every input' (looked for: loops, veiled, ifaces, maps, wideKeys, modest, calm, conditions, laid).
  DERIVED. THE GIVEN ROWS OF THIS SEAT. 5 by the template 'for every input the law returns true; each argument reads behind the call as it read before'; 0 by the template 'total and deterministic' (their statements: YtpffeafoangegaaTotals.lean).
  GIVEN WITH THE SEED: the statements are not yours to turn. If you find one false, say at which input.
  Laid BY PROGRAM, IN A SANDBOX (cutbox-rows.mjs): the forced cells as the released guide's own fill.sh prints them over the translation 7dcf77e439eb51f2… (all of the seat's roots in one cut). By AI agents, Wed Nov 11 2026. No macro, syntax, notation, axiom, sorry.
-/
import Derived.Test.YtpffeafoangegaaChecked
import GoSem.Claim
import GoSem.ClaimJoined
import GoSem.ClaimMapViews
import Derived.JoinedTies
import Derived.KernelRfl
namespace Go.Proofs.Ytpffeafoangegaa
/- THE CELL 'sum', in the pinned program and in every row, IS THE sha256 OF THE DUMP (.gsa) THAT YtpffeafoangegaaProg.lean LOADS. Nothing in Lean hashes anything: it is a label: what it is worth is what the hold of that sum in a sandbox is worth. -/
noncomputable def Try.pinned : Pinned := { name := "ytpffeafoangegaa", sum := "7dcf77e439eb51f2dfef47edd0a5e632c35ec910e25c2c78e53c3c8bc0f39fe0", checked := Try.checked }
namespace Rows
def none {H : Type} : Left H := { results := [], args := [] }

/-- 'laminalaw20.SimdiskOperations': WHATEVER THE INPUT: true; the input reads as it did. -/
def simdiskOperationsSpec : ChangeSpec := { name := "simdiskOperations", fn := fun _ => fun
  | [d] => { results := [.lit (.bool true)], args := [d] }
  | _ => none }
def simdiskOperationsRow : OpenClaim := { program := "ytpffeafoangegaa", sum := "7dcf77e439eb51f2dfef47edd0a5e632c35ec910e25c2c78e53c3c8bc0f39fe0", func := "lamina/laminalaw20.SimdiskOperations", spec := "simdiskOperations", recurses := true, apart := false }
def SimdiskOperationsSaid : Prop := simdiskOperationsRow.holds Try.pinned (OpenSpec.ofChange simdiskOperationsSpec)

/-- ITS FALSE NEIGHBOUR: 'it returns false'. Refute it at one input. -/
def simdiskOperationsWrong : ChangeSpec := { name := "simdiskOperations", fn := fun _ => fun
  | [d] => { results := [.lit (.bool false)], args := [d] }
  | _ => none }
def SimdiskOperationsWrongFalsely : Prop := simdiskOperationsRow.holds Try.pinned (OpenSpec.ofChange simdiskOperationsWrong)

/-- 'laminalaw20.SimdiskCrash': WHATEVER THE INPUT: true; the input reads as it did. -/
def simdiskCrashSpec : ChangeSpec := { name := "simdiskCrash", fn := fun _ => fun
  | [d1, d2, d3, d4] => { results := [.lit (.bool true)], args := [d1, d2, d3, d4] }
  | _ => none }
def simdiskCrashRow : OpenClaim := { program := "ytpffeafoangegaa", sum := "7dcf77e439eb51f2dfef47edd0a5e632c35ec910e25c2c78e53c3c8bc0f39fe0", func := "lamina/laminalaw20.SimdiskCrash", spec := "simdiskCrash", recurses := true, apart := false }
def SimdiskCrashSaid : Prop := simdiskCrashRow.holds Try.pinned (OpenSpec.ofChange simdiskCrashSpec)

/-- ITS FALSE NEIGHBOUR: 'it returns false'. Refute it at one input. -/
def simdiskCrashWrong : ChangeSpec := { name := "simdiskCrash", fn := fun _ => fun
  | [d1, d2, d3, d4] => { results := [.lit (.bool false)], args := [d1, d2, d3, d4] }
  | _ => none }
def SimdiskCrashWrongFalsely : Prop := simdiskCrashRow.holds Try.pinned (OpenSpec.ofChange simdiskCrashWrong)

/-- 'laminalaw20.SimdiskDurable': WHATEVER THE INPUT: true; the input reads as it did. -/
def simdiskDurableSpec : ChangeSpec := { name := "simdiskDurable", fn := fun _ => fun
  | [d1, d2, d3, d4, d5] => { results := [.lit (.bool true)], args := [d1, d2, d3, d4, d5] }
  | _ => none }
def simdiskDurableRow : OpenClaim := { program := "ytpffeafoangegaa", sum := "7dcf77e439eb51f2dfef47edd0a5e632c35ec910e25c2c78e53c3c8bc0f39fe0", func := "lamina/laminalaw20.SimdiskDurable", spec := "simdiskDurable", recurses := true, apart := false }
def SimdiskDurableSaid : Prop := simdiskDurableRow.holds Try.pinned (OpenSpec.ofChange simdiskDurableSpec)

/-- ITS FALSE NEIGHBOUR: 'it returns false'. Refute it at one input. -/
def simdiskDurableWrong : ChangeSpec := { name := "simdiskDurable", fn := fun _ => fun
  | [d1, d2, d3, d4, d5] => { results := [.lit (.bool false)], args := [d1, d2, d3, d4, d5] }
  | _ => none }
def SimdiskDurableWrongFalsely : Prop := simdiskDurableRow.holds Try.pinned (OpenSpec.ofChange simdiskDurableWrong)

/-- 'laminalaw20.SimdiskClones': WHATEVER THE INPUT: true; the input reads as it did. -/
def simdiskClonesSpec : ChangeSpec := { name := "simdiskClones", fn := fun _ => fun
  | [d1, d2, d3, d4] => { results := [.lit (.bool true)], args := [d1, d2, d3, d4] }
  | _ => none }
def simdiskClonesRow : OpenClaim := { program := "ytpffeafoangegaa", sum := "7dcf77e439eb51f2dfef47edd0a5e632c35ec910e25c2c78e53c3c8bc0f39fe0", func := "lamina/laminalaw20.SimdiskClones", spec := "simdiskClones", unfollowed := true, recurses := true, apart := false }
def SimdiskClonesSaid : Prop := simdiskClonesRow.holds Try.pinned (OpenSpec.ofChange simdiskClonesSpec)

/-- ITS FALSE NEIGHBOUR: 'it returns false'. Refute it at one input. -/
def simdiskClonesWrong : ChangeSpec := { name := "simdiskClones", fn := fun _ => fun
  | [d1, d2, d3, d4] => { results := [.lit (.bool false)], args := [d1, d2, d3, d4] }
  | _ => none }
def SimdiskClonesWrongFalsely : Prop := simdiskClonesRow.holds Try.pinned (OpenSpec.ofChange simdiskClonesWrong)

/-- 'laminalaw20.SimdiskNil': WHATEVER THE INPUT: true; the input reads as it did. -/
def simdiskNilSpec : ChangeSpec := { name := "simdiskNil", fn := fun _ => fun
  | [d] => { results := [.lit (.bool true)], args := [d] }
  | _ => none }
def simdiskNilRow : OpenClaim := { program := "ytpffeafoangegaa", sum := "7dcf77e439eb51f2dfef47edd0a5e632c35ec910e25c2c78e53c3c8bc0f39fe0", func := "lamina/laminalaw20.SimdiskNil", spec := "simdiskNil", unfollowed := true, recurses := true, apart := false }
def SimdiskNilSaid : Prop := simdiskNilRow.holds Try.pinned (OpenSpec.ofChange simdiskNilSpec)

/-- ITS FALSE NEIGHBOUR: 'it returns false'. Refute it at one input. -/
def simdiskNilWrong : ChangeSpec := { name := "simdiskNil", fn := fun _ => fun
  | [d] => { results := [.lit (.bool false)], args := [d] }
  | _ => none }
def SimdiskNilWrongFalsely : Prop := simdiskNilRow.holds Try.pinned (OpenSpec.ofChange simdiskNilWrong)

/- THE SECOND FORM. 'bulk': how many values and letters a reading holds, each counted each time it is reached (what is shared counts as often as it is met; a slice's spare places count too). A statement '..UptoSaid' is the law's where the arguments, and the package variables that the reading takes, are together of bulk at most 1048576: NARROWER than '..Said'. Prove '..Said' where nothing that the law and all that it calls make is longer than what came in: it says more and counts as full. Else prove '..UptoSaid'. A law counts once. -/
mutual
def uptoBulk {H : Type} : DataW H → Nat
  | .lit (.string bytes) => bytes.length + 1
  | .lit _ => 1
  | .nil => 1
  | .ptr d => uptoBulk d + 1
  | .slice elems spare => uptoBulkAll elems + uptoBulkAll spare + 1
  | .agg parts => uptoBulkAll parts + 1
  | .iface _ d => uptoBulk d + 1
  | .map entries => uptoBulkEntries entries + 1
  | .held _ => 1
def uptoBulkAll {H : Type} : List (DataW H) → Nat
  | [] => 0
  | d :: r => uptoBulk d + uptoBulkAll r
def uptoBulkEntries {H : Type} : List (Lit × DataW H) → Nat
  | [] => 0
  | x :: r => uptoBulkEntry x + uptoBulkEntries r
def uptoBulkEntry {H : Type} : Lit × DataW H → Nat
  | (.string bytes, d) => bytes.length + uptoBulk d + 1
  | (_, d) => uptoBulk d + 1
 end
def uptoSmall : (H : Type) → List (DataW H) → Bool := fun _ ds => decide (uptoBulkAll ds ≤ 1048576)
def OpenSpec.upto (s : _root_.Go.ChangeSpec) : _root_.Go.OpenSpec := { _root_.Go.OpenSpec.ofChange s with cond := some uptoSmall }

/-- 'laminalaw20.SimdiskOperations', WHERE WHAT IT READS IS OF BULK AT MOST 1048576: true; the input reads as it did. -/
def simdiskOperationsUptoRow : OpenClaim := { program := "ytpffeafoangegaa", sum := "7dcf77e439eb51f2dfef47edd0a5e632c35ec910e25c2c78e53c3c8bc0f39fe0", func := "lamina/laminalaw20.SimdiskOperations", spec := "simdiskOperations", recurses := true, apart := false, narrowed := true }
def SimdiskOperationsUptoSaid : Prop := simdiskOperationsUptoRow.holds Try.pinned (OpenSpec.upto simdiskOperationsSpec)

/-- 'laminalaw20.SimdiskCrash', WHERE WHAT IT READS IS OF BULK AT MOST 1048576: true; the input reads as it did. -/
def simdiskCrashUptoRow : OpenClaim := { program := "ytpffeafoangegaa", sum := "7dcf77e439eb51f2dfef47edd0a5e632c35ec910e25c2c78e53c3c8bc0f39fe0", func := "lamina/laminalaw20.SimdiskCrash", spec := "simdiskCrash", recurses := true, apart := false, narrowed := true }
def SimdiskCrashUptoSaid : Prop := simdiskCrashUptoRow.holds Try.pinned (OpenSpec.upto simdiskCrashSpec)

/-- 'laminalaw20.SimdiskDurable', WHERE WHAT IT READS IS OF BULK AT MOST 1048576: true; the input reads as it did. -/
def simdiskDurableUptoRow : OpenClaim := { program := "ytpffeafoangegaa", sum := "7dcf77e439eb51f2dfef47edd0a5e632c35ec910e25c2c78e53c3c8bc0f39fe0", func := "lamina/laminalaw20.SimdiskDurable", spec := "simdiskDurable", recurses := true, apart := false, narrowed := true }
def SimdiskDurableUptoSaid : Prop := simdiskDurableUptoRow.holds Try.pinned (OpenSpec.upto simdiskDurableSpec)

/-- 'laminalaw20.SimdiskClones', WHERE WHAT IT READS IS OF BULK AT MOST 1048576: true; the input reads as it did. -/
def simdiskClonesUptoRow : OpenClaim := { program := "ytpffeafoangegaa", sum := "7dcf77e439eb51f2dfef47edd0a5e632c35ec910e25c2c78e53c3c8bc0f39fe0", func := "lamina/laminalaw20.SimdiskClones", spec := "simdiskClones", unfollowed := true, recurses := true, apart := false, narrowed := true }
def SimdiskClonesUptoSaid : Prop := simdiskClonesUptoRow.holds Try.pinned (OpenSpec.upto simdiskClonesSpec)

/-- 'laminalaw20.SimdiskNil', WHERE WHAT IT READS IS OF BULK AT MOST 1048576: true; the input reads as it did. -/
def simdiskNilUptoRow : OpenClaim := { program := "ytpffeafoangegaa", sum := "7dcf77e439eb51f2dfef47edd0a5e632c35ec910e25c2c78e53c3c8bc0f39fe0", func := "lamina/laminalaw20.SimdiskNil", spec := "simdiskNil", unfollowed := true, recurses := true, apart := false, narrowed := true }
def SimdiskNilUptoSaid : Prop := simdiskNilUptoRow.holds Try.pinned (OpenSpec.upto simdiskNilSpec)

end Rows
end Go.Proofs.Ytpffeafoangegaa
