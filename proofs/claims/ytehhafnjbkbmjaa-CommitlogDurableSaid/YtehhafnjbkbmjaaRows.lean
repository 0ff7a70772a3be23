/-
  No cell of these rows narrows 'for every input' (looked for: loops, veiled, ifaces, maps, wideKeys, modest, calm, conditions, laid).
  DERIVED. THE GIVEN ROWS OF THIS SEAT. 8 by the template 'for every input the law returns true; each argument reads behind the call as it read before'; 0 by the template 'total and deterministic' (their statements: YtehhafnjbkbmjaaTotals.lean).
  GIVEN WITH THE SEED: the statements are not yours to turn. If you find one false, say at which input.
  Laid BY PROGRAM, IN A SANDBOX (cutbox-rows.mjs): the forced cells as the released guide's own fill.sh prints them over the translation c68f1b5269b105e1… (all of the seat's roots in one cut). By AI agents, Wed Nov 11 2026. No macro, syntax, notation, axiom, sorry.
-/
import Derived.Test.YtehhafnjbkbmjaaChecked
import GoSem.Claim
import GoSem.ClaimJoined
import GoSem.ClaimMapViews
import Derived.JoinedTies
import Derived.KernelRfl
namespace Go.Proofs.Ytehhafnjbkbmjaa
/- THE CELL 'sum', in the pinned program and in every row, IS THE sha256 OF THE DUMP (.gsa) THAT YtehhafnjbkbmjaaProg.lean LOADS. Nothing in Lean hashes anything: it is a label: what it is worth is what the hold of that sum in a sandbox is worth. -/
noncomputable def Try.pinned : Pinned := { name := "ytehhafnjbkbmjaa", sum := "c68f1b5269b105e1cf5bad7d7d189e4f1b0799600ee2ae48cd8a909186604e88", checked := Try.checked }
namespace Rows
def none {H : Type} : Left H := { results := [], args := [] }

/-- 'laminalaw21.ObjstoreAtomic': WHATEVER THE INPUT: true; the input reads as it did. -/
def objstoreAtomicSpec : ChangeSpec := { name := "objstoreAtomic", fn := fun _ => fun
  | [d1, d2, d3, d4, d5] => { results := [.lit (.bool true)], args := [d1, d2, d3, d4, d5] }
  | _ => none }
def objstoreAtomicRow : OpenClaim := { program := "ytehhafnjbkbmjaa", sum := "c68f1b5269b105e1cf5bad7d7d189e4f1b0799600ee2ae48cd8a909186604e88", func := "lamina/laminalaw21.ObjstoreAtomic", spec := "objstoreAtomic", unfollowed := true, recurses := true, apart := false }
def ObjstoreAtomicSaid : Prop := objstoreAtomicRow.holds Try.pinned (OpenSpec.ofChange objstoreAtomicSpec)

/-- ITS FALSE NEIGHBOUR: 'it returns false'. Refute it at one input. -/
def objstoreAtomicWrong : ChangeSpec := { name := "objstoreAtomic", fn := fun _ => fun
  | [d1, d2, d3, d4, d5] => { results := [.lit (.bool false)], args := [d1, d2, d3, d4, d5] }
  | _ => none }
def ObjstoreAtomicWrongFalsely : Prop := objstoreAtomicRow.holds Try.pinned (OpenSpec.ofChange objstoreAtomicWrong)

/-- 'laminalaw21.ObjstoreKeeps': WHATEVER THE INPUT: true; the input reads as it did. -/
def objstoreKeepsSpec : ChangeSpec := { name := "objstoreKeeps", fn := fun _ => fun
  | [d1, d2] => { results := [.lit (.bool true)], args := [d1, d2] }
  | _ => none }
def objstoreKeepsRow : OpenClaim := { program := "ytehhafnjbkbmjaa", sum := "c68f1b5269b105e1cf5bad7d7d189e4f1b0799600ee2ae48cd8a909186604e88", func := "lamina/laminalaw21.ObjstoreKeeps", spec := "objstoreKeeps", unfollowed := true, recurses := true, apart := false }
def ObjstoreKeepsSaid : Prop := objstoreKeepsRow.holds Try.pinned (OpenSpec.ofChange objstoreKeepsSpec)

/-- ITS FALSE NEIGHBOUR: 'it returns false'. Refute it at one input. -/
def objstoreKeepsWrong : ChangeSpec := { name := "objstoreKeeps", fn := fun _ => fun
  | [d1, d2] => { results := [.lit (.bool false)], args := [d1, d2] }
  | _ => none }
def ObjstoreKeepsWrongFalsely : Prop := objstoreKeepsRow.holds Try.pinned (OpenSpec.ofChange objstoreKeepsWrong)

/-- 'laminalaw21.ObjstoreCorrupt': WHATEVER THE INPUT: true; the input reads as it did. -/
def objstoreCorruptSpec : ChangeSpec := { name := "objstoreCorrupt", fn := fun _ => fun
  | [d1, d2] => { results := [.lit (.bool true)], args := [d1, d2] }
  | _ => none }
def objstoreCorruptRow : OpenClaim := { program := "ytehhafnjbkbmjaa", sum := "c68f1b5269b105e1cf5bad7d7d189e4f1b0799600ee2ae48cd8a909186604e88", func := "lamina/laminalaw21.ObjstoreCorrupt", spec := "objstoreCorrupt", unfollowed := true, recurses := true, apart := false }
def ObjstoreCorruptSaid : Prop := objstoreCorruptRow.holds Try.pinned (OpenSpec.ofChange objstoreCorruptSpec)

/-- ITS FALSE NEIGHBOUR: 'it returns false'. Refute it at one input. -/
def objstoreCorruptWrong : ChangeSpec := { name := "objstoreCorrupt", fn := fun _ => fun
  | [d1, d2] => { results := [.lit (.bool false)], args := [d1, d2] }
  | _ => none }
def ObjstoreCorruptWrongFalsely : Prop := objstoreCorruptRow.holds Try.pinned (OpenSpec.ofChange objstoreCorruptWrong)

/-- 'laminalaw24.CommitlogRecords': WHATEVER THE INPUT: true; the input reads as it did. -/
def commitlogRecordsSpec : ChangeSpec := { name := "commitlogRecords", fn := fun _ => fun
  | [d1, d2, d3] => { results := [.lit (.bool true)], args := [d1, d2, d3] }
  | _ => none }
def commitlogRecordsRow : OpenClaim := { program := "ytehhafnjbkbmjaa", sum := "c68f1b5269b105e1cf5bad7d7d189e4f1b0799600ee2ae48cd8a909186604e88", func := "lamina/laminalaw24.CommitlogRecords", spec := "commitlogRecords", unfollowed := true, recurses := true, apart := false }
def CommitlogRecordsSaid : Prop := commitlogRecordsRow.holds Try.pinned (OpenSpec.ofChange commitlogRecordsSpec)

/-- ITS FALSE NEIGHBOUR: 'it returns false'. Refute it at one input. -/
def commitlogRecordsWrong : ChangeSpec := { name := "commitlogRecords", fn := fun _ => fun
  | [d1, d2, d3] => { results := [.lit (.bool false)], args := [d1, d2, d3] }
  | _ => none }
def CommitlogRecordsWrongFalsely : Prop := commitlogRecordsRow.holds Try.pinned (OpenSpec.ofChange commitlogRecordsWrong)

/-- 'laminalaw24.CommitlogScan': WHATEVER THE INPUT: true; the input reads as it did. -/
def commitlogScanSpec : ChangeSpec := { name := "commitlogScan", fn := fun _ => fun
  | [d] => { results := [.lit (.bool true)], args := [d] }
  | _ => none }
def commitlogScanRow : OpenClaim := { program := "ytehhafnjbkbmjaa", sum := "c68f1b5269b105e1cf5bad7d7d189e4f1b0799600ee2ae48cd8a909186604e88", func := "lamina/laminalaw24.CommitlogScan", spec := "commitlogScan", unfollowed := true, recurses := true, apart := false }
def CommitlogScanSaid : Prop := commitlogScanRow.holds Try.pinned (OpenSpec.ofChange commitlogScanSpec)

/-- ITS FALSE NEIGHBOUR: 'it returns false'. Refute it at one input. -/
def commitlogScanWrong : ChangeSpec := { name := "commitlogScan", fn := fun _ => fun
  | [d] => { results := [.lit (.bool false)], args := [d] }
  | _ => none }
def CommitlogScanWrongFalsely : Prop := commitlogScanRow.holds Try.pinned (OpenSpec.ofChange commitlogScanWrong)

/-- 'laminalaw24.CommitlogPrefix': WHATEVER THE INPUT: true; the input reads as it did. -/
def commitlogPrefixSpec : ChangeSpec := { name := "commitlogPrefix", fn := fun _ => fun
  | [d1, d2] => { results := [.lit (.bool true)], args := [d1, d2] }
  | _ => none }
def commitlogPrefixRow : OpenClaim := { program := "ytehhafnjbkbmjaa", sum := "c68f1b5269b105e1cf5bad7d7d189e4f1b0799600ee2ae48cd8a909186604e88", func := "lamina/laminalaw24.CommitlogPrefix", spec := "commitlogPrefix", unfollowed := true, recurses := true, apart := false }
def CommitlogPrefixSaid : Prop := commitlogPrefixRow.holds Try.pinned (OpenSpec.ofChange commitlogPrefixSpec)

/-- ITS FALSE NEIGHBOUR: 'it returns false'. Refute it at one input. -/
def commitlogPrefixWrong : ChangeSpec := { name := "commitlogPrefix", fn := fun _ => fun
  | [d1, d2] => { results := [.lit (.bool false)], args := [d1, d2] }
  | _ => none }
def CommitlogPrefixWrongFalsely : Prop := commitlogPrefixRow.holds Try.pinned (OpenSpec.ofChange commitlogPrefixWrong)

/-- 'laminalaw24.CommitlogDamage': WHATEVER THE INPUT: true; the input reads as it did. -/
def commitlogDamageSpec : ChangeSpec := { name := "commitlogDamage", fn := fun _ => fun
  | [d1, d2, d3] => { results := [.lit (.bool true)], args := [d1, d2, d3] }
  | _ => none }
def commitlogDamageRow : OpenClaim := { program := "ytehhafnjbkbmjaa", sum := "c68f1b5269b105e1cf5bad7d7d189e4f1b0799600ee2ae48cd8a909186604e88", func := "lamina/laminalaw24.CommitlogDamage", spec := "commitlogDamage", unfollowed := true, recurses := true, apart := false }
def CommitlogDamageSaid : Prop := commitlogDamageRow.holds Try.pinned (OpenSpec.ofChange commitlogDamageSpec)

/-- ITS FALSE NEIGHBOUR: 'it returns false'. Refute it at one input. -/
def commitlogDamageWrong : ChangeSpec := { name := "commitlogDamage", fn := fun _ => fun
  | [d1, d2, d3] => { results := [.lit (.bool false)], args := [d1, d2, d3] }
  | _ => none }
def CommitlogDamageWrongFalsely : Prop := commitlogDamageRow.holds Try.pinned (OpenSpec.ofChange commitlogDamageWrong)

/-- 'laminalaw24.CommitlogDurable': WHATEVER THE INPUT: true; the input reads as it did. -/
def commitlogDurableSpec : ChangeSpec := { name := "commitlogDurable", fn := fun _ => fun
  | [d1, d2, d3, d4] => { results := [.lit (.bool true)], args := [d1, d2, d3, d4] }
  | _ => none }
def commitlogDurableRow : OpenClaim := { program := "ytehhafnjbkbmjaa", sum := "c68f1b5269b105e1cf5bad7d7d189e4f1b0799600ee2ae48cd8a909186604e88", func := "lamina/laminalaw24.CommitlogDurable", spec := "commitlogDurable", unfollowed := true, recurses := true, apart := false }
def CommitlogDurableSaid : Prop := commitlogDurableRow.holds Try.pinned (OpenSpec.ofChange commitlogDurableSpec)

/-- ITS FALSE NEIGHBOUR: 'it returns false'. Refute it at one input. -/
def commitlogDurableWrong : ChangeSpec := { name := "commitlogDurable", fn := fun _ => fun
  | [d1, d2, d3, d4] => { results := [.lit (.bool false)], args := [d1, d2, d3, d4] }
  | _ => none }
def CommitlogDurableWrongFalsely : Prop := commitlogDurableRow.holds Try.pinned (OpenSpec.ofChange commitlogDurableWrong)

/- THE SECOND FORM. 'bulk': how many values and letters a reading holds, each counted each time it is reached (what is shared counts as often as it is met; a slice's spare places count too). A statement '..UptoSaid' is the law's where the arguments, and the package variables that the reading takes, are together of bulk at most 1048576: NARROWER than '..Said'. Prove '..Said' where nothing that the law and all that it calls make is longer than what came in: it says more and counts as full. Else prove '..UptoSaid'. A law counts once. -/
mutual
def uptoBulk {H : Type} : DataW H → Nat
  | .lit (.string bytes) => bytes.length + 1
  | .lit _ => 1
  | .nil => 1
  | .ptr d => uptoBulk d + 1
  | .slice elems spare => uptoBulkAll elems + uptoBulkAll spare + 1
  | .agg parts => uptoBulkAll parts + 1
  | .iface _ d => uptoBulk d + 1
  | .map entries => uptoBulkEntries entries + 1
  | .held _ => 1
def uptoBulkAll {H : Type} : List (DataW H) → Nat
  | [] => 0
  | d :: r => uptoBulk d + uptoBulkAll r
def uptoBulkEntries {H : Type} : List (Lit × DataW H) → Nat
  | [] => 0
  | x :: r => uptoBulkEntry x + uptoBulkEntries r
def uptoBulkEntry {H : Type} : Lit × DataW H → Nat
  | (.string bytes, d) => bytes.length + uptoBulk d + 1
  | (_, d) => uptoBulk d + 1
 end
def uptoSmall : (H : Type) → List (DataW H) → Bool := fun _ ds => decide (uptoBulkAll ds ≤ 1048576)
def OpenSpec.upto (s : _root_.Go.ChangeSpec) : _root_.Go.OpenSpec := { _root_.Go.OpenSpec.ofChange s with cond := some uptoSmall }

/-- 'laminalaw21.ObjstoreAtomic', WHERE WHAT IT READS IS OF BULK AT MOST 1048576: true; the input reads as it did. -/
def objstoreAtomicUptoRow : OpenClaim := { program := "ytehhafnjbkbmjaa", sum := "c68f1b5269b105e1cf5bad7d7d189e4f1b0799600ee2ae48cd8a909186604e88", func := "lamina/laminalaw21.ObjstoreAtomic", spec := "objstoreAtomic", unfollowed := true, recurses := true, apart := false, narrowed := true }
def ObjstoreAtomicUptoSaid : Prop := objstoreAtomicUptoRow.holds Try.pinned (OpenSpec.upto objstoreAtomicSpec)

/-- 'laminalaw21.ObjstoreKeeps', WHERE WHAT IT READS IS OF BULK AT MOST 1048576: true; the input reads as it did. -/
def objstoreKeepsUptoRow : OpenClaim := { program := "ytehhafnjbkbmjaa", sum := "c68f1b5269b105e1cf5bad7d7d189e4f1b0799600ee2ae48cd8a909186604e88", func := "lamina/laminalaw21.ObjstoreKeeps", spec := "objstoreKeeps", unfollowed := true, recurses := true, apart := false, narrowed := true }
def ObjstoreKeepsUptoSaid : Prop := objstoreKeepsUptoRow.holds Try.pinned (OpenSpec.upto objstoreKeepsSpec)

/-- 'laminalaw21.ObjstoreCorrupt', WHERE WHAT IT READS IS OF BULK AT MOST 1048576: true; the input reads as it did. -/
def objstoreCorruptUptoRow : OpenClaim := { program := "ytehhafnjbkbmjaa", sum := "c68f1b5269b105e1cf5bad7d7d189e4f1b0799600ee2ae48cd8a909186604e88", func := "lamina/laminalaw21.ObjstoreCorrupt", spec := "objstoreCorrupt", unfollowed := true, recurses := true, apart := false, narrowed := true }
def ObjstoreCorruptUptoSaid : Prop := objstoreCorruptUptoRow.holds Try.pinned (OpenSpec.upto objstoreCorruptSpec)

/-- 'laminalaw24.CommitlogRecords', WHERE WHAT IT READS IS OF BULK AT MOST 1048576: true; the input reads as it did. -/
def commitlogRecordsUptoRow : OpenClaim := { program := "ytehhafnjbkbmjaa", sum := "c68f1b5269b105e1cf5bad7d7d189e4f1b0799600ee2ae48cd8a909186604e88", func := "lamina/laminalaw24.CommitlogRecords", spec := "commitlogRecords", unfollowed := true, recurses := true, apart := false, narrowed := true }
def CommitlogRecordsUptoSaid : Prop := commitlogRecordsUptoRow.holds Try.pinned (OpenSpec.upto commitlogRecordsSpec)

/-- 'laminalaw24.CommitlogScan', WHERE WHAT IT READS IS OF BULK AT MOST 1048576: true; the input reads as it did. -/
def commitlogScanUptoRow : OpenClaim := { program := "ytehhafnjbkbmjaa", sum := "c68f1b5269b105e1cf5bad7d7d189e4f1b0799600ee2ae48cd8a909186604e88", func := "lamina/laminalaw24.CommitlogScan", spec := "commitlogScan", unfollowed := true, recurses := true, apart := false, narrowed := true }
def CommitlogScanUptoSaid : Prop := commitlogScanUptoRow.holds Try.pinned (OpenSpec.upto commitlogScanSpec)

/-- 'laminalaw24.CommitlogPrefix', WHERE WHAT IT READS IS OF BULK AT MOST 1048576: true; the input reads as it did. -/
def commitlogPrefixUptoRow : OpenClaim := { program := "ytehhafnjbkbmjaa", sum := "c68f1b5269b105e1cf5bad7d7d189e4f1b0799600ee2ae48cd8a909186604e88", func := "lamina/laminalaw24.CommitlogPrefix", spec := "commitlogPrefix", unfollowed := true, recurses := true, apart := false, narrowed := true }
def CommitlogPrefixUptoSaid : Prop := commitlogPrefixUptoRow.holds Try.pinned (OpenSpec.upto commitlogPrefixSpec)

/-- 'laminalaw24.CommitlogDamage', WHERE WHAT IT READS IS OF BULK AT MOST 1048576: true; the input reads as it did. -/
def commitlogDamageUptoRow : OpenClaim := { program := "ytehhafnjbkbmjaa", sum := "c68f1b5269b105e1cf5bad7d7d189e4f1b0799600ee2ae48cd8a909186604e88", func := "lamina/laminalaw24.CommitlogDamage", spec := "commitlogDamage", unfollowed := true, recurses := true, apart := false, narrowed := true }
def CommitlogDamageUptoSaid : Prop := commitlogDamageUptoRow.holds Try.pinned (OpenSpec.upto commitlogDamageSpec)

/-- 'laminalaw24.CommitlogDurable', WHERE WHAT IT READS IS OF BULK AT MOST 1048576: true; the input reads as it did. -/
def commitlogDurableUptoRow : OpenClaim := { program := "ytehhafnjbkbmjaa", sum := "c68f1b5269b105e1cf5bad7d7d189e4f1b0799600ee2ae48cd8a909186604e88", func := "lamina/laminalaw24.CommitlogDurable", spec := "commitlogDurable", unfollowed := true, recurses := true, apart := false, narrowed := true }
def CommitlogDurableUptoSaid : Prop := commitlogDurableUptoRow.holds Try.pinned (OpenSpec.upto commitlogDurableSpec)

end Rows
end Go.Proofs.Ytehhafnjbkbmjaa
