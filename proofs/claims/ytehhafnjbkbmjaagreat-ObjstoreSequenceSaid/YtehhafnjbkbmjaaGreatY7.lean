/- Rewrite, Append, Open, lives. -/
import Derived.Test.YtehhafnjbkbmjaaGreatY6
import Derived.Deep.RegionHeld3
import Derived.Lib.SlBytesConst
import Derived.Test.YtehhafnjbkbmjaaGreatY4
/- commitlog: the steps of Rewrite, each a closure. -/
namespace Go.Proofs.YtehhafnjbkbmjaaGreat.Disk
open Go Go.RowKit Go.Proofs.YtehhafnjbkbmjaaGreatW.PrintWords Go.Proofs.YtehhafnjbkbmjaaGreatW.PrintLast Go.Proofs.YtehhafnjbkbmjaaGreatW.PrintMore Go.Proofs.YtehhafnjbkbmjaaGreat.PCommitlogSequence
section
variable (w : World) (F : Nat → Prop) (d : Nat) (L : Lay) (S : PS) (B : Nat) (b0 b1 b2 : Nat) (t n : ByteArray)
end
end Go.Proofs.YtehhafnjbkbmjaaGreat.Disk

/- commitlog: what Rewrite, Append and Open do to a disk, plain; the steps of Rewrite in a row. -/
namespace Go.Proofs.YtehhafnjbkbmjaaGreat.Disk
open Go Go.RowKit Go.Proofs.YtehhafnjbkbmjaaGreatW.PrintWords Go.Proofs.YtehhafnjbkbmjaaGreatW.PrintLast Go.Proofs.YtehhafnjbkbmjaaGreatW.PrintMore Go.Proofs.YtehhafnjbkbmjaaGreat.PCommitlogSequence
end Go.Proofs.YtehhafnjbkbmjaaGreat.Disk

/- commitlog: Rewrite, the walk. -/
namespace Go.Proofs.YtehhafnjbkbmjaaGreat.Disk
open Go Go.RowKit Go.Proofs.YtehhafnjbkbmjaaGreatW.PrintWords Go.Proofs.YtehhafnjbkbmjaaGreatW.PrintLast Go.Proofs.YtehhafnjbkbmjaaGreatW.PrintMore Go.Proofs.YtehhafnjbkbmjaaGreat.PCommitlogSequence
end Go.Proofs.YtehhafnjbkbmjaaGreat.Disk

/- commitlog: Append and Open. -/
namespace Go.Proofs.YtehhafnjbkbmjaaGreat.Disk
open Go Go.RowKit Go.Proofs.YtehhafnjbkbmjaaGreatW.PrintWords Go.Proofs.YtehhafnjbkbmjaaGreatW.PrintLast Go.Proofs.YtehhafnjbkbmjaaGreatW.PrintMore Go.Proofs.YtehhafnjbkbmjaaGreat.PCommitlogSequence
end Go.Proofs.YtehhafnjbkbmjaaGreat.Disk

/- commitlog: Open. -/
namespace Go.Proofs.YtehhafnjbkbmjaaGreat.Disk
open Go Go.RowKit Go.Proofs.YtehhafnjbkbmjaaGreatW.PrintWords Go.Proofs.YtehhafnjbkbmjaaGreatW.PrintLast Go.Proofs.YtehhafnjbkbmjaaGreatW.PrintMore Go.Proofs.YtehhafnjbkbmjaaGreat.PCommitlogSequence
end Go.Proofs.YtehhafnjbkbmjaaGreat.Disk

/- commitlog: lives, the chapter's examples, plain. -/
namespace Go.Proofs.YtehhafnjbkbmjaaGreat.Disk
open Go Go.RowKit Go.Proofs.YtehhafnjbkbmjaaGreatW.PrintWords Go.Proofs.YtehhafnjbkbmjaaGreatW.PrintLast Go.Proofs.YtehhafnjbkbmjaaGreatW.PrintMore Go.Proofs.YtehhafnjbkbmjaaGreat.PCommitlogSequence
end Go.Proofs.YtehhafnjbkbmjaaGreat.Disk

/- commitlog: lives, the walk. -/
namespace Go.Proofs.YtehhafnjbkbmjaaGreat.Disk
open Go Go.RowKit Go.Proofs.YtehhafnjbkbmjaaGreatW.PrintWords Go.Proofs.YtehhafnjbkbmjaaGreatW.PrintLast Go.Proofs.YtehhafnjbkbmjaaGreatW.PrintMore Go.Proofs.YtehhafnjbkbmjaaGreat.PCommitlogSequence
section
variable (w : World) (F : Nat → Prop) (d : Nat) (L : Lay)
end
end Go.Proofs.YtehhafnjbkbmjaaGreat.Disk

/- What is read out of the arguments of a law: entries. -/
namespace Go.Proofs.YtehhafnjbkbmjaaGreat.Disk
open Go Go.RowKit Go.Proofs.YtehhafnjbkbmjaaGreatW.PrintWords Go.Proofs.YtehhafnjbkbmjaaGreatW.PrintLast Go.Proofs.YtehhafnjbkbmjaaGreatW.PrintMore Go.Proofs.YtehhafnjbkbmjaaGreat.PCommitlogSequence
open Go.ChangeShapes Go.WideShapes Go.Deep
set_option maxRecDepth 100000
instance : Inhabited LE := ⟨zLE⟩
end Go.Proofs.YtehhafnjbkbmjaaGreat.Disk

/- commitlog: what is encoded decodes as it was, plain. -/
namespace Go.Proofs.YtehhafnjbkbmjaaGreat.Disk
open Go Go.RowKit Go.Proofs.YtehhafnjbkbmjaaGreatW.PrintWords Go.Proofs.YtehhafnjbkbmjaaGreatW.PrintLast Go.Proofs.YtehhafnjbkbmjaaGreatW.PrintMore Go.Proofs.YtehhafnjbkbmjaaGreat.PCommitlogSequence
end Go.Proofs.YtehhafnjbkbmjaaGreat.Disk

/- commitlog: what decodes was encoded so, plain. -/
namespace Go.Proofs.YtehhafnjbkbmjaaGreat.Disk
open Go Go.RowKit Go.Proofs.YtehhafnjbkbmjaaGreatW.PrintWords Go.Proofs.YtehhafnjbkbmjaaGreatW.PrintLast Go.Proofs.YtehhafnjbkbmjaaGreatW.PrintMore Go.Proofs.YtehhafnjbkbmjaaGreat.PCommitlogSequence
end Go.Proofs.YtehhafnjbkbmjaaGreat.Disk
