/-
  Disks behind a loss of power: the reference's DiskCut. Printed by gen/cuts.py.
-/
import Derived.Test.YtdingkbggjehoaaCutS1
import Derived.Test.YtdingkbggjehoaaCutS2
import Derived.Test.YtdingkbggjehoaaCutS3
import Derived.Deep.RegionHeld3
import Derived.StillTailTactics
set_option linter.unusedVariables false
set_option linter.unusedSimpArgs false
namespace Go.Proofs.Ytdingkbggjehoaa
open Go.ChangeShapes Go.WideShapes Go.ChangeAt Go.RowKit

theorem specDiskCut_any (d : Disk) (us0 : List Value) (fp : List Nat) (m : Int) (keep : List Int) (A : Option Addr) (n c : Nat) (fk : List Nat) (w : World) (h : OwC w d.cells us0 fp) (hf : Lt fp w.heap.size) (hbk : d.bulk ≤ 1048576) (hm : (Lit.int .i64 m).wf = true)
    (hk : Ow w (.s 1 keep.length (keep.flatMap intC)) (.slice A n c) fk) (hfk : Lt fk w.heap.size) (hsz : keep.length ≤ 1048576) :
    Calls Try.prog 62 #[.agg us0.toArray, .int .i64 m, .slice A n c] w (CutRet (d.cutOf m keep) w) := by
  by_cases h1 : m < 0
  · exact specDiskCut_1 d us0 fp m keep A n c fk w h hf hbk hm hk hfk hsz h1
  by_cases h2 : (d.moves.length : Int) < m
  · exact specDiskCut_2 d us0 fp m keep A n c fk w h hf hbk hm hk hfk hsz ⟨h1, h2⟩
  · exact specDiskCut_3 d us0 fp m keep A n c fk w h hf hbk hm hk hfk hsz ⟨h1, h2⟩
end Go.Proofs.Ytdingkbggjehoaa
