/-
  What the program forces at FnTreeTop: closed facts, each by the kernel.
-/
import Derived.Test.YtnaecdoeldoipaaGreatDoorRows
import Derived.Test.YtnaecdoeldoipaaGreatDoorStr
import Derived.JoinedOf
set_option linter.unusedVariables false
namespace Go.Proofs.YtnaecdoeldoipaaGreatDoor.fnTreeTop
open Go.ChangeShapes Go.WideShapes Go.ChangeAt Go.RowKit

theorem fact1 : (Rows.fnTreeTopRow.wf (OpenSpec.ofChange Rows.fnTreeTopSpec)) = true := by kernel_rfl
theorem fact2 : (laidOutB Tryz.prog) = true := by kernel_rfl
theorem fact3 : (mapsRowed Tryz.prog) = true := by kernel_rfl
theorem fact4 : (Tryz.f3.params.all (Program.readableRec Tryz.prog ·)) = true := by kernel_rfl
theorem fact5 : (namedTie Tryz.prog Rows.fnTreeTopRow.named Rows.fnTreeTopSpec.vars) = true := by kernel_rfl
theorem fact6 : ((Rows.fnTreeTopRow.stops == [])) = true := by kernel_rfl
theorem fact7 : ((Tryz.prog.stops == [])) = true := by kernel_rfl
theorem fact8 : ((Rows.fnTreeTopRow.knobs == [])) = true := by kernel_rfl
theorem fact9 : ((Tryz.prog.stopKnobs == [])) = true := by kernel_rfl
theorem fact10 : ((Rows.fnTreeTopRow.inPlace == Tryz.prog.inPlace 3)) = true := by kernel_rfl
theorem fact11 : ((Rows.fnTreeTopRow.unfollowed == Tryz.prog.unfollowed 3)) = true := by kernel_rfl
theorem fact12 : ((Rows.fnTreeTopRow.recurses == Tryz.prog.recurses 3)) = true := by kernel_rfl
theorem fact13 : ((Rows.fnTreeTopRow.named == Tryz.prog.varsNamed 3)) = true := by kernel_rfl
theorem fact14 : ((Rows.fnTreeTopRow.maps == (Tryz.f3.params.toList ++ Rows.fnTreeTopSpec.plain.varTypes Tryz.prog).any (Program.mapsRec Tryz.prog ·))) = true := by kernel_rfl
theorem fact15 : ((Rows.fnTreeTopRow.ifaces == (Tryz.f3.params.toList ++ Rows.fnTreeTopSpec.plain.varTypes Tryz.prog).any (Program.ifacesRec Tryz.prog ·))) = true := by kernel_rfl
theorem fact16 : ((Rows.fnTreeTopRow.mapsOut == Tryz.prog.mapsAmong Tryz.f3.resultTypes.toList)) = true := by kernel_rfl
theorem fact17 : ((Rows.fnTreeTopRow.loops == (Tryz.f3.params.toList ++ Rows.fnTreeTopSpec.plain.varTypes Tryz.prog).any (Program.loopsFrom Tryz.prog ·))) = true := by kernel_rfl
theorem fact18 : ((Rows.fnTreeTopRow.wideKeys == (Tryz.f3.params.toList ++ Rows.fnTreeTopSpec.plain.varTypes Tryz.prog ++ Tryz.f3.resultTypes.toList).any (Program.wideKeysFrom Tryz.prog ·))) = true := by kernel_rfl
theorem fact19 : (Rows.fnTreeTopSpec.vars.all (Program.varReadable Tryz.prog ·)) = true := by kernel_rfl
theorem fact20 : (Tryz.f3.resultTypes.all (fun t => Tryz.prog.readableRec t && decide (t < Tryz.prog.types.size))) = true := by kernel_rfl
theorem fact21 : ((Rows.fnTreeTopRow.ifacesOut == Tryz.f3.resultTypes.toList.any (Program.ifacesRec Tryz.prog ·))) = true := by kernel_rfl
theorem fact22 : ((Rows.fnTreeTopRow.loopsOut == Tryz.f3.resultTypes.toList.any (Program.loopsFrom Tryz.prog ·))) = true := by kernel_rfl
theorem fact23 : ((Rows.fnTreeTopRow.plainKeys == Tryz.prog.plainKeys)) = true := by kernel_rfl
theorem fact24 : (Rows.fnTreeTopRow.shortTexts.isNone) = true := by kernel_rfl
theorem fact25 : (Tryz.prog.stopsHeard) = true := by kernel_rfl
theorem fact26 : (Tryz.prog.mayEnter) = true := by kernel_rfl
theorem fact27 : ((Rows.fnTreeTopRow.lifted == Tryz.prog.liftsFinal)) = true := by kernel_rfl
theorem fact28 : ((Tryz.prog.make == some Rows.fnTreeTopRow.make)) = true := by kernel_rfl
theorem fact29 : ((Rows.fnTreeTopRow.kinds == (if Rows.fnTreeTopRow.domain.isEmpty then [] else Tryz.f3.params.toList.map fun t => match Tryz.prog.underlying t with | some (.int k) => some k | _ => none))) = true := by kernel_rfl
theorem fact30 : ((Rows.fnTreeTopRow.pinned == Rows.fnTreeTopRow.pinnedBy)) = true := by kernel_rfl
theorem fact31 : ((Rows.fnTreeTopRow.veiled == (Tryz.f3.params.toList ++ Rows.fnTreeTopSpec.plain.varTypes Tryz.prog ++ Tryz.f3.resultTypes.toList).any (Program.veiledRec Tryz.prog ·))) = true := by kernel_rfl
theorem fact32 : (Rows.fnTreeTopRow.veiledFits Tryz.prog Tryz.f3.params.toList (Tryz.f3.params.toList ++ Rows.fnTreeTopSpec.plain.varTypes Tryz.prog ++ Tryz.f3.resultTypes.toList)) = true := by kernel_rfl
end Go.Proofs.YtnaecdoeldoipaaGreatDoor.fnTreeTop
