/-
  What the program forces at FnEventBack: closed facts, each by the kernel.
-/
import Derived.Test.YtnaecdoeldoipaaGreatDoorRows
import Derived.JoinedOf
import Derived.Test.YtnaecdoeldoipaaGreatDoorQRead
set_option linter.unusedVariables false
namespace Go.Proofs.YtnaecdoeldoipaaGreatDoor.fnEventBack
open Go.ChangeShapes Go.WideShapes Go.ChangeAt Go.RowKit

theorem fact1 : (Rows.fnEventBackRow.wf (OpenSpec.ofChange Rows.fnEventBackSpec)) = true := by kernel_rfl
theorem fact2 : (laidOutB Tryz.prog) = true := by kernel_rfl
theorem fact3 : (mapsRowed Tryz.prog) = true := by kernel_rfl
theorem fact4 : (Tryz.f7.params.all (Program.readableRec Tryz.prog ·)) = true := by kernel_rfl
theorem fact5 : (namedTie Tryz.prog Rows.fnEventBackRow.named Rows.fnEventBackSpec.vars) = true := by kernel_rfl
theorem fact6 : ((Rows.fnEventBackRow.stops == [])) = true := by kernel_rfl
theorem fact7 : ((Tryz.prog.stops == [])) = true := by kernel_rfl
theorem fact8 : ((Rows.fnEventBackRow.knobs == [])) = true := by kernel_rfl
theorem fact9 : ((Tryz.prog.stopKnobs == [])) = true := by kernel_rfl
theorem fact10 : ((Rows.fnEventBackRow.inPlace == Tryz.prog.inPlace 7)) = true := by kernel_rfl
theorem fact11 : ((Rows.fnEventBackRow.unfollowed == Tryz.prog.unfollowed 7)) = true := by kernel_rfl
theorem fact12 : ((Rows.fnEventBackRow.recurses == Tryz.prog.recurses 7)) = true := by kernel_rfl
theorem fact13 : ((Rows.fnEventBackRow.named == Tryz.prog.varsNamed 7)) = true := by kernel_rfl
theorem fact14 : ((Rows.fnEventBackRow.maps == (Tryz.f7.params.toList ++ Rows.fnEventBackSpec.plain.varTypes Tryz.prog).any (Program.mapsRec Tryz.prog ·))) = true := by kernel_rfl
theorem fact15 : ((Rows.fnEventBackRow.ifaces == (Tryz.f7.params.toList ++ Rows.fnEventBackSpec.plain.varTypes Tryz.prog).any (Program.ifacesRec Tryz.prog ·))) = true := by kernel_rfl
theorem fact16 : ((Rows.fnEventBackRow.mapsOut == Tryz.prog.mapsAmong Tryz.f7.resultTypes.toList)) = true := by kernel_rfl
theorem fact17 : ((Rows.fnEventBackRow.loops == (Tryz.f7.params.toList ++ Rows.fnEventBackSpec.plain.varTypes Tryz.prog).any (Program.loopsFrom Tryz.prog ·))) = true := by kernel_rfl
theorem fact18 : ((Rows.fnEventBackRow.wideKeys == (Tryz.f7.params.toList ++ Rows.fnEventBackSpec.plain.varTypes Tryz.prog ++ Tryz.f7.resultTypes.toList).any (Program.wideKeysFrom Tryz.prog ·))) = true := by kernel_rfl
theorem fact19 : (Rows.fnEventBackSpec.vars.all (Program.varReadable Tryz.prog ·)) = true := by kernel_rfl
theorem fact20 : (Tryz.f7.resultTypes.all (fun t => Tryz.prog.readableRec t && decide (t < Tryz.prog.types.size))) = true := by kernel_rfl
theorem fact21 : ((Rows.fnEventBackRow.ifacesOut == Tryz.f7.resultTypes.toList.any (Program.ifacesRec Tryz.prog ·))) = true := by kernel_rfl
theorem fact22 : ((Rows.fnEventBackRow.loopsOut == Tryz.f7.resultTypes.toList.any (Program.loopsFrom Tryz.prog ·))) = true := by kernel_rfl
theorem fact23 : ((Rows.fnEventBackRow.plainKeys == Tryz.prog.plainKeys)) = true := by kernel_rfl
theorem fact24 : (Rows.fnEventBackRow.shortTexts.isNone) = true := by kernel_rfl
theorem fact25 : (Tryz.prog.stopsHeard) = true := by kernel_rfl
theorem fact26 : (Tryz.prog.mayEnter) = true := by kernel_rfl
theorem fact27 : ((Rows.fnEventBackRow.lifted == Tryz.prog.liftsFinal)) = true := by kernel_rfl
theorem fact28 : ((Tryz.prog.make == some Rows.fnEventBackRow.make)) = true := by kernel_rfl
theorem fact29 : ((Rows.fnEventBackRow.kinds == (if Rows.fnEventBackRow.domain.isEmpty then [] else Tryz.f7.params.toList.map fun t => match Tryz.prog.underlying t with | some (.int k) => some k | _ => none))) = true := by kernel_rfl
theorem fact30 : ((Rows.fnEventBackRow.pinned == Rows.fnEventBackRow.pinnedBy)) = true := by kernel_rfl
theorem fact31 : ((Rows.fnEventBackRow.veiled == (Tryz.f7.params.toList ++ Rows.fnEventBackSpec.plain.varTypes Tryz.prog ++ Tryz.f7.resultTypes.toList).any (Program.veiledRec Tryz.prog ·))) = true := by kernel_rfl
theorem fact32 : (Rows.fnEventBackRow.veiledFits Tryz.prog Tryz.f7.params.toList (Tryz.f7.params.toList ++ Rows.fnEventBackSpec.plain.varTypes Tryz.prog ++ Tryz.f7.resultTypes.toList)) = true := by kernel_rfl
end Go.Proofs.YtnaecdoeldoipaaGreatDoor.fnEventBack
