/-
  What the program forces at FnEventStrict: closed facts, each by the kernel.
-/
import Derived.Test.YtnaecdoeldoipaaGreatDoorRows
import Derived.JoinedOf
import Derived.Test.YtnaecdoeldoipaaGreatDoorQRead
set_option linter.unusedVariables false
namespace Go.Proofs.YtnaecdoeldoipaaGreatDoor.fnEventStrict
open Go.ChangeShapes Go.WideShapes Go.ChangeAt Go.RowKit

theorem fact1 : (Rows.fnEventStrictRow.wf (OpenSpec.ofChange Rows.fnEventStrictSpec)) = true := by kernel_rfl
theorem fact2 : (laidOutB Tryz.prog) = true := by kernel_rfl
theorem fact3 : (mapsRowed Tryz.prog) = true := by kernel_rfl
theorem fact4 : (Tryz.f8.params.all (Program.readableRec Tryz.prog ·)) = true := by kernel_rfl
theorem fact5 : (namedTie Tryz.prog Rows.fnEventStrictRow.named Rows.fnEventStrictSpec.vars) = true := by kernel_rfl
theorem fact6 : ((Rows.fnEventStrictRow.stops == [])) = true := by kernel_rfl
theorem fact7 : ((Tryz.prog.stops == [])) = true := by kernel_rfl
theorem fact8 : ((Rows.fnEventStrictRow.knobs == [])) = true := by kernel_rfl
theorem fact9 : ((Tryz.prog.stopKnobs == [])) = true := by kernel_rfl
theorem fact10 : ((Rows.fnEventStrictRow.inPlace == Tryz.prog.inPlace 8)) = true := by kernel_rfl
theorem fact11 : ((Rows.fnEventStrictRow.unfollowed == Tryz.prog.unfollowed 8)) = true := by kernel_rfl
theorem fact12 : ((Rows.fnEventStrictRow.recurses == Tryz.prog.recurses 8)) = true := by kernel_rfl
theorem fact13 : ((Rows.fnEventStrictRow.named == Tryz.prog.varsNamed 8)) = true := by kernel_rfl
theorem fact14 : ((Rows.fnEventStrictRow.maps == (Tryz.f8.params.toList ++ Rows.fnEventStrictSpec.plain.varTypes Tryz.prog).any (Program.mapsRec Tryz.prog ·))) = true := by kernel_rfl
theorem fact15 : ((Rows.fnEventStrictRow.ifaces == (Tryz.f8.params.toList ++ Rows.fnEventStrictSpec.plain.varTypes Tryz.prog).any (Program.ifacesRec Tryz.prog ·))) = true := by kernel_rfl
theorem fact16 : ((Rows.fnEventStrictRow.mapsOut == Tryz.prog.mapsAmong Tryz.f8.resultTypes.toList)) = true := by kernel_rfl
theorem fact17 : ((Rows.fnEventStrictRow.loops == (Tryz.f8.params.toList ++ Rows.fnEventStrictSpec.plain.varTypes Tryz.prog).any (Program.loopsFrom Tryz.prog ·))) = true := by kernel_rfl
theorem fact18 : ((Rows.fnEventStrictRow.wideKeys == (Tryz.f8.params.toList ++ Rows.fnEventStrictSpec.plain.varTypes Tryz.prog ++ Tryz.f8.resultTypes.toList).any (Program.wideKeysFrom Tryz.prog ·))) = true := by kernel_rfl
theorem fact19 : (Rows.fnEventStrictSpec.vars.all (Program.varReadable Tryz.prog ·)) = true := by kernel_rfl
theorem fact20 : (Tryz.f8.resultTypes.all (fun t => Tryz.prog.readableRec t && decide (t < Tryz.prog.types.size))) = true := by kernel_rfl
theorem fact21 : ((Rows.fnEventStrictRow.ifacesOut == Tryz.f8.resultTypes.toList.any (Program.ifacesRec Tryz.prog ·))) = true := by kernel_rfl
theorem fact22 : ((Rows.fnEventStrictRow.loopsOut == Tryz.f8.resultTypes.toList.any (Program.loopsFrom Tryz.prog ·))) = true := by kernel_rfl
theorem fact23 : ((Rows.fnEventStrictRow.plainKeys == Tryz.prog.plainKeys)) = true := by kernel_rfl
theorem fact24 : (Rows.fnEventStrictRow.shortTexts.isNone) = true := by kernel_rfl
theorem fact25 : (Tryz.prog.stopsHeard) = true := by kernel_rfl
theorem fact26 : (Tryz.prog.mayEnter) = true := by kernel_rfl
theorem fact27 : ((Rows.fnEventStrictRow.lifted == Tryz.prog.liftsFinal)) = true := by kernel_rfl
theorem fact28 : ((Tryz.prog.make == some Rows.fnEventStrictRow.make)) = true := by kernel_rfl
theorem fact29 : ((Rows.fnEventStrictRow.kinds == (if Rows.fnEventStrictRow.domain.isEmpty then [] else Tryz.f8.params.toList.map fun t => match Tryz.prog.underlying t with | some (.int k) => some k | _ => none))) = true := by kernel_rfl
theorem fact30 : ((Rows.fnEventStrictRow.pinned == Rows.fnEventStrictRow.pinnedBy)) = true := by kernel_rfl
theorem fact31 : ((Rows.fnEventStrictRow.veiled == (Tryz.f8.params.toList ++ Rows.fnEventStrictSpec.plain.varTypes Tryz.prog ++ Tryz.f8.resultTypes.toList).any (Program.veiledRec Tryz.prog ·))) = true := by kernel_rfl
theorem fact32 : (Rows.fnEventStrictRow.veiledFits Tryz.prog Tryz.f8.params.toList (Tryz.f8.params.toList ++ Rows.fnEventStrictSpec.plain.varTypes Tryz.prog ++ Tryz.f8.resultTypes.toList)) = true := by kernel_rfl
end Go.Proofs.YtnaecdoeldoipaaGreatDoor.fnEventStrict
