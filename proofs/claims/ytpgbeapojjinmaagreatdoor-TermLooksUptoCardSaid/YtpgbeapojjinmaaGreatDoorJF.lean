/- The closed facts that the claims' rows ask, in parts: one kernel evaluation each. No law is proved here. -/
import Derived.Test.YtpgbeapojjinmaaGreatDoorCards
import Derived.Test.YtpgbeapojjinmaaGreatDoorTie
import Derived.WalkKit
import Derived.ProofKit
set_option linter.unusedVariables false
namespace Go.Proofs.YtpgbeapojjinmaaGreatDoor
open Go.RowKit
theorem jLaid : laidOutB Tryz.pinned.checked.prog = true := by kernel_rfl
theorem jMaps : mapsRowed Tryz.pinned.checked.prog = true := by kernel_rfl
theorem jStops : (Tryz.pinned.checked.prog.stops == []) = true := by kernel_rfl
theorem jKnobs : (Tryz.pinned.checked.prog.stopKnobs == []) = true := by kernel_rfl
theorem jHeard : Tryz.pinned.checked.prog.stopsHeard = true := by kernel_rfl
theorem jMay : Tryz.pinned.checked.prog.mayEnter = true := by kernel_rfl
theorem jLifts : (Rows.termTypesUptoRow.lifted == Tryz.pinned.checked.prog.liftsFinal) = true := by kernel_rfl
theorem jMake : (Tryz.pinned.checked.prog.make == some Rows.termTypesUptoRow.make) = true := by kernel_rfl
theorem jKeys : (Rows.termTypesUptoRow.plainKeys == Tryz.pinned.checked.prog.plainKeys) = true := by kernel_rfl
theorem jLooks : true = Tryz.pinned.checked.prog.looks [] := by kernel_rfl
theorem jMain : Tryz.pinned.checked.prog.mainIs = some (true, "6c51b851384a5ddbe479dc96a7e26273599895b67ceb8730aa9bee1edff39ac1".toList) := by kernel_rfl
set_option maxRecDepth 100000 in
theorem joined_of {f : FuncId} {fn : Func} {s : ChangeSpec} {c : OpenClaim}
    (a1 : (c.wf (OpenSpec.ofChange s) && fn.params.all (Tryz.pinned.checked.prog.readableRec ·) && namedTie Tryz.pinned.checked.prog c.named s.vars && (c.stops == []) && (c.knobs == [])) = true)
    (a2 : (c.inPlace == Tryz.pinned.checked.prog.inPlace f) = true) (a3 : (c.unfollowed == Tryz.pinned.checked.prog.unfollowed f) = true) (a4 : (c.recurses == Tryz.pinned.checked.prog.recurses f) = true) (a5 : (c.named == Tryz.pinned.checked.prog.varsNamed f) = true)
    (a6 : ((c.maps == (fn.params.toList ++ s.plain.varTypes Tryz.pinned.checked.prog).any (Tryz.pinned.checked.prog.mapsRec ·)) && (c.ifaces == (fn.params.toList ++ s.plain.varTypes Tryz.pinned.checked.prog).any (Tryz.pinned.checked.prog.ifacesRec ·)) && (c.mapsOut == Tryz.pinned.checked.prog.mapsAmong fn.resultTypes.toList) &&
      (c.loops == (fn.params.toList ++ s.plain.varTypes Tryz.pinned.checked.prog).any (Tryz.pinned.checked.prog.loopsFrom ·)) && (c.wideKeys == (fn.params.toList ++ s.plain.varTypes Tryz.pinned.checked.prog ++ fn.resultTypes.toList).any (Tryz.pinned.checked.prog.wideKeysFrom ·))) = true)
    (a7 : (s.vars.all (Tryz.pinned.checked.prog.varReadable ·) && fn.resultTypes.all (fun t => Tryz.pinned.checked.prog.readableRec t && decide (t < Tryz.pinned.checked.prog.types.size)) && (c.ifacesOut == fn.resultTypes.toList.any (Tryz.pinned.checked.prog.ifacesRec ·)) && (c.loopsOut == fn.resultTypes.toList.any (Tryz.pinned.checked.prog.loopsFrom ·)) && c.shortTexts.isNone) = true)
    (k1 : c.plainKeys = Rows.termTypesUptoRow.plainKeys) (k2 : c.lifted = Rows.termTypesUptoRow.lifted) (k3 : c.make = Rows.termTypesUptoRow.make)
    (a8 : ((c.kinds == (if c.domain.isEmpty then [] else fn.params.toList.map fun t => match Tryz.pinned.checked.prog.underlying t with | some (.int k) => some k | _ => none)) && (c.pinned == c.pinnedBy)) = true)
    (a9 : ((c.veiled == (fn.params.toList ++ s.plain.varTypes Tryz.pinned.checked.prog ++ fn.resultTypes.toList).any (Tryz.pinned.checked.prog.veiledRec ·)) && c.veiledFits Tryz.pinned.checked.prog fn.params.toList (fn.params.toList ++ s.plain.varTypes Tryz.pinned.checked.prog ++ fn.resultTypes.toList)) = true) :
    joinedFacts Tryz.pinned.checked.prog f fn s c = true := by
  have g1 := jLifts
  have g2 := jMake
  have g3 := jKeys
  rw [← k2] at g1
  rw [← k3] at g2
  rw [← k1] at g3
  unfold joinedFacts
  simp only [Bool.and_eq_true] at a1 a6 a7 a8 a9 ⊢
  obtain ⟨⟨⟨⟨b1, b2⟩, b3⟩, b4⟩, b5⟩ := a1
  obtain ⟨⟨⟨⟨c1, c2⟩, c3⟩, c4⟩, c5⟩ := a6
  obtain ⟨⟨⟨⟨d1, d2⟩, d3⟩, d4⟩, d5⟩ := a7
  obtain ⟨e1, e2⟩ := a8
  obtain ⟨f1, f2⟩ := a9
  have j1 := jLaid
  have j2 := jMaps
  have j3 := jStops
  have j4 := jKnobs
  have j5 := jHeard
  have j6 := jMay
  refine ⟨⟨⟨⟨⟨⟨⟨⟨⟨⟨⟨⟨⟨⟨⟨⟨⟨⟨⟨⟨⟨⟨⟨⟨⟨⟨⟨⟨⟨⟨⟨b1, j1⟩, j2⟩, b2⟩, b3⟩, b4⟩, j3⟩, b5⟩, j4⟩, a2⟩, a3⟩, a4⟩, a5⟩, c1⟩, c2⟩, c3⟩, c4⟩, c5⟩, d1⟩, d2⟩, d3⟩, d4⟩, g3⟩, d5⟩, j5⟩, j6⟩, g1⟩, g2⟩, e1⟩, e2⟩, f1⟩, f2⟩
end Go.Proofs.YtpgbeapojjinmaaGreatDoor
