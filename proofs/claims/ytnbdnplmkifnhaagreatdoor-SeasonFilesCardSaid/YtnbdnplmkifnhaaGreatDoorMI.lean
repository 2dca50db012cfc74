/- A part of the proof: an abstract heap, a verified walk over the program, and plain laws over lists. Conditions: none beyond the statement. -/
import Derived.Test.YtnbdnplmkifnhaaGreatDoorMH
import Derived.SevenTiedAt
set_option linter.unusedVariables false
set_option linter.unusedSimpArgs false
namespace Go.Proofs.YtnbdnplmkifnhaaGreatDoor
open Go
theorem jf_mapsRowed : mapsRowed Tryz.prog = true := by kernel_rfl
theorem jf_inPlace : (Rows.seasonFilesRow.inPlace == Tryz.prog.inPlace 4) = true := by kernel_rfl
theorem jf_unf : (Rows.seasonFilesRow.unfollowed == Tryz.prog.unfollowed 4) = true := by kernel_rfl
theorem jf_rec : (Rows.seasonFilesRow.recurses == Tryz.prog.recurses 4) = true := by kernel_rfl
theorem jf_named : (Rows.seasonFilesRow.named == Tryz.prog.varsNamed 4) = true := by kernel_rfl
theorem files_closed : joinedFacts Tryz.pinned.checked.prog 4 Tryz.f4 Rows.seasonFilesSpec Rows.seasonFilesRow = true := by
  unfold joinedFacts
  simp only [Bool.and_eq_true]
  repeat' apply And.intro
  · kernel_rfl
  · exact laidOut
  · exact jf_mapsRowed
  · kernel_rfl
  · kernel_rfl
  · kernel_rfl
  · kernel_rfl
  · kernel_rfl
  · kernel_rfl
  · exact jf_inPlace
  · exact jf_unf
  · exact jf_rec
  · exact jf_named
  all_goals kernel_rfl
end Go.Proofs.YtnbdnplmkifnhaaGreatDoor
