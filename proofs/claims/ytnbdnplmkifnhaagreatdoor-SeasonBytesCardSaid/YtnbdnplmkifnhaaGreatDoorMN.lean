/- A part of the proof: an abstract heap, a verified walk over the program, and plain laws over lists. Conditions: none beyond the statement. -/
import Derived.Test.YtnbdnplmkifnhaaGreatDoorMM
import Derived.SevenTiedAt
set_option linter.unusedVariables false
set_option linter.unusedSimpArgs false
namespace Go.Proofs.YtnbdnplmkifnhaaGreatDoor
open Go
theorem by_jf_mapsRowed : mapsRowed Tryz.prog = true := by kernel_rfl
theorem by_jf_inPlace : (Rows.seasonBytesRow.inPlace == Tryz.prog.inPlace 3) = true := by kernel_rfl
theorem by_jf_unf : (Rows.seasonBytesRow.unfollowed == Tryz.prog.unfollowed 3) = true := by kernel_rfl
theorem by_jf_rec : (Rows.seasonBytesRow.recurses == Tryz.prog.recurses 3) = true := by kernel_rfl
theorem by_jf_named : (Rows.seasonBytesRow.named == Tryz.prog.varsNamed 3) = true := by kernel_rfl
theorem bytes_closed : joinedFacts Tryz.pinned.checked.prog 3 Tryz.f3 Rows.seasonBytesSpec Rows.seasonBytesRow = true := by
  unfold joinedFacts
  simp only [Bool.and_eq_true]
  repeat' apply And.intro
  · kernel_rfl
  · exact laidOut
  · exact by_jf_mapsRowed
  · kernel_rfl
  · kernel_rfl
  · kernel_rfl
  · kernel_rfl
  · kernel_rfl
  · kernel_rfl
  · exact by_jf_inPlace
  · exact by_jf_unf
  · exact by_jf_rec
  · exact by_jf_named
  all_goals kernel_rfl
end Go.Proofs.YtnbdnplmkifnhaaGreatDoor
