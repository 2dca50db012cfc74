/- A part of the proof: an abstract heap, a verified walk over the program, and plain laws over lists. Conditions: none beyond the statement. -/
import Derived.Test.YtnbdnplmkifnhaaGreatDoorMI
set_option linter.unusedVariables false
set_option linter.unusedSimpArgs false
namespace Go.Proofs.YtnbdnplmkifnhaaGreatDoor
open Go
theorem files_named : Tryz.prog.funcNamed "bivouac/bivouaclaw12.SeasonFiles" = some 4 := by kernel_rfl
theorem files_inst : Tryz.f4.isInstance Tryz.pinned.checked.prog Rows.seasonFilesRow.origin Rows.seasonFilesRow.targs := of_decide_eq_true (by kernel_rfl)
theorem files_wrap : Tryz.f4.isWrapper Tryz.pinned.checked.prog Rows.seasonFilesRow.wrapper Rows.seasonFilesRow.mainSum := by
  unfold Func.isWrapper; first | (rw [if_pos (by decide +kernel)]; kernel_rfl) | (rw [if_neg (by decide +kernel)]; exact ⟨rfl, rfl⟩)
theorem files_holds : Rows.SeasonFilesSaid :=
  OpenClaim.holds_of_wide 4 Tryz.f4 rfl rfl rfl rfl rfl rfl rfl ⟨rfl, rfl, rfl, rfl, rfl⟩ rfl rfl rfl rfl rfl files_named Tryz.func4 files_closed
    files_inst files_wrap (fun os started H enc _ => files_lifted os started H enc)
end Go.Proofs.YtnbdnplmkifnhaaGreatDoor
