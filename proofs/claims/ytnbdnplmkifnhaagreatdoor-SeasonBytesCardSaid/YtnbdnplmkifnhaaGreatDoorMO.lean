/- A part of the proof: an abstract heap, a verified walk over the program, and plain laws over lists. Conditions: none beyond the statement. -/
import Derived.Test.YtnbdnplmkifnhaaGreatDoorMN
set_option linter.unusedVariables false
set_option linter.unusedSimpArgs false
namespace Go.Proofs.YtnbdnplmkifnhaaGreatDoor
open Go
theorem bytes_named : Tryz.prog.funcNamed "bivouac/bivouaclaw12.SeasonBytes" = some 3 := by kernel_rfl
theorem bytes_inst : Tryz.f3.isInstance Tryz.pinned.checked.prog Rows.seasonBytesRow.origin Rows.seasonBytesRow.targs := of_decide_eq_true (by kernel_rfl)
theorem bytes_wrap : Tryz.f3.isWrapper Tryz.pinned.checked.prog Rows.seasonBytesRow.wrapper Rows.seasonBytesRow.mainSum := by
  unfold Func.isWrapper; first | (rw [if_pos (by decide +kernel)]; kernel_rfl) | (rw [if_neg (by decide +kernel)]; exact ⟨rfl, rfl⟩)
theorem bytes_holds : Rows.SeasonBytesSaid :=
  OpenClaim.holds_of_wide 3 Tryz.f3 rfl rfl rfl rfl rfl rfl rfl ⟨rfl, rfl, rfl, rfl, rfl⟩ rfl rfl rfl rfl rfl bytes_named Tryz.func3 bytes_closed
    bytes_inst bytes_wrap (fun os started H enc _ => bytes_lifted os started H enc)
end Go.Proofs.YtnbdnplmkifnhaaGreatDoor
