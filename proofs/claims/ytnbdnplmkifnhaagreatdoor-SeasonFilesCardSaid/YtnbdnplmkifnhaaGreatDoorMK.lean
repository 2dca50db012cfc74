/- SeasonFiles returns true and leaves its arguments as they read, for every script and text. Conditions: those of the given card alone (the tables that the row lists start as the text of the program lays them). -/
import Derived.Test.YtnbdnplmkifnhaaGreatDoorMJ
set_option linter.unusedVariables false
set_option linter.unusedSimpArgs false
namespace Go.Proofs.YtnbdnplmkifnhaaGreatDoor
open Go
theorem main_is : Tryz.pinned.checked.prog.mainIs = some (true, "95f993dfaef86fbe34c95bc1d4258d46a7f4b5a283cb276a5ee18ebfdb09c170".toList) := by kernel_rfl
theorem looks_is : true = Tryz.pinned.checked.prog.looks [] := by kernel_rfl
theorem goes_is : false = Rows.seasonFilesRow.goesBy Tryz.pinned.checked.prog := by kernel_rfl
theorem files_wf : Rows.seasonFilesRow.wfByText (OpenSpec.ofChange Rows.seasonFilesSpec) = true := by kernel_rfl
theorem files_stand (f : FuncId) (fn : Func) (hf : Tryz.pinned.checked.prog.funcNamed Rows.seasonFilesRow.func = some f) (hfn : Tryz.pinned.checked.prog.funcs[f]? = some fn) :
    true = Tryz.pinned.checked.prog.looks [] ∧ ∀ (j : Nat) t, fn.params[j]? = some t → Tryz.pinned.checked.prog.wantsStandIn t = false := by
  obtain rfl : f = 4 := (Option.some.inj (files_named.symm.trans hf)).symm
  obtain rfl : fn = Tryz.f4 := (Option.some.inj (Tryz.func4.symm.trans hfn)).symm
  exact ⟨looks_is, fun j t ht => by
    rw [Tryz.params4] at ht
    have hm : t ∈ [22, 9] := by simpa using Array.mem_of_getElem? ht
    have hall : ([22, 9].all fun u => !Tryz.prog.wantsStandIn u) = true := by kernel_rfl
    exact (show Tryz.prog.wantsStandIn t = false by simpa using List.all_eq_true.1 hall t hm)⟩
theorem files_card : Rows.SeasonFilesCardSaid :=
  Claim7.holds_tied_plain_at .later [] [.data, .data, .data, .data, .sentinel, .sentinel, .pinned] true (true, "95f993dfaef86fbe34c95bc1d4258d46a7f4b5a283cb276a5ee18ebfdb09c170") true
    files_holds (fun _ h => by cases h) files_wf (fun _ h => by cases h) seasonFiles_row_tie rfl ⟨rfl, rfl⟩ main_is rfl files_stand goes_is
end Go.Proofs.YtnbdnplmkifnhaaGreatDoor
#print axioms Go.Proofs.YtnbdnplmkifnhaaGreatDoor.files_card
