/- SeasonBytes returns true and leaves its arguments as they read, for every script, text and byte. Conditions: those of the given card alone (the tables that the row lists start as the text of the program lays them). -/
import Derived.Test.YtnbdnplmkifnhaaGreatDoorMO
set_option linter.unusedVariables false
set_option linter.unusedSimpArgs false
namespace Go.Proofs.YtnbdnplmkifnhaaGreatDoor
open Go
theorem by_main_is : Tryz.pinned.checked.prog.mainIs = some (true, "95f993dfaef86fbe34c95bc1d4258d46a7f4b5a283cb276a5ee18ebfdb09c170".toList) := by kernel_rfl
theorem by_looks_is : true = Tryz.pinned.checked.prog.looks [] := by kernel_rfl
theorem by_goes_is : false = Rows.seasonBytesRow.goesBy Tryz.pinned.checked.prog := by kernel_rfl
theorem bytes_wf : Rows.seasonBytesRow.wfByText (OpenSpec.ofChange Rows.seasonBytesSpec) = true := by kernel_rfl
theorem bytes_stand (f : FuncId) (fn : Func) (hf : Tryz.pinned.checked.prog.funcNamed Rows.seasonBytesRow.func = some f) (hfn : Tryz.pinned.checked.prog.funcs[f]? = some fn) :
    true = Tryz.pinned.checked.prog.looks [] ∧ ∀ (j : Nat) t, fn.params[j]? = some t → Tryz.pinned.checked.prog.wantsStandIn t = false := by
  obtain rfl : f = 3 := (Option.some.inj (bytes_named.symm.trans hf)).symm
  obtain rfl : fn = Tryz.f3 := (Option.some.inj (Tryz.func3.symm.trans hfn)).symm
  exact ⟨by_looks_is, fun j t ht => by
    rw [Tryz.params3] at ht
    have hm : t ∈ [22, 9, 3] := by simpa using Array.mem_of_getElem? ht
    have hall : ([22, 9, 3].all fun u => !Tryz.prog.wantsStandIn u) = true := by kernel_rfl
    exact (show Tryz.prog.wantsStandIn t = false by simpa using List.all_eq_true.1 hall t hm)⟩
theorem bytes_card : Rows.SeasonBytesCardSaid :=
  Claim7.holds_tied_plain_at .later [] [.data, .data, .data, .data, .sentinel, .sentinel, .pinned] true (true, "95f993dfaef86fbe34c95bc1d4258d46a7f4b5a283cb276a5ee18ebfdb09c170") true
    bytes_holds (fun _ h => by cases h) bytes_wf (fun _ h => by cases h) seasonBytes_row_tie rfl ⟨rfl, rfl⟩ by_main_is rfl bytes_stand by_goes_is
end Go.Proofs.YtnbdnplmkifnhaaGreatDoor
#print axioms Go.Proofs.YtnbdnplmkifnhaaGreatDoor.bytes_card
