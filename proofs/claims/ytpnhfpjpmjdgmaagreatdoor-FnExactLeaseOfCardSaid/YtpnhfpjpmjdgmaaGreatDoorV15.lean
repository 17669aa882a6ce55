/- Proved: the card of laws.FnExactLeaseOf: for every argument the call returns true, and each argument reads behind the call as it read before. Conditions: the package variables that the row lists hold at the start what the program lays (the card ties this to the text of the program); machine and world as the row says. -/
/- Texts of a proof, joined by a program (merge.py): TfLefC. -/
import Derived.Test.YtpnhfpjpmjdgmaaGreatDoorV14
set_option linter.all false
/- TfLefC -/
namespace Go.Proofs.YtpnhfpjpmjdgmaaGreatDoor.fnExactLeaseOf
open Go Go.TL Go.TL.Tryz Go.Proofs Go.ChangeShapes Go.WideShapes Go.ChangeAt Go.RowKit

theorem plain (f : FuncId) (fn : Func) (hf : Tryz.pinned.checked.prog.funcNamed "loop.example/g00422/laws.FnExactLeaseOf" = some f) (hfn : Tryz.pinned.checked.prog.funcs[f]? = some fn) :
    false = Tryz.pinned.checked.prog.looks [] ∧ ∀ (j : Nat) t, fn.params[j]? = some t → Tryz.pinned.checked.prog.wantsStandIn t = false := by
  obtain rfl : f = 4 := Option.some.inj ((show Tryz.prog.funcNamed "loop.example/g00422/laws.FnExactLeaseOf" = some 4 by kernel_rfl).symm.trans hf) |>.symm
  obtain rfl : fn = Tryz.f4 := (Option.some.inj (Tryz.func4.symm.trans hfn)).symm
  refine ⟨by kernel_rfl, fun j t ht => ?_⟩
  rw [Tryz.params4] at ht
  have ht : t = 30 ∨ t = 3 := by simpa using Array.mem_of_getElem? ht
  rcases ht with rfl | rfl
  · exact (show Tryz.prog.wantsStandIn 30 = false by kernel_rfl)
  · exact (show Tryz.prog.wantsStandIn 3 = false by kernel_rfl)
/-- The card. -/
theorem card : Rows.FnExactLeaseOfCardSaid :=
  Claim7.holds_tied_plain_at .later [] _ _ _ _ said (fun _ h => by cases h) (by kernel_rfl) (fun _ h => by cases h) fnExactLeaseOf_row_tie rfl ⟨rfl, rfl⟩ (by kernel_rfl) rfl plain (by kernel_rfl)
end Go.Proofs.YtpnhfpjpmjdgmaaGreatDoor.fnExactLeaseOf
