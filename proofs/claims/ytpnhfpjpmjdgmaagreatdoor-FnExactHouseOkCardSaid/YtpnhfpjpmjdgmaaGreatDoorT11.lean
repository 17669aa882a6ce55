/- Texts of a proof, joined by a program (merge.py): TfHozS. -/
import Derived.Test.YtpnhfpjpmjdgmaaGreatDoorT10
set_option linter.all false
/- TfHozS -/
-- own file
namespace Go.Proofs.YtpnhfpjpmjdgmaaGreatDoor.fnExactHouseOk
open Go Go.TL Go.TL.Tryz Go.Proofs Go.ChangeShapes Go.WideShapes Go.ChangeAt Go.RowKit

/-! What is asked of the program as a whole, in parts: each looks through all that the law reaches. -/
noncomputable abbrev pg : Program := Tryz.pinned.checked.prog
theorem inPlace1 : (Rows.fnExactHouseOkRow.inPlace == pg.inPlace 3) = true := by kernel_rfl
theorem unfollowed1 : (Rows.fnExactHouseOkRow.unfollowed == pg.unfollowed 3) = true := by kernel_rfl
theorem recurses1 : (Rows.fnExactHouseOkRow.recurses == pg.recurses 3) = true := by kernel_rfl
theorem named1 : (Rows.fnExactHouseOkRow.named == pg.varsNamed 3) = true := by kernel_rfl
set_option maxRecDepth 100000 in
theorem closed : joinedFacts pg 3 Tryz.f3 (OpenSpec.ofChange Rows.fnExactHouseOkSpec).bare Rows.fnExactHouseOkRow = true := by
  unfold joinedFacts
  rw [inPlace1, unfollowed1, recurses1, named1]
  kernel_rfl
set_option maxRecDepth 100000 in
theorem said : Rows.FnExactHouseOkSaid :=
  OpenClaim.holds_of_cond 3 Tryz.f3 rfl rfl rfl rfl rfl rfl rfl ⟨rfl, rfl, rfl, rfl, rfl⟩ rfl rfl rfl rfl rfl (by kernel_rfl) Tryz.func3 closed
    (of_decide_eq_true (by kernel_rfl)) (by unfold Func.isWrapper; first | (rw [if_pos (by decide +kernel)]; kernel_rfl) | (rw [if_neg (by decide +kernel)]; exact ⟨rfl, rfl⟩))
    (fun os started H enc _ F => by rw [OpenClaim.pre_eq_preRow]; exact lifted os started H enc F)
end Go.Proofs.YtpnhfpjpmjdgmaaGreatDoor.fnExactHouseOk
