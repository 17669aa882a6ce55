/- Texts of a proof, joined by a program (merge.py): TfLefS. -/
import Derived.Test.YtpnhfpjpmjdgmaaGreatDoorV13
set_option linter.all false
/- TfLefS -/
-- own file
namespace Go.Proofs.YtpnhfpjpmjdgmaaGreatDoor.fnExactLeaseOf
open Go Go.TL Go.TL.Tryz Go.Proofs Go.ChangeShapes Go.WideShapes Go.ChangeAt Go.RowKit

/-! What is asked of the program as a whole, in parts: each looks through all that the law reaches. -/
noncomputable abbrev pg : Program := Tryz.pinned.checked.prog
theorem inPlace1 : (Rows.fnExactLeaseOfRow.inPlace == pg.inPlace 4) = true := by kernel_rfl
theorem unfollowed1 : (Rows.fnExactLeaseOfRow.unfollowed == pg.unfollowed 4) = true := by kernel_rfl
theorem recurses1 : (Rows.fnExactLeaseOfRow.recurses == pg.recurses 4) = true := by kernel_rfl
theorem named1 : (Rows.fnExactLeaseOfRow.named == pg.varsNamed 4) = true := by kernel_rfl
set_option maxRecDepth 100000 in
theorem closed : joinedFacts pg 4 Tryz.f4 (OpenSpec.ofChange Rows.fnExactLeaseOfSpec).bare Rows.fnExactLeaseOfRow = true := by
  unfold joinedFacts
  rw [inPlace1, unfollowed1, recurses1, named1]
  kernel_rfl
set_option maxRecDepth 100000 in
theorem said : Rows.FnExactLeaseOfSaid :=
  OpenClaim.holds_of_cond 4 Tryz.f4 rfl rfl rfl rfl rfl rfl rfl ⟨rfl, rfl, rfl, rfl, rfl⟩ rfl rfl rfl rfl rfl (by kernel_rfl) Tryz.func4 closed
    (of_decide_eq_true (by kernel_rfl)) (by unfold Func.isWrapper; first | (rw [if_pos (by decide +kernel)]; kernel_rfl) | (rw [if_neg (by decide +kernel)]; exact ⟨rfl, rfl⟩))
    (fun os started H enc _ F => by rw [OpenClaim.pre_eq_preRow]; exact lifted os started H enc F)
end Go.Proofs.YtpnhfpjpmjdgmaaGreatDoor.fnExactLeaseOf
