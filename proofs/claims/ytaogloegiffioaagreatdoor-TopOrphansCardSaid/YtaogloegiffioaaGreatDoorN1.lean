import Derived.Test.YtaogloegiffioaaGreatDoorMN
set_option linter.all false
namespace Go.Proofs.YtaogloegiffioaaGreatDoor
set_option maxRecDepth 10000000 in
theorem rd1 : keepRC K2 (qB (TAk TL1 1 true) σs1) = .normal TL2 σs2 := by kernel_rfl
end Go.Proofs.YtaogloegiffioaaGreatDoor
