import Derived.Test.YtaogloegiffioaaGreatDoorMN
set_option linter.all false
namespace Go.Proofs.YtaogloegiffioaaGreatDoor
set_option maxRecDepth 10000000 in
theorem rd0 : keepRC K1 (qB (TAk TL0 0 true) σs0) = .normal TL1 σs1 := by kernel_rfl
end Go.Proofs.YtaogloegiffioaaGreatDoor
