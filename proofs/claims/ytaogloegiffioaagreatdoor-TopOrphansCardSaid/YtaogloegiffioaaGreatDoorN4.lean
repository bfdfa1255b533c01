import Derived.Test.YtaogloegiffioaaGreatDoorMN
set_option linter.all false
namespace Go.Proofs.YtaogloegiffioaaGreatDoor
set_option maxRecDepth 10000000 in
theorem rd4 : keepRC K5 (qB (TAk TL4 4 true) σs4) = .normal TL5 σs5 := by kernel_rfl
end Go.Proofs.YtaogloegiffioaaGreatDoor
