import Derived.Test.YtaogloegiffioaaGreatDoorMN
set_option linter.all false
namespace Go.Proofs.YtaogloegiffioaaGreatDoor
set_option maxRecDepth 10000000 in
theorem rd5 : keepRC K6 (qB (TAk TL5 5 true) σs5) = .normal TL6 σs6 := by kernel_rfl
end Go.Proofs.YtaogloegiffioaaGreatDoor
