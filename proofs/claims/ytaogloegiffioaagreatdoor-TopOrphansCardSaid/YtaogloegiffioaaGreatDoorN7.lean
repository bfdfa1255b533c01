import Derived.Test.YtaogloegiffioaaGreatDoorMN
set_option linter.all false
namespace Go.Proofs.YtaogloegiffioaaGreatDoor
set_option maxRecDepth 10000000 in
theorem rd7 : keepRC K8 (qB (TAk TL7 7 true) σs7) = .normal TL8 σs8 := by kernel_rfl
end Go.Proofs.YtaogloegiffioaaGreatDoor
