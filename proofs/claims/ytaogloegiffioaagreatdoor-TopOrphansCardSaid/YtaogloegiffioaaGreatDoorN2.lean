import Derived.Test.YtaogloegiffioaaGreatDoorMN
set_option linter.all false
namespace Go.Proofs.YtaogloegiffioaaGreatDoor
set_option maxRecDepth 10000000 in
theorem rd2 : keepRC K3 (qB (TAk TL2 2 true) σs2) = .normal TL3 σs3 := by kernel_rfl
end Go.Proofs.YtaogloegiffioaaGreatDoor
