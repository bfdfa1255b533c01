import Derived.Test.YtaogloegiffioaaGreatDoorMN
set_option linter.all false
namespace Go.Proofs.YtaogloegiffioaaGreatDoor
set_option maxRecDepth 10000000 in
theorem rd3 : keepRC K4 (qB (TAk TL3 3 true) σs3) = .normal TL4 σs4 := by kernel_rfl
end Go.Proofs.YtaogloegiffioaaGreatDoor
