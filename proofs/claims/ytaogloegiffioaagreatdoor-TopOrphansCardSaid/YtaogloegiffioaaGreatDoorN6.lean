import Derived.Test.YtaogloegiffioaaGreatDoorMN
set_option linter.all false
namespace Go.Proofs.YtaogloegiffioaaGreatDoor
set_option maxRecDepth 10000000 in
theorem rd6 : keepRC K7 (qB (TAk TL6 6 true) σs6) = .normal TL7 σs7 := by kernel_rfl
end Go.Proofs.YtaogloegiffioaaGreatDoor
