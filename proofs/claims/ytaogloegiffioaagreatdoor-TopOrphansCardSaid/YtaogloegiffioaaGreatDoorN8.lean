import Derived.Test.YtaogloegiffioaaGreatDoorMN
set_option linter.all false
namespace Go.Proofs.YtaogloegiffioaaGreatDoor
set_option maxRecDepth 10000000 in
theorem beg : keepRA .z (f8 e0 ⟨h5, ⟨.d0, .d0, .d0, .d0, .d0⟩⟩) = .ok (.b true) σsa := by kernel_rfl
set_option maxRecDepth 10000000 in
theorem mad : keepRA K0 (f10 (e1 (.i64 600)) σsa) = .ok (.p b3923 0) σs0 := by kernel_rfl
set_option maxRecDepth 10000000 in
theorem la1 : isT (qZ (TAk TL1 1 false) σs1) = true := by kernel_rfl
set_option maxRecDepth 10000000 in
theorem la2 : isT (qZ (TAk TL2 2 false) σs2) = true := by kernel_rfl
set_option maxRecDepth 10000000 in
theorem la3 : isT (qZ (TAk TL3 3 false) σs3) = true := by kernel_rfl
set_option maxRecDepth 10000000 in
theorem la4 : isT (qZ (TAk TL4 4 false) σs4) = true := by kernel_rfl
set_option maxRecDepth 10000000 in
theorem la5 : isT (qZ (TAk TL5 5 false) σs5) = true := by kernel_rfl
set_option maxRecDepth 10000000 in
theorem la6 : isT (qZ (TAk TL6 6 false) σs6) = true := by kernel_rfl
set_option maxRecDepth 10000000 in
theorem la7 : isT (qZ (TAk TL7 7 false) σs7) = true := by kernel_rfl
set_option maxRecDepth 10000000 in
theorem la8 : isT (qZ (TAk TL8 8 false) σs8) = true := by kernel_rfl
end Go.Proofs.YtaogloegiffioaaGreatDoor
