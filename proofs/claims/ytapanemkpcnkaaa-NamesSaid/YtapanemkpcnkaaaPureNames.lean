/- What is proved: the statement loesslaw0.Names: the call answers true, whatever the memory and the order of evaluation. No conditions. -/
import Derived.Test.YtapanemkpcnkaaaPNamesx1
import Derived.KernelRfl
namespace Go.Proofs.Ytapanemkpcnkaaa.Pure
open Go.RowKit Go.Proofs.Ytapanemkpcnkaaa.PNames Go.Proofs.YtapanemkpcnkaaaW.PrintWords Go.Proofs.YtapanemkpcnkaaaW.PrintLast

theorem Names : loesslaw0_Names.Pure := ⟨40, by kernel_rfl⟩

end Go.Proofs.Ytapanemkpcnkaaa.Pure
