/- The sum of abc, by the kernel. -/
import Derived.Test.YtkbcilfcfbfiaaaDoorMsg
import Derived.KernelRfl
namespace Go.Proofs.YtkbcilfcfbfiaaaDoor
theorem abc0 : (sumOf [97, 98, 99])[0]? = some 0xba ∧ (sumOf [97, 98, 99])[1]? = some 0x78 ∧ (sumOf [97, 98, 99])[31]? = some 0xad := by
  refine ⟨?_, ?_, ?_⟩ <;> kernel_rfl
end Go.Proofs.YtkbcilfcfbfiaaaDoor
