/- Three bytes of a known tag. -/
import Derived.Test.YtkbcilfcfbfiaaaDoorTag
import Derived.KernelRfl
namespace Go.Proofs.YtkbcilfcfbfiaaaDoor
open Go
def jefe : List UInt8 := [74, 101, 102, 101]
def whatW : List UInt8 := [119, 104, 97, 116, 32, 100, 111, 32, 121, 97, 32, 119, 97, 110, 116, 32]
def forN : List UInt8 := [102, 111, 114, 32, 110, 111, 116, 104, 105, 110, 103, 63]
theorem jefe_all : (let d := tagOf jefe (whatW ++ forN); (d[0]?, d[1]?, d[31]?)) = (some 0x5b, some 0xdc, some 0x43) := by kernel_rfl
end Go.Proofs.YtkbcilfcfbfiaaaDoor
