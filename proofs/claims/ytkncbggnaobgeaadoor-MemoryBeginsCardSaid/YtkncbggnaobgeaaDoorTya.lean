/- Facts on types that grow, and on maps. -/
import Derived.Test.YtkncbggnaobgeaaDoorMod
import Derived.Test.YtkncbggnaobgeaaDoorTy
namespace Go.Proofs.YtkncbggnaobgeaaDoor
open Go.RowKit
set_option maxRecDepth 100000
theorem map159 : mapB Tryd.prog 159 = true := by kernel_rfl
theorem app52 : AppT Tryd.prog 52 111 2 16 := appT_of (by kernel_rfl)
theorem app30 : AppT Tryd.prog 30 164 12 96 := appT_of (by kernel_rfl)
theorem app156 : AppT Tryd.prog 156 158 11 104 := appT_of (by kernel_rfl)
theorem app23 : AppT Tryd.prog 23 40 9 72 := appT_of (by kernel_rfl)
theorem app45 : AppT Tryd.prog 45 38 8 64 := appT_of (by kernel_rfl)
end Go.Proofs.YtkncbggnaobgeaaDoor
