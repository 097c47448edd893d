import Derived.Test.YtnhjeelcgfobnaaNumT
namespace Go.Proofs.Ytnhjeelcgfobnaa.Num
set_option maxRecDepth 100000
theorem outer_ok0 : outer TT TT0 = true := by decide +kernel
theorem outer_ok1 : outer TT TT1 = true := by decide +kernel
theorem outer_ok2 : outer TT TT2 = true := by decide +kernel
theorem outer_ok3 : outer TT TT3 = true := by decide +kernel
theorem outer_ok4 : outer TT TT4 = true := by decide +kernel
theorem outer_ok5 : outer TT TT5 = true := by decide +kernel
theorem outer_ok6 : outer TT TT6 = true := by decide +kernel
theorem outer_ok7 : outer TT TT7 = true := by decide +kernel
end Go.Proofs.Ytnhjeelcgfobnaa.Num
