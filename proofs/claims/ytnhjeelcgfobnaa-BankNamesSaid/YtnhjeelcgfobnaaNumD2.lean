import Derived.Test.YtnhjeelcgfobnaaNumT
namespace Go.Proofs.Ytnhjeelcgfobnaa.Num
set_option maxRecDepth 100000
theorem ent_ok0 : allEnt TT0 = true := by decide +kernel
theorem ent_ok1 : allEnt TT1 = true := by decide +kernel
theorem ent_ok2 : allEnt TT2 = true := by decide +kernel
theorem ent_ok3 : allEnt TT3 = true := by decide +kernel
theorem ent_ok4 : allEnt TT4 = true := by decide +kernel
theorem ent_ok5 : allEnt TT5 = true := by decide +kernel
theorem ent_ok6 : allEnt TT6 = true := by decide +kernel
theorem ent_ok7 : allEnt TT7 = true := by decide +kernel
end Go.Proofs.Ytnhjeelcgfobnaa.Num
