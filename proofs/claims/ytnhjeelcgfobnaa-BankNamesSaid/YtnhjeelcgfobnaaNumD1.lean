import Derived.Test.YtnhjeelcgfobnaaNumT
namespace Go.Proofs.Ytnhjeelcgfobnaa.Num
set_option maxRecDepth 100000
theorem semi_ok : semi PT 210 EX = true := by decide +kernel
theorem ascN_ok : ascN 10 PT = true := by decide +kernel
theorem noSq_ok : noSq PT = true := by decide +kernel
theorem wk_ok : wk (mulAll Q211) 44510 212 (PT.drop 43) = true := by decide +kernel
theorem sm_ok : (List.range 212).all (sm (PT.take 43)) = true := by decide +kernel
theorem asc_ok : asc 10 TT = true := by decide +kernel
theorem wkT_ok : wk (mulAll Q211) 13288 212 ((TT.map (·.1)).drop 43) = true := by decide +kernel
theorem smT_ok : (List.range 212).all (sm ((TT.map (·.1)).take 43)) = true := by decide +kernel
end Go.Proofs.Ytnhjeelcgfobnaa.Num
