import Derived.Test.YtekfcbeballilaaGreatDoorKa
section
namespace Go.Eng
set_option maxRecDepth 1000000
theorem kp9 : chkF [k1, k2, k3, k4, k5, k6, k7, k8] k9 = true := by decide +kernel
end Go.Eng
end
section
namespace Go.Eng
set_option maxRecDepth 1000000
theorem kp10 : chkF [k1, k2, k3, k4, k5, k6, k7, k8, k9] k10 = true := by decide +kernel
end Go.Eng
end
