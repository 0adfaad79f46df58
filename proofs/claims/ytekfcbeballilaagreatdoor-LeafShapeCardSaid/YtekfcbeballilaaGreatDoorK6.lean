import Derived.Test.YtekfcbeballilaaGreatDoorKa
section
namespace Go.Eng
set_option maxRecDepth 1000000
theorem kp11 : chkF [k1, k2, k3, k4, k5, k6, k7, k8, k9, k10] k11 = true := by decide +kernel
end Go.Eng
end
section
namespace Go.Eng
set_option maxRecDepth 1000000
theorem kp12 : chkF [k1, k2, k3, k4, k5, k6, k7, k8, k9, k10, k11] k12 = true := by decide +kernel
end Go.Eng
end
