import Derived.Test.YtekfcbeballilaaGreatDoorKa
section
namespace Go.Eng
set_option maxRecDepth 1000000
theorem kp5 : chkF [k1, k2, k3, k4] k5 = true := by decide +kernel
end Go.Eng
end
section
namespace Go.Eng
set_option maxRecDepth 1000000
theorem kp6 : chkF [k1, k2, k3, k4, k5] k6 = true := by decide +kernel
end Go.Eng
end
