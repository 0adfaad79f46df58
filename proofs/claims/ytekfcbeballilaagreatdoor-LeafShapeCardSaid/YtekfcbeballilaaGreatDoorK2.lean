import Derived.Test.YtekfcbeballilaaGreatDoorKa
section
namespace Go.Eng
set_option maxRecDepth 1000000
theorem kp3 : chkF [k1, k2] k3 = true := by decide +kernel
end Go.Eng
end
section
namespace Go.Eng
set_option maxRecDepth 1000000
theorem kp4 : chkF [k1, k2, k3] k4 = true := by decide +kernel
end Go.Eng
end
