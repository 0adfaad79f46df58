import Derived.Test.YtekfcbeballilaaGreatDoorKa
section
namespace Go.Eng
set_option maxRecDepth 1000000
theorem kp1 : chkF [] k1 = true := by decide +kernel
end Go.Eng
end
section
namespace Go.Eng
set_option maxRecDepth 1000000
theorem kp2 : chkF [k1] k2 = true := by decide +kernel
end Go.Eng
end
