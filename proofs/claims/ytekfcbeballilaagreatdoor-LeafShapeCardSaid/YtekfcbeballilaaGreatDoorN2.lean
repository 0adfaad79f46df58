import Derived.Test.YtekfcbeballilaaGreatDoorKn
section
namespace Go.Eng
set_option maxRecDepth 1000000
theorem np4 : chkF [n1] n4 = true := by decide +kernel
end Go.Eng
end
section
namespace Go.Eng
set_option maxRecDepth 1000000
theorem np5 : chkF [n1] n5 = true := by decide +kernel
end Go.Eng
end
section
namespace Go.Eng
set_option maxRecDepth 1000000
theorem np6 : chkF [n1, n5] n6 = true := by decide +kernel
end Go.Eng
end
