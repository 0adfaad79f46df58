import Derived.Test.YtekfcbeballilaaGreatDoorKn
section
namespace Go.Eng
set_option maxRecDepth 1000000
theorem np1 : chkF [] n1 = true := by decide +kernel
end Go.Eng
end
section
namespace Go.Eng
set_option maxRecDepth 1000000
theorem np2 : chkF [n1] n2 = true := by decide +kernel
end Go.Eng
end
section
namespace Go.Eng
set_option maxRecDepth 1000000
theorem np3 : chkF [n1, n2] n3 = true := by decide +kernel
end Go.Eng
end
