import Derived.Test.YtekfcbeballilaaGreatDoorKa
import Derived.Test.YtekfcbeballilaaGreatDoorK1
import Derived.Test.YtekfcbeballilaaGreatDoorK2
import Derived.Test.YtekfcbeballilaaGreatDoorK3
import Derived.Test.YtekfcbeballilaaGreatDoorK4
import Derived.Test.YtekfcbeballilaaGreatDoorK5
import Derived.Test.YtekfcbeballilaaGreatDoorK6
import Derived.Test.YtekfcbeballilaaGreatDoorK7
section
namespace Go.Eng
set_option maxRecDepth 1000000
theorem kp15 : chkF [k1, k2, k3, k4, k5, k6, k7, k8, k9, k10, k11, k12, k13, k14] k15 = true := by decide +kernel
end Go.Eng
end
section
namespace Go.Eng
theorem chkF_okr {l : List Fact} {x : Fact} (h : chkF l x = true) (hl : allOk l) : x.ok := chkF_ok hl h
theorem ko1 : k1.ok := chkF_okr kp1 trivial
theorem ko2 : k2.ok := chkF_okr kp2 ⟨ko1, trivial⟩
theorem ko3 : k3.ok := chkF_okr kp3 ⟨ko1, ko2, trivial⟩
theorem ko4 : k4.ok := chkF_okr kp4 ⟨ko1, ko2, ko3, trivial⟩
theorem ko5 : k5.ok := chkF_okr kp5 ⟨ko1, ko2, ko3, ko4, trivial⟩
theorem ko6 : k6.ok := chkF_okr kp6 ⟨ko1, ko2, ko3, ko4, ko5, trivial⟩
theorem ko7 : k7.ok := chkF_okr kp7 ⟨ko1, ko2, ko3, ko4, ko5, ko6, trivial⟩
theorem ko8 : k8.ok := chkF_okr kp8 ⟨ko1, ko2, ko3, ko4, ko5, ko6, ko7, trivial⟩
theorem ko9 : k9.ok := chkF_okr kp9 ⟨ko1, ko2, ko3, ko4, ko5, ko6, ko7, ko8, trivial⟩
theorem ko10 : k10.ok := chkF_okr kp10 ⟨ko1, ko2, ko3, ko4, ko5, ko6, ko7, ko8, ko9, trivial⟩
theorem ko11 : k11.ok := chkF_okr kp11 ⟨ko1, ko2, ko3, ko4, ko5, ko6, ko7, ko8, ko9, ko10, trivial⟩
theorem ko12 : k12.ok := chkF_okr kp12 ⟨ko1, ko2, ko3, ko4, ko5, ko6, ko7, ko8, ko9, ko10, ko11, trivial⟩
theorem ko13 : k13.ok := chkF_okr kp13 ⟨ko1, ko2, ko3, ko4, ko5, ko6, ko7, ko8, ko9, ko10, ko11, ko12, trivial⟩
theorem ko14 : k14.ok := chkF_okr kp14 ⟨ko1, ko2, ko3, ko4, ko5, ko6, ko7, ko8, ko9, ko10, ko11, ko12, ko13, trivial⟩
theorem ko15 : k15.ok := chkF_okr kp15 ⟨ko1, ko2, ko3, ko4, ko5, ko6, ko7, ko8, ko9, ko10, ko11, ko12, ko13, ko14, trivial⟩
end Go.Eng
end
