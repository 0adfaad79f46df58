import Derived.Test.YtekfcbeballilaaGreatDoorKn
import Derived.Test.YtekfcbeballilaaGreatDoorK8
import Derived.Test.YtekfcbeballilaaGreatDoorN1
import Derived.Test.YtekfcbeballilaaGreatDoorN2
import Derived.Test.YtekfcbeballilaaGreatDoorKa
section
namespace Go.Eng
set_option maxRecDepth 1000000
theorem np7 : chkF [n1, n2, n3, k15, n4, n5, n6] n7 = true := by decide +kernel
end Go.Eng
end
section
namespace Go.Eng
theorem no1 : n1.ok := chkF_okr np1 trivial
theorem no2 : n2.ok := chkF_okr np2 ⟨no1, trivial⟩
theorem no3 : n3.ok := chkF_okr np3 ⟨no1, no2, trivial⟩
theorem no4 : n4.ok := chkF_okr np4 ⟨no1, trivial⟩
theorem no5 : n5.ok := chkF_okr np5 ⟨no1, trivial⟩
theorem no6 : n6.ok := chkF_okr np6 ⟨no1, no5, trivial⟩
theorem no7 : n7.ok := chkF_okr np7 ⟨no1, no2, no3, ko15, no4, no5, no6, trivial⟩
/-- The closed self-test of law 14 answers true. -/
theorem law14_begun_ans (H : Heap) : Ans cs0 F.law14_begun [] H fun x K => x = .bool true ∧ K = H := no7 H
end Go.Eng
end
section
namespace Go.Eng
open Go Go.RowKit Go.Proofs
set_option maxHeartbeats 4000000
set_option maxRecDepth 10000
theorem law1_Text_ans (s : List UInt8) (n : Nat) (H : Heap) : Ans cs0 F.law1_Text [.str s, .int .i64 n] H fun x K => x = .str (s.take n) ∧ K = H := by
  have hN := cz_ok
  refine G_body hN (fn := B.law1_Text) (sz := 11) rfl rfl rfl rfl rfl ?_
  refine G_run hN (G_v rfl rfl <| G_nil) ?_
  refine G_run hN (G_v rfl rfl <| G_v rfl rfl <| G_v rfl rfl <| G_v rfl rfl <| G_v rfl (g_int (b := ((min s.length n : Nat) : Int)) rfl ?_) <| G_v rfl (g_sto (min s.length n) rfl rfl rfl rfl (Nat.min_le_left _ _)) <| G_v rfl rfl <| G_nil) ?_
  · show (if (n : Int) < (s.length : Int) then (n : Int) else (s.length : Int)) = _
    split <;> omega
  · refine G_ret (G_end rfl ⟨?_, rfl⟩)
    show AV.str _ = _
    congr 1
    rcases Nat.le_total s.length n with h | h
    · rw [Nat.min_eq_left h, List.take_length, List.take_of_length_le h]
    · rw [Nat.min_eq_right h]
end Go.Eng
end
