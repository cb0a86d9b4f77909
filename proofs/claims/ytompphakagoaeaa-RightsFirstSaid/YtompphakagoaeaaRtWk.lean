/- Rights: the example. -/
import Derived.Test.YtompphakagoaeaaRtZ
import Derived.Test.YtompphakagoaeaaRtSm
namespace Go.Proofs.Ytompphakagoaeaa
open Go.RowKit
set_option linter.unusedVariables false
set_option linter.unusedSimpArgs false
namespace Conf
open Word
theorem sl_map {α : Type} {n : Nat} {R R' : Rd α} {w : World} {S : Nat → Prop} {cs : List Value} {l : List α} (h : RSl n R w S cs l) (hR : ∀ ecs x, R w S ecs x → R' w S ecs x) : RSl n R' w S cs l := by
  obtain ⟨A, c, h1, h2, h3, h4, h5⟩ := h
  refine ⟨A, c, h1, h2, h3, h4, fun i hi => ?_⟩
  obtain ⟨ad, ecs, k1, k2, k3, k4, k5⟩ := h5 i hi
  exact ⟨ad, ecs, k1, k2, k3, k4, hR _ _ k5⟩
theorem le40 {n : Nat} (h : n ≤ 40) : n ≤ maxLen := by unfold maxLen; omega
theorem rs40_str {w : World} {S : Nat → Prop} (cs : List Value) (x : Str) (h : RS40 w S cs x) : RStr w S cs x := ⟨h.1, le40 h.2⟩
theorem q_r {w : World} {S : Nat → Prop} {cs : List Value} {x : C} (h : QConf w S cs x) : RConf w S cs x := by
  obtain ⟨h0, h1, h2, h3, h4, h5, h6, h7, h8⟩ := h
  exact ⟨h0, sl_map h1.1 (fun _ _ h => ⟨h.1, rs40_str _ _ h.2.1, h.2.2⟩), h2, sl_map h3.1 (fun _ _ h => ⟨h.1, rs40_str _ _ h.2.1, s40_str h.2.2⟩), h4, sl_map h5.1 (fun _ _ h => ⟨h.1, rs40_str _ _ h.2.1, rs40_str _ _ h.2.2⟩), h6, sl_map h7.1 (fun _ _ h => ⟨h.1, rs40_str _ _ h.2.1, h.2.2.1, rs40_str _ _ h.2.2.2.1, h.2.2.2.2⟩), h8⟩
theorem v1 : levelR smpC.2.2.2.1 [97, 110, 110] [119, 101, 98, 49] = 2 := by decide +kernel
theorem v2 : levelR smpC.2.2.2.1 [97, 110, 110] [100, 98] = 0 := by decide +kernel
theorem v3 : levelR smpC.2.2.2.1 [98, 111, 98] [100, 98] = 0 := by decide +kernel
theorem v4 : seesR smpC [97, 110, 110] = [0, 1] := by decide +kernel
theorem v5 : groupR smpC [119, 101, 98, 115] = ([0, 1], 0) := by decide +kernel
theorem v6 : groupR smpC [120] = ([], 7) := by decide +kernel
theorem v7 : pickR smpC [97, 110, 110] [119, 101, 98, 50] = (1, 0) := by decide +kernel
theorem v8 : pickR smpC [97, 110, 110] [119, 101, 98] = (-1, 8) := by decide +kernel
theorem v9 : pickR smpC [97, 110, 110] [100, 98] = (-1, 10) := by decide +kernel
theorem v10 : pickR smpC [98, 111, 98] [119, 101, 98, 49] = (-1, 10) := by decide +kernel
theorem v11 : enterR smpC.2.2.1 [97, 110, 110] [120] = 0 := by decide +kernel
theorem v12 : enterR smpC.2.2.1 [97, 110, 110] [121] = 10 := by decide +kernel
theorem v13 : enterR smpC.2.2.1 [98, 111, 98] [120] = 7 := by decide +kernel
end Conf
end Go.Proofs.Ytompphakagoaeaa
