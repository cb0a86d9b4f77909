/- Package event: the example. -/
import Derived.Test.YtohjnbkehcdoaaaDoorEvK
import Derived.Test.YtohjnbkehcdoaaaDoorEvM
import Derived.Test.YtohjnbkehcdoaaaDoorEvN
namespace Go.Proofs.YtohjnbkehcdoaaaDoor
open Go.RowKit
set_option linter.unusedVariables false
set_option linter.unusedSimpArgs false
namespace Ev
open Digit Sls
def T1 : Str := [35, 32, 102, 105, 114, 115, 116, 10, 99, 111, 109, 101, 32, 51, 10, 10, 116, 121, 112, 101, 32, 51, 32, 97, 32, 98, 10, 116, 105, 99, 107, 32, 53]
def T2 : Str := [99, 111, 109, 101, 32, 51, 10, 99, 111, 109, 101, 32, 120]
def L1 : List E := [⟨1, 3, 0, false, []⟩, ⟨3, 3, 0, false, [97, 32, 98]⟩, ⟨8, 0, 5, false, []⟩]
theorem put_1 : putE ⟨5, 3, 7, true, []⟩ = ([111, 112, 101, 110, 101, 100, 32, 51, 32, 121, 101, 115, 32, 55], 0) := by kernel_rfl
theorem put_2 : putE ⟨3, 3, 0, false, [108, 115, 10]⟩ = ([116, 121, 112, 101, 32, 51, 32, 108, 115, 92, 110], 0) := by kernel_rfl
theorem put_3 : putE ⟨8, 1, 0, false, []⟩ = ([], 3) := by kernel_rfl
theorem all_1 : allE T1 = .ok L1 := by kernel_rfl
theorem all_2 : allE T2 = .error 2 := by kernel_rfl
def OkIs (l : List E) (w : World) (x : Ending) (w' : World) : Prop := ∃ v, x = .returned (.tuple #[v, .nilIface]) ∧ RSl 5 REv w' (New w w') [v] l ∧ Fr No w w'
def BadIs (n : Nat) (w : World) (x : Ending) (w' : World) : Prop := ∃ b, x = .returned (.tuple #[.slice none 0 0, .iface 70 (.pointer (some ⟨b, 0, none⟩))]) ∧ Blk w' b 74 (cF n evB 3) ∧ Fr No w w' ∧ w.heap.size ≤ b
theorem all_ok {s : Str} {l : List E} (h : allE s = .ok l) (hs : s.length ≤ 900000) (w : World) : Calls Tryd.prog 12 #[.string ⟨s.toArray⟩] w (OkIs l w) := by
  have h2 := all_any s w hs
  rw [h] at h2
  exact h2
theorem all_bad {s : Str} {n : Nat} (h : allE s = .error n) (hs : s.length ≤ 900000) (w : World) : Calls Tryd.prog 12 #[.string ⟨s.toArray⟩] w (BadIs n w) := by
  have h2 := all_any s w hs
  rw [h] at h2
  exact h2
theorem rsl_no {w w' : World} {S : Nat → Prop} {cs : List Value} {l : List E} (h : RSl 5 REv w S cs l) (hS : ∀ k, S k → k < w.heap.size) (hf : Fr No w w') : RSl 5 REv w' S cs l :=
  (RSl.stable REv.stable).go h (Kept.of_no hf hS) (fun _ h => h)
theorem flat5 (l : List E) : (l.flatMap encE).length = l.length * 5 := by
  induction l with
  | nil => rfl
  | cons e l ih =>
    rw [List.flatMap_cons, List.length_append, ih, List.length_cons]
    show 5 + l.length * 5 = _
    omega
theorem lit_ev (w : World) (l : List E) (hm : l.length ≤ 1000) (hl : ∀ e ∈ l, e.s.length ≤ 900000) : RSl 5 REv (w.alloc (.cells (l.flatMap encE).toArray 23)) (New w (w.alloc (.cells (l.flatMap encE).toArray 23))) [.slice (some ⟨w.heap.size, 0, none⟩) l.length l.length] l :=
  grow_ev (Grow.lit w 23 5 encE l (flat5 l) (by unfold maxLen; omega)) hl
def WorksIs (w : World) (x : Ending) (w' : World) : Prop := x = .returned (.bool true) ∧ Fr No w w'
set_option maxRecDepth 100000 in
set_option maxHeartbeats 8000000 in
theorem works_any (w : World) (hg : EtAt w) : Calls Tryd.prog 6 #[] w (WorksIs w) := by
  have P1 := Lib.hid (fun W => put_any ⟨5, 3, 7, true, []⟩ W (by decide))
  have P2 := Lib.hid (fun W => put_any ⟨3, 3, 0, false, [108, 115, 10]⟩ W (by decide))
  have P3 := Lib.hid (fun W => put_any ⟨8, 1, 0, false, []⟩ W (by decide))
  rw [put_1] at P1
  rw [put_2] at P2
  rw [put_3] at P3
  have A1 := Lib.hid (fun W => all_ok all_1 (by decide) W)
  have A2 := Lib.hid (fun W => all_bad all_2 (by decide) W)
  unfold cE at P1 P2 P3
  unfold T1 at A1
  unfold T2 at A2
  have HG := Lib.hid hg
  clear hg
  go_enter Tryd.func6, Tryd.ntmps6
  go_wp2_with fail
  refine (P1.out _).mono ?_
  unfold PutIs
  rintro x w1 ⟨rfl, hf⟩
  have F1 := Lib.hid hf
  clear hf P1
  go_wp2_with fail
  refine (P2.out _).mono ?_
  rintro x w2 ⟨rfl, hf⟩
  have F2 := Lib.hid (F1.out.then_no hf)
  clear hf P2 F1
  go_wp2_with fail
  refine (P3.out _).mono ?_
  rintro x w3 ⟨rfl, hf⟩
  have F3 := Lib.hid (F2.out.then_no hf)
  clear hf P3 F2
  go_wp2_with fail
  refine (A1.out _).mono ?_
  unfold OkIs
  rintro x w4 ⟨v, rfl, hr, hf⟩
  have F4 := Lib.hid (F3.out.then_no hf)
  have R4 := Lib.hid hr
  have N4 := Lib.hid (show ∀ k, New w3 w4 k → k < w4.heap.size from fun k h => h.2)
  clear hf A1 F3 hr
  go_wp2_with fail
  refine (A2.out _).mono ?_
  unfold BadIs
  rintro x w5 ⟨b, rfl, hb, hf, -⟩
  have F5 := Lib.hid (F4.out.then_no hf)
  have R5 := Lib.hid (rsl_no R4.out N4.out hf)
  have N5 := Lib.hid (show ∀ k, New w3 w4 k → k < w5.heap.size from fun k h => Nat.lt_of_lt_of_le (N4.out k h) hf.size)
  have B5 := Lib.hid hb
  clear hf A2 F4 R4 N4 hb
  have HL := lit_ev w5 L1 (by decide) (by decide)
  have F6 := Lib.hid (F5.out.alloc (.cells (L1.flatMap encE).toArray 23))
  have B6 := Lib.hid (B5.out.alloc (.cells (L1.flatMap encE).toArray 23))
  have R6 := Lib.hid (rsl_no R5.out N5.out ((Fr.refl No w5).alloc (.cells (L1.flatMap encE).toArray 23)))
  have HS := Lib.hid (same_any _ _ L1 L1 _ _ _ R6.out HL)
  clear HL R5 N5 B5 F5 R6
  go_wp2_with fail
  refine HS.out.mono ?_
  rintro x w6 ⟨rfl, nn, hw⟩
  try simp only [decide_true]
  have hf6 := Fr.refl No (w5.alloc (.cells (L1.flatMap encE).toArray 23))
  have hf7 := hf6.drewN nn
  rw [← hw] at hf7
  have F7 := Lib.hid (F6.out.then_no hf7)
  have B7 := Lib.hid (B6.out.fr hf7 (fun h => h))
  clear hw hf6 hf7 F6 B6 HS
  have HO := Lib.hid (of_fault b _ _ _ w6 (HG.out.no F7.out) B7.out)
  go_wp2_with fail
  refine HO.out.mono ?_
  rintro x w7 ⟨rfl, hf⟩
  have F8 := Lib.hid (F7.out.then_no hf)
  have B8 := Lib.hid (B7.out.fr hf (fun h => h))
  clear hf F7 B7 HO
  have HL := Lib.hid (line_fault b _ _ _ w7 (HG.out.no F8.out) B8.out (by decide))
  go_wp2_with fail
  refine HL.out.mono ?_
  rintro x w8 ⟨rfl, hf⟩
  have F9 := Lib.hid (F8.out.then_no hf)
  clear hf F8 B8 HL
  go_wp2_with fail
  go_ret
  exact ⟨rfl, F9.out⟩
end Ev
end Go.Proofs.YtohjnbkehcdoaaaDoor
