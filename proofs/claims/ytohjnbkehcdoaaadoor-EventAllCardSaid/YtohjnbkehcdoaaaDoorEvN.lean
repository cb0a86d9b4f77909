/- Package fault: Of and Line, of no error and of a fault. -/
import Derived.Test.YtohjnbkehcdoaaaDoorEvJ
import Derived.Test.YtohjnbkehcdoaaaDoorEvX
namespace Go.Proofs.YtohjnbkehcdoaaaDoor
open Go.RowKit
set_option linter.unusedVariables false
set_option linter.unusedSimpArgs false
namespace Ev
open Digit Sls
/-- Package errors' variable holds the type error's handle. -/
def EtAt (w : World) : Prop := w.cell? ⟨0, 0, none⟩ = some (.iface 98 (.agg #[.pointer (some ⟨1, 35, none⟩)]))
theorem EtAt.lt {w : World} (h : EtAt w) : 0 < w.heap.size := by
  rcases Nat.eq_zero_or_pos w.heap.size with h0 | h1
  · unfold EtAt at h; simp [World.cell?, h0] at h
  · exact h1
theorem EtAt.no {w w' : World} (h : EtAt w) (hf : Fr No w w') : EtAt w' := (hf.cell (p := ⟨0, 0, none⟩) h.lt (fun h => h)).trans h
theorem of_nil (w : World) : Calls Tryd.prog 15 #[.nilIface] w fun e w' => e = .returned (.int .i64 0) ∧ Fr No w w' := by
  go_enter Tryd.func15, Tryd.ntmps15
  go_wp2_with fail
  go_ret
  exact ⟨rfl, (Fr.refl No w).alloc _⟩
theorem line_nil (w : World) : Calls Tryd.prog 16 #[.nilIface] w fun e w' => e = .returned (.int .i64 0) ∧ Fr No w w' := by
  go_enter Tryd.func16, Tryd.ntmps16
  go_wp2_with go_in
  refine wp_loop_rounds 1 ?_
  rw [rounds_succ]
  go_wp2_with go_in
  go_ret
  exact ⟨rfl, Fr.refl No w⟩
theorem of_fault (b : Nat) (n c : Int) (t : Str) (w : World) (hg : EtAt w) (hb : Blk w b 74 (cF n t c)) : Calls Tryd.prog 15 #[.iface 70 (.pointer (some ⟨b, 0, none⟩))] w fun e w' => e = .returned (.int .i64 c) ∧ Fr No w w' := by
  have F1 := (Fr.refl No w).alloc (.cells #[.int .i64 0] 67)
  have X1 := Blk.new w 67 #[.int .i64 0]
  have hb1 := hb.alloc (.cells #[.int .i64 0] 67)
  have HAS := Lib.hid (As.as_unwrap b c ⟨w.heap.size, 0, none⟩ (.int .i64 0) _ (hg.no F1) (X1.cell 0) (X1.frozen 0) (hb1.cell 2))
  have HF1 := Lib.hid F1
  clear F1 X1 hb1 hb hg
  go_enter Tryd.func15, Tryd.ntmps15
  go_wp2_with fail
  refine HAS.out.mono ?_
  unfold As.AsIs
  rintro x w1 ⟨rfl, hc, hf⟩
  have HF2 := Lib.hid (HF1.out.trans hf fun k hk hl => by have e : k = w.heap.size := hk; omega)
  clear hf HF1 HAS
  go_wp2_with fail
  go_ret
  exact ⟨rfl, HF2.out⟩
theorem line_fault (b : Nat) (n c : Int) (t : Str) (w : World) (hg : EtAt w) (hb : Blk w b 74 (cF n t c)) (hn : 0 < n) : Calls Tryd.prog 16 #[.iface 70 (.pointer (some ⟨b, 0, none⟩))] w fun e w' => e = .returned (.int .i64 n) ∧ Fr No w w' := by
  have F1 := (Fr.refl No w).alloc (.cells #[.pointer none] 70)
  have X1 := Blk.new w 70 #[.pointer none]
  have hb1 := hb.alloc (.cells #[.pointer none] 70)
  have hbl := hb.lt
  have HAS := Lib.hid (As.as_hit ⟨b, 0, none⟩ ⟨w.heap.size, 0, none⟩ (.pointer none) _ (hg.no F1) (X1.cell 0) (X1.frozen 0))
  have HF1 := Lib.hid F1
  have HB := Lib.hid (And.intro hb1 hbl)
  clear F1 X1 hb1 hb hg hbl
  go_enter Tryd.func16, Tryd.ntmps16
  go_wp2_with go_in
  refine wp_loop_rounds 1 ?_
  rw [rounds_succ]
  go_wp2_with fail
  refine HAS.out.mono ?_
  unfold As.AsIs
  rintro x w1 ⟨rfl, hc, hf⟩
  have HF2 := Lib.hid (HF1.out.trans hf fun k hk hl => by have e : k = w.heap.size := hk; omega)
  have HB2 := Lib.hid (HB.out.1.fr hf (fun e => by have e : b = w.heap.size := e; have := HB.out.2; omega))
  have l0 := HB2.out.cell 0
  simp only [cF, List.getElem?_toArray, List.getElem?_cons_zero] at l0
  clear hf HF1 HAS HB
  go_wp2_with go_in
  go_ret
  exact ⟨rfl, HF2.out⟩
end Ev
end Go.Proofs.YtohjnbkehcdoaaaDoor
