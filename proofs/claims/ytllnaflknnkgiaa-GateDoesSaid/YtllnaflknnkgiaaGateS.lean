/- The gate's laws: the reference's Late, and Same of replies of one line. Printed by gen_gates.py. -/
import Derived.Test.YtllnaflknnkgiaaGateR
namespace Go.Proofs.Ytllnaflknnkgiaa
open Go.RowKit
set_option linter.unusedVariables false
set_option linter.unusedSimpArgs false
namespace Gate
open Conf
set_option maxHeartbeats 1000000 in
theorem rlate_any (t st : Int) (u : Str) (f un now : Int) (w : World) : Calls Try.prog 17 #[rg t st u f un, .int .i64 now] w fun e w' => e = .returned (.tuple #[rg t (lateT st un now) u f un, .bool (lateS st un now)]) ∧ Fr No w w' := by
  by_cases hs : st = 0
  · by_cases hl : now < un
    · have hu := Lib.hid (show lateS st un now = false by unfold lateS; exact decide_eq_false (by omega))
      have hs' : (st != 0) = false := by simpa using hs
      clear hs
      go_enter Try.func17, Try.ntmps17
      go_wp2
      have p1 := Blk.new (w.alloc (.cells #[.int .i64 t, .int .i64 st, .string ⟨u.toArray⟩, .int .i64 f, .int .i64 un] 37)) 37 #[.int .i64 t, .int .i64 st, .string ⟨u.toArray⟩, .int .i64 f, .int .i64 un]
      rw [size_alloc] at p1
      have hfr := ((Fr.refl No w).alloc (.cells #[.int .i64 t, .int .i64 st, .string ⟨u.toArray⟩, .int .i64 f, .int .i64 un] 37)).alloc (.cells #[.int .i64 t, .int .i64 st, .string ⟨u.toArray⟩, .int .i64 f, .int .i64 un] 37)
      generalize ((w.alloc (.cells #[.int .i64 t, .int .i64 st, .string ⟨u.toArray⟩, .int .i64 f, .int .i64 un] 37)).alloc (.cells #[.int .i64 t, .int .i64 st, .string ⟨u.toArray⟩, .int .i64 f, .int .i64 un] 37)) = W9 at p1 hfr ⊢
      have x0 := p1.cell 0
      have x1 := p1.cell 1
      have x2 := p1.cell 2
      have x3 := p1.cell 3
      have x4 := p1.cell 4
      simp only [List.getElem?_toArray, List.getElem?_cons_zero, List.getElem?_cons_succ] at x0 x1 x2 x3 x4
      refine bodyPost_ret (v := .tuple #[.agg #[.int .i64 t, .int .i64 st, .string ⟨u.toArray⟩, .int .i64 f, .int .i64 un], .bool false]) ?_ rfl ⟨?_, hfr⟩
      · simp [results, Try.f17, go_sem, x0, x1, x2, x3, x4]
      · rw [hu.out, lateT_no hu.out]
    · have hu := Lib.hid (show lateS st un now = true by unfold lateS; exact decide_eq_true (by omega))
      have hs' : (st != 0) = false := by simpa using hs
      clear hs
      go_enter Try.func17, Try.ntmps17
      go_wp2
      have p1 := Blk.new (w.alloc (.cells #[.int .i64 t, .int .i64 2, .string ⟨u.toArray⟩, .int .i64 f, .int .i64 un] 37)) 37 #[.int .i64 t, .int .i64 2, .string ⟨u.toArray⟩, .int .i64 f, .int .i64 un]
      rw [size_alloc] at p1
      have hfr := ((Fr.refl No w).alloc (.cells #[.int .i64 t, .int .i64 2, .string ⟨u.toArray⟩, .int .i64 f, .int .i64 un] 37)).alloc (.cells #[.int .i64 t, .int .i64 2, .string ⟨u.toArray⟩, .int .i64 f, .int .i64 un] 37)
      generalize ((w.alloc (.cells #[.int .i64 t, .int .i64 2, .string ⟨u.toArray⟩, .int .i64 f, .int .i64 un] 37)).alloc (.cells #[.int .i64 t, .int .i64 2, .string ⟨u.toArray⟩, .int .i64 f, .int .i64 un] 37)) = W9 at p1 hfr ⊢
      have x0 := p1.cell 0
      have x1 := p1.cell 1
      have x2 := p1.cell 2
      have x3 := p1.cell 3
      have x4 := p1.cell 4
      simp only [List.getElem?_toArray, List.getElem?_cons_zero, List.getElem?_cons_succ] at x0 x1 x2 x3 x4
      refine bodyPost_ret (v := .tuple #[.agg #[.int .i64 t, .int .i64 2, .string ⟨u.toArray⟩, .int .i64 f, .int .i64 un], .bool true]) ?_ rfl ⟨?_, hfr⟩
      · simp [results, Try.f17, go_sem, x0, x1, x2, x3, x4]
      · rw [hu.out, lateT_yes hu.out]
  · have hu := Lib.hid (show lateS st un now = false by unfold lateS; exact decide_eq_false (by omega))
    have hs' : (st != 0) = true := by simpa using hs
    clear hs
    go_enter Try.func17, Try.ntmps17
    go_wp2
    have p1 := Blk.new (w.alloc (.cells #[.int .i64 t, .int .i64 st, .string ⟨u.toArray⟩, .int .i64 f, .int .i64 un] 37)) 37 #[.int .i64 t, .int .i64 st, .string ⟨u.toArray⟩, .int .i64 f, .int .i64 un]
    rw [size_alloc] at p1
    have hfr := ((Fr.refl No w).alloc (.cells #[.int .i64 t, .int .i64 st, .string ⟨u.toArray⟩, .int .i64 f, .int .i64 un] 37)).alloc (.cells #[.int .i64 t, .int .i64 st, .string ⟨u.toArray⟩, .int .i64 f, .int .i64 un] 37)
    generalize ((w.alloc (.cells #[.int .i64 t, .int .i64 st, .string ⟨u.toArray⟩, .int .i64 f, .int .i64 un] 37)).alloc (.cells #[.int .i64 t, .int .i64 st, .string ⟨u.toArray⟩, .int .i64 f, .int .i64 un] 37)) = W9 at p1 hfr ⊢
    have x0 := p1.cell 0
    have x1 := p1.cell 1
    have x2 := p1.cell 2
    have x3 := p1.cell 3
    have x4 := p1.cell 4
    simp only [List.getElem?_toArray, List.getElem?_cons_zero, List.getElem?_cons_succ] at x0 x1 x2 x3 x4
    refine bodyPost_ret (v := .tuple #[.agg #[.int .i64 t, .int .i64 st, .string ⟨u.toArray⟩, .int .i64 f, .int .i64 un], .bool false]) ?_ rfl ⟨?_, hfr⟩
    · simp [results, Try.f17, go_sem, x0, x1, x2, x3, x4]
    · rw [hu.out, lateT_no hu.out]
set_option maxHeartbeats 1000000 in
theorem same_any (n : Int) (a b : Nat) (s : ByteArray) (w : World) (ha : w.cell? ⟨a, 0, none⟩ = some (.string s)) (hla : a < w.heap.size) (hb : w.cell? ⟨b, 0, none⟩ = some (.string s)) (hlb : b < w.heap.size) :
    Calls Try.prog 20 #[.agg #[.int .i64 n, .slice (some ⟨a, 0, none⟩) 1 1], .agg #[.int .i64 n, .slice (some ⟨b, 0, none⟩) 1 1]] w fun e w' => e = .returned (.bool true) ∧ Fr No w w' := by
  have hf := ((Fr.refl No w).alloc (.cells #[.int .i64 n, .slice (some ⟨a, 0, none⟩) 1 1] 47)).alloc (.cells #[.int .i64 n, .slice (some ⟨b, 0, none⟩) 1 1] 47)
  have h1 := (Blk.new w 47 #[.int .i64 n, .slice (some ⟨a, 0, none⟩) 1 1]).alloc (.cells #[.int .i64 n, .slice (some ⟨b, 0, none⟩) 1 1] 47)
  have h2 := Blk.new (w.alloc (.cells #[.int .i64 n, .slice (some ⟨a, 0, none⟩) 1 1] 47)) 47 #[.int .i64 n, .slice (some ⟨b, 0, none⟩) 1 1]
  rw [size_alloc] at h2
  have HF := Lib.hid hf
  have H1 := Lib.hid h1
  have H2 := Lib.hid h2
  have HA := Lib.hid ha
  have HB := Lib.hid hb
  have hss : (s == s) = true := by
    show (s.data == s.data) = true
    simp
  have hss := Lib.hid hss
  clear hf h1 h2 ha hb
  go_enter Try.func20, Try.ntmps20
  go_wp2
  obtain ⟨b1, hb1⟩ : ∃ b1, w.heap.size = b1 := ⟨_, rfl⟩
  obtain ⟨b2, hb2⟩ : ∃ b2, b1 + 1 = b2 := ⟨_, rfl⟩
  generalize ((w.alloc (.cells #[.int .i64 n, .slice (some ⟨a, 0, none⟩) 1 1] 47)).alloc (.cells #[.int .i64 n, .slice (some ⟨b, 0, none⟩) 1 1] 47)) = W at HF H1 H2 ⊢
  have ka := (HF.out.cell (p := ⟨a, 0, none⟩) hla (fun h => h)).trans HA.out
  have kb := (HF.out.cell (p := ⟨b, 0, none⟩) hlb (fun h => h)).trans HB.out
  rw [hb1] at H1 H2 ⊢
  rw [hb2] at H2 ⊢
  have x0 := H1.out.cell 0
  have x1 := H1.out.cell 1
  have y0 := H2.out.cell 0
  have y1 := H2.out.cell 1
  simp only [List.getElem?_toArray, List.getElem?_cons_zero, List.getElem?_cons_succ] at x0 x1 y0 y1
  go_quiet (fail)
  go_wp2
  go_loopw [7] (fun iv wr => ∃ k : Nat, iv = .int .i64 k ∧ k ≤ 1 ∧ Hid (Fr No W wr)) (fun i _ => 1 - (intOf i).toNat)
  case atStart => exact ⟨0, rfl, by omega, (Fr.refl No W).drewN nq⟩
  case round =>
    obtain ⟨k, rfl, hk, HW⟩ := hrel
    by_cases h0 : k = 0
    · subst h0
      have kc := (HW.out.cell (p := ⟨a, 0, none⟩) (Nat.lt_of_lt_of_le hla HF.out.size) (fun h => h)).trans ka
      have kd := (HW.out.cell (p := ⟨b, 0, none⟩) (Nat.lt_of_lt_of_le hlb HF.out.size) (fun h => h)).trans kb
      clear ka kb x0 x1 y0 y1
      go_wp2
      go_quiet (fail)
      go_wp2
      go_roundw
      case rel => exact ⟨1, by go_num, by omega, by exact HW.out.drewN _⟩
      case measure => simp [intOf]
    · have h1 : k = 1 := by omega
      subst h1
      go_wp2
      go_ret
      exact ⟨rfl, HF.out.then_no HW.out⟩
end Gate
end Go.Proofs.Ytllnaflknnkgiaa
