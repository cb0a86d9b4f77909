/- Package gate: its small acts, and those of its reference. -/
import Derived.Test.YtllnaflknnkgiaaEnter
namespace Go.Proofs.Ytllnaflknnkgiaa
open Go.RowKit
set_option linter.unusedVariables false
set_option linter.unusedSimpArgs false
namespace Gate
open Conf
def isT (n : Int) : Bool := decide (0 ≤ n ∧ n ≤ 1099511627776)
theorem isT_iff {n : Int} : isT n = true ↔ 0 ≤ n ∧ n ≤ 1099511627776 := by simp [isT]
theorem is_any (n : Int) (w : World) : Calls Try.prog 97 #[.int .i64 n] w fun e w' => e = .returned (.bool (isT n)) ∧ w = w' := by
  by_cases h1 : 0 ≤ n
  · by_cases h2 : n ≤ 1099511627776
    all_goals
      go_enter Try.func97, Try.ntmps97
      go_wp2
      go_ret
      exact ⟨by simp [isT, h1, h2], rfl⟩
  · go_enter Try.func97, Try.ntmps97
    go_wp2
    go_ret
    exact ⟨congrArg (fun b => Ending.returned (.bool b)) (by simp [isT]; omega), rfl⟩
theorem both_any (a b : Int) (w : World) : Calls Try.prog 86 #[.int .i64 a, .int .i64 b] w fun e w' => e = .returned (.bool (isT a && isT b)) ∧ w = w' := by
  cases ha : isT a
  all_goals
    go_enter Try.func86, Try.ntmps86
    go_wp2_with (go_at_call 97; refine (is_any _ _).mono ?_; rintro e w' ⟨rfl, rfl⟩)
    go_ret
    exact ⟨by simp [ha], rfl⟩
/-- A time put to one, or why there is none. -/
theorem add_yes {a b : Int} (ha : 0 ≤ a ∧ a ≤ 1099511627776) (hb : 0 ≤ b) (hs : a + b ≤ 1099511627776) (w : World) : Calls Try.prog 55 #[.int .i64 a, .int .i64 b] w fun e w' => e = .returned (.tuple #[.int .i64 (a + b), .int .i64 0]) ∧ w = w' := by
  have h : (isT a && isT b) = true := by rw [isT_iff.2 ha, isT_iff.2 ⟨hb, by omega⟩]; rfl
  have hc := fun w => both_any a b w
  rw [h] at hc
  have hl : b ≤ 1099511627776 - a := by omega
  go_enter Try.func55, Try.ntmps55
  go_wp2_with (go_at_call 86; refine (hc _).mono ?_; rintro e w' ⟨rfl, rfl⟩)
  go_ret2
  exact ⟨rfl, rfl⟩
theorem add_no {a b : Int} (ha : 0 ≤ a ∧ a ≤ 1099511627776) (hb : 0 ≤ b ∧ b ≤ 9223372036854775807) (hs : 1099511627776 < a + b) (w : World) : Calls Try.prog 55 #[.int .i64 a, .int .i64 b] w fun e w' => (∃ c, e = .returned (.tuple #[.int .i64 0, .int .i64 c]) ∧ (c != 0) = true) ∧ w = w' := by
  have hc := fun w => both_any a b w
  rw [isT_iff.2 ha, Bool.true_and] at hc
  cases h : isT b
  · rw [h] at hc
    go_enter Try.func55, Try.ntmps55
    go_wp2_with (go_at_call 86; refine (hc _).mono ?_; rintro e w' ⟨rfl, rfl⟩)
    go_ret2
    exact ⟨⟨1, rfl, rfl⟩, rfl⟩
  · rw [h] at hc
    have hl : 1099511627776 - a < b := by omega
    have hb2 := isT_iff.1 h
    go_enter Try.func55, Try.ntmps55
    go_wp2_with (go_at_call 86; refine (hc _).mono ?_; rintro e w' ⟨rfl, rfl⟩)
    go_ret2
    exact ⟨⟨2, rfl, rfl⟩, rfl⟩

theorem add_bad {a b : Int} (h : isT a = false) (w : World) : Calls Try.prog 55 #[.int .i64 a, .int .i64 b] w fun e w' => e = .returned (.tuple #[.int .i64 0, .int .i64 1]) ∧ w = w' := by
  have hc := fun w => both_any a b w
  rw [h, Bool.false_and] at hc
  go_enter Try.func55, Try.ntmps55
  go_wp2_with (go_at_call 86; refine (hc _).mono ?_; rintro e w' ⟨rfl, rfl⟩)
  go_ret2
  exact ⟨rfl, rfl⟩
theorem add_over {a b : Int} (ha : 0 ≤ a ∧ a ≤ 1099511627776) (hb : 0 ≤ b ∧ b ≤ 1099511627776) (hs : 1099511627776 < a + b) (w : World) : Calls Try.prog 55 #[.int .i64 a, .int .i64 b] w fun e w' => e = .returned (.tuple #[.int .i64 0, .int .i64 2]) ∧ w = w' := by
  have h : (isT a && isT b) = true := by rw [isT_iff.2 ha, isT_iff.2 hb]; rfl
  have hc := fun w => both_any a b w
  rw [h] at hc
  have hl : 1099511627776 - a < b := by omega
  go_enter Try.func55, Try.ntmps55
  go_wp2_with (go_at_call 86; refine (hc _).mono ?_; rintro e w' ⟨rfl, rfl⟩)
  go_ret2
  exact ⟨rfl, rfl⟩
/-- The gate at block g. -/
abbrev GAt (w : World) (g : Nat) (t wt st : Int) (u : Str) (f un : Int) : Prop := Blk w g 94 #[.int .i64 t, .int .i64 wt, .int .i64 st, .string ⟨u.toArray⟩, .int .i64 f, .int .i64 un]
/-- A reply of one line. -/
def RepIs (w : World) (n : Int) (s : ByteArray) (e : Ending) (w' : World) : Prop := ∃ g, e = .returned (.agg #[.int .i64 n, .slice (some ⟨g, 0, none⟩) 1 1]) ∧ w'.cell? ⟨g, 0, none⟩ = some (.string s) ∧ New w w' g ∧ Fr No w w'
theorem one_any (n : Int) (s : ByteArray) (w : World) : Calls Try.prog 57 #[.int .i64 n, .string s] w (RepIs w n s) := by
  go_enter Try.func57, Try.ntmps57
  go_wp2
  have b1 := ((Blk.new w 47 #[.int .i64 n, .slice (some ⟨w.heap.size + 1, 0, none⟩) 1 1]).alloc (.cells #[.string s] 9))
  have b2 := Blk.new (w.alloc (.cells #[.int .i64 n, .slice (some ⟨w.heap.size + 1, 0, none⟩) 1 1] 47)) 9 #[.string s]
  rw [size_alloc] at b2
  have hf := ((Fr.refl No w).alloc (.cells #[.int .i64 n, .slice (some ⟨w.heap.size + 1, 0, none⟩) 1 1] 47)).alloc (.cells #[.string s] 9)
  have e0 := b1.cell 0
  have e1 := b1.cell 1
  have e2 := b2.cell 0
  have hn : New w ((w.alloc (.cells #[.int .i64 n, .slice (some ⟨w.heap.size + 1, 0, none⟩) 1 1] 47)).alloc (.cells #[.string s] 9)) (w.heap.size + 1) := ⟨by omega, by simp⟩
  generalize ((w.alloc (.cells #[.int .i64 n, .slice (some ⟨w.heap.size + 1, 0, none⟩) 1 1] 47)).alloc (.cells #[.string s] 9)) = W at *
  simp at e0 e1 e2
  refine bodyPost_ret (v := .agg #[.int .i64 n, .slice (some ⟨w.heap.size + 1, 0, none⟩) 1 1]) ?_ rfl ⟨_, rfl, e2, hn, hf⟩
  simp [results, Try.f57, go_sem, e0, e1]
theorem rone_any (n : Int) (s : ByteArray) (w : World) : Calls Try.prog 56 #[.int .i64 n, .string s] w (RepIs w n s) := by
  go_enter Try.func56, Try.ntmps56
  go_wp2
  have b1 := ((Blk.new w 47 #[.int .i64 n, .slice (some ⟨w.heap.size + 1, 0, none⟩) 1 1]).alloc (.cells #[.string s] 9))
  have b2 := Blk.new (w.alloc (.cells #[.int .i64 n, .slice (some ⟨w.heap.size + 1, 0, none⟩) 1 1] 47)) 9 #[.string s]
  rw [size_alloc] at b2
  have hf := ((Fr.refl No w).alloc (.cells #[.int .i64 n, .slice (some ⟨w.heap.size + 1, 0, none⟩) 1 1] 47)).alloc (.cells #[.string s] 9)
  have e0 := b1.cell 0
  have e1 := b1.cell 1
  have e2 := b2.cell 0
  have hn : New w ((w.alloc (.cells #[.int .i64 n, .slice (some ⟨w.heap.size + 1, 0, none⟩) 1 1] 47)).alloc (.cells #[.string s] 9)) (w.heap.size + 1) := ⟨by omega, by simp⟩
  generalize ((w.alloc (.cells #[.int .i64 n, .slice (some ⟨w.heap.size + 1, 0, none⟩) 1 1] 47)).alloc (.cells #[.string s] 9)) = W at *
  simp at e0 e1 e2
  refine bodyPost_ret (v := .agg #[.int .i64 n, .slice (some ⟨w.heap.size + 1, 0, none⟩) 1 1]) ?_ rfl ⟨_, rfl, e2, hn, hf⟩
  simp [results, Try.f56, go_sem, e0, e1]
section
variable {w : World} {g : Nat} {t wt st f un : Int} {u : Str}
theorem made_any (h : GAt w g t wt st u f un) (ht : 1 ≤ t) : Calls Try.prog 58 #[.pointer (some ⟨g, 0, none⟩)] w fun e w' => e = .returned (.bool true) ∧ w = w' := by
  have q0 := h.cell 0
  have q1 := h.cell 1
  simp at q0 q1
  have hz : ¬ t = 0 := by omega
  clear h
  go_enter Try.func58, Try.ntmps58
  go_wp2
  go_ret
  exact ⟨rfl, rfl⟩
theorem state_any (h : GAt w g t wt st u f un) (ht : 1 ≤ t) : Calls Try.prog 23 #[.pointer (some ⟨g, 0, none⟩)] w fun e w' => e = .returned (.int .i64 st) ∧ w = w' := by
  have q2 := h.cell 2
  simp at q2
  have hm := made_any h ht
  clear h
  go_enter Try.func23, Try.ntmps23
  go_wp2_with (go_at_call 58; refine hm.mono ?_; rintro e w' ⟨rfl, rfl⟩)
  go_ret
  exact ⟨rfl, rfl⟩
theorem fails_any (h : GAt w g t wt st u f un) (ht : 1 ≤ t) : Calls Try.prog 25 #[.pointer (some ⟨g, 0, none⟩)] w fun e w' => e = .returned (.int .i64 f) ∧ w = w' := by
  have q2 := h.cell 4
  simp at q2
  have hm := made_any h ht
  clear h
  go_enter Try.func25, Try.ntmps25
  go_wp2_with (go_at_call 58; refine hm.mono ?_; rintro e w' ⟨rfl, rfl⟩)
  go_ret
  exact ⟨rfl, rfl⟩
def userS (st : Int) (u : Str) : Str := if st = 1 then u else []
theorem user_any (h : GAt w g t wt st u f un) (ht : 1 ≤ t) : Calls Try.prog 24 #[.pointer (some ⟨g, 0, none⟩)] w fun e w' => e = .returned (.string ⟨(userS st u).toArray⟩) ∧ w = w' := by
  have q2 := h.cell 3
  simp at q2
  have hm := state_any h ht
  clear h
  by_cases hs : st = 1
  · have hu := Lib.hid (show userS st u = u by unfold userS; rw [if_pos hs])
    subst hs
    go_enter Try.func24, Try.ntmps24
    go_wp2_with (go_at_call 23; refine hm.mono ?_; rintro e w' ⟨rfl, rfl⟩)
    go_ret
    exact ⟨ret_str hu.out.symm, rfl⟩
  · have hu := Lib.hid (show userS st u = [] by unfold userS; rw [if_neg hs])
    have hs' : (st != 1) = true := by simpa using hs
    clear hs
    go_enter Try.func24, Try.ntmps24
    go_wp2_with (go_at_call 23; refine hm.mono ?_; rintro e w' ⟨rfl, rfl⟩)
    go_ret
    exact ⟨ret_str hu.out.symm, rfl⟩
def untilS (st un : Int) : Int := if st = 0 then un else 0
theorem until_any (h : GAt w g t wt st u f un) (ht : 1 ≤ t) : Calls Try.prog 22 #[.pointer (some ⟨g, 0, none⟩)] w fun e w' => e = .returned (.tuple #[.int .i64 (untilS st un), .bool (st == 0)]) ∧ w = w' := by
  have q2 := h.cell 5
  simp at q2
  have hm := state_any h ht
  clear h
  by_cases hs : st = 0
  · subst hs
    go_enter Try.func22, Try.ntmps22
    go_wp2_with (go_at_call 23; refine hm.mono ?_; rintro e w' ⟨rfl, rfl⟩)
    go_ret2
    exact ⟨ret_ib rfl rfl, rfl⟩
  · have hu := Lib.hid (show untilS st un = 0 by unfold untilS; rw [if_neg hs])
    have hs' : (st != 0) = true := by simpa using hs
    have hs2 := Lib.hid (show (st == 0) = false by simpa using hs)
    clear hs
    go_enter Try.func22, Try.ntmps22
    go_wp2_with (go_at_call 23; refine hm.mono ?_; rintro e w' ⟨rfl, rfl⟩)
    go_ret2
    exact ⟨ret_ib hu.out.symm hs2.out.symm, rfl⟩
def lateS (st un now : Int) : Bool := decide (st = 0 ∧ un ≤ now)
def lateT (st un now : Int) : Int := if lateS st un now = true then 2 else st
theorem lateT_yes {st un now : Int} (h : lateS st un now = true) : lateT st un now = 2 := if_pos h
theorem lateT_no {st un now : Int} (h : lateS st un now = false) : lateT st un now = st := if_neg (by rw [h]; decide)
theorem late_any (h : GAt w g t wt st u f un) (ht : 1 ≤ t) (now : Int) : Calls Try.prog 18 #[.pointer (some ⟨g, 0, none⟩), .int .i64 now] w fun e w' => e = .returned (.bool (lateS st un now)) ∧ GAt w' g t wt (lateT st un now) u f un ∧ Fr (Just g) w w' := by
  have q2 := h.cell 2
  have q3 := h.frozen 2
  simp at q2
  have hm := until_any h ht
  have H := Lib.hid h
  clear h
  by_cases hs : st = 0
  · by_cases hl : now < un
    · have hu := Lib.hid (show lateS st un now = false by unfold lateS; exact decide_eq_false (by omega))
      have e : untilS st un = un := by unfold untilS; rw [if_pos hs]
      rw [e, show (st == 0) = true by simpa using hs] at hm
      go_enter Try.func18, Try.ntmps18
      go_wp2_with (go_at_call 22; refine hm.mono ?_; rintro e w' ⟨rfl, rfl⟩)
      go_ret
      exact ⟨ret_bool hu.out.symm, by rw [lateT_no hu.out]; exact H.out, Fr.refl _ _⟩
    · have hu := Lib.hid (show lateS st un now = true by unfold lateS; exact decide_eq_true (by omega))
      have e : untilS st un = un := by unfold untilS; rw [if_pos hs]
      rw [e, show (st == 0) = true by simpa using hs] at hm
      go_enter Try.func18, Try.ntmps18
      go_wp2_with (go_at_call 22; refine hm.mono ?_; rintro e w' ⟨rfl, rfl⟩)
      go_ret
      exact ⟨ret_bool hu.out.symm, by rw [lateT_yes hu.out]; exact H.out.put 2 _, (Fr.refl (Just g) w).setCell (p := ⟨g, 2, none⟩) (show Just g g ∨ _ from .inl rfl) _⟩
  · have hu := Lib.hid (show lateS st un now = false by unfold lateS; exact decide_eq_false (by omega))
    rw [show (st == 0) = false by simpa using hs] at hm
    clear hs
    go_enter Try.func18, Try.ntmps18
    go_wp2_with (go_at_call 22; refine hm.mono ?_; rintro e w' ⟨rfl, rfl⟩)
    go_ret
    exact ⟨ret_bool hu.out.symm, by rw [lateT_no hu.out]; exact H.out, Fr.refl _ _⟩
end
end Gate
end Go.Proofs.Ytllnaflknnkgiaa
