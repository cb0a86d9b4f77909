/- Package gate: New and Login. -/
import Derived.Test.YtllnaflknnkgiaaGateP
import Derived.Deep.RegionHeld3
namespace Go.Proofs.Ytllnaflknnkgiaa
open Go.RowKit
set_option linter.unusedVariables false
set_option linter.unusedSimpArgs false
namespace Gate
open Conf
def youAre (u : Str) : ByteArray := ⟨#[121, 111, 117, 32, 97, 114, 101, 32]⟩ ++ ⟨u.toArray⟩
def welcome (u : Str) : ByteArray := ⟨#[119, 101, 108, 99, 111, 109, 101, 32]⟩ ++ ⟨u.toArray⟩
def shutT : ByteArray := ⟨#[115, 104, 117, 116]⟩
def noSuch : ByteArray := ⟨#[110, 111, 32, 115, 117, 99, 104, 32, 110, 97, 109, 101, 32, 97, 110, 100, 32, 112, 97, 115, 115, 119, 111, 114, 100]⟩
def tooMany : ByteArray := ⟨#[116, 111, 111, 32, 109, 97, 110, 121, 32, 97, 116, 116, 101, 109, 112, 116, 115]⟩
/-- What a login makes of the state, who they are and how often they failed; and the reply's number and line. -/
def loginR (t st : Int) (u : Str) (f : Int) (ok : Bool) (user : Str) : (Int × Str × Int) × (Int × ByteArray) :=
  if st = 1 then ((st, u, f), (503, youAre u))
  else if st = 2 then ((st, u, f), (421, shutT))
  else if ok = true then ((1, user, f), (230, welcome user))
  else if f + 1 < t then ((st, u, f + 1), (430, noSuch))
  else ((2, u, f + 1), (421, tooMany))
/-- What New answers. -/
def newR (t wt now : Int) : Int := if t < 1 ∨ 9 < t ∨ wt < 1 ∨ 3600 < wt then 2 else if now < 0 ∨ 1099511627776 < now then 1 else if 1099511627776 < now + wt then 2 else 0
def NewPost (t wt now : Int) (w : World) (e : Ending) (w' : World) : Prop :=
  (newR t wt now = 0 ∧ ∃ g, e = .returned (.tuple #[.pointer (some ⟨g, 0, none⟩), .int .i64 0]) ∧ GAt w' g t wt 0 [] 0 (now + wt) ∧ Fr No w w' ∧ New w w' g) ∨
  (newR t wt now ≠ 0 ∧ e = .returned (.tuple #[.pointer none, .int .i64 (newR t wt now)]) ∧ Fr No w w')
theorem badT {t wt : Int} (h : t < 1 ∨ 9 < t ∨ wt < 1 ∨ 3600 < wt) (now : Int) : newR t wt now = 2 := by unfold newR; rw [if_pos h]
set_option maxHeartbeats 1000000 in
theorem new_any (t wt now : Int) (w : World) (hn : -9223372036854775808 ≤ now ∧ now ≤ 9223372036854775807) : Calls Try.prog 15 #[.int .i64 t, .int .i64 wt, .int .i64 now] w (NewPost t wt now w) := by
  by_cases h1 : t < 1
  · have hr := Lib.hid (badT (wt := wt) (.inl h1) now)
    go_enter Try.func15, Try.ntmps15
    go_wp2
    go_ret2
    exact .inr ⟨by rw [hr.out]; decide, by rw [hr.out]; rfl, Fr.refl _ _⟩
  by_cases h2 : 9 < t
  · have hr := Lib.hid (badT (wt := wt) (.inr (.inl h2)) now)
    go_enter Try.func15, Try.ntmps15
    go_wp2
    go_ret2
    exact .inr ⟨by rw [hr.out]; decide, by rw [hr.out]; rfl, Fr.refl _ _⟩
  by_cases h3 : wt < 1
  · have hr := Lib.hid (badT (t := t) (.inr (.inr (.inl h3))) now)
    go_enter Try.func15, Try.ntmps15
    go_wp2
    go_ret2
    exact .inr ⟨by rw [hr.out]; decide, by rw [hr.out]; rfl, Fr.refl _ _⟩
  by_cases h4 : 3600 < wt
  · have hr := Lib.hid (badT (t := t) (.inr (.inr (.inr h4))) now)
    go_enter Try.func15, Try.ntmps15
    go_wp2
    go_ret2
    exact .inr ⟨by rw [hr.out]; decide, by rw [hr.out]; rfl, Fr.refl _ _⟩
  have hr0 : newR t wt now = if now < 0 ∨ 1099511627776 < now then 1 else if 1099511627776 < now + wt then 2 else 0 := by unfold newR; rw [if_neg (by omega)]
  by_cases h5 : now < 0 ∨ 1099511627776 < now
  · rw [if_pos h5] at hr0
    have hr := Lib.hid hr0
    have ha := add_bad (b := wt) (show isT now = false by unfold isT; exact decide_eq_false (by omega)) 
    clear hr0 h5
    go_enter Try.func15, Try.ntmps15
    go_wp2_with (go_at_call 55; refine (ha _).mono ?_; rintro e w' ⟨rfl, rfl⟩)
    go_ret2
    exact .inr ⟨by rw [hr.out]; decide, by rw [hr.out]; rfl, Fr.refl _ _⟩
  rw [if_neg h5] at hr0
  by_cases h6 : 1099511627776 < now + wt
  · rw [if_pos h6] at hr0
    have hr := Lib.hid hr0
    have ha := add_over (a := now) (b := wt) (by omega) (by omega) h6
    clear hr0 h5
    go_enter Try.func15, Try.ntmps15
    go_wp2_with (go_at_call 55; refine (ha _).mono ?_; rintro e w' ⟨rfl, rfl⟩)
    go_ret2
    exact .inr ⟨by rw [hr.out]; decide, by rw [hr.out]; rfl, Fr.refl _ _⟩
  · rw [if_neg h6] at hr0
    have hr := Lib.hid hr0
    have ha := fun w => add_yes (a := now) (b := wt) (by omega) (by omega) (by omega) w
    clear hr0 h5
    go_enter Try.func15, Try.ntmps15
    go_wp2_with (go_at_call 55; refine (ha _).mono ?_; rintro e w' ⟨rfl, rfl⟩)
    go_ret2
    exact .inl ⟨hr.out, w.heap.size, rfl, Blk.new _ _ _, (Fr.refl _ _).alloc _, by omega, by simp⟩
/-- The reference's gate as a value. -/
abbrev rg (t st : Int) (u : Str) (f un : Int) : Value := .agg #[.int .i64 t, .int .i64 st, .string ⟨u.toArray⟩, .int .i64 f, .int .i64 un]
def RNew (t wt now : Int) (w : World) (e : Ending) (w' : World) : Prop :=
  Fr No w w' ∧ ((newR t wt now = 0 ∧ e = .returned (.tuple #[rg t 0 [] 0 (now + wt), .int .i64 0])) ∨ (newR t wt now ≠ 0 ∧ e = .returned (.tuple #[rg 0 0 [] 0 0, .int .i64 (newR t wt now)])))
set_option maxHeartbeats 1000000 in
theorem rnew_any (t wt now : Int) (w : World) (hn : -9223372036854775808 ≤ now ∧ now ≤ 9223372036854775807) : Calls Try.prog 16 #[.int .i64 t, .int .i64 wt, .int .i64 now] w (RNew t wt now w) := by
  by_cases h1 : t < 1
  · have hr := Lib.hid (badT (wt := wt) (.inl h1) now)
    go_enter Try.func16, Try.ntmps16
    go_wp2
    have b1 := Blk.new w 37 #[.int .i64 0, .int .i64 0, .string ⟨#[]⟩, .int .i64 0, .int .i64 0]
    have hf := (Fr.refl No w).alloc (.cells #[.int .i64 0, .int .i64 0, .string ⟨#[]⟩, .int .i64 0, .int .i64 0] 37)
    have e0 := b1.cell 0
    have e1 := b1.cell 1
    have e2 := b1.cell 2
    have e3 := b1.cell 3
    have e4 := b1.cell 4
    generalize w.alloc (.cells #[.int .i64 0, .int .i64 0, .string ⟨#[]⟩, .int .i64 0, .int .i64 0] 37) = W at hf e0 e1 e2 e3 e4 ⊢
    simp only [List.getElem?_toArray, List.getElem?_cons_zero, List.getElem?_cons_succ] at e0 e1 e2 e3 e4
    refine bodyPost_ret (v := .tuple #[.agg #[.int .i64 0, .int .i64 0, .string ⟨#[]⟩, .int .i64 0, .int .i64 0], .int .i64 2]) ?_ rfl ⟨hf, .inr ⟨by rw [hr.out]; decide, by rw [hr.out]⟩⟩
    simp [results, Try.f16, go_sem, e0, e1, e2, e3, e4]
  by_cases h2 : 9 < t
  · have hr := Lib.hid (badT (wt := wt) (.inr (.inl h2)) now)
    go_enter Try.func16, Try.ntmps16
    go_wp2
    have b1 := Blk.new w 37 #[.int .i64 0, .int .i64 0, .string ⟨#[]⟩, .int .i64 0, .int .i64 0]
    have hf := (Fr.refl No w).alloc (.cells #[.int .i64 0, .int .i64 0, .string ⟨#[]⟩, .int .i64 0, .int .i64 0] 37)
    have e0 := b1.cell 0
    have e1 := b1.cell 1
    have e2 := b1.cell 2
    have e3 := b1.cell 3
    have e4 := b1.cell 4
    generalize w.alloc (.cells #[.int .i64 0, .int .i64 0, .string ⟨#[]⟩, .int .i64 0, .int .i64 0] 37) = W at hf e0 e1 e2 e3 e4 ⊢
    simp only [List.getElem?_toArray, List.getElem?_cons_zero, List.getElem?_cons_succ] at e0 e1 e2 e3 e4
    refine bodyPost_ret (v := .tuple #[.agg #[.int .i64 0, .int .i64 0, .string ⟨#[]⟩, .int .i64 0, .int .i64 0], .int .i64 2]) ?_ rfl ⟨hf, .inr ⟨by rw [hr.out]; decide, by rw [hr.out]⟩⟩
    simp [results, Try.f16, go_sem, e0, e1, e2, e3, e4]
  by_cases h3 : wt < 1
  · have hr := Lib.hid (badT (t := t) (.inr (.inr (.inl h3))) now)
    go_enter Try.func16, Try.ntmps16
    go_wp2
    have b1 := Blk.new w 37 #[.int .i64 0, .int .i64 0, .string ⟨#[]⟩, .int .i64 0, .int .i64 0]
    have hf := (Fr.refl No w).alloc (.cells #[.int .i64 0, .int .i64 0, .string ⟨#[]⟩, .int .i64 0, .int .i64 0] 37)
    have e0 := b1.cell 0
    have e1 := b1.cell 1
    have e2 := b1.cell 2
    have e3 := b1.cell 3
    have e4 := b1.cell 4
    generalize w.alloc (.cells #[.int .i64 0, .int .i64 0, .string ⟨#[]⟩, .int .i64 0, .int .i64 0] 37) = W at hf e0 e1 e2 e3 e4 ⊢
    simp only [List.getElem?_toArray, List.getElem?_cons_zero, List.getElem?_cons_succ] at e0 e1 e2 e3 e4
    refine bodyPost_ret (v := .tuple #[.agg #[.int .i64 0, .int .i64 0, .string ⟨#[]⟩, .int .i64 0, .int .i64 0], .int .i64 2]) ?_ rfl ⟨hf, .inr ⟨by rw [hr.out]; decide, by rw [hr.out]⟩⟩
    simp [results, Try.f16, go_sem, e0, e1, e2, e3, e4]
  by_cases h4 : 3600 < wt
  · have hr := Lib.hid (badT (t := t) (.inr (.inr (.inr h4))) now)
    go_enter Try.func16, Try.ntmps16
    go_wp2
    have b1 := Blk.new w 37 #[.int .i64 0, .int .i64 0, .string ⟨#[]⟩, .int .i64 0, .int .i64 0]
    have hf := (Fr.refl No w).alloc (.cells #[.int .i64 0, .int .i64 0, .string ⟨#[]⟩, .int .i64 0, .int .i64 0] 37)
    have e0 := b1.cell 0
    have e1 := b1.cell 1
    have e2 := b1.cell 2
    have e3 := b1.cell 3
    have e4 := b1.cell 4
    generalize w.alloc (.cells #[.int .i64 0, .int .i64 0, .string ⟨#[]⟩, .int .i64 0, .int .i64 0] 37) = W at hf e0 e1 e2 e3 e4 ⊢
    simp only [List.getElem?_toArray, List.getElem?_cons_zero, List.getElem?_cons_succ] at e0 e1 e2 e3 e4
    refine bodyPost_ret (v := .tuple #[.agg #[.int .i64 0, .int .i64 0, .string ⟨#[]⟩, .int .i64 0, .int .i64 0], .int .i64 2]) ?_ rfl ⟨hf, .inr ⟨by rw [hr.out]; decide, by rw [hr.out]⟩⟩
    simp [results, Try.f16, go_sem, e0, e1, e2, e3, e4]
  have hr0 : newR t wt now = if now < 0 ∨ 1099511627776 < now then 1 else if 1099511627776 < now + wt then 2 else 0 := by unfold newR; rw [if_neg (by omega)]
  by_cases h5 : now < 0
  · rw [if_pos (by omega)] at hr0
    have hr := Lib.hid hr0
    clear hr0
    go_enter Try.func16, Try.ntmps16
    go_wp2
    have b1 := Blk.new w 37 #[.int .i64 0, .int .i64 0, .string ⟨#[]⟩, .int .i64 0, .int .i64 0]
    have hf := (Fr.refl No w).alloc (.cells #[.int .i64 0, .int .i64 0, .string ⟨#[]⟩, .int .i64 0, .int .i64 0] 37)
    have e0 := b1.cell 0
    have e1 := b1.cell 1
    have e2 := b1.cell 2
    have e3 := b1.cell 3
    have e4 := b1.cell 4
    generalize w.alloc (.cells #[.int .i64 0, .int .i64 0, .string ⟨#[]⟩, .int .i64 0, .int .i64 0] 37) = W at hf e0 e1 e2 e3 e4 ⊢
    simp only [List.getElem?_toArray, List.getElem?_cons_zero, List.getElem?_cons_succ] at e0 e1 e2 e3 e4
    refine bodyPost_ret (v := .tuple #[.agg #[.int .i64 0, .int .i64 0, .string ⟨#[]⟩, .int .i64 0, .int .i64 0], .int .i64 1]) ?_ rfl ⟨hf, .inr ⟨by rw [hr.out]; decide, by rw [hr.out]⟩⟩
    simp [results, Try.f16, go_sem, e0, e1, e2, e3, e4]
  by_cases h6 : 1099511627776 < now
  · rw [if_pos (by omega)] at hr0
    have hr := Lib.hid hr0
    clear hr0
    go_enter Try.func16, Try.ntmps16
    go_wp2
    have b1 := Blk.new w 37 #[.int .i64 0, .int .i64 0, .string ⟨#[]⟩, .int .i64 0, .int .i64 0]
    have hf := (Fr.refl No w).alloc (.cells #[.int .i64 0, .int .i64 0, .string ⟨#[]⟩, .int .i64 0, .int .i64 0] 37)
    have e0 := b1.cell 0
    have e1 := b1.cell 1
    have e2 := b1.cell 2
    have e3 := b1.cell 3
    have e4 := b1.cell 4
    generalize w.alloc (.cells #[.int .i64 0, .int .i64 0, .string ⟨#[]⟩, .int .i64 0, .int .i64 0] 37) = W at hf e0 e1 e2 e3 e4 ⊢
    simp only [List.getElem?_toArray, List.getElem?_cons_zero, List.getElem?_cons_succ] at e0 e1 e2 e3 e4
    refine bodyPost_ret (v := .tuple #[.agg #[.int .i64 0, .int .i64 0, .string ⟨#[]⟩, .int .i64 0, .int .i64 0], .int .i64 1]) ?_ rfl ⟨hf, .inr ⟨by rw [hr.out]; decide, by rw [hr.out]⟩⟩
    simp [results, Try.f16, go_sem, e0, e1, e2, e3, e4]
  rw [if_neg (by omega)] at hr0
  by_cases h7 : 1099511627776 < now + wt
  · rw [if_pos h7] at hr0
    have hr := Lib.hid hr0
    clear hr0
    go_enter Try.func16, Try.ntmps16
    go_wp2
    have b1 := Blk.new w 37 #[.int .i64 0, .int .i64 0, .string ⟨#[]⟩, .int .i64 0, .int .i64 0]
    have hf := (Fr.refl No w).alloc (.cells #[.int .i64 0, .int .i64 0, .string ⟨#[]⟩, .int .i64 0, .int .i64 0] 37)
    have e0 := b1.cell 0
    have e1 := b1.cell 1
    have e2 := b1.cell 2
    have e3 := b1.cell 3
    have e4 := b1.cell 4
    generalize w.alloc (.cells #[.int .i64 0, .int .i64 0, .string ⟨#[]⟩, .int .i64 0, .int .i64 0] 37) = W at hf e0 e1 e2 e3 e4 ⊢
    simp only [List.getElem?_toArray, List.getElem?_cons_zero, List.getElem?_cons_succ] at e0 e1 e2 e3 e4
    refine bodyPost_ret (v := .tuple #[.agg #[.int .i64 0, .int .i64 0, .string ⟨#[]⟩, .int .i64 0, .int .i64 0], .int .i64 2]) ?_ rfl ⟨hf, .inr ⟨by rw [hr.out]; decide, by rw [hr.out]⟩⟩
    simp [results, Try.f16, go_sem, e0, e1, e2, e3, e4]
  · rw [if_neg h7] at hr0
    have hr := Lib.hid hr0
    clear hr0
    go_enter Try.func16, Try.ntmps16
    go_wp2
    have b1 := Blk.new w 37 #[.int .i64 t, .int .i64 0, .string ⟨#[]⟩, .int .i64 0, .int .i64 (now + wt)]
    have hf := (Fr.refl No w).alloc (.cells #[.int .i64 t, .int .i64 0, .string ⟨#[]⟩, .int .i64 0, .int .i64 (now + wt)] 37)
    have e0 := b1.cell 0
    have e1 := b1.cell 1
    have e2 := b1.cell 2
    have e3 := b1.cell 3
    have e4 := b1.cell 4
    generalize w.alloc (.cells #[.int .i64 t, .int .i64 0, .string ⟨#[]⟩, .int .i64 0, .int .i64 (now + wt)] 37) = W at hf e0 e1 e2 e3 e4 ⊢
    simp only [List.getElem?_toArray, List.getElem?_cons_zero, List.getElem?_cons_succ] at e0 e1 e2 e3 e4
    refine bodyPost_ret (v := .tuple #[.agg #[.int .i64 t, .int .i64 0, .string ⟨#[]⟩, .int .i64 0, .int .i64 (now + wt)], .int .i64 0]) ?_ rfl ⟨hf, .inl ⟨hr.out, rfl⟩⟩
    simp [results, Try.f16, go_sem, e0, e1, e2, e3, e4]
end Gate
end Go.Proofs.Ytllnaflknnkgiaa
