/- Package verb: find. -/
import Derived.Test.YtiheeopbifkalaaVerb
namespace Go.Proofs.Ytiheeopbifkalaa
open Go.RowKit
set_option linter.unusedVariables false
set_option linter.unusedSimpArgs false
namespace Verb
def zeroR : V := (0, [], 0, [])
def findR (p : V → Bool) : V × Bool := match verbs.find? p with
  | some x => (x, true)
  | none => (zeroR, false)
def FindIs (r : V × Bool) (e : Ending) : Prop := e = .returned (.tuple #[.agg #[.int .i64 r.1.1, .string ⟨r.1.2.1.toArray⟩, .int .i64 r.1.2.2.1, .string ⟨r.1.2.2.2.toArray⟩], .bool r.2])
theorem index_row (W : World) (k : Nat) (h : k < verbs.length) : (Instr.index 115 (.agg cellsV) (.int .i64 k)).run Try.prog W = .ok (.agg (encV verbs[k])) W := by
  have h : k < 16 := h
  obtain rfl | rfl | rfl | rfl | rfl | rfl | rfl | rfl | rfl | rfl | rfl | rfl | rfl | rfl | rfl | rfl : k = 0 ∨ k = 1 ∨ k = 2 ∨ k = 3 ∨ k = 4 ∨ k = 5 ∨ k = 6 ∨ k = 7 ∨ k = 8 ∨ k = 9 ∨ k = 10 ∨ k = 11 ∨ k = 12 ∨ k = 13 ∨ k = 14 ∨ k = 15 := by omega
  all_goals (show _ = _; kernel_rfl)
theorem find_drop {p : V → Bool} {k : Nat} (h : k < verbs.length) : (verbs.drop k).find? p = if p verbs[k] then some verbs[k] else (verbs.drop (k + 1)).find? p := by
  rw [List.drop_eq_getElem_cons h, List.find?_cons]
  cases p verbs[k] <;> rfl
set_option maxRecDepth 100000 in
set_option maxHeartbeats 2000000 in
theorem find_word (w : World) (B : Nat) (p : V → Bool) (hc : ∀ W, Fr No w W → ∀ x : V, Calls Try.prog 63 #[.agg #[.int .i64 x.1, .string ⟨x.2.1.toArray⟩, .int .i64 x.2.2.1, .string ⟨x.2.2.2.toArray⟩], .pointer (some ⟨B, 0, none⟩)] W fun e w' => e = .returned (.bool (p x)) ∧ Fr No W w') : Calls Try.prog 59 #[.func (.func 63) #[] #[.pointer (some ⟨B, 0, none⟩)]] w fun e w' => FindIs (findR p) e ∧ Fr No w w' := by
  have HC := Lib.hid hc
  clear hc
  go_enter Try.func59, Try.ntmps59
  go_wp2_with (go_at_call 75; refine (rows_any _).mono ?_; rintro e w1 ⟨rfl, hf⟩)
  have hb0 := (Blk.new w 99 #[.int .i64 0, .string ByteArray.empty, .int .i64 0, .string ByteArray.empty]).fr hf (fun h => h)
  have hf0 := ((Fr.refl No w).alloc _).then_no hf
  have HB := Lib.hid hb0
  have HF := Lib.hid hf0
  clear hf hb0 hf0
  go_loopw [7] (fun iv wr => ∃ k : Nat, iv = .int .i64 k ∧ k ≤ 16 ∧ Hid (verbs.find? p = (verbs.drop k).find? p) ∧ Hid (Blk wr w.heap.size 99 #[.int .i64 0, .string ByteArray.empty, .int .i64 0, .string ByteArray.empty] ∧ Fr No w wr)) (fun i _ => 16 - (intOf i).toNat)
  case atStart => exact ⟨0, rfl, by omega, rfl, HB.out, HF.out⟩
  case round =>
    clear HB HF
    obtain ⟨k, rfl, hk, Hd, Hw⟩ := hrel
    by_cases hlt : k < 16
    · have hix := fun W : World => index_row W k hlt
      have hfd := find_drop (p := p) (k := k) hlt
      obtain ⟨x, hx⟩ : ∃ x, x = verbs[k]'hlt := ⟨_, rfl⟩
      simp only [← hx] at hix hfd
      obtain ⟨xv, xw, xt, xh⟩ := x
      simp only [encV] at hix
      have hsz := Hw.out.1.lt
      have hne : w.heap.size ≠ wr.heap.size := by omega
      have hcl := fun W hf => HC.out W hf (xv, xw, xt, xh)
      have Hfd := Lib.hid hfd
      clear hfd hx
      cases hp : p (xv, xw, xt, xh)
      · rw [hp] at hcl
        have Hcl := Lib.hid hcl
        have Hn := Lib.hid (show verbs.find? p = (verbs.drop (k + 1)).find? p by rw [Hd.out, Hfd.out, hp]; rfl)
        clear hcl hp
        go_wp2_with (go_at_call 63; refine (Hcl.out _ (Hw.out.2.alloc _)).mono ?_; rintro e w2 ⟨rfl, hf⟩; have Hf := Lib.hid hf; clear hf)
        go_roundw
        case rel => exact ⟨k + 1, by go_num, by omega, Hn.out, ((Hw.out.1.alloc _).fr Hf.out (fun h => h)), (Hw.out.2.alloc _).then_no Hf.out⟩
        case measure => simp [intOf]; omega
      · rw [hp] at hcl
        have Hcl := Lib.hid hcl
        have Hn := Lib.hid (show findR p = ((xv, xw, xt, xh), true) by unfold findR; rw [Hd.out, Hfd.out, hp]; rfl)
        clear hcl hp
        go_wp2_with (go_at_call 63; refine (Hcl.out _ (Hw.out.2.alloc _)).mono ?_; rintro e w2 ⟨rfl, hf⟩; have b1 := (Blk.new wr 99 #[.int .i64 xv, .string ⟨xw.toArray⟩, .int .i64 xt, .string ⟨xh.toArray⟩]).fr hf (fun h => h); have b2 := (Hw.out.1.alloc (.cells #[.int .i64 xv, .string ⟨xw.toArray⟩, .int .i64 xt, .string ⟨xh.toArray⟩] 99)).fr hf (fun h => h); have c0 := b1.cell 0; have c1 := b1.cell 1; have c2 := b1.cell 2; have c3 := b1.cell 3; have d0 := b2.cell 0; have d1 := b2.cell 1; have d2 := b2.cell 2; have d3 := b2.cell 3; have f0 := b2.frozen 0; have f1 := b2.frozen 1; have f2 := b2.frozen 2; have f3 := b2.frozen 3; simp at c0 c1 c2 c3 d0 d1 d2 d3; have HB2 := Lib.hid b2; have Hf := Lib.hid hf; clear hf b1 b2)
        have b3 := (((HB2.out.put 0 (.int .i64 xv)).put 1 (.string ⟨xw.toArray⟩)).put 2 (.int .i64 xt)).put 3 (.string ⟨xh.toArray⟩)
        simp at b3
        have e0 := b3.cell 0
        have e1 := b3.cell 1
        have e2 := b3.cell 2
        have e3 := b3.cell 3
        simp only [List.getElem?_toArray, List.getElem?_cons_zero, List.getElem?_cons_succ] at e0 e1 e2 e3
        refine bodyPost_ret (v := .tuple #[.agg #[.int .i64 xv, .string ⟨xw.toArray⟩, .int .i64 xt, .string ⟨xh.toArray⟩], .bool true]) ?_ rfl ⟨by rw [Hn.out]; rfl, ?_⟩
        · clear c0 c1 c2 c3 d0 d1 d2 d3 f0 f1 f2 f3 hix b3
          simp [results, Try.f59, go_sem, e0, e1, e2, e3]
        · exact (((((Hw.out.2.alloc _).then_no Hf.out).setCell (p := ⟨w.heap.size, 0, none⟩) (.inr (Nat.le_refl _)) _).setCell (p := ⟨w.heap.size, 1, none⟩) (.inr (Nat.le_refl _)) _).setCell (p := ⟨w.heap.size, 2, none⟩) (.inr (Nat.le_refl _)) _).setCell (p := ⟨w.heap.size, 3, none⟩) (.inr (Nat.le_refl _)) _
    · have Hn := Lib.hid (show findR p = (zeroR, false) by unfold findR; rw [Hd.out, List.drop_of_length_le (show verbs.length ≤ k from by show 16 ≤ k; omega)]; rfl)
      have d0 := Hw.out.1.cell 0
      have d1 := Hw.out.1.cell 1
      have d2 := Hw.out.1.cell 2
      have d3 := Hw.out.1.cell 3
      have f0 := Hw.out.1.frozen 0
      have f1 := Hw.out.1.frozen 1
      have f2 := Hw.out.1.frozen 2
      have f3 := Hw.out.1.frozen 3
      simp at d0 d1 d2 d3
      go_wp2
      have b3 := (((Hw.out.1.put 0 (.int .i64 0)).put 1 (.string ⟨#[]⟩)).put 2 (.int .i64 0)).put 3 (.string ⟨#[]⟩)
      simp at b3
      have e0 := b3.cell 0
      have e1 := b3.cell 1
      have e2 := b3.cell 2
      have e3 := b3.cell 3
      simp only [List.getElem?_toArray, List.getElem?_cons_zero, List.getElem?_cons_succ] at e0 e1 e2 e3
      refine bodyPost_ret (v := .tuple #[.agg #[.int .i64 0, .string ⟨#[]⟩, .int .i64 0, .string ⟨#[]⟩], .bool false]) ?_ rfl ⟨by rw [Hn.out]; rfl, ?_⟩
      · clear d0 d1 d2 d3 f0 f1 f2 f3 b3
        simp [results, Try.f59, go_sem, e0, e1, e2, e3]
      · exact ((((Hw.out.2).setCell (p := ⟨w.heap.size, 0, none⟩) (.inr (Nat.le_refl _)) _).setCell (p := ⟨w.heap.size, 1, none⟩) (.inr (Nat.le_refl _)) _).setCell (p := ⟨w.heap.size, 2, none⟩) (.inr (Nat.le_refl _)) _).setCell (p := ⟨w.heap.size, 3, none⟩) (.inr (Nat.le_refl _)) _
set_option maxRecDepth 100000 in
set_option maxHeartbeats 2000000 in
theorem find_put (w : World) (B : Nat) (p : V → Bool) (hc : ∀ W, Fr No w W → ∀ x : V, Calls Try.prog 64 #[.agg #[.int .i64 x.1, .string ⟨x.2.1.toArray⟩, .int .i64 x.2.2.1, .string ⟨x.2.2.2.toArray⟩], .pointer (some ⟨B, 0, none⟩)] W fun e w' => e = .returned (.bool (p x)) ∧ Fr No W w') : Calls Try.prog 59 #[.func (.func 64) #[] #[.pointer (some ⟨B, 0, none⟩)]] w fun e w' => FindIs (findR p) e ∧ Fr No w w' := by
  have HC := Lib.hid hc
  clear hc
  go_enter Try.func59, Try.ntmps59
  go_wp2_with (go_at_call 75; refine (rows_any _).mono ?_; rintro e w1 ⟨rfl, hf⟩)
  have hb0 := (Blk.new w 99 #[.int .i64 0, .string ByteArray.empty, .int .i64 0, .string ByteArray.empty]).fr hf (fun h => h)
  have hf0 := ((Fr.refl No w).alloc _).then_no hf
  have HB := Lib.hid hb0
  have HF := Lib.hid hf0
  clear hf hb0 hf0
  go_loopw [7] (fun iv wr => ∃ k : Nat, iv = .int .i64 k ∧ k ≤ 16 ∧ Hid (verbs.find? p = (verbs.drop k).find? p) ∧ Hid (Blk wr w.heap.size 99 #[.int .i64 0, .string ByteArray.empty, .int .i64 0, .string ByteArray.empty] ∧ Fr No w wr)) (fun i _ => 16 - (intOf i).toNat)
  case atStart => exact ⟨0, rfl, by omega, rfl, HB.out, HF.out⟩
  case round =>
    clear HB HF
    obtain ⟨k, rfl, hk, Hd, Hw⟩ := hrel
    by_cases hlt : k < 16
    · have hix := fun W : World => index_row W k hlt
      have hfd := find_drop (p := p) (k := k) hlt
      obtain ⟨x, hx⟩ : ∃ x, x = verbs[k]'hlt := ⟨_, rfl⟩
      simp only [← hx] at hix hfd
      obtain ⟨xv, xw, xt, xh⟩ := x
      simp only [encV] at hix
      have hsz := Hw.out.1.lt
      have hne : w.heap.size ≠ wr.heap.size := by omega
      have hcl := fun W hf => HC.out W hf (xv, xw, xt, xh)
      have Hfd := Lib.hid hfd
      clear hfd hx
      cases hp : p (xv, xw, xt, xh)
      · rw [hp] at hcl
        have Hcl := Lib.hid hcl
        have Hn := Lib.hid (show verbs.find? p = (verbs.drop (k + 1)).find? p by rw [Hd.out, Hfd.out, hp]; rfl)
        clear hcl hp
        go_wp2_with (go_at_call 64; refine (Hcl.out _ (Hw.out.2.alloc _)).mono ?_; rintro e w2 ⟨rfl, hf⟩; have Hf := Lib.hid hf; clear hf)
        go_roundw
        case rel => exact ⟨k + 1, by go_num, by omega, Hn.out, ((Hw.out.1.alloc _).fr Hf.out (fun h => h)), (Hw.out.2.alloc _).then_no Hf.out⟩
        case measure => simp [intOf]; omega
      · rw [hp] at hcl
        have Hcl := Lib.hid hcl
        have Hn := Lib.hid (show findR p = ((xv, xw, xt, xh), true) by unfold findR; rw [Hd.out, Hfd.out, hp]; rfl)
        clear hcl hp
        go_wp2_with (go_at_call 64; refine (Hcl.out _ (Hw.out.2.alloc _)).mono ?_; rintro e w2 ⟨rfl, hf⟩; have b1 := (Blk.new wr 99 #[.int .i64 xv, .string ⟨xw.toArray⟩, .int .i64 xt, .string ⟨xh.toArray⟩]).fr hf (fun h => h); have b2 := (Hw.out.1.alloc (.cells #[.int .i64 xv, .string ⟨xw.toArray⟩, .int .i64 xt, .string ⟨xh.toArray⟩] 99)).fr hf (fun h => h); have c0 := b1.cell 0; have c1 := b1.cell 1; have c2 := b1.cell 2; have c3 := b1.cell 3; have d0 := b2.cell 0; have d1 := b2.cell 1; have d2 := b2.cell 2; have d3 := b2.cell 3; have f0 := b2.frozen 0; have f1 := b2.frozen 1; have f2 := b2.frozen 2; have f3 := b2.frozen 3; simp at c0 c1 c2 c3 d0 d1 d2 d3; have HB2 := Lib.hid b2; have Hf := Lib.hid hf; clear hf b1 b2)
        have b3 := (((HB2.out.put 0 (.int .i64 xv)).put 1 (.string ⟨xw.toArray⟩)).put 2 (.int .i64 xt)).put 3 (.string ⟨xh.toArray⟩)
        simp at b3
        have e0 := b3.cell 0
        have e1 := b3.cell 1
        have e2 := b3.cell 2
        have e3 := b3.cell 3
        simp only [List.getElem?_toArray, List.getElem?_cons_zero, List.getElem?_cons_succ] at e0 e1 e2 e3
        refine bodyPost_ret (v := .tuple #[.agg #[.int .i64 xv, .string ⟨xw.toArray⟩, .int .i64 xt, .string ⟨xh.toArray⟩], .bool true]) ?_ rfl ⟨by rw [Hn.out]; rfl, ?_⟩
        · clear c0 c1 c2 c3 d0 d1 d2 d3 f0 f1 f2 f3 hix b3
          simp [results, Try.f59, go_sem, e0, e1, e2, e3]
        · exact (((((Hw.out.2.alloc _).then_no Hf.out).setCell (p := ⟨w.heap.size, 0, none⟩) (.inr (Nat.le_refl _)) _).setCell (p := ⟨w.heap.size, 1, none⟩) (.inr (Nat.le_refl _)) _).setCell (p := ⟨w.heap.size, 2, none⟩) (.inr (Nat.le_refl _)) _).setCell (p := ⟨w.heap.size, 3, none⟩) (.inr (Nat.le_refl _)) _
    · have Hn := Lib.hid (show findR p = (zeroR, false) by unfold findR; rw [Hd.out, List.drop_of_length_le (show verbs.length ≤ k from by show 16 ≤ k; omega)]; rfl)
      have d0 := Hw.out.1.cell 0
      have d1 := Hw.out.1.cell 1
      have d2 := Hw.out.1.cell 2
      have d3 := Hw.out.1.cell 3
      have f0 := Hw.out.1.frozen 0
      have f1 := Hw.out.1.frozen 1
      have f2 := Hw.out.1.frozen 2
      have f3 := Hw.out.1.frozen 3
      simp at d0 d1 d2 d3
      go_wp2
      have b3 := (((Hw.out.1.put 0 (.int .i64 0)).put 1 (.string ⟨#[]⟩)).put 2 (.int .i64 0)).put 3 (.string ⟨#[]⟩)
      simp at b3
      have e0 := b3.cell 0
      have e1 := b3.cell 1
      have e2 := b3.cell 2
      have e3 := b3.cell 3
      simp only [List.getElem?_toArray, List.getElem?_cons_zero, List.getElem?_cons_succ] at e0 e1 e2 e3
      refine bodyPost_ret (v := .tuple #[.agg #[.int .i64 0, .string ⟨#[]⟩, .int .i64 0, .string ⟨#[]⟩], .bool false]) ?_ rfl ⟨by rw [Hn.out]; rfl, ?_⟩
      · clear d0 d1 d2 d3 f0 f1 f2 f3 b3
        simp [results, Try.f59, go_sem, e0, e1, e2, e3]
      · exact ((((Hw.out.2).setCell (p := ⟨w.heap.size, 0, none⟩) (.inr (Nat.le_refl _)) _).setCell (p := ⟨w.heap.size, 1, none⟩) (.inr (Nat.le_refl _)) _).setCell (p := ⟨w.heap.size, 2, none⟩) (.inr (Nat.le_refl _)) _).setCell (p := ⟨w.heap.size, 3, none⟩) (.inr (Nat.le_refl _)) _
set_option maxRecDepth 100000 in
set_option maxHeartbeats 2000000 in
theorem find_parse (w : World) (B : Nat) (p : V → Bool) (hc : ∀ W, Fr No w W → ∀ x : V, Calls Try.prog 60 #[.agg #[.int .i64 x.1, .string ⟨x.2.1.toArray⟩, .int .i64 x.2.2.1, .string ⟨x.2.2.2.toArray⟩], .pointer (some ⟨B, 0, none⟩)] W fun e w' => e = .returned (.bool (p x)) ∧ Fr No W w') : Calls Try.prog 59 #[.func (.func 60) #[] #[.pointer (some ⟨B, 0, none⟩)]] w fun e w' => FindIs (findR p) e ∧ Fr No w w' := by
  have HC := Lib.hid hc
  clear hc
  go_enter Try.func59, Try.ntmps59
  go_wp2_with (go_at_call 75; refine (rows_any _).mono ?_; rintro e w1 ⟨rfl, hf⟩)
  have hb0 := (Blk.new w 99 #[.int .i64 0, .string ByteArray.empty, .int .i64 0, .string ByteArray.empty]).fr hf (fun h => h)
  have hf0 := ((Fr.refl No w).alloc _).then_no hf
  have HB := Lib.hid hb0
  have HF := Lib.hid hf0
  clear hf hb0 hf0
  go_loopw [7] (fun iv wr => ∃ k : Nat, iv = .int .i64 k ∧ k ≤ 16 ∧ Hid (verbs.find? p = (verbs.drop k).find? p) ∧ Hid (Blk wr w.heap.size 99 #[.int .i64 0, .string ByteArray.empty, .int .i64 0, .string ByteArray.empty] ∧ Fr No w wr)) (fun i _ => 16 - (intOf i).toNat)
  case atStart => exact ⟨0, rfl, by omega, rfl, HB.out, HF.out⟩
  case round =>
    clear HB HF
    obtain ⟨k, rfl, hk, Hd, Hw⟩ := hrel
    by_cases hlt : k < 16
    · have hix := fun W : World => index_row W k hlt
      have hfd := find_drop (p := p) (k := k) hlt
      obtain ⟨x, hx⟩ : ∃ x, x = verbs[k]'hlt := ⟨_, rfl⟩
      simp only [← hx] at hix hfd
      obtain ⟨xv, xw, xt, xh⟩ := x
      simp only [encV] at hix
      have hsz := Hw.out.1.lt
      have hne : w.heap.size ≠ wr.heap.size := by omega
      have hcl := fun W hf => HC.out W hf (xv, xw, xt, xh)
      have Hfd := Lib.hid hfd
      clear hfd hx
      cases hp : p (xv, xw, xt, xh)
      · rw [hp] at hcl
        have Hcl := Lib.hid hcl
        have Hn := Lib.hid (show verbs.find? p = (verbs.drop (k + 1)).find? p by rw [Hd.out, Hfd.out, hp]; rfl)
        clear hcl hp
        go_wp2_with (go_at_call 60; refine (Hcl.out _ (Hw.out.2.alloc _)).mono ?_; rintro e w2 ⟨rfl, hf⟩; have Hf := Lib.hid hf; clear hf)
        go_roundw
        case rel => exact ⟨k + 1, by go_num, by omega, Hn.out, ((Hw.out.1.alloc _).fr Hf.out (fun h => h)), (Hw.out.2.alloc _).then_no Hf.out⟩
        case measure => simp [intOf]; omega
      · rw [hp] at hcl
        have Hcl := Lib.hid hcl
        have Hn := Lib.hid (show findR p = ((xv, xw, xt, xh), true) by unfold findR; rw [Hd.out, Hfd.out, hp]; rfl)
        clear hcl hp
        go_wp2_with (go_at_call 60; refine (Hcl.out _ (Hw.out.2.alloc _)).mono ?_; rintro e w2 ⟨rfl, hf⟩; have b1 := (Blk.new wr 99 #[.int .i64 xv, .string ⟨xw.toArray⟩, .int .i64 xt, .string ⟨xh.toArray⟩]).fr hf (fun h => h); have b2 := (Hw.out.1.alloc (.cells #[.int .i64 xv, .string ⟨xw.toArray⟩, .int .i64 xt, .string ⟨xh.toArray⟩] 99)).fr hf (fun h => h); have c0 := b1.cell 0; have c1 := b1.cell 1; have c2 := b1.cell 2; have c3 := b1.cell 3; have d0 := b2.cell 0; have d1 := b2.cell 1; have d2 := b2.cell 2; have d3 := b2.cell 3; have f0 := b2.frozen 0; have f1 := b2.frozen 1; have f2 := b2.frozen 2; have f3 := b2.frozen 3; simp at c0 c1 c2 c3 d0 d1 d2 d3; have HB2 := Lib.hid b2; have Hf := Lib.hid hf; clear hf b1 b2)
        have b3 := (((HB2.out.put 0 (.int .i64 xv)).put 1 (.string ⟨xw.toArray⟩)).put 2 (.int .i64 xt)).put 3 (.string ⟨xh.toArray⟩)
        simp at b3
        have e0 := b3.cell 0
        have e1 := b3.cell 1
        have e2 := b3.cell 2
        have e3 := b3.cell 3
        simp only [List.getElem?_toArray, List.getElem?_cons_zero, List.getElem?_cons_succ] at e0 e1 e2 e3
        refine bodyPost_ret (v := .tuple #[.agg #[.int .i64 xv, .string ⟨xw.toArray⟩, .int .i64 xt, .string ⟨xh.toArray⟩], .bool true]) ?_ rfl ⟨by rw [Hn.out]; rfl, ?_⟩
        · clear c0 c1 c2 c3 d0 d1 d2 d3 f0 f1 f2 f3 hix b3
          simp [results, Try.f59, go_sem, e0, e1, e2, e3]
        · exact (((((Hw.out.2.alloc _).then_no Hf.out).setCell (p := ⟨w.heap.size, 0, none⟩) (.inr (Nat.le_refl _)) _).setCell (p := ⟨w.heap.size, 1, none⟩) (.inr (Nat.le_refl _)) _).setCell (p := ⟨w.heap.size, 2, none⟩) (.inr (Nat.le_refl _)) _).setCell (p := ⟨w.heap.size, 3, none⟩) (.inr (Nat.le_refl _)) _
    · have Hn := Lib.hid (show findR p = (zeroR, false) by unfold findR; rw [Hd.out, List.drop_of_length_le (show verbs.length ≤ k from by show 16 ≤ k; omega)]; rfl)
      have d0 := Hw.out.1.cell 0
      have d1 := Hw.out.1.cell 1
      have d2 := Hw.out.1.cell 2
      have d3 := Hw.out.1.cell 3
      have f0 := Hw.out.1.frozen 0
      have f1 := Hw.out.1.frozen 1
      have f2 := Hw.out.1.frozen 2
      have f3 := Hw.out.1.frozen 3
      simp at d0 d1 d2 d3
      go_wp2
      have b3 := (((Hw.out.1.put 0 (.int .i64 0)).put 1 (.string ⟨#[]⟩)).put 2 (.int .i64 0)).put 3 (.string ⟨#[]⟩)
      simp at b3
      have e0 := b3.cell 0
      have e1 := b3.cell 1
      have e2 := b3.cell 2
      have e3 := b3.cell 3
      simp only [List.getElem?_toArray, List.getElem?_cons_zero, List.getElem?_cons_succ] at e0 e1 e2 e3
      refine bodyPost_ret (v := .tuple #[.agg #[.int .i64 0, .string ⟨#[]⟩, .int .i64 0, .string ⟨#[]⟩], .bool false]) ?_ rfl ⟨by rw [Hn.out]; rfl, ?_⟩
      · clear d0 d1 d2 d3 f0 f1 f2 f3 b3
        simp [results, Try.f59, go_sem, e0, e1, e2, e3]
      · exact ((((Hw.out.2).setCell (p := ⟨w.heap.size, 0, none⟩) (.inr (Nat.le_refl _)) _).setCell (p := ⟨w.heap.size, 1, none⟩) (.inr (Nat.le_refl _)) _).setCell (p := ⟨w.heap.size, 2, none⟩) (.inr (Nat.le_refl _)) _).setCell (p := ⟨w.heap.size, 3, none⟩) (.inr (Nat.le_refl _)) _
end Verb
end Go.Proofs.Ytiheeopbifkalaa
