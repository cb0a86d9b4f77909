/- Package event: its rows; in; find. Printed by gen_eva.py. -/
import Derived.Test.YtohjnbkehcdoaaaDoorEvP
import Derived.Test.YtohjnbkehcdoaaaDoorSls
import Derived.Test.YtohjnbkehcdoaaaDoorPush
namespace Go.Proofs.YtohjnbkehcdoaaaDoor
open Go.RowKit
set_option linter.unusedVariables false
set_option linter.unusedSimpArgs false
namespace Ev
open Digit Sls
def cR (r : R) : Array Value := #[.int .i64 r.k, .string ⟨r.word.toArray⟩, .bool r.w, .bool r.y, .bool r.n, .bool r.s]
def R0 : R := ⟨0, [], false, false, false, false⟩
def FindIs (r : Option R) (e : Ending) : Prop := e = .returned (.tuple #[.agg (cR (r.getD R0)), .bool r.isSome])
def RowsAt (w : World) (g : Nat) : Prop := ∀ k (h : k < rowsP.length) j, j < 6 → w.cell? ⟨g, k * 6 + j, none⟩ = (cR rowsP[k]).toList[j]?
theorem RowsAt.no {w w' : World} {g : Nat} (h : RowsAt w g) (hg : g < w.heap.size) (hf : Fr No w w') : RowsAt w' g := fun k hk j hj => (hf.cell (p := ⟨g, k * 6 + j, none⟩) hg (fun h => h)).trans (h k hk j hj)
theorem rows_any (w : World) : Calls Tryd.prog 41 #[] w fun e w' => ∃ g, e = .returned (.slice (some ⟨g, 0, none⟩) 10 10) ∧ RowsAt w' g ∧ Fr No w w' ∧ New w w' g := by
  go_enter Tryd.func41, Tryd.ntmps41
  go_wp2
  go_ret
  have e : (rowsP.flatMap fun r => (cR r).toList).length = 60 := rfl
  refine ⟨w.heap.size, rfl, fun k hk j hj => ?_, (Fr.refl No w).alloc _, Nat.le_refl _, by simp⟩
  have h2 := fm_get rowsP (fun r => (cR r).toList) 6 k j hk (fun _ _ => rfl) hj
  rw [← h2]
  refine ((Blk.new w 46 (rowsP.flatMap fun r => (cR r).toList).toArray).cell (k * 6 + j)).trans ?_
  simp
theorem in_any (n : Int) (w : World) : Calls Tryd.prog 28 #[.int .i64 n] w fun e w' => e = .returned (.bool (inR n)) ∧ w = w' := by
  by_cases h : 0 ≤ n
  · have e : inR n = decide (n ≤ 1073741824) := by unfold inR; simp [h]
    rw [e]
    clear e
    go_enter Tryd.func28, Tryd.ntmps28
    go_wp2
    go_ret
    exact ⟨rfl, rfl⟩
  · have e : inR n = false := by unfold inR; simp; omega
    rw [e]
    clear e
    go_enter Tryd.func28, Tryd.ntmps28
    go_wp2
    go_ret
    exact ⟨rfl, rfl⟩
theorem rin_any (n : Int) (w : World) : Calls Tryd.prog 40 #[.int .i64 n] w fun e w' => e = .returned (.bool (inR n)) ∧ w = w' := by
  by_cases h : 0 ≤ n
  · have e : inR n = decide (n ≤ 1073741824) := by unfold inR; simp [h]
    rw [e]
    clear e
    go_enter Tryd.func40, Tryd.ntmps40
    go_wp2
    go_ret
    exact ⟨rfl, rfl⟩
  · have e : inR n = false := by unfold inR; simp; omega
    rw [e]
    clear e
    go_enter Tryd.func40, Tryd.ntmps40
    go_wp2
    go_ret
    exact ⟨rfl, rfl⟩
theorem find_drop {p : R → Bool} {k : Nat} (h : k < rowsP.length) : (rowsP.drop k).find? p = if p rowsP[k] then some rowsP[k] else (rowsP.drop (k + 1)).find? p := by
  rw [List.drop_eq_getElem_cons h, List.find?_cons]
  cases p rowsP[k] <;> rfl

theorem put1_any (w : World) (B : Nat) (v : Int) (x : R) (hB : w.cell? ⟨B, 0, none⟩ = some (.int .i64 v)) (hlt : B < w.heap.size) : Calls Tryd.prog 20 #[.agg (cR x), .pointer (some ⟨B, 0, none⟩)] w fun e w' => e = .returned (.bool (x.k == v)) ∧ Fr No w w' := by
  obtain ⟨xk, xt, x2, x3, x4, x5⟩ := x
  unfold cR
  simp only
  have hne : B ≠ w.heap.size := by omega
  have hB2 := ((Fr.refl No w).alloc (.cells #[.int .i64 xk, .string ⟨xt.toArray⟩, .bool x2, .bool x3, .bool x4, .bool x5] 46)).cell (p := ⟨B, 0, none⟩) hlt (fun h => h)
  rw [hB] at hB2
  go_enter Tryd.func20, Tryd.ntmps20
  go_wp2
  go_ret
  exact ⟨rfl, (Fr.refl No w).alloc _⟩
set_option maxRecDepth 100000 in
set_option maxHeartbeats 2000000 in
theorem find_put1 (w : World) (B : Nat) (p : R → Bool) (hc : ∀ W, Fr No w W → ∀ x : R, Calls Tryd.prog 20 #[.agg (cR x), .pointer (some ⟨B, 0, none⟩)] W fun e w' => e = .returned (.bool (p x)) ∧ Fr No W w') :
    Calls Tryd.prog 19 #[.func (.func 20) #[] #[.pointer (some ⟨B, 0, none⟩)]] w fun e w' => FindIs (rowsP.find? p) e ∧ Fr No w w' := by
  have HC := Lib.hid hc
  clear hc
  have X2 := Lib.hid (Blk.new w 46 #[.int .i64 0, .string ⟨#[]⟩, .bool false, .bool false, .bool false, .bool false])
  have FA := Lib.hid ((Fr.refl No w).alloc (.cells #[.int .i64 0, .string ⟨#[]⟩, .bool false, .bool false, .bool false, .bool false] 46))
  obtain ⟨b2, hb2⟩ : ∃ b, w.heap.size = b := ⟨_, rfl⟩
  have X2 := Lib.hid (show Blk _ b2 _ _ from by rw [← hb2]; exact X2.out)
  have HB2 := Lib.hid hb2
  go_enter Tryd.func19, Tryd.ntmps19
  go_wp2_with fail
  try rw [hb2]
  clear hb2
  generalize w.alloc (.cells #[.int .i64 0, .string ⟨#[]⟩, .bool false, .bool false, .bool false, .bool false] 46) = wa at X2 FA ⊢
  refine (rows_any wa).mono ?_
  rintro e w1 ⟨g, rfl, hro, hf, hn⟩
  have RO := Lib.hid (And.intro hro hn.2)
  have F1 := Lib.hid (FA.out.then_no hf)
  have Y2 := Lib.hid (X2.out.fr hf (fun h => h))
  clear hro hf hn X2 FA
  go_wp2_with fail
  go_loopw [8] (fun iv wr => ∃ k : Nat, iv = .int .i64 k ∧ k ≤ 10 ∧ Hid (rowsP.find? p = (rowsP.drop k).find? p) ∧ Hid (Blk wr b2 46 #[.int .i64 0, .string ⟨#[]⟩, .bool false, .bool false, .bool false, .bool false] ∧ Fr No w1 wr)) (fun i _ => 10 - (intOf i).toNat)
  case atStart => exact ⟨0, rfl, by omega, rfl, Y2.out, Fr.refl _ _⟩
  case round =>
    clear Y2
    obtain ⟨k, rfl, hk, Hd, Hw⟩ := hrel
    by_cases hlt : k < 10
    · have hfd := find_drop (p := p) (k := k) hlt
      have hrw := RO.out.1.no RO.out.2 Hw.out.2 k hlt
      obtain ⟨x, hx⟩ : ∃ x, x = rowsP[k]'hlt := ⟨_, rfl⟩
      rw [← hx] at hfd hrw
      have hr0 := hrw 0 (by omega)
      have hr1 := hrw 1 (by omega)
      have hr2 := hrw 2 (by omega)
      have hr3 := hrw 3 (by omega)
      have hr4 := hrw 4 (by omega)
      have hr5 := hrw 5 (by omega)
      have hcl := fun W hf => HC.out W hf x
      have Hfd := Lib.hid hfd
      obtain ⟨xk, xt, x2, x3, x4, x5⟩ := x
      unfold cR at hr0 hr1 hr2 hr3 hr4 hr5 hcl
      simp only [List.getElem?_cons_zero, List.getElem?_cons_succ, Nat.add_zero] at hr0 hr1 hr2 hr3 hr4 hr5
      have hsz := Hw.out.1.lt
      have hne : b2 ≠ wr.heap.size := by omega
      clear hfd hx hrw
      cases hp : p ⟨xk, xt, x2, x3, x4, x5⟩
      · rw [hp] at hcl
        have Hcl := Lib.hid hcl
        have Hn := Lib.hid (show rowsP.find? p = (rowsP.drop (k + 1)).find? p by rw [Hd.out, Hfd.out, hp]; rfl)
        clear hcl hp
        go_wp2_with (go_at_call 20; refine (Hcl.out _ ((F1.out.then_no Hw.out.2).alloc _)).mono ?_; rintro e w2 ⟨rfl, hf⟩; have Hf := Lib.hid hf; clear hf)
        go_roundw
        case rel => exact ⟨k + 1, by go_num, by omega, Hn.out, ((Hw.out.1.alloc _).fr Hf.out (fun h => h)), (Hw.out.2.alloc _).then_no Hf.out⟩
        case measure => simp [intOf]; omega
      · rw [hp] at hcl
        have Hcl := Lib.hid hcl
        have Hn := Lib.hid (show rowsP.find? p = some ⟨xk, xt, x2, x3, x4, x5⟩ by rw [Hd.out, Hfd.out, hp]; rfl)
        clear hcl hp
        go_wp2_with (go_at_call 20; refine (Hcl.out _ ((F1.out.then_no Hw.out.2).alloc _)).mono ?_; rintro e w2 ⟨rfl, hf⟩; have b1 := (Blk.new wr 46 #[.int .i64 xk, .string ⟨xt.toArray⟩, .bool x2, .bool x3, .bool x4, .bool x5]).fr hf (fun h => h); have b3 := (Hw.out.1.alloc (.cells #[.int .i64 xk, .string ⟨xt.toArray⟩, .bool x2, .bool x3, .bool x4, .bool x5] 46)).fr hf (fun h => h); have c0 := b1.cell 0; have c1 := b1.cell 1; have c2 := b1.cell 2; have c3 := b1.cell 3; have c4 := b1.cell 4; have c5 := b1.cell 5; have d0 := b3.cell 0; have d1 := b3.cell 1; have d2 := b3.cell 2; have d3 := b3.cell 3; have d4 := b3.cell 4; have d5 := b3.cell 5; have f0 := b3.frozen 0; have f1 := b3.frozen 1; have f2 := b3.frozen 2; have f3 := b3.frozen 3; have f4 := b3.frozen 4; have f5 := b3.frozen 5; simp only [List.getElem?_toArray, List.getElem?_cons_zero, List.getElem?_cons_succ] at c0 c1 c2 c3 c4 c5 d0 d1 d2 d3 d4 d5; have HB3 := Lib.hid b3; have Hf := Lib.hid hf; clear hf b1 b3)
        have b3 := ((((((HB3.out.put 0 (.int .i64 xk)).put 1 (.string ⟨xt.toArray⟩)).put 2 (.bool x2)).put 3 (.bool x3)).put 4 (.bool x4)).put 5 (.bool x5))
        simp only [List.setIfInBounds_toArray, List.set_cons_zero, List.set_cons_succ] at b3
        have e0 := b3.cell 0
        have e1 := b3.cell 1
        have e2 := b3.cell 2
        have e3 := b3.cell 3
        have e4 := b3.cell 4
        have e5 := b3.cell 5
        simp only [List.getElem?_toArray, List.getElem?_cons_zero, List.getElem?_cons_succ] at e0 e1 e2 e3 e4 e5
        clear b3
        refine bodyPost_ret (v := .tuple #[.agg #[.int .i64 xk, .string ⟨xt.toArray⟩, .bool x2, .bool x3, .bool x4, .bool x5], .bool true]) ?_ rfl ⟨by rw [Hn.out]; rfl, ?_⟩
        · simp [results, Tryd.f19, go_sem, e0, e1, e2, e3, e4, e5]
        · have hle : w.heap.size ≤ b2 := by rw [HB2.out]; exact Nat.le_refl _
          have hF := (((F1.out.then_no Hw.out.2).alloc (.cells #[.int .i64 xk, .string ⟨xt.toArray⟩, .bool x2, .bool x3, .bool x4, .bool x5] 46)).then_no Hf.out)
          (repeat with_reducible refine Fr.setCell ?_ (.inr hle) _); exact hF
    · have Hn := Lib.hid (show rowsP.find? p = none by rw [Hd.out, List.drop_of_length_le (show rowsP.length ≤ k from by show 10 ≤ k; omega)]; rfl)
      have b3 := Hw.out.1
      have d0 := b3.cell 0
      have d1 := b3.cell 1
      have d2 := b3.cell 2
      have d3 := b3.cell 3
      have d4 := b3.cell 4
      have d5 := b3.cell 5
      have f0 := b3.frozen 0
      have f1 := b3.frozen 1
      have f2 := b3.frozen 2
      have f3 := b3.frozen 3
      have f4 := b3.frozen 4
      have f5 := b3.frozen 5
      simp only [List.getElem?_toArray, List.getElem?_cons_zero, List.getElem?_cons_succ] at d0 d1 d2 d3 d4 d5
      clear b3
      go_wp2
      have b3 := ((((((Hw.out.1.put 0 (.int .i64 0)).put 1 (.string ⟨#[]⟩)).put 2 (.bool false)).put 3 (.bool false)).put 4 (.bool false)).put 5 (.bool false))
      simp only [List.setIfInBounds_toArray, List.set_cons_zero, List.set_cons_succ] at b3
      have e0 := b3.cell 0
      have e1 := b3.cell 1
      have e2 := b3.cell 2
      have e3 := b3.cell 3
      have e4 := b3.cell 4
      have e5 := b3.cell 5
      simp only [List.getElem?_toArray, List.getElem?_cons_zero, List.getElem?_cons_succ] at e0 e1 e2 e3 e4 e5
      clear b3
      refine bodyPost_ret (v := .tuple #[.agg #[.int .i64 0, .string ⟨#[]⟩, .bool false, .bool false, .bool false, .bool false], .bool false]) ?_ rfl ⟨by rw [Hn.out]; rfl, ?_⟩
      · simp [results, Tryd.f19, go_sem, e0, e1, e2, e3, e4, e5]
      · have hle : w.heap.size ≤ b2 := by rw [HB2.out]; exact Nat.le_refl _
        have hF := F1.out.then_no Hw.out.2
        (repeat with_reducible refine Fr.setCell ?_ (.inr hle) _); exact hF
theorem check1_any (w : World) (B : Nat) (v : Int) (x : R) (hB : w.cell? ⟨B, 0, none⟩ = some (.int .i64 v)) (hlt : B < w.heap.size) : Calls Tryd.prog 27 #[.agg (cR x), .pointer (some ⟨B, 0, none⟩)] w fun e w' => e = .returned (.bool (x.k == v)) ∧ Fr No w w' := by
  obtain ⟨xk, xt, x2, x3, x4, x5⟩ := x
  unfold cR
  simp only
  have hne : B ≠ w.heap.size := by omega
  have hB2 := ((Fr.refl No w).alloc (.cells #[.int .i64 xk, .string ⟨xt.toArray⟩, .bool x2, .bool x3, .bool x4, .bool x5] 46)).cell (p := ⟨B, 0, none⟩) hlt (fun h => h)
  rw [hB] at hB2
  go_enter Tryd.func27, Tryd.ntmps27
  go_wp2
  go_ret
  exact ⟨rfl, (Fr.refl No w).alloc _⟩
set_option maxRecDepth 100000 in
set_option maxHeartbeats 2000000 in
theorem find_check1 (w : World) (B : Nat) (p : R → Bool) (hc : ∀ W, Fr No w W → ∀ x : R, Calls Tryd.prog 27 #[.agg (cR x), .pointer (some ⟨B, 0, none⟩)] W fun e w' => e = .returned (.bool (p x)) ∧ Fr No W w') :
    Calls Tryd.prog 19 #[.func (.func 27) #[] #[.pointer (some ⟨B, 0, none⟩)]] w fun e w' => FindIs (rowsP.find? p) e ∧ Fr No w w' := by
  have HC := Lib.hid hc
  clear hc
  have X2 := Lib.hid (Blk.new w 46 #[.int .i64 0, .string ⟨#[]⟩, .bool false, .bool false, .bool false, .bool false])
  have FA := Lib.hid ((Fr.refl No w).alloc (.cells #[.int .i64 0, .string ⟨#[]⟩, .bool false, .bool false, .bool false, .bool false] 46))
  obtain ⟨b2, hb2⟩ : ∃ b, w.heap.size = b := ⟨_, rfl⟩
  have X2 := Lib.hid (show Blk _ b2 _ _ from by rw [← hb2]; exact X2.out)
  have HB2 := Lib.hid hb2
  go_enter Tryd.func19, Tryd.ntmps19
  go_wp2_with fail
  try rw [hb2]
  clear hb2
  generalize w.alloc (.cells #[.int .i64 0, .string ⟨#[]⟩, .bool false, .bool false, .bool false, .bool false] 46) = wa at X2 FA ⊢
  refine (rows_any wa).mono ?_
  rintro e w1 ⟨g, rfl, hro, hf, hn⟩
  have RO := Lib.hid (And.intro hro hn.2)
  have F1 := Lib.hid (FA.out.then_no hf)
  have Y2 := Lib.hid (X2.out.fr hf (fun h => h))
  clear hro hf hn X2 FA
  go_wp2_with fail
  go_loopw [8] (fun iv wr => ∃ k : Nat, iv = .int .i64 k ∧ k ≤ 10 ∧ Hid (rowsP.find? p = (rowsP.drop k).find? p) ∧ Hid (Blk wr b2 46 #[.int .i64 0, .string ⟨#[]⟩, .bool false, .bool false, .bool false, .bool false] ∧ Fr No w1 wr)) (fun i _ => 10 - (intOf i).toNat)
  case atStart => exact ⟨0, rfl, by omega, rfl, Y2.out, Fr.refl _ _⟩
  case round =>
    clear Y2
    obtain ⟨k, rfl, hk, Hd, Hw⟩ := hrel
    by_cases hlt : k < 10
    · have hfd := find_drop (p := p) (k := k) hlt
      have hrw := RO.out.1.no RO.out.2 Hw.out.2 k hlt
      obtain ⟨x, hx⟩ : ∃ x, x = rowsP[k]'hlt := ⟨_, rfl⟩
      rw [← hx] at hfd hrw
      have hr0 := hrw 0 (by omega)
      have hr1 := hrw 1 (by omega)
      have hr2 := hrw 2 (by omega)
      have hr3 := hrw 3 (by omega)
      have hr4 := hrw 4 (by omega)
      have hr5 := hrw 5 (by omega)
      have hcl := fun W hf => HC.out W hf x
      have Hfd := Lib.hid hfd
      obtain ⟨xk, xt, x2, x3, x4, x5⟩ := x
      unfold cR at hr0 hr1 hr2 hr3 hr4 hr5 hcl
      simp only [List.getElem?_cons_zero, List.getElem?_cons_succ, Nat.add_zero] at hr0 hr1 hr2 hr3 hr4 hr5
      have hsz := Hw.out.1.lt
      have hne : b2 ≠ wr.heap.size := by omega
      clear hfd hx hrw
      cases hp : p ⟨xk, xt, x2, x3, x4, x5⟩
      · rw [hp] at hcl
        have Hcl := Lib.hid hcl
        have Hn := Lib.hid (show rowsP.find? p = (rowsP.drop (k + 1)).find? p by rw [Hd.out, Hfd.out, hp]; rfl)
        clear hcl hp
        go_wp2_with (go_at_call 27; refine (Hcl.out _ ((F1.out.then_no Hw.out.2).alloc _)).mono ?_; rintro e w2 ⟨rfl, hf⟩; have Hf := Lib.hid hf; clear hf)
        go_roundw
        case rel => exact ⟨k + 1, by go_num, by omega, Hn.out, ((Hw.out.1.alloc _).fr Hf.out (fun h => h)), (Hw.out.2.alloc _).then_no Hf.out⟩
        case measure => simp [intOf]; omega
      · rw [hp] at hcl
        have Hcl := Lib.hid hcl
        have Hn := Lib.hid (show rowsP.find? p = some ⟨xk, xt, x2, x3, x4, x5⟩ by rw [Hd.out, Hfd.out, hp]; rfl)
        clear hcl hp
        go_wp2_with (go_at_call 27; refine (Hcl.out _ ((F1.out.then_no Hw.out.2).alloc _)).mono ?_; rintro e w2 ⟨rfl, hf⟩; have b1 := (Blk.new wr 46 #[.int .i64 xk, .string ⟨xt.toArray⟩, .bool x2, .bool x3, .bool x4, .bool x5]).fr hf (fun h => h); have b3 := (Hw.out.1.alloc (.cells #[.int .i64 xk, .string ⟨xt.toArray⟩, .bool x2, .bool x3, .bool x4, .bool x5] 46)).fr hf (fun h => h); have c0 := b1.cell 0; have c1 := b1.cell 1; have c2 := b1.cell 2; have c3 := b1.cell 3; have c4 := b1.cell 4; have c5 := b1.cell 5; have d0 := b3.cell 0; have d1 := b3.cell 1; have d2 := b3.cell 2; have d3 := b3.cell 3; have d4 := b3.cell 4; have d5 := b3.cell 5; have f0 := b3.frozen 0; have f1 := b3.frozen 1; have f2 := b3.frozen 2; have f3 := b3.frozen 3; have f4 := b3.frozen 4; have f5 := b3.frozen 5; simp only [List.getElem?_toArray, List.getElem?_cons_zero, List.getElem?_cons_succ] at c0 c1 c2 c3 c4 c5 d0 d1 d2 d3 d4 d5; have HB3 := Lib.hid b3; have Hf := Lib.hid hf; clear hf b1 b3)
        have b3 := ((((((HB3.out.put 0 (.int .i64 xk)).put 1 (.string ⟨xt.toArray⟩)).put 2 (.bool x2)).put 3 (.bool x3)).put 4 (.bool x4)).put 5 (.bool x5))
        simp only [List.setIfInBounds_toArray, List.set_cons_zero, List.set_cons_succ] at b3
        have e0 := b3.cell 0
        have e1 := b3.cell 1
        have e2 := b3.cell 2
        have e3 := b3.cell 3
        have e4 := b3.cell 4
        have e5 := b3.cell 5
        simp only [List.getElem?_toArray, List.getElem?_cons_zero, List.getElem?_cons_succ] at e0 e1 e2 e3 e4 e5
        clear b3
        refine bodyPost_ret (v := .tuple #[.agg #[.int .i64 xk, .string ⟨xt.toArray⟩, .bool x2, .bool x3, .bool x4, .bool x5], .bool true]) ?_ rfl ⟨by rw [Hn.out]; rfl, ?_⟩
        · simp [results, Tryd.f19, go_sem, e0, e1, e2, e3, e4, e5]
        · have hle : w.heap.size ≤ b2 := by rw [HB2.out]; exact Nat.le_refl _
          have hF := (((F1.out.then_no Hw.out.2).alloc (.cells #[.int .i64 xk, .string ⟨xt.toArray⟩, .bool x2, .bool x3, .bool x4, .bool x5] 46)).then_no Hf.out)
          (repeat with_reducible refine Fr.setCell ?_ (.inr hle) _); exact hF
    · have Hn := Lib.hid (show rowsP.find? p = none by rw [Hd.out, List.drop_of_length_le (show rowsP.length ≤ k from by show 10 ≤ k; omega)]; rfl)
      have b3 := Hw.out.1
      have d0 := b3.cell 0
      have d1 := b3.cell 1
      have d2 := b3.cell 2
      have d3 := b3.cell 3
      have d4 := b3.cell 4
      have d5 := b3.cell 5
      have f0 := b3.frozen 0
      have f1 := b3.frozen 1
      have f2 := b3.frozen 2
      have f3 := b3.frozen 3
      have f4 := b3.frozen 4
      have f5 := b3.frozen 5
      simp only [List.getElem?_toArray, List.getElem?_cons_zero, List.getElem?_cons_succ] at d0 d1 d2 d3 d4 d5
      clear b3
      go_wp2
      have b3 := ((((((Hw.out.1.put 0 (.int .i64 0)).put 1 (.string ⟨#[]⟩)).put 2 (.bool false)).put 3 (.bool false)).put 4 (.bool false)).put 5 (.bool false))
      simp only [List.setIfInBounds_toArray, List.set_cons_zero, List.set_cons_succ] at b3
      have e0 := b3.cell 0
      have e1 := b3.cell 1
      have e2 := b3.cell 2
      have e3 := b3.cell 3
      have e4 := b3.cell 4
      have e5 := b3.cell 5
      simp only [List.getElem?_toArray, List.getElem?_cons_zero, List.getElem?_cons_succ] at e0 e1 e2 e3 e4 e5
      clear b3
      refine bodyPost_ret (v := .tuple #[.agg #[.int .i64 0, .string ⟨#[]⟩, .bool false, .bool false, .bool false, .bool false], .bool false]) ?_ rfl ⟨by rw [Hn.out]; rfl, ?_⟩
      · simp [results, Tryd.f19, go_sem, e0, e1, e2, e3, e4, e5]
      · have hle : w.heap.size ≤ b2 := by rw [HB2.out]; exact Nat.le_refl _
        have hF := F1.out.then_no Hw.out.2
        (repeat with_reducible refine Fr.setCell ?_ (.inr hle) _); exact hF
theorem read1_any (w : World) (B : Nat) (v : Str) (x : R) (hB : w.cell? ⟨B, 0, none⟩ = some (.string ⟨v.toArray⟩)) (hlt : B < w.heap.size) : Calls Tryd.prog 30 #[.agg (cR x), .pointer (some ⟨B, 0, none⟩)] w fun e w' => e = .returned (.bool (x.word == v)) ∧ Fr No w w' := by
  obtain ⟨xk, xt, x2, x3, x4, x5⟩ := x
  unfold cR
  simp only
  have hne : B ≠ w.heap.size := by omega
  have hB2 := ((Fr.refl No w).alloc (.cells #[.int .i64 xk, .string ⟨xt.toArray⟩, .bool x2, .bool x3, .bool x4, .bool x5] 46)).cell (p := ⟨B, 0, none⟩) hlt (fun h => h)
  rw [hB] at hB2
  go_enter Tryd.func30, Tryd.ntmps30
  go_wp2
  go_ret
  exact ⟨rfl, (Fr.refl No w).alloc _⟩
set_option maxRecDepth 100000 in
set_option maxHeartbeats 2000000 in
theorem find_read1 (w : World) (B : Nat) (p : R → Bool) (hc : ∀ W, Fr No w W → ∀ x : R, Calls Tryd.prog 30 #[.agg (cR x), .pointer (some ⟨B, 0, none⟩)] W fun e w' => e = .returned (.bool (p x)) ∧ Fr No W w') :
    Calls Tryd.prog 19 #[.func (.func 30) #[] #[.pointer (some ⟨B, 0, none⟩)]] w fun e w' => FindIs (rowsP.find? p) e ∧ Fr No w w' := by
  have HC := Lib.hid hc
  clear hc
  have X2 := Lib.hid (Blk.new w 46 #[.int .i64 0, .string ⟨#[]⟩, .bool false, .bool false, .bool false, .bool false])
  have FA := Lib.hid ((Fr.refl No w).alloc (.cells #[.int .i64 0, .string ⟨#[]⟩, .bool false, .bool false, .bool false, .bool false] 46))
  obtain ⟨b2, hb2⟩ : ∃ b, w.heap.size = b := ⟨_, rfl⟩
  have X2 := Lib.hid (show Blk _ b2 _ _ from by rw [← hb2]; exact X2.out)
  have HB2 := Lib.hid hb2
  go_enter Tryd.func19, Tryd.ntmps19
  go_wp2_with fail
  try rw [hb2]
  clear hb2
  generalize w.alloc (.cells #[.int .i64 0, .string ⟨#[]⟩, .bool false, .bool false, .bool false, .bool false] 46) = wa at X2 FA ⊢
  refine (rows_any wa).mono ?_
  rintro e w1 ⟨g, rfl, hro, hf, hn⟩
  have RO := Lib.hid (And.intro hro hn.2)
  have F1 := Lib.hid (FA.out.then_no hf)
  have Y2 := Lib.hid (X2.out.fr hf (fun h => h))
  clear hro hf hn X2 FA
  go_wp2_with fail
  go_loopw [8] (fun iv wr => ∃ k : Nat, iv = .int .i64 k ∧ k ≤ 10 ∧ Hid (rowsP.find? p = (rowsP.drop k).find? p) ∧ Hid (Blk wr b2 46 #[.int .i64 0, .string ⟨#[]⟩, .bool false, .bool false, .bool false, .bool false] ∧ Fr No w1 wr)) (fun i _ => 10 - (intOf i).toNat)
  case atStart => exact ⟨0, rfl, by omega, rfl, Y2.out, Fr.refl _ _⟩
  case round =>
    clear Y2
    obtain ⟨k, rfl, hk, Hd, Hw⟩ := hrel
    by_cases hlt : k < 10
    · have hfd := find_drop (p := p) (k := k) hlt
      have hrw := RO.out.1.no RO.out.2 Hw.out.2 k hlt
      obtain ⟨x, hx⟩ : ∃ x, x = rowsP[k]'hlt := ⟨_, rfl⟩
      rw [← hx] at hfd hrw
      have hr0 := hrw 0 (by omega)
      have hr1 := hrw 1 (by omega)
      have hr2 := hrw 2 (by omega)
      have hr3 := hrw 3 (by omega)
      have hr4 := hrw 4 (by omega)
      have hr5 := hrw 5 (by omega)
      have hcl := fun W hf => HC.out W hf x
      have Hfd := Lib.hid hfd
      obtain ⟨xk, xt, x2, x3, x4, x5⟩ := x
      unfold cR at hr0 hr1 hr2 hr3 hr4 hr5 hcl
      simp only [List.getElem?_cons_zero, List.getElem?_cons_succ, Nat.add_zero] at hr0 hr1 hr2 hr3 hr4 hr5
      have hsz := Hw.out.1.lt
      have hne : b2 ≠ wr.heap.size := by omega
      clear hfd hx hrw
      cases hp : p ⟨xk, xt, x2, x3, x4, x5⟩
      · rw [hp] at hcl
        have Hcl := Lib.hid hcl
        have Hn := Lib.hid (show rowsP.find? p = (rowsP.drop (k + 1)).find? p by rw [Hd.out, Hfd.out, hp]; rfl)
        clear hcl hp
        go_wp2_with (go_at_call 30; refine (Hcl.out _ ((F1.out.then_no Hw.out.2).alloc _)).mono ?_; rintro e w2 ⟨rfl, hf⟩; have Hf := Lib.hid hf; clear hf)
        go_roundw
        case rel => exact ⟨k + 1, by go_num, by omega, Hn.out, ((Hw.out.1.alloc _).fr Hf.out (fun h => h)), (Hw.out.2.alloc _).then_no Hf.out⟩
        case measure => simp [intOf]; omega
      · rw [hp] at hcl
        have Hcl := Lib.hid hcl
        have Hn := Lib.hid (show rowsP.find? p = some ⟨xk, xt, x2, x3, x4, x5⟩ by rw [Hd.out, Hfd.out, hp]; rfl)
        clear hcl hp
        go_wp2_with (go_at_call 30; refine (Hcl.out _ ((F1.out.then_no Hw.out.2).alloc _)).mono ?_; rintro e w2 ⟨rfl, hf⟩; have b1 := (Blk.new wr 46 #[.int .i64 xk, .string ⟨xt.toArray⟩, .bool x2, .bool x3, .bool x4, .bool x5]).fr hf (fun h => h); have b3 := (Hw.out.1.alloc (.cells #[.int .i64 xk, .string ⟨xt.toArray⟩, .bool x2, .bool x3, .bool x4, .bool x5] 46)).fr hf (fun h => h); have c0 := b1.cell 0; have c1 := b1.cell 1; have c2 := b1.cell 2; have c3 := b1.cell 3; have c4 := b1.cell 4; have c5 := b1.cell 5; have d0 := b3.cell 0; have d1 := b3.cell 1; have d2 := b3.cell 2; have d3 := b3.cell 3; have d4 := b3.cell 4; have d5 := b3.cell 5; have f0 := b3.frozen 0; have f1 := b3.frozen 1; have f2 := b3.frozen 2; have f3 := b3.frozen 3; have f4 := b3.frozen 4; have f5 := b3.frozen 5; simp only [List.getElem?_toArray, List.getElem?_cons_zero, List.getElem?_cons_succ] at c0 c1 c2 c3 c4 c5 d0 d1 d2 d3 d4 d5; have HB3 := Lib.hid b3; have Hf := Lib.hid hf; clear hf b1 b3)
        have b3 := ((((((HB3.out.put 0 (.int .i64 xk)).put 1 (.string ⟨xt.toArray⟩)).put 2 (.bool x2)).put 3 (.bool x3)).put 4 (.bool x4)).put 5 (.bool x5))
        simp only [List.setIfInBounds_toArray, List.set_cons_zero, List.set_cons_succ] at b3
        have e0 := b3.cell 0
        have e1 := b3.cell 1
        have e2 := b3.cell 2
        have e3 := b3.cell 3
        have e4 := b3.cell 4
        have e5 := b3.cell 5
        simp only [List.getElem?_toArray, List.getElem?_cons_zero, List.getElem?_cons_succ] at e0 e1 e2 e3 e4 e5
        clear b3
        refine bodyPost_ret (v := .tuple #[.agg #[.int .i64 xk, .string ⟨xt.toArray⟩, .bool x2, .bool x3, .bool x4, .bool x5], .bool true]) ?_ rfl ⟨by rw [Hn.out]; rfl, ?_⟩
        · simp [results, Tryd.f19, go_sem, e0, e1, e2, e3, e4, e5]
        · have hle : w.heap.size ≤ b2 := by rw [HB2.out]; exact Nat.le_refl _
          have hF := (((F1.out.then_no Hw.out.2).alloc (.cells #[.int .i64 xk, .string ⟨xt.toArray⟩, .bool x2, .bool x3, .bool x4, .bool x5] 46)).then_no Hf.out)
          (repeat with_reducible refine Fr.setCell ?_ (.inr hle) _); exact hF
    · have Hn := Lib.hid (show rowsP.find? p = none by rw [Hd.out, List.drop_of_length_le (show rowsP.length ≤ k from by show 10 ≤ k; omega)]; rfl)
      have b3 := Hw.out.1
      have d0 := b3.cell 0
      have d1 := b3.cell 1
      have d2 := b3.cell 2
      have d3 := b3.cell 3
      have d4 := b3.cell 4
      have d5 := b3.cell 5
      have f0 := b3.frozen 0
      have f1 := b3.frozen 1
      have f2 := b3.frozen 2
      have f3 := b3.frozen 3
      have f4 := b3.frozen 4
      have f5 := b3.frozen 5
      simp only [List.getElem?_toArray, List.getElem?_cons_zero, List.getElem?_cons_succ] at d0 d1 d2 d3 d4 d5
      clear b3
      go_wp2
      have b3 := ((((((Hw.out.1.put 0 (.int .i64 0)).put 1 (.string ⟨#[]⟩)).put 2 (.bool false)).put 3 (.bool false)).put 4 (.bool false)).put 5 (.bool false))
      simp only [List.setIfInBounds_toArray, List.set_cons_zero, List.set_cons_succ] at b3
      have e0 := b3.cell 0
      have e1 := b3.cell 1
      have e2 := b3.cell 2
      have e3 := b3.cell 3
      have e4 := b3.cell 4
      have e5 := b3.cell 5
      simp only [List.getElem?_toArray, List.getElem?_cons_zero, List.getElem?_cons_succ] at e0 e1 e2 e3 e4 e5
      clear b3
      refine bodyPost_ret (v := .tuple #[.agg #[.int .i64 0, .string ⟨#[]⟩, .bool false, .bool false, .bool false, .bool false], .bool false]) ?_ rfl ⟨by rw [Hn.out]; rfl, ?_⟩
      · simp [results, Tryd.f19, go_sem, e0, e1, e2, e3, e4, e5]
      · have hle : w.heap.size ≤ b2 := by rw [HB2.out]; exact Nat.le_refl _
        have hF := F1.out.then_no Hw.out.2
        (repeat with_reducible refine Fr.setCell ?_ (.inr hle) _); exact hF
end Ev
end Go.Proofs.YtohjnbkehcdoaaaDoor
