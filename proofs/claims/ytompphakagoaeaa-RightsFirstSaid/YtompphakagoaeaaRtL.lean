/- Rights and their reference: levels. Printed by gen_rtl.py. -/
import Derived.Test.YtompphakagoaeaaRtP
namespace Go.Proofs.Ytompphakagoaeaa
open Go.RowKit
set_option linter.unusedVariables false
set_option linter.unusedSimpArgs false
namespace Conf
open Word
set_option maxHeartbeats 1000000 in
theorem lev1_any (w : World) (BC BU : Nat) (a b console user : Str) (n : Int) (hc : w.cell? ⟨BC, 0, none⟩ = some (.string ⟨console.toArray⟩)) (hu : w.cell? ⟨BU, 0, none⟩ = some (.string ⟨user.toArray⟩)) (hlc : BC < w.heap.size) (hlu : BU < w.heap.size)
    (h1 : a.length ≤ 40) (h2 : b.length ≤ 40) (h3 : console.length ≤ 40) (h4 : user.length ≤ 40) :
    Calls Try.prog 42 #[.agg #[.string ⟨a.toArray⟩, .string ⟨b.toArray⟩, .int .i64 n], .pointer (some ⟨BC, 0, none⟩), .pointer (some ⟨BU, 0, none⟩)] w fun e w' => e = .returned (.bool (matchR a console && matchR b user)) ∧ Fr No w w' := by
  have C1 := Lib.hid (fun w => match_any a console (by unfold maxLen; omega) (by omega) w)
  have C2 := Lib.hid (fun w => match_any b user (by unfold maxLen; omega) (by omega) w)
  obtain ⟨m1, hm1⟩ : ∃ m, matchR a console = m := ⟨_, rfl⟩
  obtain ⟨m2, hm2⟩ : ∃ m, matchR b user = m := ⟨_, rfl⟩
  rw [hm1] at C1 ⊢
  rw [hm2] at C2 ⊢
  have hne : BC ≠ w.heap.size := by omega
  have hne2 : BU ≠ w.heap.size := by omega
  have hb := (Blk.new w 41 #[.string ⟨a.toArray⟩, .string ⟨b.toArray⟩, .int .i64 n]).cell 1
  have hu2 := ((Fr.refl No w).alloc (.cells #[.string ⟨a.toArray⟩, .string ⟨b.toArray⟩, .int .i64 n] 41)).cell (p := ⟨BU, 0, none⟩) hlu (fun h => h) |>.trans hu
  have HB := Lib.hid hb
  have HU := Lib.hid hu2
  clear hm1 hm2 hb hu2 hu
  go_enter Try.func42, Try.ntmps42
  go_wp2_with fail
  refine (C1.out _).mono ?_
  rintro e w1 ⟨rfl, hf⟩
  have F1 := Lib.hid (((Fr.refl No w).alloc (.cells #[.string ⟨a.toArray⟩, .string ⟨b.toArray⟩, .int .i64 n] 41)).then_no hf)
  cases m1
  · clear hf
    go_wp2_with fail
    go_ret
    exact ⟨by simp, F1.out⟩
  · have q1 := (hf.cell (p := ⟨w.heap.size, 1, none⟩) (by simp) (fun h => h)).trans HB.out
    have q2 := (hf.cell (p := ⟨BU, 0, none⟩) (by simp; omega) (fun h => h)).trans HU.out
    simp only [List.getElem?_toArray, List.getElem?_cons_zero, List.getElem?_cons_succ] at q1
    clear hf
    go_wp2_with fail
    refine (C2.out _).mono ?_
    rintro e w2 ⟨rfl, hf⟩
    have F2 := Lib.hid (F1.out.then_no hf)
    clear hf
    go_wp2_with fail
    go_ret
    exact ⟨by simp, F2.out⟩
set_option maxHeartbeats 1000000 in
theorem idxA_any (A : Option Addr) (kA : Nat) (l : List Acc) (user console : Str) (w : World) (S : Nat → Prop) (hS : ∀ k, S k → k < w.heap.size) (h : RSq 3 QAcc w S [.slice A l.length kA] l) (BC BU : Nat)
    (hc : w.cell? ⟨BC, 0, none⟩ = some (.string ⟨console.toArray⟩)) (hu : w.cell? ⟨BU, 0, none⟩ = some (.string ⟨user.toArray⟩)) (hlc : BC < w.heap.size) (hlu : BU < w.heap.size) (h3 : console.length ≤ 40) (h4 : user.length ≤ 40) :
    Calls Try.prog 41 #[.slice A l.length kA, .func (.func 42) #[] #[.pointer (some ⟨BC, 0, none⟩), .pointer (some ⟨BU, 0, none⟩)]] w fun e w' => e = .returned (.int .i64 (idxR (accP user console) l)) ∧ Fr No w w' := by
  obtain ⟨hU1, hU2⟩ : l.length ≤ kA ∧ kA ≤ 9223372036854775807 := by
    obtain ⟨A', c, e, h1, h2, -⟩ := h.1
    injection e with e _
    injection e with _ _ e
    subst e
    exact ⟨h1, h2⟩
  have H := Lib.hid h
  have HS := Lib.hid hS
  have HC := Lib.hid hc
  have HUU := Lib.hid hu
  clear h hS hc hu
  go_enter Try.func41, Try.ntmps41
  go_wp2_with fail
  go_loopw [8] (fun iv wr => ∃ k : Nat, iv = .int .i64 k ∧ k ≤ l.length ∧ Hid (∀ j (h : j < l.length), j < k → accP user console l[j] = false) ∧ Hid (Fr No w wr)) (fun i _ => l.length - (intOf i).toNat)
  case atStart => exact ⟨0, rfl, by omega, Lib.hid (fun j _ h => absurd h (by omega)), Lib.hid (Fr.refl _ _)⟩
  case round =>
    obtain ⟨k, rfl, hk, Hd, HF⟩ := hrel
    by_cases hlt : k < l.length
    · obtain ⟨ad, rfl, -, k1, k2, k3, b1, b2⟩ := acc_at H.out HF.out HS.out hlt
      have hcl := lev1_any wr BC BU l[k].1 l[k].2.1 console user l[k].2.2 ((HF.out.cell (p := ⟨BC, 0, none⟩) hlc (fun h => h)).trans HC.out) ((HF.out.cell (p := ⟨BU, 0, none⟩) hlu (fun h => h)).trans HUU.out) (Nat.lt_of_lt_of_le hlc HF.out.size) (Nat.lt_of_lt_of_le hlu HF.out.size) b1 b2 h3 h4
      have hp : accP user console l[k] = (matchR l[k].1 console && matchR l[k].2.1 user) := rfl
      rw [← hp] at hcl
      obtain ⟨a, ha⟩ : ∃ a, a = l[k].1 := ⟨_, rfl⟩
      obtain ⟨b, hb⟩ : ∃ b, b = l[k].2.1 := ⟨_, rfl⟩
      obtain ⟨n, hn⟩ : ∃ n, n = l[k].2.2 := ⟨_, rfl⟩
      obtain ⟨m, hm⟩ : ∃ m, accP user console l[k] = m := ⟨_, rfl⟩
      rw [← ha, ← hb, ← hn, hm] at hcl
      rw [← ha] at k1
      rw [← hb] at k2
      rw [← hn] at k3
      have Hcl := Lib.hid hcl
      have Hm := Lib.hid hm
      clear hcl ha hb hn b1 b2 hp hm
      cases m
      · have hn2 : Hid (∀ j (h : j < l.length), j < k + 1 → accP user console l[j] = false) := by
          intro j h hj
          by_cases e : j = k
          · subst e; exact Hm.out
          · exact Hd.out j h (by omega)
        go_wp2_with fail
        refine Hcl.out.mono ?_
        rintro e w2 ⟨rfl, hf⟩
        have F2 := Lib.hid (HF.out.then_no hf)
        clear hf
        go_wp2_with fail
        go_roundw
        case rel => exact ⟨k + 1, by go_num, by omega, hn2, F2⟩
        case measure => simp [intOf]; omega
      · have hx := Lib.hid (idx_at hlt Hd.out Hm.out)
        go_wp2_with fail
        refine Hcl.out.mono ?_
        rintro e w2 ⟨rfl, hf⟩
        have F2 := Lib.hid (HF.out.then_no hf)
        clear hf
        go_wp2_with fail
        go_ret
        exact ⟨ret_int hx.out.symm, F2.out⟩
    · have hx := Lib.hid (idx_none fun j h => Hd.out j h (by omega))
      clear Hd
      go_wp2_with fail
      go_ret
      exact ⟨ret_int hx.out.symm, HF.out⟩
set_option maxHeartbeats 1000000 in
theorem lvl_any (A : Option Addr) (kA : Nat) (l : List Acc) (user console : Str) (w : World) (S : Nat → Prop) (hS : ∀ k, S k → k < w.heap.size) (h : RSq 3 QAcc w S [.slice A l.length kA] l) (h3 : console.length ≤ 40) (h4 : user.length ≤ 40) :
    Calls Try.prog 24 #[.slice A l.length kA, .string ⟨user.toArray⟩, .string ⟨console.toArray⟩] w fun e w' => e = .returned (.int .i64 (levelR l user console)) ∧ Fr No w w' := by
  obtain ⟨hU1, hU2⟩ : l.length ≤ kA ∧ kA ≤ 9223372036854775807 := by
    obtain ⟨A', c, e, h1, h2, -⟩ := h.1
    injection e with e _
    injection e with _ _ e
    subst e
    exact ⟨h1, h2⟩
  have hW2 : Fr No w ((w.alloc (.cells #[.string ⟨user.toArray⟩] 9)).alloc (.cells #[.string ⟨console.toArray⟩] 9)) := ((Fr.refl No w).alloc _).alloc _
  have hix := idxA_any A kA l user console ((w.alloc (.cells #[.string ⟨user.toArray⟩] 9)).alloc (.cells #[.string ⟨console.toArray⟩] 9)) S (fun k hk => Nat.lt_of_lt_of_le (hS k hk) hW2.size) ((RSq.stable stable_qacc).go h (Kept.of_no hW2 hS) fun b hb => hb) (w.heap.size + 1) w.heap.size
    (by have := (Blk.new (w.alloc (.cells #[.string ⟨user.toArray⟩] 9)) 9 #[.string ⟨console.toArray⟩]).cell 0; rw [size_alloc] at this; exact this)
    (((Blk.new w 9 #[.string ⟨user.toArray⟩]).alloc _).cell 0) (by simp) (by simp; omega) h3 h4
  have H := Lib.hid h
  have HS := Lib.hid hS
  have HW2 := Lib.hid hW2
  rcases idx_cases (accP user console) l with hn | ⟨k, hlt, he, hb⟩
  · rw [idx_none hn] at hix
    have hr := Lib.hid (level_none hn)
    have Hix := Lib.hid hix
    clear h hS hW2 hix hn
    go_enter Try.func24, Try.ntmps24
    go_wp2_with fail
    refine Hix.out.mono ?_
    rintro e w2 ⟨rfl, hf⟩
    have F2 := Lib.hid (HW2.out.then_no hf)
    clear hf
    go_wp2_with fail
    go_ret
    exact ⟨ret_int hr.out.symm, F2.out⟩
  · rw [idx_at hlt hb he] at hix
    have hr := Lib.hid (level_at hlt hb he)
    have Hix := Lib.hid hix
    clear h hS hW2 hix he hb
    go_enter Try.func24, Try.ntmps24
    go_wp2_with fail
    refine Hix.out.mono ?_
    rintro e w2 ⟨rfl, hf⟩
    have F2 := Lib.hid (HW2.out.then_no hf)
    clear hf
    obtain ⟨ad, rfl, -, k1, k2, k3, b1, b2⟩ := acc_at H.out F2.out HS.out hlt
    obtain ⟨n, hn⟩ : ∃ n, n = l[k].2.2 := ⟨_, rfl⟩
    rw [← hn] at k3 hr
    clear k1 k2 b1 b2 hn
    go_wp2_with fail
    go_ret
    exact ⟨ret_int hr.out.symm, F2.out⟩
set_option maxHeartbeats 1000000 in
theorem level_any (c0 : Array Value) (x : C) (user console : Str) (w : World) (S : Nat → Prop) (hS : ∀ k, S k → k < w.heap.size) (h : QConf w S c0.toList x) (h3 : console.length ≤ 40) (h4 : user.length ≤ 40) :
    Calls Try.prog 9 #[.agg c0, .string ⟨user.toArray⟩, .string ⟨console.toArray⟩] w fun e w' => e = .returned (.int .i64 (levelR x.2.2.2.1 user console)) ∧ Fr No w w' := by
  obtain ⟨vC, vG, vU, vA, bs, hc0, hC, hG, hU, hA, hB⟩ := q_open h
  obtain ⟨AA, kA, rfl, hA1, hA2⟩ := hA.1.slice
  obtain ⟨l, hl⟩ : ∃ l, l = x.2.2.2.1 := ⟨_, rfl⟩
  rw [← hl] at hA hA1 ⊢
  have e3 : c0[3]? = some (.slice AA l.length kA) := by rw [hc0, hl]; rfl
  have hW : Fr No w (w.alloc (.cells c0 28)) := (Fr.refl No w).alloc _
  have HL := Lib.hid (lvl_any AA kA l user console (w.alloc (.cells c0 28)) S (fun k hk => Nat.lt_of_lt_of_le (hS k hk) hW.size) ((RSq.stable stable_qacc).go hA (Kept.of_no hW hS) fun b hb => hb) h3 h4)
  have hb := (Blk.new w 28 c0).cell 3
  rw [e3] at hb
  have HW := Lib.hid hW
  clear hC hG hU hA hB h hc0 e3 hl hS hW
  go_enter Try.func9, Try.ntmps9
  go_wp2_with fail
  refine HL.out.mono ?_
  rintro e w2 ⟨rfl, hf⟩
  have F2 := Lib.hid (HW.out.then_no hf)
  clear hf
  go_wp2_with fail
  go_ret
  exact ⟨rfl, F2.out⟩
end Conf
end Go.Proofs.Ytompphakagoaeaa
