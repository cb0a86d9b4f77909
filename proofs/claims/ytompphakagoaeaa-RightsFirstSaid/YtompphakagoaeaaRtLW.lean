/- Level, of the program and of the reference, over a configuration of thirteen accesses at most. Printed by gen_rtlw.py. -/
import Derived.Test.YtompphakagoaeaaRtM
namespace Go.Proofs.Ytompphakagoaeaa
open Go.RowKit
set_option linter.unusedVariables false
set_option linter.unusedSimpArgs false
namespace Conf
open Word
/-- A row of thirteen at most. -/
def RSr {α : Type} (n : Nat) (R : Rd α) : Rd (List α) := fun w S cs l => RSl n R w S cs l ∧ l.length ≤ 13
theorem RSr.stable {α : Type} {n : Nat} {R : Rd α} (h : R.Stable) : Rd.Stable (RSr n R) := ⟨fun ⟨h1, h2⟩ hk hs => ⟨(RSl.stable h).go h1 hk hs, h2⟩⟩
abbrev QConfW : Rd C := RTwo 1 (RSq 10 QCon) (RTwo 1 (RSq 2 QGrp) (RTwo 1 (RSq 2 QUsr) (RTwo 1 (RSr 3 QAcc) (RArr 10 1 RStr))))
theorem stable_qw : QConfW.Stable := RTwo.stable (RSq.stable stable_qcon) (RTwo.stable (RSq.stable stable_qgrp) (RTwo.stable (RSq.stable stable_qusr) (RTwo.stable (RSr.stable stable_qacc) (RArr.stable RStr.stable))))
theorem q_openW {w : World} {S : Nat → Prop} {cs : Array Value} {x : C} (h : QConfW w S cs.toList x) : ∃ vC vG vU vA : Value, ∃ bs : List Value, cs = (vC :: vG :: vU :: vA :: bs).toArray ∧ RSq 10 QCon w S [vC] x.1 ∧ RSq 2 QGrp w S [vG] x.2.1 ∧ RSq 2 QUsr w S [vU] x.2.2.1 ∧ RSr 3 QAcc w S [vA] x.2.2.2.1 ∧
    RArr 10 1 RStr w S bs x.2.2.2.2 := by
  obtain ⟨l1, h1, h⟩ := h
  obtain ⟨l2, h2, h⟩ := h
  obtain ⟨l3, h3, h⟩ := h
  obtain ⟨l4, h4, h⟩ := h
  match hcs : cs.toList, l1, l2, l3, l4 with
  | a :: b :: c :: d :: bs, _, _, _, _ =>
    rw [hcs] at h1 h2 h3 h4 h
    exact ⟨a, b, c, d, bs, by rw [← hcs], by simpa using h1, by simpa using h2, by simpa using h3, by simpa using h4, by simpa using h⟩
  | [], h, _, _, _ => simp [hcs] at h
  | [_], _, h, _, _ => simp [hcs] at h
  | [_, _], _, _, h, _ => simp [hcs] at h
  | [_, _, _], _, _, _, h => simp [hcs] at h
namespace W
/-- An access of a row. -/
theorem acc_at {w W : World} {S : Nat → Prop} {A : Option Addr} {m c i : Nat} {l : List Acc} (h : RSr 3 QAcc w S [.slice A m c] l) (hf : Fr No w W) (hS : ∀ k, S k → k < w.heap.size) (hi : i < l.length) :
    ∃ ad, A = some ad ∧ (ad.add (i * 3)).block < w.heap.size ∧ W.cell? (ad.add (i * 3)) = some (.string ⟨l[i].1.toArray⟩) ∧ W.cell? ⟨(ad.add (i * 3)).block, (ad.add (i * 3)).off + 1, none⟩ = some (.string ⟨l[i].2.1.toArray⟩) ∧
      W.cell? ⟨(ad.add (i * 3)).block, (ad.add (i * 3)).off + 2, none⟩ = some (.int .i64 l[i].2.2) ∧ l[i].1.length ≤ 40 ∧ l[i].2.1.length ≤ 40 := by
  obtain ⟨ad, ecs, rfl, hb, hecs, hcell, hr⟩ := el_at h.1 hf hS hi
  obtain ⟨rfl, b1, b2, -⟩ := qacc_open hr
  have c0 := hcell 0 (by omega)
  rw [add_zero] at c0
  exact ⟨ad, rfl, hb, c0, hcell 1 (by omega), hcell 2 (by omega), b1, b2⟩
set_option maxHeartbeats 1000000 in
theorem idxA_any (A : Option Addr) (kA : Nat) (l : List Acc) (user console : Str) (w : World) (S : Nat → Prop) (hS : ∀ k, S k → k < w.heap.size) (h : RSr 3 QAcc w S [.slice A l.length kA] l) (BC BU : Nat)
    (hc : w.cell? ⟨BC, 0, none⟩ = some (.string ⟨console.toArray⟩)) (hu : w.cell? ⟨BU, 0, none⟩ = some (.string ⟨user.toArray⟩)) (hlc : BC < w.heap.size) (hlu : BU < w.heap.size) (h3 : console.length ≤ 40) (h4 : user.length ≤ 40) :
    Calls Try.prog 41 #[.slice A l.length kA, .func (.func 42) #[] #[.pointer (some ⟨BC, 0, none⟩), .pointer (some ⟨BU, 0, none⟩)]] w fun e w' => e = .returned (.int .i64 (idxR (accP user console) l)) ∧ Fr No w w' := by
  obtain ⟨hU1, hU2⟩ : l.length ≤ kA ∧ kA ≤ 9223372036854775807 := by
    obtain ⟨A', c, e, h1, h2, -⟩ := h.1
    injection e with e _
    injection e with _ _ e
    subst e
    exact ⟨h1, h2⟩
  have H := Lib.hid h
  have HS := Lib.hid hS
  have HC := Lib.hid hc
  have HUU := Lib.hid hu
  clear h hS hc hu
  go_enter Try.func41, Try.ntmps41
  go_wp2_with fail
  go_loopw [8] (fun iv wr => ∃ k : Nat, iv = .int .i64 k ∧ k ≤ l.length ∧ Hid (∀ j (h : j < l.length), j < k → accP user console l[j] = false) ∧ Hid (Fr No w wr)) (fun i _ => l.length - (intOf i).toNat)
  case atStart => exact ⟨0, rfl, by omega, Lib.hid (fun j _ h => absurd h (by omega)), Lib.hid (Fr.refl _ _)⟩
  case round =>
    obtain ⟨k, rfl, hk, Hd, HF⟩ := hrel
    by_cases hlt : k < l.length
    · obtain ⟨ad, rfl, -, k1, k2, k3, b1, b2⟩ := acc_at H.out HF.out HS.out hlt
      have hcl := lev1_any wr BC BU l[k].1 l[k].2.1 console user l[k].2.2 ((HF.out.cell (p := ⟨BC, 0, none⟩) hlc (fun h => h)).trans HC.out) ((HF.out.cell (p := ⟨BU, 0, none⟩) hlu (fun h => h)).trans HUU.out) (Nat.lt_of_lt_of_le hlc HF.out.size) (Nat.lt_of_lt_of_le hlu HF.out.size) b1 b2 h3 h4
      have hp : accP user console l[k] = (matchR l[k].1 console && matchR l[k].2.1 user) := rfl
      rw [← hp] at hcl
      obtain ⟨a, ha⟩ : ∃ a, a = l[k].1 := ⟨_, rfl⟩
      obtain ⟨b, hb⟩ : ∃ b, b = l[k].2.1 := ⟨_, rfl⟩
      obtain ⟨n, hn⟩ : ∃ n, n = l[k].2.2 := ⟨_, rfl⟩
      obtain ⟨m, hm⟩ : ∃ m, accP user console l[k] = m := ⟨_, rfl⟩
      rw [← ha, ← hb, ← hn, hm] at hcl
      rw [← ha] at k1
      rw [← hb] at k2
      rw [← hn] at k3
      have Hcl := Lib.hid hcl
      have Hm := Lib.hid hm
      clear hcl ha hb hn b1 b2 hp hm
      cases m
      · have hn2 : Hid (∀ j (h : j < l.length), j < k + 1 → accP user console l[j] = false) := by
          intro j h hj
          by_cases e : j = k
          · subst e; exact Hm.out
          · exact Hd.out j h (by omega)
        go_wp2_with fail
        refine Hcl.out.mono ?_
        rintro e w2 ⟨rfl, hf⟩
        have F2 := Lib.hid (HF.out.then_no hf)
        clear hf
        go_wp2_with fail
        go_roundw
        case rel => exact ⟨k + 1, by go_num, by omega, hn2, F2⟩
        case measure => simp [intOf]; omega
      · have hx := Lib.hid (idx_at hlt Hd.out Hm.out)
        go_wp2_with fail
        refine Hcl.out.mono ?_
        rintro e w2 ⟨rfl, hf⟩
        have F2 := Lib.hid (HF.out.then_no hf)
        clear hf
        go_wp2_with fail
        go_ret
        exact ⟨ret_int hx.out.symm, F2.out⟩
    · have hx := Lib.hid (idx_none fun j h => Hd.out j h (by omega))
      clear Hd
      go_wp2_with fail
      go_ret
      exact ⟨ret_int hx.out.symm, HF.out⟩
set_option maxHeartbeats 1000000 in
theorem lvl_any (A : Option Addr) (kA : Nat) (l : List Acc) (user console : Str) (w : World) (S : Nat → Prop) (hS : ∀ k, S k → k < w.heap.size) (h : RSr 3 QAcc w S [.slice A l.length kA] l) (h3 : console.length ≤ 40) (h4 : user.length ≤ 40) :
    Calls Try.prog 24 #[.slice A l.length kA, .string ⟨user.toArray⟩, .string ⟨console.toArray⟩] w fun e w' => e = .returned (.int .i64 (levelR l user console)) ∧ Fr No w w' := by
  obtain ⟨hU1, hU2⟩ : l.length ≤ kA ∧ kA ≤ 9223372036854775807 := by
    obtain ⟨A', c, e, h1, h2, -⟩ := h.1
    injection e with e _
    injection e with _ _ e
    subst e
    exact ⟨h1, h2⟩
  have hW2 : Fr No w ((w.alloc (.cells #[.string ⟨user.toArray⟩] 9)).alloc (.cells #[.string ⟨console.toArray⟩] 9)) := ((Fr.refl No w).alloc _).alloc _
  have hix := idxA_any A kA l user console ((w.alloc (.cells #[.string ⟨user.toArray⟩] 9)).alloc (.cells #[.string ⟨console.toArray⟩] 9)) S (fun k hk => Nat.lt_of_lt_of_le (hS k hk) hW2.size) ((RSr.stable stable_qacc).go h (Kept.of_no hW2 hS) fun b hb => hb) (w.heap.size + 1) w.heap.size
    (by have := (Blk.new (w.alloc (.cells #[.string ⟨user.toArray⟩] 9)) 9 #[.string ⟨console.toArray⟩]).cell 0; rw [size_alloc] at this; exact this)
    (((Blk.new w 9 #[.string ⟨user.toArray⟩]).alloc _).cell 0) (by simp) (by simp; omega) h3 h4
  have H := Lib.hid h
  have HS := Lib.hid hS
  have HW2 := Lib.hid hW2
  rcases idx_cases (accP user console) l with hn | ⟨k, hlt, he, hb⟩
  · rw [idx_none hn] at hix
    have hr := Lib.hid (level_none hn)
    have Hix := Lib.hid hix
    clear h hS hW2 hix hn
    go_enter Try.func24, Try.ntmps24
    go_wp2_with fail
    refine Hix.out.mono ?_
    rintro e w2 ⟨rfl, hf⟩
    have F2 := Lib.hid (HW2.out.then_no hf)
    clear hf
    go_wp2_with fail
    go_ret
    exact ⟨ret_int hr.out.symm, F2.out⟩
  · rw [idx_at hlt hb he] at hix
    have hr := Lib.hid (level_at hlt hb he)
    have Hix := Lib.hid hix
    clear h hS hW2 hix he hb
    go_enter Try.func24, Try.ntmps24
    go_wp2_with fail
    refine Hix.out.mono ?_
    rintro e w2 ⟨rfl, hf⟩
    have F2 := Lib.hid (HW2.out.then_no hf)
    clear hf
    obtain ⟨ad, rfl, -, k1, k2, k3, b1, b2⟩ := acc_at H.out F2.out HS.out hlt
    obtain ⟨n, hn⟩ : ∃ n, n = l[k].2.2 := ⟨_, rfl⟩
    rw [← hn] at k3 hr
    clear k1 k2 b1 b2 hn
    go_wp2_with fail
    go_ret
    exact ⟨ret_int hr.out.symm, F2.out⟩
set_option maxHeartbeats 1000000 in
theorem level_any (c0 : Array Value) (x : C) (user console : Str) (w : World) (S : Nat → Prop) (hS : ∀ k, S k → k < w.heap.size) (h : QConfW w S c0.toList x) (h3 : console.length ≤ 40) (h4 : user.length ≤ 40) :
    Calls Try.prog 9 #[.agg c0, .string ⟨user.toArray⟩, .string ⟨console.toArray⟩] w fun e w' => e = .returned (.int .i64 (levelR x.2.2.2.1 user console)) ∧ Fr No w w' := by
  obtain ⟨vC, vG, vU, vA, bs, hc0, hC, hG, hU, hA, hB⟩ := q_openW h
  obtain ⟨AA, kA, rfl, hA1, hA2⟩ := hA.1.slice
  obtain ⟨l, hl⟩ : ∃ l, l = x.2.2.2.1 := ⟨_, rfl⟩
  rw [← hl] at hA hA1 ⊢
  have e3 : c0[3]? = some (.slice AA l.length kA) := by rw [hc0, hl]; rfl
  have hW : Fr No w (w.alloc (.cells c0 28)) := (Fr.refl No w).alloc _
  have HL := Lib.hid (lvl_any AA kA l user console (w.alloc (.cells c0 28)) S (fun k hk => Nat.lt_of_lt_of_le (hS k hk) hW.size) ((RSr.stable stable_qacc).go hA (Kept.of_no hW hS) fun b hb => hb) h3 h4)
  have hb := (Blk.new w 28 c0).cell 3
  rw [e3] at hb
  have HW := Lib.hid hW
  clear hC hG hU hA hB h hc0 e3 hl hS hW
  go_enter Try.func9, Try.ntmps9
  go_wp2_with fail
  refine HL.out.mono ?_
  rintro e w2 ⟨rfl, hf⟩
  have F2 := Lib.hid (HW.out.then_no hf)
  clear hf
  go_wp2_with fail
  go_ret
  exact ⟨rfl, F2.out⟩
set_option maxHeartbeats 2000000 in
theorem rlevel_any (c0 : Array Value) (x : C) (user console : Str) (w : World) (S : Nat → Prop) (hS : ∀ k, S k → k < w.heap.size) (h : QConfW w S c0.toList x) (h3 : console.length ≤ 40) (h4 : user.length ≤ 40) :
    Calls Try.prog 8 #[.agg c0, .string ⟨user.toArray⟩, .string ⟨console.toArray⟩] w fun e w' => e = .returned (.int .i64 (levelR x.2.2.2.1 user console)) ∧ Fr No w w' := by
  obtain ⟨vC, vG, vU, vA, bs, hc0, hC, hG, hU, hA, hB⟩ := q_openW h
  obtain ⟨AA, kA, rfl, hA1, hA2⟩ := hA.1.slice
  obtain ⟨l, hl⟩ : ∃ l, l = x.2.2.2.1 := ⟨_, rfl⟩
  rw [← hl] at hA hA1 ⊢
  have e3 : c0[3]? = some (.slice AA l.length kA) := by rw [hc0, hl]; rfl
  have hl12 := hA.2
  have HA := Lib.hid hA
  have HS := Lib.hid hS
  have hb := (Blk.new w 28 c0).cell 3
  rw [e3] at hb
  have HW := Lib.hid ((Fr.refl No w).alloc (.cells c0 28))
  unfold maxLen at hA2
  clear hC hG hU hA hB h hc0 e3 hl hS
  go_enter Try.func8, Try.ntmps8
  go_wp2_with fail
  obtain ⟨W, hWW⟩ : ∃ W, w.alloc (.cells c0 28) = W := ⟨_, rfl⟩
  have hlc : w.heap.size < W.heap.size := by rw [← hWW]; simp
  rw [hWW] at hb HW ⊢
  obtain ⟨bc, hbc⟩ : ∃ bc, w.heap.size = bc := ⟨_, rfl⟩
  rw [hbc] at hb hlc ⊢
  have HB := Lib.hid hb
  clear hWW hbc hb
  go_loopw [7] (fun iv wr => ∃ k : Nat, iv = .int .i64 k ∧ k ≤ l.length ∧ Hid (∀ j (h : j < l.length), j < k → accP user console l[j] = false) ∧ Hid (Fr No W wr)) (fun i _ => l.length - (intOf i).toNat)
  case atStart => exact ⟨0, rfl, by omega, Lib.hid (fun j _ h => absurd h (by omega)), Lib.hid (Fr.refl _ _)⟩
  case round =>
    obtain ⟨k, rfl, hk, Hd, HF⟩ := hrel
    have hb := (HF.out.cell (p := ⟨bc, 3, none⟩) hlc (fun h => h)).trans HB.out
    by_cases hlt : k < l.length
    · obtain ⟨ad, rfl, hla, k1, k2, k3, b1, b2⟩ := acc_at HA.out (HW.out.then_no HF.out) HS.out hlt
      have hlw : (ad.add (k * 3)).block < wr.heap.size := by have := HW.out.size; have := HF.out.size; omega
      have C1 := Lib.hid (fun w => rmatch_any l[k].1 console (by omega) (by omega) w)
      have C2 := Lib.hid (fun w => rmatch_any l[k].2.1 user (by omega) (by omega) w)
      obtain ⟨m1, hm1⟩ : ∃ m, matchR l[k].1 console = m := ⟨_, rfl⟩
      obtain ⟨m2, hm2⟩ : ∃ m, matchR l[k].2.1 user = m := ⟨_, rfl⟩
      have Hp := Lib.hid (show accP user console l[k] = (m1 && m2) by unfold accP; rw [hm1, hm2])
      rw [hm1] at C1
      rw [hm2] at C2
      obtain ⟨a, ha⟩ : ∃ a, a = l[k].1 := ⟨_, rfl⟩
      obtain ⟨b, hbb⟩ : ∃ b, b = l[k].2.1 := ⟨_, rfl⟩
      obtain ⟨n, hn⟩ : ∃ n, n = l[k].2.2 := ⟨_, rfl⟩
      rw [← ha] at k1 C1
      rw [← hbb] at k2 C2
      rw [← hn] at k3
      have Hn := Lib.hid hn
      have K1 := Lib.hid k1
      have K2 := Lib.hid k2
      have K3 := Lib.hid k3
      have HBw := Lib.hid hb
      clear hm1 hm2 ha hbb hn b1 b2
      cases m1
      · have hn2 : Hid (∀ j (h : j < l.length), j < k + 1 → accP user console l[j] = false) := by
          intro j h hj
          by_cases e : j = k
          · subst e; rw [Hp.out]; rfl
          · exact Hd.out j h (by omega)
        go_wp2_with fail
        refine (C1.out _).mono ?_
        rintro e w2 ⟨rfl, hf⟩
        have F2 := Lib.hid (HF.out.then_no hf)
        clear hf
        go_wp2_with fail
        go_roundw
        case rel => exact ⟨k + 1, by go_num, by omega, hn2, F2⟩
        case measure => simp [intOf]; omega
      · go_wp2_with fail
        refine (C1.out _).mono ?_
        rintro e w2 ⟨rfl, hf⟩
        have F2 := Lib.hid (HF.out.then_no hf)
        have hb2 := (hf.cell (p := ⟨bc, 3, none⟩) (by have := HF.out.size; show bc < _; omega) (fun h => h)).trans HBw.out
        have k22 := (hf.cell (p := ⟨(ad.add (k * 3)).block, (ad.add (k * 3)).off + 1, none⟩) hlw (fun h => h)).trans K2.out
        have K32 := Lib.hid ((hf.cell (p := ⟨(ad.add (k * 3)).block, (ad.add (k * 3)).off + 2, none⟩) hlw (fun h => h)).trans K3.out)
        have hlw2 : (ad.add (k * 3)).block < w2.heap.size := by have := hf.size; omega
        have hlc2 : bc < w2.heap.size := by have := hf.size; have := HF.out.size; omega
        have HB2 := Lib.hid hb2
        clear hf hb k1 k2 k3
        go_wp2_with fail
        refine (C2.out _).mono ?_
        rintro e w3 ⟨rfl, hf⟩
        have F3 := Lib.hid (F2.out.then_no hf)
        cases m2
        · have hn2 : Hid (∀ j (h : j < l.length), j < k + 1 → accP user console l[j] = false) := by
            intro j h hj
            by_cases e : j = k
            · subst e; rw [Hp.out]; rfl
            · exact Hd.out j h (by omega)
          clear hf
          go_wp2_with fail
          go_roundw
          case rel => exact ⟨k + 1, by go_num, by omega, hn2, F3⟩
          case measure => simp [intOf]; omega
        · have hr := Lib.hid (level_at hlt Hd.out (by rw [Hp.out]; rfl))
          have hb3 := (hf.cell (p := ⟨bc, 3, none⟩) hlc2 (fun h => h)).trans HB2.out
          have k33 := (hf.cell (p := ⟨(ad.add (k * 3)).block, (ad.add (k * 3)).off + 2, none⟩) hlw2 (fun h => h)).trans K32.out
          clear hf hb2 k22
          go_wp2_with fail
          go_ret
          exact ⟨ret_int (by rw [hr.out, Hn.out]), HW.out.then_no F3.out⟩
    · have hr := Lib.hid (level_none (user := user) (console := console) fun j h => Hd.out j h (by omega))
      clear Hd
      go_wp2_with fail
      go_ret
      exact ⟨ret_int hr.out.symm, HW.out.then_no HF.out⟩
end W
end Conf
end Go.Proofs.Ytompphakagoaeaa
