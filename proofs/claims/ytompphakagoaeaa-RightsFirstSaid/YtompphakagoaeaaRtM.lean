/- Rights: May; the reference's Level. Printed by gen_rtm.py. -/
import Derived.Test.YtompphakagoaeaaRtL
namespace Go.Proofs.Ytompphakagoaeaa
open Go.RowKit
set_option linter.unusedVariables false
set_option linter.unusedSimpArgs false
namespace Conf
open Word
/-- A configuration, written out. -/
theorem q_lit {w : World} {S : Nat → Prop} {cs : Array Value} {x : C} (h : QConf w S cs.toList x) : ∃ (AC : Option Addr) (kC : Nat) (AG : Option Addr) (kG : Nat) (AU : Option Addr) (kU : Nat) (AA : Option Addr) (kA : Nat) (s0 s1 s2 s3 s4 s5 s6 s7 s8 s9 : Str),
    cs = #[.slice AC x.1.length kC, .slice AG x.2.1.length kG, .slice AU x.2.2.1.length kU, .slice AA x.2.2.2.1.length kA, .string ⟨s0.toArray⟩, .string ⟨s1.toArray⟩, .string ⟨s2.toArray⟩, .string ⟨s3.toArray⟩, .string ⟨s4.toArray⟩, .string ⟨s5.toArray⟩, .string ⟨s6.toArray⟩, .string ⟨s7.toArray⟩, .string ⟨s8.toArray⟩, .string ⟨s9.toArray⟩] ∧ RSq 10 QCon w S [.slice AC x.1.length kC] x.1 ∧ RSq 2 QGrp w S [.slice AG x.2.1.length kG] x.2.1 ∧ RSq 2 QUsr w S [.slice AU x.2.2.1.length kU] x.2.2.1 ∧ RSq 3 QAcc w S [.slice AA x.2.2.2.1.length kA] x.2.2.2.1 := by
  obtain ⟨vC, vG, vU, vA, bs, hc0, hC, hG, hU, hA, hB⟩ := q_open h
  obtain ⟨AC, kC, rfl, -, -⟩ := hC.1.slice
  obtain ⟨AG, kG, rfl, -, -⟩ := hG.1.slice
  obtain ⟨AU, kU, rfl, -, -⟩ := hU.1.slice
  obtain ⟨AA, kA, rfl, -, -⟩ := hA.1.slice
  obtain ⟨hb, hg⟩ := arr_get hB
  obtain ⟨b0, b1, b2, b3, b4, b5, b6, b7, b8, b9, rfl⟩ := list10 hb
  obtain ⟨s0, e0, -⟩ := hg 0 (by omega)
  obtain ⟨s1, e1, -⟩ := hg 1 (by omega)
  obtain ⟨s2, e2, -⟩ := hg 2 (by omega)
  obtain ⟨s3, e3, -⟩ := hg 3 (by omega)
  obtain ⟨s4, e4, -⟩ := hg 4 (by omega)
  obtain ⟨s5, e5, -⟩ := hg 5 (by omega)
  obtain ⟨s6, e6, -⟩ := hg 6 (by omega)
  obtain ⟨s7, e7, -⟩ := hg 7 (by omega)
  obtain ⟨s8, e8, -⟩ := hg 8 (by omega)
  obtain ⟨s9, e9, -⟩ := hg 9 (by omega)
  refine ⟨AC, kC, AG, kG, AU, kU, AA, kA, s0, s1, s2, s3, s4, s5, s6, s7, s8, s9, ?_, hC, hG, hU, hA⟩
  rw [hc0]
  obtain rfl : b0 = _ := by injection e0
  obtain rfl : b1 = _ := by injection e1
  obtain rfl : b2 = _ := by injection e2
  obtain rfl : b3 = _ := by injection e3
  obtain rfl : b4 = _ := by injection e4
  obtain rfl : b5 = _ := by injection e5
  obtain rfl : b6 = _ := by injection e6
  obtain rfl : b7 = _ := by injection e7
  obtain rfl : b8 = _ := by injection e8
  obtain rfl : b9 = _ := by injection e9
  rfl
set_option maxHeartbeats 1000000 in
theorem may_any (c0 : Array Value) (x : C) (user console : Str) (need : Int) (w : World) (S : Nat → Prop) (hS : ∀ k, S k → k < w.heap.size) (h : QConf w S c0.toList x) (h3 : console.length ≤ 40) (h4 : user.length ≤ 40) :
    Calls Try.prog 10 #[.agg c0, .string ⟨user.toArray⟩, .string ⟨console.toArray⟩, .int .i64 need] w fun e w' => e = .returned (.bool (decide (need ≤ levelR x.2.2.2.1 user console))) ∧ Fr No w w' := by
  have hW : Fr No w (w.alloc (.cells c0 28)) := (Fr.refl No w).alloc _
  have HL := Lib.hid (level_any c0 x user console (w.alloc (.cells c0 28)) S (fun k hk => Nat.lt_of_lt_of_le (hS k hk) hW.size) (stable_q.go h (Kept.of_no hW hS) fun b hb => hb) h3 h4)
  have HW := Lib.hid hW
  obtain ⟨AC, kC, AG, kG, AU, kU, AA, kA, s0, s1, s2, s3, s4, s5, s6, s7, s8, s9, rfl, -, -, -, -⟩ := q_lit h
  generalize levelR x.2.2.2.1 user console = n at HL ⊢
  generalize x.1.length = nC at HL HW ⊢
  generalize x.2.1.length = nG at HL HW ⊢
  generalize x.2.2.1.length = nU at HL HW ⊢
  generalize x.2.2.2.1.length = nA at HL HW ⊢
  clear h hS hW
  go_enter Try.func10, Try.ntmps10
  go_wp2_with fail
  refine HL.out.mono ?_
  rintro e w2 ⟨rfl, hf⟩
  have F2 := Lib.hid (HW.out.then_no hf)
  clear hf
  go_wp2_with fail
  go_ret
  exact ⟨rfl, F2.out⟩
set_option maxHeartbeats 2000000 in
theorem rlevel_any (c0 : Array Value) (x : C) (user console : Str) (w : World) (S : Nat → Prop) (hS : ∀ k, S k → k < w.heap.size) (h : QConf w S c0.toList x) (h3 : console.length ≤ 40) (h4 : user.length ≤ 40) :
    Calls Try.prog 8 #[.agg c0, .string ⟨user.toArray⟩, .string ⟨console.toArray⟩] w fun e w' => e = .returned (.int .i64 (levelR x.2.2.2.1 user console)) ∧ Fr No w w' := by
  obtain ⟨vC, vG, vU, vA, bs, hc0, hC, hG, hU, hA, hB⟩ := q_open h
  obtain ⟨AA, kA, rfl, hA1, hA2⟩ := hA.1.slice
  obtain ⟨l, hl⟩ : ∃ l, l = x.2.2.2.1 := ⟨_, rfl⟩
  rw [← hl] at hA hA1 ⊢
  have e3 : c0[3]? = some (.slice AA l.length kA) := by rw [hc0, hl]; rfl
  have hl12 := hA.2
  have HA := Lib.hid hA
  have HS := Lib.hid hS
  have hb := (Blk.new w 28 c0).cell 3
  rw [e3] at hb
  have HW := Lib.hid ((Fr.refl No w).alloc (.cells c0 28))
  unfold maxLen at hA2
  clear hC hG hU hA hB h hc0 e3 hl hS
  go_enter Try.func8, Try.ntmps8
  go_wp2_with fail
  obtain ⟨W, hWW⟩ : ∃ W, w.alloc (.cells c0 28) = W := ⟨_, rfl⟩
  have hlc : w.heap.size < W.heap.size := by rw [← hWW]; simp
  rw [hWW] at hb HW ⊢
  obtain ⟨bc, hbc⟩ : ∃ bc, w.heap.size = bc := ⟨_, rfl⟩
  rw [hbc] at hb hlc ⊢
  have HB := Lib.hid hb
  clear hWW hbc hb
  go_loopw [7] (fun iv wr => ∃ k : Nat, iv = .int .i64 k ∧ k ≤ l.length ∧ Hid (∀ j (h : j < l.length), j < k → accP user console l[j] = false) ∧ Hid (Fr No W wr)) (fun i _ => l.length - (intOf i).toNat)
  case atStart => exact ⟨0, rfl, by omega, Lib.hid (fun j _ h => absurd h (by omega)), Lib.hid (Fr.refl _ _)⟩
  case round =>
    obtain ⟨k, rfl, hk, Hd, HF⟩ := hrel
    have hb := (HF.out.cell (p := ⟨bc, 3, none⟩) hlc (fun h => h)).trans HB.out
    by_cases hlt : k < l.length
    · obtain ⟨ad, rfl, hla, k1, k2, k3, b1, b2⟩ := acc_at HA.out (HW.out.then_no HF.out) HS.out hlt
      have hlw : (ad.add (k * 3)).block < wr.heap.size := by have := HW.out.size; have := HF.out.size; omega
      have C1 := Lib.hid (fun w => rmatch_any l[k].1 console (by omega) (by omega) w)
      have C2 := Lib.hid (fun w => rmatch_any l[k].2.1 user (by omega) (by omega) w)
      obtain ⟨m1, hm1⟩ : ∃ m, matchR l[k].1 console = m := ⟨_, rfl⟩
      obtain ⟨m2, hm2⟩ : ∃ m, matchR l[k].2.1 user = m := ⟨_, rfl⟩
      have Hp := Lib.hid (show accP user console l[k] = (m1 && m2) by unfold accP; rw [hm1, hm2])
      rw [hm1] at C1
      rw [hm2] at C2
      obtain ⟨a, ha⟩ : ∃ a, a = l[k].1 := ⟨_, rfl⟩
      obtain ⟨b, hbb⟩ : ∃ b, b = l[k].2.1 := ⟨_, rfl⟩
      obtain ⟨n, hn⟩ : ∃ n, n = l[k].2.2 := ⟨_, rfl⟩
      rw [← ha] at k1 C1
      rw [← hbb] at k2 C2
      rw [← hn] at k3
      have Hn := Lib.hid hn
      have K1 := Lib.hid k1
      have K2 := Lib.hid k2
      have K3 := Lib.hid k3
      have HBw := Lib.hid hb
      clear hm1 hm2 ha hbb hn b1 b2
      cases m1
      · have hn2 : Hid (∀ j (h : j < l.length), j < k + 1 → accP user console l[j] = false) := by
          intro j h hj
          by_cases e : j = k
          · subst e; rw [Hp.out]; rfl
          · exact Hd.out j h (by omega)
        go_wp2_with fail
        refine (C1.out _).mono ?_
        rintro e w2 ⟨rfl, hf⟩
        have F2 := Lib.hid (HF.out.then_no hf)
        clear hf
        go_wp2_with fail
        go_roundw
        case rel => exact ⟨k + 1, by go_num, by omega, hn2, F2⟩
        case measure => simp [intOf]; omega
      · go_wp2_with fail
        refine (C1.out _).mono ?_
        rintro e w2 ⟨rfl, hf⟩
        have F2 := Lib.hid (HF.out.then_no hf)
        have hb2 := (hf.cell (p := ⟨bc, 3, none⟩) (by have := HF.out.size; show bc < _; omega) (fun h => h)).trans HBw.out
        have k22 := (hf.cell (p := ⟨(ad.add (k * 3)).block, (ad.add (k * 3)).off + 1, none⟩) hlw (fun h => h)).trans K2.out
        have K32 := Lib.hid ((hf.cell (p := ⟨(ad.add (k * 3)).block, (ad.add (k * 3)).off + 2, none⟩) hlw (fun h => h)).trans K3.out)
        have hlw2 : (ad.add (k * 3)).block < w2.heap.size := by have := hf.size; omega
        have hlc2 : bc < w2.heap.size := by have := hf.size; have := HF.out.size; omega
        have HB2 := Lib.hid hb2
        clear hf hb k1 k2 k3
        go_wp2_with fail
        refine (C2.out _).mono ?_
        rintro e w3 ⟨rfl, hf⟩
        have F3 := Lib.hid (F2.out.then_no hf)
        cases m2
        · have hn2 : Hid (∀ j (h : j < l.length), j < k + 1 → accP user console l[j] = false) := by
            intro j h hj
            by_cases e : j = k
            · subst e; rw [Hp.out]; rfl
            · exact Hd.out j h (by omega)
          clear hf
          go_wp2_with fail
          go_roundw
          case rel => exact ⟨k + 1, by go_num, by omega, hn2, F3⟩
          case measure => simp [intOf]; omega
        · have hr := Lib.hid (level_at hlt Hd.out (by rw [Hp.out]; rfl))
          have hb3 := (hf.cell (p := ⟨bc, 3, none⟩) hlc2 (fun h => h)).trans HB2.out
          have k33 := (hf.cell (p := ⟨(ad.add (k * 3)).block, (ad.add (k * 3)).off + 2, none⟩) hlw2 (fun h => h)).trans K32.out
          clear hf hb2 k22
          go_wp2_with fail
          go_ret
          exact ⟨ret_int (by rw [hr.out, Hn.out]), HW.out.then_no F3.out⟩
    · have hr := Lib.hid (level_none (user := user) (console := console) fun j h => Hd.out j h (by omega))
      clear Hd
      go_wp2_with fail
      go_ret
      exact ⟨ret_int hr.out.symm, HW.out.then_no HF.out⟩
end Conf
end Go.Proofs.Ytompphakagoaeaa
