/- Few of the rights' laws, from one of its loops on. Printed by gen_few.py. -/
import Derived.Test.YtompphakagoaeaaFqG
import Derived.Deep.RegionHeld3
namespace Go.Proofs.Ytompphakagoaeaa
open Go.RowKit
set_option linter.unusedVariables false
set_option linter.unusedSimpArgs false
namespace Conf
set_option maxRecDepth 100000 in
set_option maxHeartbeats 2000000 in
theorem few_any (c0 : Array Value) (x : C) (w : World) (S : Nat → Prop) (hS : ∀ k, S k → k < w.heap.size) (h : RConf w S c0.toList x) :
    Calls Try.prog 6 #[.agg c0] w (FewPost w) := by
  have Hx := Lib.hid h
  obtain ⟨xC, xG, xU, xA, xB⟩ := x
  obtain ⟨vC, vG, vU, vA, bs, hc0, hC, hG, hU, hA, hB⟩ := conf_open h
  obtain ⟨AC, kC, rfl, hC1, hC2⟩ := hC.slice
  obtain ⟨AG, kG, rfl, hG1, hG2⟩ := hG.slice
  obtain ⟨AU, kU, rfl, hU1, hU2⟩ := hU.slice
  obtain ⟨AA, kA, rfl, hA1, hA2⟩ := hA.slice
  have e0 : c0[0]? = some (.slice AC xC.length kC) := by rw [hc0]; rfl
  have e1 : c0[1]? = some (.slice AG xG.length kG) := by rw [hc0]; rfl
  have e2 : c0[2]? = some (.slice AU xU.length kU) := by rw [hc0]; rfl
  have e3 : c0[3]? = some (.slice AA xA.length kA) := by rw [hc0]; rfl
  have e4 : ∀ i, c0[4 + i]? = bs[i]? := fun i => by rw [hc0]; simp [Nat.add_comm 4 i]
  have HC := Lib.hid hC
  have HG := Lib.hid hG
  have HU := Lib.hid hU
  have HA := Lib.hid hA
  have HB := Lib.hid hB
  have E0 := Lib.hid e0
  have E1 := Lib.hid e1
  have E2 := Lib.hid e2
  have E3 := Lib.hid e3
  have E4 := Lib.hid e4
  simp only at hC1 hG1 hU1 hA1
  clear hC hG hU hA hB h hc0 e0 e1 e2 e3 e4
  go_enter Try.func6, Try.ntmps6
  go_wp2
  obtain ⟨s1, s2, s3, s4, s5⟩ := few_start w 28 c0 #[nil, nil, nil, nil, zs, zs, zs, zs, zs, zs, zs, zs, zs, zs] #[nil, nil, nil, nil, zs, zs, zs, zs, zs, zs, zs, zs, zs, zs]
  generalize (((w.alloc (.cells c0 28)).alloc (.cells #[nil, nil, nil, nil, zs, zs, zs, zs, zs, zs, zs, zs, zs, zs] 28)).alloc (.cells #[nil, nil, nil, nil, zs, zs, zs, zs, zs, zs, zs, zs, zs, zs] 28)) = W3 at s1 s2 s3 s4 s5 ⊢
  obtain ⟨bc, hbc⟩ : ∃ bc, w.heap.size = bc := ⟨_, rfl⟩
  rw [hbc] at s1 s2 s3 s5 ⊢
  obtain ⟨br, hbr⟩ : ∃ br, bc + 1 = br := ⟨_, rfl⟩
  rw [hbr] at s2 s3 s5 ⊢
  obtain ⟨bo, hbo⟩ : ∃ bo, br + 1 = bo := ⟨_, rfl⟩
  rw [hbo] at s3 s5 ⊢
  have ST := Lib.hid (show FewSt w W3 bc br bo c0 _ from ⟨s1, s2, s3, s4, hbc, hbr, hbo⟩)
  have BC := Lib.hid s1
  have BR := Lib.hid s2
  have BO := Lib.hid s3
  have F3 := Lib.hid s4
  have Hbc := Lib.hid hbc
  clear s1 s2 s3 s4 hbc
  go_loopw [4] (fun i wr => ∃ (k m : Nat) (v : Value) (l : List (List Value)), i = .int .i64 k ∧ k ≤ 12 ∧ m ≤ k ∧ Hid (l.length = m) ∧ Hid (LoopAt W3 wr bo 50 10 QCon v l) ∧ Hid (Blk wr bo 28 #[v, nil, nil, nil, zs, zs, zs, zs, zs, zs, zs, zs, zs, zs])) (fun i _ => 12 - (intOf i).toNat)
  case atStart => exact ⟨0, 0, _, [], rfl, by omega, by omega, rfl, LoopAt.start _ _ _ _, BO.out⟩
  case round =>
    rename_i K aK
    have HK := Lib.hid aK
    clear aK
    obtain ⟨k, m, v, l, rfl, hk, hm, Hm, HL, HO⟩ := hrel
    obtain ⟨A1, c1, hu⟩ := own_form HL.out.own
    subst hu
    have bc1 := BC.out.fr HL.out.fr (fun e => by have : bc = bo := e; omega)
    have t0 := bc1.cell 0
    rw [E0.out] at t0
    have q0 := HO.out.cell 0
    have q1 := HO.out.frozen 0
    simp at q0
    clear bc1
    by_cases hlt : k < xC.length ∧ k < 12
    · obtain ⟨hlt, hlt2⟩ := hlt
      have hf : Fr No w wr := F3.out.trans HL.out.fr (fun b hb hl => by have := Hbc.out; have : b = bo := hb; omega)
      obtain ⟨ad, ecs, rfl, hs, hecs, hcell, hr⟩ := RSl.at_ HC.out hlt
      obtain ⟨sa, sb, n1, n2, n3, n4, n5, n6, n7, n8, -, -, ha, hb, rfl⟩ := con_open hr
      have hc : ∀ j, j < 10 → wr.cell? ((ad.add (k * 10)).add j) = _ := fun j hj => (hf.cell (by rw [block_add, block_add]; exact hS _ hs) (fun h => h)).trans (hcell j hj)
      have c0' : wr.cell? (ad.add (k * 10)) = some (.string ⟨sa.toArray⟩) := by have := hc 0 (by omega); rw [add_zero] at this; exact this
      have c1' : wr.cell? ⟨(ad.add (k * 10)).block, (ad.add (k * 10)).off + 1, none⟩ = some (.int .i64 n1) := hc 1 (by omega)
      have c2' : wr.cell? ⟨(ad.add (k * 10)).block, (ad.add (k * 10)).off + 2, none⟩ = some (.int .i64 n2) := hc 2 (by omega)
      have c3' : wr.cell? ⟨(ad.add (k * 10)).block, (ad.add (k * 10)).off + 3, none⟩ = some (.int .i64 n3) := hc 3 (by omega)
      have c4' : wr.cell? ⟨(ad.add (k * 10)).block, (ad.add (k * 10)).off + 4, none⟩ = some (.int .i64 n4) := hc 4 (by omega)
      have c5' : wr.cell? ⟨(ad.add (k * 10)).block, (ad.add (k * 10)).off + 5, none⟩ = some (.int .i64 n5) := hc 5 (by omega)
      have c6' : wr.cell? ⟨(ad.add (k * 10)).block, (ad.add (k * 10)).off + 6, none⟩ = some (.int .i64 n6) := hc 6 (by omega)
      have c7' : wr.cell? ⟨(ad.add (k * 10)).block, (ad.add (k * 10)).off + 7, none⟩ = some (.int .i64 n7) := hc 7 (by omega)
      have c8' : wr.cell? ⟨(ad.add (k * 10)).block, (ad.add (k * 10)).off + 8, none⟩ = some (.int .i64 n8) := hc 8 (by omega)
      have c9' : wr.cell? ⟨(ad.add (k * 10)).block, (ad.add (k * 10)).off + 9, none⟩ = some (.string ⟨sb.toArray⟩) := hc 9 (by omega)
      have Hr := Lib.hid hr
      have hla : (ad.add (k * 10)).block < wr.heap.size := by rw [block_add]; have := hS _ hs; have := hf.size; omega
      clear hc hcell hr hf hs hecs
      have hnb : ¬ Of (.slice A1 l.length c1) bo := fun h => by have := (HL.out.new _ h).1; omega
      have Hnb := Lib.hid hnb
      clear hnb
      have hlo := HO.out.lt
      have hlc : bc < wr.heap.size := by omega
      have hll : l.length ≤ 12 := by have := Hm.out; omega
      go_wp2
      · go_region_law (go_loud (refine step_pushD rfl (.tmp 41) (.tmp 47) 22 rfl 50 (.agg #[zs, .int .i64 0, .int .i64 0, .int .i64 0, .int .i64 0, .int .i64 0, .int .i64 0, .int .i64 0, .int .i64 0, zs]) 10 96 Try.underlying22 infoCon rfl (by decide) (.slice A1 l.length c1) _ _ (by simp [Act.eval, Act.put]) HL.out.own #[.string ⟨sa.toArray⟩, .int .i64 n1, .int .i64 n2, .int .i64 n3, .int .i64 n4, .int .i64 n5, .int .i64 n6, .int .i64 n7, .int .i64 n8, .string ⟨sb.toArray⟩] (by simp [Act.eval, Act.put]) rfl (by intro u hu; simp at hu; rcases hu with rfl | rfl | rfl | rfl | rfl | rfl | rfl | rfl | rfl | rfl <;> rfl) (by omega) (by unfold maxLen; omega) ?_; intro g4 cap4 w4 p1 p2 p3; have b2 := HO.out.fr p2 Hnb.out; have r0 := b2.cell 0; have r1 := b2.frozen 0; simp at r0; have P1 := Lib.hid p1; have P2 := Lib.hid p2; have P3 := Lib.hid p3; have B2 := Lib.hid b2; clear p1 p2 p3 b2))
        all_goals
          go_wp2
          go_roundw
          case rel => exact ⟨k + 1, m + 1, _, l ++ [[.string ⟨sa.toArray⟩, .int .i64 n1, .int .i64 n2, .int .i64 n3, .int .i64 n4, .int .i64 n5, .int .i64 n6, .int .i64 n7, .int .i64 n8, .string ⟨sb.toArray⟩]], by go_num, by omega, by omega, (show _ = _ from by have := Hm.out; simp [this]), HL.out.push stable_qcon (by omega) (Fr.refl _ _) (S2 := No) (fun b h => h.elim) rfl ⟨_, (stable_qcon.go (qcon_of (a := sa) (n1 := n1) (n2 := n2) (n3 := n3) (n4 := n4) (n5 := n5) (n6 := n6) (n7 := n7) (n8 := n8) (b := sb) Hr.out (by omega)) (Kept.refl _ _) (S' := S) fun b h => h)⟩ P1.out P2.out (fun g hg => by have := P3.out; injection hg with e; subst e; exact this) ((Fr.refl (Just bo) w4).setCell (p := ⟨bo, 0, none⟩) (.inl rfl) _), (show Blk _ _ _ _ from B2.out.put 0 _)⟩
          case measure => simp [intOf]; omega
      all_goals
        go_roundw
        case rel => exact ⟨k + 1, m, _, l, by go_num, by omega, by omega, Hm.out, HL.out, HO.out⟩
        case measure => simp [intOf]; omega
    · obtain ⟨ys, hys⟩ := HL.out.read_sf stable_qcon (by omega) (by have := Hm.out; omega)
      have HY := Lib.hid hys
      clear hys
      by_cases h1 : k < xC.length
      all_goals
        try have h2 : ¬ k < 12 := fun h => hlt ⟨h1, h⟩
        clear hlt
        go_wp2
        refine HK.out _ _ ?_
        exact few_G c0 (xC, xG, xU, xA, xB) w wr S hS Hx.out bc br bo _ _ HY.out (ST.out.next HL.out.fr HO.out) _ _ _ _ _ _ _ _ _ _ _ _ _ _ _ _ _ _ _ _ _ _ _ _ _ _ _ _ _ _ _ _ _ _ _ _ _ _ _ _ _ _ _ _ _ _ _ _ _ _ _ _ _ _ _ _ _ _ _ _ _ _ _ _ _ _ _ _ _ _ _ _ _ _ _ _ _ _ _ _ _ _ _ _ _ _ _ _ _ _ _ _ _ _ _ _ _ _ _ _ _ _ _ _ _ _ _ _ _ _ _ _ _ _ _ _ _ _ _ _ _ _ _ _ _ _ _ _ _ _ _ _ _ _ _ _ _ _ _ _ _ _ _ _ _ _ _ _ _ _ _ _ _ _ _ _ _ _ _ _ _ _ _ _ _ _ _ _ _ _ _ _ _ _ _ _ _ _ _ _ _ _ _ _ _ _ _
end Conf
end Go.Proofs.Ytompphakagoaeaa
