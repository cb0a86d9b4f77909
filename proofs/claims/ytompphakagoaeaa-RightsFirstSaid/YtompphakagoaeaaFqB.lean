/- Few of the rights' laws, from one of its loops on. Printed by gen_few.py. -/
import Derived.Test.YtompphakagoaeaaFqP
import Derived.Deep.RegionHeld3
namespace Go.Proofs.Ytompphakagoaeaa
open Go.RowKit
set_option linter.unusedVariables false
set_option linter.unusedSimpArgs false
namespace Conf
set_option maxRecDepth 100000 in
set_option maxHeartbeats 2000000 in
theorem few_B (c0 : Array Value) (x : C) (w W : World) (S : Nat → Prop) (hS : ∀ k, S k → k < w.heap.size) (h : RConf w S c0.toList x) (bc br bo : Nat) (v1 : Value) (y1 : List Con) (hy1 : RSq 10 QCon W (Sf bo W) [v1] y1) (v2 : Value) (y2 : List Grp) (hy2 : RSq 2 QGrp W (Sf bo W) [v2] y2) (v3 : Value) (y3 : List Usr) (hy3 : RSq 2 QUsr W (Sf bo W) [v3] y3) (v4 : Value) (y4 : List Acc) (hy4 : RSq 3 QAcc W (Sf bo W) [v4] y4)
    (hst : FewSt w W bc br bo c0 #[v1, v2, v3, v4, zs, zs, zs, zs, zs, zs, zs, zs, zs, zs])
    (u4 u5 u6 u7 u8 u9 u10 u11 u12 u13 u14 u15 u16 u17 u18 u19 u20 u21 u22 u23 u24 u25 u26 u27 u28 u29 u30 u31 u32 u33 u34 u35 u36 u37 u38 u39 u40 u41 u42 u43 u44 u45 u46 u47 u48 u49 u50 u51 u52 u53 u54 u55 u56 u57 u58 u59 u60 u61 u62 u63 u64 u65 u66 u67 u68 u69 u70 u71 u72 u73 u74 u75 u76 u77 u78 u79 u80 u81 u82 u83 u84 u85 u86 u87 u88 u89 u90 u91 u92 u93 u94 u95 u96 u97 u98 u99 u100 u101 u102 u103 u104 u105 u106 u107 u108 u109 u110 u111 u112 u113 u114 u115 u116 u117 u118 u119 u120 u121 u122 u123 u124 u125 u126 u127 u128 u129 u130 u131 u132 u133 u134 u135 u136 u137 u138 u139 u140 u141 u142 u143 u144 u145 u146 u147 u148 u149 u150 u151 u152 u153 u154 u155 u156 u157 u158 u159 u160 u161 u162 u163 u164 u165 u166 u167 u168 u169 u170 u171 u172 u173 u174 u175 u176 u177 u178 u179 u180 u181 u182 u183 u184 u185 u186 u187 u188 u189 u190 : Value) :
    Code.wp Try.prog (sB (sB (sB (sB (sB (sB (bodyOf Try.f6))))))) (bodyPost Try.prog Try.f6 (FewPost w)) { tmps := #[.agg c0, .pointer (some ⟨bc, 0, none⟩), .pointer (some ⟨br, 0, none⟩), .pointer (some ⟨bo, 0, none⟩), u4, u5, u6, u7, u8, u9, u10, u11, u12, u13, u14, u15, u16, u17, u18, u19, u20, u21, u22, u23, u24, u25, u26, u27, u28, u29, u30, u31, u32, u33, u34, u35, u36, u37, u38, u39, u40, u41, u42, u43, u44, u45, u46, u47, u48, u49, u50, u51, u52, u53, u54, u55, u56, u57, u58, u59, u60, u61, u62, u63, u64, u65, u66, u67, u68, u69, u70, u71, u72, u73, u74, u75, u76, u77, u78, u79, u80, u81, u82, u83, u84, u85, u86, u87, u88, u89, u90, u91, u92, u93, u94, u95, u96, u97, u98, u99, u100, u101, u102, u103, u104, u105, u106, u107, u108, u109, u110, u111, u112, u113, u114, u115, u116, u117, u118, u119, u120, u121, u122, u123, u124, u125, u126, u127, u128, u129, u130, u131, u132, u133, u134, u135, u136, u137, u138, u139, u140, u141, u142, u143, u144, u145, u146, u147, u148, u149, u150, u151, u152, u153, u154, u155, u156, u157, u158, u159, u160, u161, u162, u163, u164, u165, u166, u167, u168, u169, u170, u171, u172, u173, u174, u175, u176, u177, u178, u179, u180, u181, u182, u183, u184, u185, u186, u187, u188, u189, u190], defers := [] } W := by
  obtain ⟨xC, xG, xU, xA, xB⟩ := x
  obtain ⟨vC, vG, vU, vA, bs, hc0, hC, hG, hU, hA, hB⟩ := conf_open h
  have e4 : ∀ i, c0[4 + i]? = bs[i]? := fun i => by rw [hc0]; simp [Nat.add_comm 4 i]
  obtain ⟨hB1, hB2⟩ := arr_get hB
  have HB2 := Lib.hid hB2
  have E4 := Lib.hid e4
  have ST := Lib.hid hst
  have hbo := hst.lt
  have hbc : bc < bo := by have := hst.hr; have := hst.ho; omega
  clear hC hG hU hA hB h hc0 e4 hst hB1 hB2
  show Code.wp Try.prog (Code.seq _ _) _ _ _
  go_wp2
  go_loopw [10] (fun i wr => ∃ (k : Nat) (o : Array Value), i = .int .i64 k ∧ k ≤ 10 ∧ Hid (Fr (Just bo) W wr) ∧ Hid (Blk wr bo 28 o) ∧ Hid (BrkAt v1 v2 v3 v4 o)) (fun i _ => 10 - (intOf i).toNat)
  case atStart => exact ⟨0, _, rfl, by omega, Fr.refl _ _, ST.out.o, BrkAt.start⟩
  case round =>
    obtain ⟨k, o, rfl, hk, HF, HO, HA⟩ := hrel
    by_cases hlt : k < 10
    · obtain ⟨s, hs1, hs2⟩ := HB2.out k hlt
      have bc1 := ST.out.c.fr HF.out (fun e => by have : bc = bo := e; omega)
      have t0 := bc1.cell (4 + k)
      rw [E4.out, hs1] at t0
      have q1 := HO.out.frozen (4 + k)
      obtain ⟨s', q0'⟩ := HA.out.get hlt
      have q0 := HO.out.cell (4 + k)
      rw [q0'] at q0
      clear hs1 q0' bc1
      go_wp2
      · go_roundw
        case rel => exact ⟨k + 1, _, by go_num, by omega, HF.out.setCell (p := ⟨bo, 4 + k, none⟩) (.inl rfl) _, HO.out.put _ _, HA.out.put hlt hs2⟩
        case measure => simp [intOf]; omega
      · go_roundw
        case rel => exact ⟨k + 1, o, by go_num, by omega, HF.out, HO.out, HA.out⟩
        case measure => simp [intOf]; omega
    · have hst1 := ST.out.next HF.out HO.out
      obtain ⟨A1, k1, rfl, -, -⟩ := hy1.1.slice
      obtain ⟨A2, k2, rfl, -, -⟩ := hy2.1.slice
      obtain ⟨A3, k3, rfl, -, -⟩ := hy3.1.slice
      obtain ⟨A4, k4, rfl, -, -⟩ := hy4.1.slice
      obtain ⟨bs', hbs, hl, hb⟩ := HA.out.form
      obtain ⟨b0, b1, b2, b3, b4, b5, b6, b7, b8, b9, rfl⟩ := list10 hl
      obtain ⟨s0, d0, -⟩ := hb 0 (by omega)
      simp at d0
      subst d0
      obtain ⟨s1, d1, -⟩ := hb 1 (by omega)
      simp at d1
      subst d1
      obtain ⟨s2, d2, -⟩ := hb 2 (by omega)
      simp at d2
      subst d2
      obtain ⟨s3, d3, -⟩ := hb 3 (by omega)
      simp at d3
      subst d3
      obtain ⟨s4, d4, -⟩ := hb 4 (by omega)
      simp at d4
      subst d4
      obtain ⟨s5, d5, -⟩ := hb 5 (by omega)
      simp at d5
      subst d5
      obtain ⟨s6, d6, -⟩ := hb 6 (by omega)
      simp at d6
      subst d6
      obtain ⟨s7, d7, -⟩ := hb 7 (by omega)
      simp at d7
      subst d7
      obtain ⟨s8, d8, -⟩ := hb 8 (by omega)
      simp at d8
      subst d8
      obtain ⟨s9, d9, -⟩ := hb 9 (by omega)
      simp at d9
      subst d9
      subst hbs
      have ho := hst1.o
      have hr := hst1.r
      have hbr := hst1.ho
      have HR := Lib.hid hr
      have p0 := ho.cell 0
      have r0 := hr.cell 0
      have z0 := hr.frozen 0
      have p1 := ho.cell 1
      have r1 := hr.cell 1
      have z1 := hr.frozen 1
      have p2 := ho.cell 2
      have r2 := hr.cell 2
      have z2 := hr.frozen 2
      have p3 := ho.cell 3
      have r3 := hr.cell 3
      have z3 := hr.frozen 3
      have p4 := ho.cell 4
      have r4 := hr.cell 4
      have z4 := hr.frozen 4
      have p5 := ho.cell 5
      have r5 := hr.cell 5
      have z5 := hr.frozen 5
      have p6 := ho.cell 6
      have r6 := hr.cell 6
      have z6 := hr.frozen 6
      have p7 := ho.cell 7
      have r7 := hr.cell 7
      have z7 := hr.frozen 7
      have p8 := ho.cell 8
      have r8 := hr.cell 8
      have z8 := hr.frozen 8
      have p9 := ho.cell 9
      have r9 := hr.cell 9
      have z9 := hr.frozen 9
      have p10 := ho.cell 10
      have r10 := hr.cell 10
      have z10 := hr.frozen 10
      have p11 := ho.cell 11
      have r11 := hr.cell 11
      have z11 := hr.frozen 11
      have p12 := ho.cell 12
      have r12 := hr.cell 12
      have z12 := hr.frozen 12
      have p13 := ho.cell 13
      have r13 := hr.cell 13
      have z13 := hr.frozen 13
      simp at p0 p1 p2 p3 p4 p5 p6 p7 p8 p9 p10 p11 p12 p13 r0 r1 r2 r3 r4 r5 r6 r7 r8 r9 r10 r11 r12 r13
      have HS1 := Lib.hid hst1
      have Hb := Lib.hid hb
      clear ho hr hst1 hb hl
      have hk10 : k = 10 := by omega
      subst hk10
      go_wp2
      have b3 := ((((((((((((((HR.out.put 0 (.slice A1 y1.length k1)).put 1 (.slice A2 y2.length k2)).put 2 (.slice A3 y3.length k3)).put 3 (.slice A4 y4.length k4)).put 4 (.string ⟨s0.toArray⟩)).put 5 (.string ⟨s1.toArray⟩)).put 6 (.string ⟨s2.toArray⟩)).put 7 (.string ⟨s3.toArray⟩)).put 8 (.string ⟨s4.toArray⟩)).put 9 (.string ⟨s5.toArray⟩)).put 10 (.string ⟨s6.toArray⟩)).put 11 (.string ⟨s7.toArray⟩)).put 12 (.string ⟨s8.toArray⟩)).put 13 (.string ⟨s9.toArray⟩))
      simp at b3
      have hfr : Fr (Just br) wr _ := ((((((((((((((Fr.refl (Just br) wr).setCell (p := ⟨br, 0, none⟩) (.inl rfl) (.slice A1 y1.length k1)).setCell (p := ⟨br, 1, none⟩) (.inl rfl) (.slice A2 y2.length k2)).setCell (p := ⟨br, 2, none⟩) (.inl rfl) (.slice A3 y3.length k3)).setCell (p := ⟨br, 3, none⟩) (.inl rfl) (.slice A4 y4.length k4)).setCell (p := ⟨br, 4, none⟩) (.inl rfl) (.string ⟨s0.toArray⟩)).setCell (p := ⟨br, 5, none⟩) (.inl rfl) (.string ⟨s1.toArray⟩)).setCell (p := ⟨br, 6, none⟩) (.inl rfl) (.string ⟨s2.toArray⟩)).setCell (p := ⟨br, 7, none⟩) (.inl rfl) (.string ⟨s3.toArray⟩)).setCell (p := ⟨br, 8, none⟩) (.inl rfl) (.string ⟨s4.toArray⟩)).setCell (p := ⟨br, 9, none⟩) (.inl rfl) (.string ⟨s5.toArray⟩)).setCell (p := ⟨br, 10, none⟩) (.inl rfl) (.string ⟨s6.toArray⟩)).setCell (p := ⟨br, 11, none⟩) (.inl rfl) (.string ⟨s7.toArray⟩)).setCell (p := ⟨br, 12, none⟩) (.inl rfl) (.string ⟨s8.toArray⟩)).setCell (p := ⟨br, 13, none⟩) (.inl rfl) (.string ⟨s9.toArray⟩)
      generalize ((((((((((((((wr.setCell ⟨br, 0, none⟩ (.slice A1 y1.length k1)).setCell ⟨br, 1, none⟩ (.slice A2 y2.length k2)).setCell ⟨br, 2, none⟩ (.slice A3 y3.length k3)).setCell ⟨br, 3, none⟩ (.slice A4 y4.length k4)).setCell ⟨br, 4, none⟩ (.string ⟨s0.toArray⟩)).setCell ⟨br, 5, none⟩ (.string ⟨s1.toArray⟩)).setCell ⟨br, 6, none⟩ (.string ⟨s2.toArray⟩)).setCell ⟨br, 7, none⟩ (.string ⟨s3.toArray⟩)).setCell ⟨br, 8, none⟩ (.string ⟨s4.toArray⟩)).setCell ⟨br, 9, none⟩ (.string ⟨s5.toArray⟩)).setCell ⟨br, 10, none⟩ (.string ⟨s6.toArray⟩)).setCell ⟨br, 11, none⟩ (.string ⟨s7.toArray⟩)).setCell ⟨br, 12, none⟩ (.string ⟨s8.toArray⟩)).setCell ⟨br, 13, none⟩ (.string ⟨s9.toArray⟩)) = W9 at b3 hfr ⊢
      have x0 := b3.cell 0
      have x1 := b3.cell 1
      have x2 := b3.cell 2
      have x3 := b3.cell 3
      have x4 := b3.cell 4
      have x5 := b3.cell 5
      have x6 := b3.cell 6
      have x7 := b3.cell 7
      have x8 := b3.cell 8
      have x9 := b3.cell 9
      have x10 := b3.cell 10
      have x11 := b3.cell 11
      have x12 := b3.cell 12
      have x13 := b3.cell 13
      simp only [List.getElem?_toArray, List.getElem?_cons_zero, List.getElem?_cons_succ] at x0 x1 x2 x3 x4 x5 x6 x7 x8 x9 x10 x11 x12 x13
      refine bodyPost_ret (v := .agg #[.slice A1 y1.length k1, .slice A2 y2.length k2, .slice A3 y3.length k3, .slice A4 y4.length k4, .string ⟨s0.toArray⟩, .string ⟨s1.toArray⟩, .string ⟨s2.toArray⟩, .string ⟨s3.toArray⟩, .string ⟨s4.toArray⟩, .string ⟨s5.toArray⟩, .string ⟨s6.toArray⟩, .string ⟨s7.toArray⟩, .string ⟨s8.toArray⟩, .string ⟨s9.toArray⟩]) ?_ rfl ?_
      · clear p0 r0 z0 p1 r1 z1 p2 r2 z2 p3 r3 z3 p4 r4 z4 p5 r5 z5 p6 r6 z6 p7 r7 z7 p8 r8 z8 p9 r9 z9 p10 r10 z10 p11 r11 z11 p12 r12 z12 p13 r13 z13 b3
        simp [results, Try.f6, go_sem, x0, x1, x2, x3, x4, x5, x6, x7, x8, x9, x10, x11, x12, x13]
      · obtain ⟨yB, hyB⟩ := arr_mk (w := W9) (S := New w W9) rfl Hb.out
        have hmv : ∀ b, Sf bo W b → New w W9 b ∧ b < wr.heap.size ∧ b ≠ br ∧ b ≠ bo := fun b hb => by
          have := hb.1; have := hb.2; have := HF.out.size; have := hfr.size; have := HS1.out.hc; have := HS1.out.hr
          exact ⟨⟨by omega, by omega⟩, by omega, by omega, by omega⟩
        have k1' : Kept (Sf bo W) W wr := Kept.of_fr HF.out fun b hb => ⟨hb.2, (hmv b hb).2.2.2⟩
        have k2' : Kept (Sf bo W) wr W9 := Kept.of_fr hfr fun b hb => ⟨(hmv b hb).2.1, (hmv b hb).2.2.1⟩
        refine ⟨_, (y1, y2, y3, y4, yB), rfl, q_mk ?_ ?_ ?_ ?_ hyB, HS1.out.fr.trans hfr fun b hb hl => ?_⟩
        · exact (RSq.stable stable_qcon).go ((RSq.stable stable_qcon).go hy1 k1' fun b hb => hb) k2' fun b hb => (hmv b hb).1
        · exact (RSq.stable stable_qgrp).go ((RSq.stable stable_qgrp).go hy2 k1' fun b hb => hb) k2' fun b hb => (hmv b hb).1
        · exact (RSq.stable stable_qusr).go ((RSq.stable stable_qusr).go hy3 k1' fun b hb => hb) k2' fun b hb => (hmv b hb).1
        · exact (RSq.stable stable_qacc).go ((RSq.stable stable_qacc).go hy4 k1' fun b hb => hb) k2' fun b hb => (hmv b hb).1
        · have : b = br := hb
          have := HS1.out.hc
          have := HS1.out.hr
          omega
end Conf
end Go.Proofs.Ytompphakagoaeaa
