/- Package event: the laws EventPuts and EventReads, walked. -/
import Derived.Test.YtohjnbkehcdoaaaDoorEvO
import Derived.Test.YtohjnbkehcdoaaaDoorEvL
import Derived.Test.YtohjnbkehcdoaaaDoorEvR
namespace Go.Proofs.YtohjnbkehcdoaaaDoor
open Go.RowKit
set_option linter.unusedVariables false
set_option linter.unusedSimpArgs false
namespace Ev
open Digit Sls
abbrev EvX := Int × Int × Int × Bool × Str
def toE (x : EvX) : E := ⟨x.1, x.2.1, x.2.2.1, x.2.2.2.1, x.2.2.2.2⟩
abbrev REX : Rd EvX := RTwo 1 (RInt .i64) (RTwo 1 (RInt .i64) (RTwo 1 (RInt .i64) (RTwo 1 RBool RStr)))
theorem ev_arg {W : World} {S : Nat → Prop} {cs : List Value} {x : EvX} (h : REX W S cs x) : cs = encE (toE x) ∧ x.2.2.2.2.length ≤ maxLen := by
  obtain ⟨g1, ⟨g2, -⟩, g3, ⟨g4, -⟩, g5, ⟨g6, -⟩, g7, g8, g9, g10⟩ := h
  unfold RBool at g8
  rcases cs with _ | ⟨c1, _ | ⟨c2, _ | ⟨c3, _ | ⟨c4, cs⟩⟩⟩⟩ <;> simp at g1 g2 g3 g4 g5 g6 g7 g8 g9
  subst g2 g4 g6 g8 g9
  exact ⟨rfl, g10⟩
set_option maxRecDepth 100000 in
set_option maxHeartbeats 8000000 in
theorem puts_any (e : E) (W : World) (hg : EtAt W) : Calls Tryd.prog 3 #[.agg (cE e)] W (WorksIs W) := by
  have HG := Lib.hid hg
  clear hg
  have X1 := Blk.new W 23 (cE e)
  have FA := Lib.hid ((Fr.refl No W).alloc (.cells (cE e) 23))
  have hfin : ∀ W1, Fr No W W1 → Calls Tryd.prog 6 #[] W1 (WorksIs W1) := fun W1 h => works_any W1 (HG.out.no h)
  have HW := Lib.hid hfin
  clear hfin HG
  have hgd : Tryd.prog.eqGuardType Tryd.prog.depth 23 = false := by kernel_rfl
  obtain ⟨b1, hb1⟩ : ∃ b, W.heap.size = b := ⟨_, rfl⟩
  rw [hb1] at X1
  have HX := Lib.hid X1
  clear X1
  by_cases hlen : e.s.length ≤ 200
  case neg =>
    have hln : 200 < e.s.length := by omega
    clear hlen
    obtain ⟨ek, ew, en, eo, es⟩ := e
    simp only at hln
    unfold cE at HX FA ⊢
    simp only at HX FA ⊢
    go_enter Tryd.func3, Tryd.ntmps3
    go_upto_region 1 with (fail)
    try rw [hb1]
    clear hb1
    generalize W.alloc (.cells #[.int .i64 ek, .int .i64 ew, .int .i64 en, .bool eo, .string ⟨es.toArray⟩] 23) = wa at HX FA ⊢
    have n4 := HX.out.cell 4
    simp only [List.getElem?_toArray, List.getElem?_cons_zero, List.getElem?_cons_succ] at n4
    go_wp2_with fail
    refine (HW.out _ FA.out).mono ?_
    rintro x w1 ⟨rfl, hf⟩
    have F1 := Lib.hid (FA.out.then_no hf)
    clear hf
    go_wp2_with fail
    go_ret
    exact ⟨rfl, F1.out⟩
  case pos =>
    have hln : ¬ 200 < e.s.length := by omega
    have HP := Lib.hid (fun W => put_any e W (by omega))
    have HR := Lib.hid (fun W => rput_any e W (by omega))
    have HC := Lib.hid (fun W => check_any e W)
    have hpc := put_code e
    have hpl := put_len e
    have hrd := @read_line e
    have hbad := @put_bad e
    obtain ⟨⟨t, c⟩, hpe⟩ : ∃ p, p = putE e := ⟨_, rfl⟩
    rw [← hpe] at HP HR hpc hpl hrd hbad
    simp only at hpc hpl hrd
    rw [← hpc] at HC hrd hbad
    have HRD := Lib.hid (show c = 0 → ∀ W1, Calls Tryd.prog 10 #[.string ⟨t.toArray⟩] W1 (ReadIs (e, 0) W1) from fun h W1 => by rw [← hrd h]; exact read_any t W1 (by omega))
    have HBAD := Lib.hid (show c ≠ 0 → t = [] from fun h => by have := hbad h; injection this)
    clear hpc hpl hrd hbad hpe hlen
    have HQ := Lib.hid (fun X : World => eql_ev X e e)
    obtain ⟨ek, ew, en, eo, es⟩ := e
    simp only at hln
    unfold cE at HX FA HP HR HC HQ ⊢
    simp only at HX FA HP HR HC HQ ⊢
    go_enter Tryd.func3, Tryd.ntmps3
    go_upto_region 1 with (fail)
    try rw [hb1]
    clear hb1
    generalize W.alloc (.cells #[.int .i64 ek, .int .i64 ew, .int .i64 en, .bool eo, .string ⟨es.toArray⟩] 23) = wa at HX FA ⊢
    have n0 := HX.out.cell 0
    have n1 := HX.out.cell 1
    have n2 := HX.out.cell 2
    have n3 := HX.out.cell 3
    have n4 := HX.out.cell 4
    simp only [List.getElem?_toArray, List.getElem?_cons_zero, List.getElem?_cons_succ] at n0 n1 n2 n3 n4
    go_wp2_with fail
    refine (HP.out _).mono ?_
    unfold PutIs
    rintro x w1 ⟨rfl, hf⟩
    have F1 := Lib.hid (FA.out.then_no hf)
    have HX1 := Lib.hid (HX.out.fr hf (fun h => h))
    clear hf n0 n1 n2 n3 n4 HX FA HP
    have n0 := HX1.out.cell 0
    have n1 := HX1.out.cell 1
    have n2 := HX1.out.cell 2
    have n3 := HX1.out.cell 3
    have n4 := HX1.out.cell 4
    simp only [List.getElem?_toArray, List.getElem?_cons_zero, List.getElem?_cons_succ] at n0 n1 n2 n3 n4
    go_wp2_with fail
    refine (HR.out _).mono ?_
    rintro x w2 ⟨rfl, hf⟩
    have F2 := Lib.hid (F1.out.then_no hf)
    have HX2 := Lib.hid (HX1.out.fr hf (fun h => h))
    clear hf n0 n1 n2 n3 n4 HX1 F1 HR
    have n0 := HX2.out.cell 0
    have n1 := HX2.out.cell 1
    have n2 := HX2.out.cell 2
    have n3 := HX2.out.cell 3
    have n4 := HX2.out.cell 4
    simp only [List.getElem?_toArray, List.getElem?_cons_zero, List.getElem?_cons_succ] at n0 n1 n2 n3 n4
    simp only
    go_wp2_with fail
    refine (HC.out _).mono ?_
    rintro x w3 ⟨rfl, hf⟩
    have F3 := Lib.hid (F2.out.then_no hf)
    have HX3 := Lib.hid (HX2.out.fr hf (fun h => h))
    clear hf n0 n1 n2 n3 n4 HX2 F2 HC
    by_cases hc : c = 0
    · subst hc
      have HR3 := Lib.hid (HRD.out rfl w3)
      clear HRD HBAD
      go_wp2_with fail
      refine HR3.out.mono ?_
      unfold ReadIs
      rintro x w4 ⟨rfl, hf⟩
      have HX4 := Lib.hid ((HX3.out.fr hf (fun h => h)).alloc (.cells #[.int .i64 ek, .int .i64 ew, .int .i64 en, .bool eo, .string ⟨es.toArray⟩] 23))
      have F4 := Lib.hid ((F3.out.then_no hf).alloc (.cells #[.int .i64 ek, .int .i64 ew, .int .i64 en, .bool eo, .string ⟨es.toArray⟩] 23))
      have HY := Lib.hid (Blk.new w4 23 #[.int .i64 ek, .int .i64 ew, .int .i64 en, .bool eo, .string ⟨es.toArray⟩])
      clear hf HX3 F3 HR3
      simp only
      unfold cE
      simp only
      obtain ⟨b4, hb4⟩ : ∃ b, w4.heap.size = b := ⟨_, rfl⟩
      rw [hb4] at HY
      go_upto_region 10 with (fail)
      try rw [hb4]
      clear hb4
      generalize w4.alloc (.cells #[.int .i64 ek, .int .i64 ew, .int .i64 en, .bool eo, .string ⟨es.toArray⟩] 23) = w5 at HX4 F4 HY ⊢
      have n0 := HX4.out.cell 0
      have n1 := HX4.out.cell 1
      have n2 := HX4.out.cell 2
      have n3 := HX4.out.cell 3
      have n4 := HX4.out.cell 4
      have m0 := HY.out.cell 0
      have m1 := HY.out.cell 1
      have m2 := HY.out.cell 2
      have m3 := HY.out.cell 3
      have m4 := HY.out.cell 4
      simp only [List.getElem?_toArray, List.getElem?_cons_zero, List.getElem?_cons_succ] at n0 n1 n2 n3 n4 m0 m1 m2 m3 m4
      have hq := HQ.out
      simp only [decide_true] at hq
      go_wp2_with fail
      refine (HW.out _ F4.out).mono ?_
      rintro x w6 ⟨rfl, hf⟩
      have F6 := Lib.hid (F4.out.then_no hf)
      clear hf
      go_wp2_with fail
      go_ret
      exact ⟨rfl, F6.out⟩
    · have ht := HBAD.out hc
      subst ht
      have hcb : (c != 0) = true := by rw [bne_iff_ne]; exact hc
      clear HRD HBAD hc
      go_wp2_with fail
      refine (HW.out _ F3.out).mono ?_
      rintro x w6 ⟨rfl, hf⟩
      have F6 := Lib.hid (F3.out.then_no hf)
      clear hf
      go_wp2_with fail
      go_ret
      exact ⟨rfl, F6.out⟩
set_option maxRecDepth 100000 in
set_option maxHeartbeats 8000000 in
theorem reads_any (s : Str) (W : World) (hg : EtAt W) : Calls Tryd.prog 4 #[.string ⟨s.toArray⟩] W (WorksIs W) := by
  have HG := Lib.hid hg
  clear hg
  have hfin : ∀ W1, Fr No W W1 → Calls Tryd.prog 6 #[] W1 (WorksIs W1) := fun W1 h => works_any W1 (HG.out.no h)
  have HW := Lib.hid hfin
  clear hfin HG
  have hgd : Tryd.prog.eqGuardType Tryd.prog.depth 23 = false := by kernel_rfl
  by_cases hlen : s.length ≤ 300
  case neg =>
    have hln : 300 < s.length := by omega
    clear hlen
    go_enter Tryd.func4, Tryd.ntmps4
    go_wp2_with fail
    refine (HW.out _ (Fr.refl No W)).mono ?_
    rintro x w1 ⟨rfl, hf⟩
    have F1 := Lib.hid hf
    clear hf
    go_wp2_with fail
    go_ret
    exact ⟨rfl, F1.out⟩
  case pos =>
    have hln : ¬ 300 < s.length := by omega
    have HP := Lib.hid (fun W => read_any s W (by omega))
    have HR := Lib.hid (fun W => (show Calls Tryd.prog 11 #[.string ⟨s.toArray⟩] W (RreadIs (readE s) W) from by rw [← read_same]; exact rread38_any s W (by omega)))
    have hcode := read_code s
    have hput : ∀ e, readE s = (e, 0) → e.s.length ≤ 300 ∧ putE e = (s, 0) := fun e h => ⟨Nat.le_trans (read_len h) hlen, by
      obtain ⟨r, hr, hc, hl⟩ := put_read h
      rw [put_ok hr hc, hl]⟩
    have HPUT := Lib.hid (fun (e : E) (h : readE s = (e, 0)) W1 => (show Calls Tryd.prog 7 #[.agg (cE e)] W1 (PutIs (s, 0) W1) from by rw [← (hput e h).2]; exact put_any e W1 (by have := (hput e h).1; omega)))
    clear hput hlen
    obtain ⟨⟨e, c⟩, hre⟩ : ∃ q, q = readE s := ⟨_, rfl⟩
    rw [← hre] at HP HR hcode HPUT
    clear hre
    have HPUT := Lib.hid (show c = 0 → ∀ W1, Calls Tryd.prog 7 #[.agg (cE e)] W1 (PutIs (s, 0) W1) from fun h => HPUT.out e (by rw [h]))
    have hc : c = 0 ∨ c = 3 := by
      rcases hcode with ⟨e', h⟩ | h
      · injection h with _ h; exact .inl h
      · injection h with _ h; exact .inr h
    clear hcode
    have HQ := Lib.hid (fun X : World => neq_ev X e e)
    obtain ⟨ek, ew, en, eo, es⟩ := e
    go_enter Tryd.func4, Tryd.ntmps4
    go_wp2_with fail
    refine (HP.out _).mono ?_
    unfold ReadIs
    rintro x w1 ⟨rfl, hf⟩
    have F1 := Lib.hid (hf.alloc (.cells (cE ⟨ek, ew, en, eo, es⟩) 23))
    have X1 := Lib.hid (Blk.new w1 23 (cE ⟨ek, ew, en, eo, es⟩))
    clear hf HP
    unfold cE at X1 F1 HPUT HQ ⊢
    simp only at X1 F1 HPUT HQ ⊢
    obtain ⟨b1, hb1⟩ : ∃ b, w1.heap.size = b := ⟨_, rfl⟩
    rw [hb1] at X1
    go_upto_region 4 with (fail)
    try rw [hb1]
    clear hb1
    generalize w1.alloc (.cells #[.int .i64 ek, .int .i64 ew, .int .i64 en, .bool eo, .string ⟨es.toArray⟩] 23) = wa at X1 F1 ⊢
    go_wp2_with fail
    refine (HR.out _).mono ?_
    unfold RreadIs
    rintro x w2 ⟨rfl, hf⟩
    have F2 := Lib.hid ((F1.out.then_no hf).alloc (.cells (cE ⟨ek, ew, en, eo, es⟩) 23))
    have X2 := Lib.hid ((X1.out.fr hf (fun h => h)).alloc (.cells (cE ⟨ek, ew, en, eo, es⟩) 23))
    have Y2 := Lib.hid (Blk.new w2 23 (cE ⟨ek, ew, en, eo, es⟩))
    clear hf HR X1 F1
    unfold cE at X2 F2 Y2 ⊢
    simp only at X2 F2 Y2 ⊢
    obtain ⟨b2, hb2⟩ : ∃ b, w2.heap.size = b := ⟨_, rfl⟩
    rw [hb2] at Y2
    go_upto_region 5 with (fail)
    try rw [hb2]
    clear hb2
    generalize w2.alloc (.cells #[.int .i64 ek, .int .i64 ew, .int .i64 en, .bool eo, .string ⟨es.toArray⟩] 23) = wb at X2 F2 Y2 ⊢
    have n0 := X2.out.cell 0
    have n1 := X2.out.cell 1
    have n2 := X2.out.cell 2
    have n3 := X2.out.cell 3
    have n4 := X2.out.cell 4
    have m0 := Y2.out.cell 0
    have m1 := Y2.out.cell 1
    have m2 := Y2.out.cell 2
    have m3 := Y2.out.cell 3
    have m4 := Y2.out.cell 4
    simp only [List.getElem?_toArray, List.getElem?_cons_zero, List.getElem?_cons_succ] at n0 n1 n2 n3 n4 m0 m1 m2 m3 m4
    have hq := HQ.out
    simp only [decide_true] at hq
    rcases hc with hc | hc
    · subst hc
      have HPT := Lib.hid (HPUT.out rfl)
      clear HPUT
      go_wp2_with fail
      refine (HPT.out _).mono ?_
      unfold PutIs
      rintro x w3 ⟨rfl, hf⟩
      have F3 := Lib.hid (F2.out.then_no hf)
      clear hf n0 n1 n2 n3 n4 m0 m1 m2 m3 m4 hq
      simp only
      go_wp2_with fail
      refine (HW.out _ F3.out).mono ?_
      rintro x w6 ⟨rfl, hf⟩
      have F6 := Lib.hid (F3.out.then_no hf)
      clear hf
      go_wp2_with fail
      go_ret
      exact ⟨rfl, F6.out⟩
    · subst hc
      clear HPUT
      go_wp2_with fail
      refine (HW.out _ F2.out).mono ?_
      rintro x w6 ⟨rfl, hf⟩
      have F6 := Lib.hid (F2.out.then_no hf)
      clear hf
      go_wp2_with fail
      go_ret
      exact ⟨rfl, F6.out⟩
theorem walk_EventPuts (W : World) (hg : EtAt W) (c0 : Array Value) (x0 : EvX) (h0 : REX W (Ahead W.heap.size) c0.toList x0) : Calls Tryd.prog 3 #[.agg c0] W fun e w' => e = .returned (.bool true) ∧ Fr No W w' := by
  obtain ⟨h, -⟩ := ev_arg h0
  have e1 : c0 = cE (toE x0) := by
    rw [← Array.toArray_toList (xs := c0), h]
    rfl
  subst e1
  exact puts_any (toE x0) W hg
theorem walk_EventReads (W : World) (hg : EtAt W) (v0 : Value) (x0 : Str) (h0 : RStr W (Ahead W.heap.size) [v0] x0) : Calls Tryd.prog 4 #[v0] W fun e w' => e = .returned (.bool true) ∧ Fr No W w' := by
  obtain ⟨h, -⟩ := h0
  injection h with h _
  subst h
  exact reads_any x0 W hg
end Ev
end Go.Proofs.YtohjnbkehcdoaaaDoor
