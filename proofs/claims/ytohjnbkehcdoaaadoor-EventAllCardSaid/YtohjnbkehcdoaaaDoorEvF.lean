/- Package event: Put. Printed by gen_evf.py. -/
import Derived.Test.YtohjnbkehcdoaaaDoorEvE
namespace Go.Proofs.YtohjnbkehcdoaaaDoor
open Go.RowKit
set_option linter.unusedVariables false
set_option linter.unusedSimpArgs false
namespace Ev
open Digit Sls
theorem ba_app (a b : Str) : (⟨a.toArray⟩ : ByteArray) ++ ⟨b.toArray⟩ = ⟨(a ++ b).toArray⟩ := by
  show ByteArray.append _ _ = _
  simp [ByteArray.append, ByteArray.copySlice, ByteArray.size]
theorem flags_of {k : Int} {r : R} (h : byK k = some r) : (r.w, r.y, r.n, r.s) ∈ [(true, false, false, false), (true, false, false, true), (true, false, true, false), (true, true, true, false), (false, false, true, false), (false, false, false, true)] := by
  have : ∀ r ∈ rowsP, (r.w, r.y, r.n, r.s) ∈ [(true, false, false, false), (true, false, false, true), (true, false, true, false), (true, true, true, false), (false, false, true, false), (false, false, false, true)] := by decide
  exact this r (byK_mem h).1
theorem put_bad {e : E} (h : checkE e ≠ 0) : putE e = ([], checkE e) := by
  unfold putE
  cases hr : byK e.k with
  | none => rfl
  | some r => simp only; rw [if_neg h]
theorem put_ok {e : E} {r : R} (hr : byK e.k = some r) (h : checkE e = 0) : putE e = (lineR r e, 0) := by unfold putE; rw [hr]; simp only; rw [if_pos h]
def PutIs (q : Str × Int) (w : World) (x : Ending) (w' : World) : Prop := x = .returned (.tuple #[.string ⟨q.1.toArray⟩, .int .i64 q.2]) ∧ Fr No w w'
theorem putR_len {n : Int} (h : inR n = true) : (putR n).length ≤ 13 := by
  have h0 := of_decide_eq_true h
  have h1 := (put_nb h).2
  by_cases h2 : rok (putR n)
  · exact h2.2.1
  · rw [readR_no h2] at h1; injection h1 with _ h1; cases h1
set_option maxRecDepth 100000 in
set_option maxHeartbeats 8000000 in
theorem put_any (e : E) (w : World) (hl : e.s.length ≤ 10000) : Calls Tryd.prog 7 #[.agg (cE e)] w (PutIs (putE e) w) := by
  have hck := check_any e
  by_cases h0 : checkE e = 0
  case neg =>
    rw [put_bad h0]
    have hn : (checkE e != 0) = true := by rw [bne_iff_ne]; exact h0
    obtain ⟨cd, hcd⟩ : ∃ cd, cd = checkE e := ⟨_, rfl⟩
    rw [← hcd] at hck hn ⊢
    obtain ⟨ek, ew, en, eo, es⟩ := e
    unfold cE at hck ⊢
    simp only at hck ⊢
    have HCK := Lib.hid hck
    have FA := Lib.hid ((Fr.refl No w).alloc (.cells #[.int .i64 ek, .int .i64 ew, .int .i64 en, .bool eo, .string ⟨es.toArray⟩] 23))
    clear hck hcd h0
    go_enter Tryd.func7, Tryd.ntmps7
    go_wp2_with fail
    refine (HCK.out _).mono ?_
    rintro x w1 ⟨rfl, hf⟩
    have F1 := Lib.hid (FA.out.then_no hf)
    clear hf
    go_wp2_with fail
    refine bodyPost_ret (v := .tuple #[.string ⟨#[]⟩, .int .i64 cd]) ?_ rfl ⟨rfl, F1.out⟩
    simp [results, Tryd.f7, go_sem]
  case pos =>
    obtain ⟨r, hr, i1, i2, -⟩ := check_row h0
    rw [put_ok hr h0]
    rw [h0] at hck
    have hpw := (put_nb i1).2
    have p1 := fun W => Digit.put_any e.who (by have := of_decide_eq_true i1; omega) W
    have p2 := fun W => Digit.put_any e.n (by have := of_decide_eq_true i2; omega) W
    have p3 := fun W => show_any e.s W (by omega)
    have l1 := putR_len i1
    have l2 := putR_len i2
    have l3 := show_len e.s
    obtain ⟨ek, ew, en, eo, es⟩ := e
    simp only at hr p1 p2 p3 l1 l2 l3 hl
    obtain ⟨tw, htw⟩ : ∃ t, t = putR ew := ⟨_, rfl⟩
    obtain ⟨tn, htn⟩ : ∃ t, t = putR en := ⟨_, rfl⟩
    obtain ⟨ts, hts⟩ : ∃ t, t = showR es := ⟨_, rfl⟩
    rw [← htw] at p1 l1
    rw [← htn] at p2 l2
    rw [← hts] at p3 l3
    have HLN := Lib.hid (show lineR r ⟨ek, ew, en, eo, es⟩ = r.word ++ (if r.w then 32 :: tw else []) ++ (if r.y then 32 :: yn eo else []) ++ (if r.n then 32 :: tn else []) ++ (if r.s then 32 :: ts else []) by rw [htw, htn, hts]; rfl)
    have hwl : r.word.length ≤ 6 := by have : ∀ r ∈ rowsP, r.word.length ≤ 6 := by decide
                                       exact this r (byK_mem hr).1
    have HP1 := Lib.hid p1
    have HP2 := Lib.hid p2
    have HP3 := Lib.hid p3
    have HCK := Lib.hid hck
    have HR := Lib.hid hr
    clear h0 i1 i2 hpw p1 p2 p3 htw htn hts hck hr
    unfold cE at HCK ⊢
    simp only at HCK ⊢
    have X1 := Blk.new w 23 #[.int .i64 ek, .int .i64 ew, .int .i64 en, .bool eo, .string ⟨es.toArray⟩]
    have FA := Lib.hid ((Fr.refl No w).alloc (.cells #[.int .i64 ek, .int .i64 ew, .int .i64 en, .bool eo, .string ⟨es.toArray⟩] 23))
    obtain ⟨b1, hb1⟩ : ∃ b, w.heap.size = b := ⟨_, rfl⟩
    rw [hb1] at X1
    go_enter Tryd.func7, Tryd.ntmps7
    go_upto_region 1 with (fail)
    try rw [hb1]
    clear hb1
    generalize w.alloc (.cells #[.int .i64 ek, .int .i64 ew, .int .i64 en, .bool eo, .string ⟨es.toArray⟩] 23) = wa at X1 FA ⊢
    have y0 := X1.cell 0
    have y1 := X1.cell 1
    have y2 := X1.cell 2
    have y3 := X1.cell 3
    have y4 := X1.cell 4
    simp only [List.getElem?_toArray, List.getElem?_cons_zero, List.getElem?_cons_succ] at y0 y1 y2 y3 y4
    have XX := Lib.hid X1
    clear X1
    go_wp2_with fail
    refine (HCK.out _).mono ?_
    rintro x w1 ⟨rfl, hf⟩
    have F1 := Lib.hid hf
    clear hf
    go_wp2_with fail
    refine (find_put1 w1 b1 (fun r => r.k == ek) (fun W hW x => put1_any W b1 ek x ((XX.out.fr (F1.out.then_no hW) (fun h => h)).cell 0) (XX.out.fr (F1.out.then_no hW) (fun h => h)).lt)).mono ?_
    unfold FindIs
    rw [show rowsP.find? (fun r => r.k == ek) = byK ek from rfl, HR.out]
    simp only [Option.getD_some, Option.isSome_some]
    rintro x w2 ⟨rfl, hf⟩
    have F2 := Lib.hid (F1.out.then_no hf)
    clear hf
    obtain ⟨xk, xt, x2, x3, x4, x5⟩ := r
    unfold cR
    simp only at HLN hwl ⊢
    have XR := Blk.new w2 46 #[.int .i64 xk, .string ⟨xt.toArray⟩, .bool x2, .bool x3, .bool x4, .bool x5]
    have XE := (XX.out.fr F2.out (fun h => h)).alloc (.cells #[.int .i64 xk, .string ⟨xt.toArray⟩, .bool x2, .bool x3, .bool x4, .bool x5] 46)
    have F3 := Lib.hid (F2.out.alloc (.cells #[.int .i64 xk, .string ⟨xt.toArray⟩, .bool x2, .bool x3, .bool x4, .bool x5] 46))
    obtain ⟨b3, hb3⟩ : ∃ b, w2.heap.size = b := ⟨_, rfl⟩
    rw [hb3] at XR
    go_upto_region 5 with (fail)
    try rw [hb3]
    clear hb3 y0 y1 y2 y3 y4
    generalize w2.alloc (.cells #[.int .i64 xk, .string ⟨xt.toArray⟩, .bool x2, .bool x3, .bool x4, .bool x5] 46) = W at XR XE F3 ⊢
    have HXR := Lib.hid XR
    have HXE := Lib.hid XE
    clear XR XE
    have hc : ∀ X, Fr No W X → X.cell? ⟨b3, 1, none⟩ = some (.string ⟨xt.toArray⟩) ∧ X.cell? ⟨b3, 2, none⟩ = some (.bool x2) ∧ X.cell? ⟨b3, 3, none⟩ = some (.bool x3) ∧ X.cell? ⟨b3, 4, none⟩ = some (.bool x4) ∧ X.cell? ⟨b3, 5, none⟩ = some (.bool x5) ∧ X.cell? ⟨b1, 1, none⟩ = some (.int .i64 ew) ∧ X.cell? ⟨b1, 2, none⟩ = some (.int .i64 en) ∧ X.cell? ⟨b1, 3, none⟩ = some (.bool eo) ∧ X.cell? ⟨b1, 4, none⟩ = some (.string ⟨es.toArray⟩) := fun X hX => ⟨(HXR.out.fr hX (fun h => h)).cell 1, (HXR.out.fr hX (fun h => h)).cell 2, (HXR.out.fr hX (fun h => h)).cell 3, (HXR.out.fr hX (fun h => h)).cell 4, (HXR.out.fr hX (fun h => h)).cell 5, (HXE.out.fr hX (fun h => h)).cell 1, (HXE.out.fr hX (fun h => h)).cell 2, (HXE.out.fr hX (fun h => h)).cell 3, (HXE.out.fr hX (fun h => h)).cell 4⟩
    have HC := Lib.hid hc
    obtain ⟨z1, z2, z3, z4, z5, u1, u2, u3, u4⟩ := hc W (Fr.refl _ _)
    have hf0 : Fr No W W := Fr.refl _ _
    have hadd := fun (a b : Str) (h : a.length + b.length ≤ 100000) (X : World) => Go.run_string_add_sum (P := Tryd.prog) (w := X) ⟨a.toArray⟩ ⟨b.toArray⟩ (by simp [ByteArray.size]; omega)
    have HADD := Lib.hid hadd
    clear hc hadd
    have hflag : (x2, x3, x4, x5) ∈ [(true, false, false, false), (true, false, false, true), (true, false, true, false), (true, true, true, false), (false, false, true, false), (false, false, false, true)] := flags_of HR.out
    simp only [List.mem_cons, List.not_mem_nil, or_false, Prod.mk.injEq] at hflag
    rcases hflag with ⟨rfl, rfl, rfl, rfl⟩ | ⟨rfl, rfl, rfl, rfl⟩ | ⟨rfl, rfl, rfl, rfl⟩ | ⟨rfl, rfl, rfl, rfl⟩ | ⟨rfl, rfl, rfl, rfl⟩ | ⟨rfl, rfl, rfl, rfl⟩
    · obtain ⟨b4, hb1⟩ : ∃ b, b = 32 :: tw := ⟨_, rfl⟩
      have hm1 : b4.length = tw.length + 1 := by rw [hb1]; simp
      obtain ⟨a1, ha1⟩ : ∃ a, a = xt ++ b4 := ⟨_, rfl⟩
      have hl1 : a1.length = xt.length + b4.length := by rw [ha1]; simp
      have hr1 := fun X => HADD.out [32] tw (by simp; omega) X
      rw [ba_app, show ([32] : Str) ++ tw = b4 from hb1.symm] at hr1
      have hs1 := fun X => HADD.out xt b4 (by omega) X
      rw [ba_app, ← ha1] at hs1
      have HLL := Lib.hid (show lineR ⟨xk, xt, true, false, false, false⟩ ⟨ek, ew, en, eo, es⟩ = a1 by rw [HLN.out, ha1, hb1]; simp [yn, yesB, noB])
      clear hb1 ha1 HLN
      go_wp2_with (first
        | (go_at_call 21; with_reducible refine (HP1.out _).mono ?_; rintro x w7 ⟨rfl, hf⟩; have hf1 : Fr No W w7 := Fr.then_no (by with_reducible assumption) hf; obtain ⟨z1, z2, z3, z4, z5, u1, u2, u3, u4⟩ := HC.out w7 hf1; clear hf)
        | (go_at_call 21; with_reducible refine (HP2.out _).mono ?_; rintro x w7 ⟨rfl, hf⟩; have hf1 : Fr No W w7 := Fr.then_no (by with_reducible assumption) hf; obtain ⟨z1, z2, z3, z4, z5, u1, u2, u3, u4⟩ := HC.out w7 hf1; clear hf)
        | (go_at_call 22; with_reducible refine (HP3.out _).mono ?_; rintro x w7 ⟨rfl, hf⟩; have hf1 : Fr No W w7 := Fr.then_no (by with_reducible assumption) hf; obtain ⟨z1, z2, z3, z4, z5, u1, u2, u3, u4⟩ := HC.out w7 hf1; clear hf))
      refine bodyPost_ret (v := .tuple #[.string ⟨a1.toArray⟩, .int .i64 0]) ?_ rfl ⟨by rw [HLL.out], (FA.out.then_no F3.out).then_no (by assumption)⟩
      simp [results, Tryd.f7, go_sem]
    · obtain ⟨b4, hb1⟩ : ∃ b, b = 32 :: tw := ⟨_, rfl⟩
      have hm1 : b4.length = tw.length + 1 := by rw [hb1]; simp
      obtain ⟨a1, ha1⟩ : ∃ a, a = xt ++ b4 := ⟨_, rfl⟩
      have hl1 : a1.length = xt.length + b4.length := by rw [ha1]; simp
      have hr1 := fun X => HADD.out [32] tw (by simp; omega) X
      rw [ba_app, show ([32] : Str) ++ tw = b4 from hb1.symm] at hr1
      have hs1 := fun X => HADD.out xt b4 (by omega) X
      rw [ba_app, ← ha1] at hs1
      obtain ⟨b5, hb2⟩ : ∃ b, b = 32 :: ts := ⟨_, rfl⟩
      have hm2 : b5.length = ts.length + 1 := by rw [hb2]; simp
      obtain ⟨a2, ha2⟩ : ∃ a, a = a1 ++ b5 := ⟨_, rfl⟩
      have hl2 : a2.length = a1.length + b5.length := by rw [ha2]; simp
      have hr2 := fun X => HADD.out [32] ts (by simp; omega) X
      rw [ba_app, show ([32] : Str) ++ ts = b5 from hb2.symm] at hr2
      have hs2 := fun X => HADD.out a1 b5 (by omega) X
      rw [ba_app, ← ha2] at hs2
      have HLL := Lib.hid (show lineR ⟨xk, xt, true, false, false, true⟩ ⟨ek, ew, en, eo, es⟩ = a2 by rw [HLN.out, ha2, hb2, ha1, hb1]; simp [yn, yesB, noB])
      clear hb1 ha1 hb2 ha2 HLN
      go_wp2_with (first
        | (go_at_call 21; with_reducible refine (HP1.out _).mono ?_; rintro x w7 ⟨rfl, hf⟩; have hf1 : Fr No W w7 := Fr.then_no (by with_reducible assumption) hf; obtain ⟨z1, z2, z3, z4, z5, u1, u2, u3, u4⟩ := HC.out w7 hf1; clear hf)
        | (go_at_call 21; with_reducible refine (HP2.out _).mono ?_; rintro x w7 ⟨rfl, hf⟩; have hf1 : Fr No W w7 := Fr.then_no (by with_reducible assumption) hf; obtain ⟨z1, z2, z3, z4, z5, u1, u2, u3, u4⟩ := HC.out w7 hf1; clear hf)
        | (go_at_call 22; with_reducible refine (HP3.out _).mono ?_; rintro x w7 ⟨rfl, hf⟩; have hf1 : Fr No W w7 := Fr.then_no (by with_reducible assumption) hf; obtain ⟨z1, z2, z3, z4, z5, u1, u2, u3, u4⟩ := HC.out w7 hf1; clear hf))
      refine bodyPost_ret (v := .tuple #[.string ⟨a2.toArray⟩, .int .i64 0]) ?_ rfl ⟨by rw [HLL.out], (FA.out.then_no F3.out).then_no (by assumption)⟩
      simp [results, Tryd.f7, go_sem]
    · obtain ⟨b4, hb1⟩ : ∃ b, b = 32 :: tw := ⟨_, rfl⟩
      have hm1 : b4.length = tw.length + 1 := by rw [hb1]; simp
      obtain ⟨a1, ha1⟩ : ∃ a, a = xt ++ b4 := ⟨_, rfl⟩
      have hl1 : a1.length = xt.length + b4.length := by rw [ha1]; simp
      have hr1 := fun X => HADD.out [32] tw (by simp; omega) X
      rw [ba_app, show ([32] : Str) ++ tw = b4 from hb1.symm] at hr1
      have hs1 := fun X => HADD.out xt b4 (by omega) X
      rw [ba_app, ← ha1] at hs1
      obtain ⟨b5, hb2⟩ : ∃ b, b = 32 :: tn := ⟨_, rfl⟩
      have hm2 : b5.length = tn.length + 1 := by rw [hb2]; simp
      obtain ⟨a2, ha2⟩ : ∃ a, a = a1 ++ b5 := ⟨_, rfl⟩
      have hl2 : a2.length = a1.length + b5.length := by rw [ha2]; simp
      have hr2 := fun X => HADD.out [32] tn (by simp; omega) X
      rw [ba_app, show ([32] : Str) ++ tn = b5 from hb2.symm] at hr2
      have hs2 := fun X => HADD.out a1 b5 (by omega) X
      rw [ba_app, ← ha2] at hs2
      have HLL := Lib.hid (show lineR ⟨xk, xt, true, false, true, false⟩ ⟨ek, ew, en, eo, es⟩ = a2 by rw [HLN.out, ha2, hb2, ha1, hb1]; simp [yn, yesB, noB])
      clear hb1 ha1 hb2 ha2 HLN
      go_wp2_with (first
        | (go_at_call 21; with_reducible refine (HP1.out _).mono ?_; rintro x w7 ⟨rfl, hf⟩; have hf1 : Fr No W w7 := Fr.then_no (by with_reducible assumption) hf; obtain ⟨z1, z2, z3, z4, z5, u1, u2, u3, u4⟩ := HC.out w7 hf1; clear hf)
        | (go_at_call 21; with_reducible refine (HP2.out _).mono ?_; rintro x w7 ⟨rfl, hf⟩; have hf1 : Fr No W w7 := Fr.then_no (by with_reducible assumption) hf; obtain ⟨z1, z2, z3, z4, z5, u1, u2, u3, u4⟩ := HC.out w7 hf1; clear hf)
        | (go_at_call 22; with_reducible refine (HP3.out _).mono ?_; rintro x w7 ⟨rfl, hf⟩; have hf1 : Fr No W w7 := Fr.then_no (by with_reducible assumption) hf; obtain ⟨z1, z2, z3, z4, z5, u1, u2, u3, u4⟩ := HC.out w7 hf1; clear hf))
      refine bodyPost_ret (v := .tuple #[.string ⟨a2.toArray⟩, .int .i64 0]) ?_ rfl ⟨by rw [HLL.out], (FA.out.then_no F3.out).then_no (by assumption)⟩
      simp [results, Tryd.f7, go_sem]
    · cases eo with
      | true =>
        obtain ⟨b4, hb1⟩ : ∃ b, b = 32 :: tw := ⟨_, rfl⟩
        have hm1 : b4.length = tw.length + 1 := by rw [hb1]; simp
        obtain ⟨a1, ha1⟩ : ∃ a, a = xt ++ b4 := ⟨_, rfl⟩
        have hl1 : a1.length = xt.length + b4.length := by rw [ha1]; simp
        have hr1 := fun X => HADD.out [32] tw (by simp; omega) X
        rw [ba_app, show ([32] : Str) ++ tw = b4 from hb1.symm] at hr1
        have hs1 := fun X => HADD.out xt b4 (by omega) X
        rw [ba_app, ← ha1] at hs1
        obtain ⟨a2, ha2⟩ : ∃ a, a = a1 ++ ([32, 121, 101, 115] : Str) := ⟨_, rfl⟩
        have hl2 : a2.length ≤ a1.length + 4 := by rw [ha2]; simp
        have hs2 := fun X => HADD.out a1 [32, 121, 101, 115] (by simp; omega) X
        rw [ba_app, ← ha2] at hs2
        obtain ⟨b6, hb3⟩ : ∃ b, b = 32 :: tn := ⟨_, rfl⟩
        have hm3 : b6.length = tn.length + 1 := by rw [hb3]; simp
        obtain ⟨a3, ha3⟩ : ∃ a, a = a2 ++ b6 := ⟨_, rfl⟩
        have hl3 : a3.length = a2.length + b6.length := by rw [ha3]; simp
        have hr3 := fun X => HADD.out [32] tn (by simp; omega) X
        rw [ba_app, show ([32] : Str) ++ tn = b6 from hb3.symm] at hr3
        have hs3 := fun X => HADD.out a2 b6 (by omega) X
        rw [ba_app, ← ha3] at hs3
        have HLL := Lib.hid (show lineR ⟨xk, xt, true, true, true, false⟩ ⟨ek, ew, en, true, es⟩ = a3 by rw [HLN.out, ha3, hb3, ha2, ha1, hb1]; simp [yn, yesB, noB])
        clear hb1 ha1 ha2 hb3 ha3 HLN
        go_wp2_with (first
          | (go_at_call 21; with_reducible refine (HP1.out _).mono ?_; rintro x w7 ⟨rfl, hf⟩; have hf1 : Fr No W w7 := Fr.then_no (by with_reducible assumption) hf; obtain ⟨z1, z2, z3, z4, z5, u1, u2, u3, u4⟩ := HC.out w7 hf1; clear hf)
          | (go_at_call 21; with_reducible refine (HP2.out _).mono ?_; rintro x w7 ⟨rfl, hf⟩; have hf1 : Fr No W w7 := Fr.then_no (by with_reducible assumption) hf; obtain ⟨z1, z2, z3, z4, z5, u1, u2, u3, u4⟩ := HC.out w7 hf1; clear hf)
          | (go_at_call 22; with_reducible refine (HP3.out _).mono ?_; rintro x w7 ⟨rfl, hf⟩; have hf1 : Fr No W w7 := Fr.then_no (by with_reducible assumption) hf; obtain ⟨z1, z2, z3, z4, z5, u1, u2, u3, u4⟩ := HC.out w7 hf1; clear hf))
        refine bodyPost_ret (v := .tuple #[.string ⟨a3.toArray⟩, .int .i64 0]) ?_ rfl ⟨by rw [HLL.out], (FA.out.then_no F3.out).then_no (by assumption)⟩
        simp [results, Tryd.f7, go_sem]
      | false =>
        obtain ⟨b4, hb1⟩ : ∃ b, b = 32 :: tw := ⟨_, rfl⟩
        have hm1 : b4.length = tw.length + 1 := by rw [hb1]; simp
        obtain ⟨a1, ha1⟩ : ∃ a, a = xt ++ b4 := ⟨_, rfl⟩
        have hl1 : a1.length = xt.length + b4.length := by rw [ha1]; simp
        have hr1 := fun X => HADD.out [32] tw (by simp; omega) X
        rw [ba_app, show ([32] : Str) ++ tw = b4 from hb1.symm] at hr1
        have hs1 := fun X => HADD.out xt b4 (by omega) X
        rw [ba_app, ← ha1] at hs1
        obtain ⟨a2, ha2⟩ : ∃ a, a = a1 ++ ([32, 110, 111] : Str) := ⟨_, rfl⟩
        have hl2 : a2.length ≤ a1.length + 4 := by rw [ha2]; simp
        have hs2 := fun X => HADD.out a1 [32, 110, 111] (by simp; omega) X
        rw [ba_app, ← ha2] at hs2
        obtain ⟨b6, hb3⟩ : ∃ b, b = 32 :: tn := ⟨_, rfl⟩
        have hm3 : b6.length = tn.length + 1 := by rw [hb3]; simp
        obtain ⟨a3, ha3⟩ : ∃ a, a = a2 ++ b6 := ⟨_, rfl⟩
        have hl3 : a3.length = a2.length + b6.length := by rw [ha3]; simp
        have hr3 := fun X => HADD.out [32] tn (by simp; omega) X
        rw [ba_app, show ([32] : Str) ++ tn = b6 from hb3.symm] at hr3
        have hs3 := fun X => HADD.out a2 b6 (by omega) X
        rw [ba_app, ← ha3] at hs3
        have HLL := Lib.hid (show lineR ⟨xk, xt, true, true, true, false⟩ ⟨ek, ew, en, false, es⟩ = a3 by rw [HLN.out, ha3, hb3, ha2, ha1, hb1]; simp [yn, yesB, noB])
        clear hb1 ha1 ha2 hb3 ha3 HLN
        go_wp2_with (first
          | (go_at_call 21; with_reducible refine (HP1.out _).mono ?_; rintro x w7 ⟨rfl, hf⟩; have hf1 : Fr No W w7 := Fr.then_no (by with_reducible assumption) hf; obtain ⟨z1, z2, z3, z4, z5, u1, u2, u3, u4⟩ := HC.out w7 hf1; clear hf)
          | (go_at_call 21; with_reducible refine (HP2.out _).mono ?_; rintro x w7 ⟨rfl, hf⟩; have hf1 : Fr No W w7 := Fr.then_no (by with_reducible assumption) hf; obtain ⟨z1, z2, z3, z4, z5, u1, u2, u3, u4⟩ := HC.out w7 hf1; clear hf)
          | (go_at_call 22; with_reducible refine (HP3.out _).mono ?_; rintro x w7 ⟨rfl, hf⟩; have hf1 : Fr No W w7 := Fr.then_no (by with_reducible assumption) hf; obtain ⟨z1, z2, z3, z4, z5, u1, u2, u3, u4⟩ := HC.out w7 hf1; clear hf))
        refine bodyPost_ret (v := .tuple #[.string ⟨a3.toArray⟩, .int .i64 0]) ?_ rfl ⟨by rw [HLL.out], (FA.out.then_no F3.out).then_no (by assumption)⟩
        simp [results, Tryd.f7, go_sem]
    · obtain ⟨b4, hb1⟩ : ∃ b, b = 32 :: tn := ⟨_, rfl⟩
      have hm1 : b4.length = tn.length + 1 := by rw [hb1]; simp
      obtain ⟨a1, ha1⟩ : ∃ a, a = xt ++ b4 := ⟨_, rfl⟩
      have hl1 : a1.length = xt.length + b4.length := by rw [ha1]; simp
      have hr1 := fun X => HADD.out [32] tn (by simp; omega) X
      rw [ba_app, show ([32] : Str) ++ tn = b4 from hb1.symm] at hr1
      have hs1 := fun X => HADD.out xt b4 (by omega) X
      rw [ba_app, ← ha1] at hs1
      have HLL := Lib.hid (show lineR ⟨xk, xt, false, false, true, false⟩ ⟨ek, ew, en, eo, es⟩ = a1 by rw [HLN.out, ha1, hb1]; simp [yn, yesB, noB])
      clear hb1 ha1 HLN
      go_wp2_with (first
        | (go_at_call 21; with_reducible refine (HP1.out _).mono ?_; rintro x w7 ⟨rfl, hf⟩; have hf1 : Fr No W w7 := Fr.then_no (by with_reducible assumption) hf; obtain ⟨z1, z2, z3, z4, z5, u1, u2, u3, u4⟩ := HC.out w7 hf1; clear hf)
        | (go_at_call 21; with_reducible refine (HP2.out _).mono ?_; rintro x w7 ⟨rfl, hf⟩; have hf1 : Fr No W w7 := Fr.then_no (by with_reducible assumption) hf; obtain ⟨z1, z2, z3, z4, z5, u1, u2, u3, u4⟩ := HC.out w7 hf1; clear hf)
        | (go_at_call 22; with_reducible refine (HP3.out _).mono ?_; rintro x w7 ⟨rfl, hf⟩; have hf1 : Fr No W w7 := Fr.then_no (by with_reducible assumption) hf; obtain ⟨z1, z2, z3, z4, z5, u1, u2, u3, u4⟩ := HC.out w7 hf1; clear hf))
      refine bodyPost_ret (v := .tuple #[.string ⟨a1.toArray⟩, .int .i64 0]) ?_ rfl ⟨by rw [HLL.out], (FA.out.then_no F3.out).then_no (by assumption)⟩
      simp [results, Tryd.f7, go_sem]
    · obtain ⟨b4, hb1⟩ : ∃ b, b = 32 :: ts := ⟨_, rfl⟩
      have hm1 : b4.length = ts.length + 1 := by rw [hb1]; simp
      obtain ⟨a1, ha1⟩ : ∃ a, a = xt ++ b4 := ⟨_, rfl⟩
      have hl1 : a1.length = xt.length + b4.length := by rw [ha1]; simp
      have hr1 := fun X => HADD.out [32] ts (by simp; omega) X
      rw [ba_app, show ([32] : Str) ++ ts = b4 from hb1.symm] at hr1
      have hs1 := fun X => HADD.out xt b4 (by omega) X
      rw [ba_app, ← ha1] at hs1
      have HLL := Lib.hid (show lineR ⟨xk, xt, false, false, false, true⟩ ⟨ek, ew, en, eo, es⟩ = a1 by rw [HLN.out, ha1, hb1]; simp [yn, yesB, noB])
      clear hb1 ha1 HLN
      go_wp2_with (first
        | (go_at_call 21; with_reducible refine (HP1.out _).mono ?_; rintro x w7 ⟨rfl, hf⟩; have hf1 : Fr No W w7 := Fr.then_no (by with_reducible assumption) hf; obtain ⟨z1, z2, z3, z4, z5, u1, u2, u3, u4⟩ := HC.out w7 hf1; clear hf)
        | (go_at_call 21; with_reducible refine (HP2.out _).mono ?_; rintro x w7 ⟨rfl, hf⟩; have hf1 : Fr No W w7 := Fr.then_no (by with_reducible assumption) hf; obtain ⟨z1, z2, z3, z4, z5, u1, u2, u3, u4⟩ := HC.out w7 hf1; clear hf)
        | (go_at_call 22; with_reducible refine (HP3.out _).mono ?_; rintro x w7 ⟨rfl, hf⟩; have hf1 : Fr No W w7 := Fr.then_no (by with_reducible assumption) hf; obtain ⟨z1, z2, z3, z4, z5, u1, u2, u3, u4⟩ := HC.out w7 hf1; clear hf))
      refine bodyPost_ret (v := .tuple #[.string ⟨a1.toArray⟩, .int .i64 0]) ?_ rfl ⟨by rw [HLL.out], (FA.out.then_no F3.out).then_no (by assumption)⟩
      simp [results, Tryd.f7, go_sem]

end Ev
end Go.Proofs.YtohjnbkehcdoaaaDoor
