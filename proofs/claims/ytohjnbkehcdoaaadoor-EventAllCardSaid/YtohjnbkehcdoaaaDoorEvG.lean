/- Package event: the reference's Put. Printed by gen_evg.py. -/
import Derived.Test.YtohjnbkehcdoaaaDoorEvF
import Derived.Deep.RegionHeld3
namespace Go.Proofs.YtohjnbkehcdoaaaDoor
open Go.RowKit
set_option linter.unusedVariables false
set_option linter.unusedSimpArgs false
namespace Ev
open Digit Sls
theorem row_nat {k : Int} {r : R} (h : byK k = some r) : ∃ n : Nat, k = n ∧ 1 ≤ n ∧ n ≤ 10 ∧ ∃ h : n - 1 < rowsP.length, rowsP[n - 1] = r := by
  obtain ⟨hm, rfl⟩ := byK_mem h
  simp only [rowsP, List.mem_cons, List.not_mem_nil, or_false] at hm
  rcases hm with rfl | rfl | rfl | rfl | rfl | rfl | rfl | rfl | rfl | rfl
  · exact ⟨1, rfl, by omega, by omega, by decide, rfl⟩
  · exact ⟨2, rfl, by omega, by omega, by decide, rfl⟩
  · exact ⟨3, rfl, by omega, by omega, by decide, rfl⟩
  · exact ⟨4, rfl, by omega, by omega, by decide, rfl⟩
  · exact ⟨5, rfl, by omega, by omega, by decide, rfl⟩
  · exact ⟨6, rfl, by omega, by omega, by decide, rfl⟩
  · exact ⟨7, rfl, by omega, by omega, by decide, rfl⟩
  · exact ⟨8, rfl, by omega, by omega, by decide, rfl⟩
  · exact ⟨9, rfl, by omega, by omega, by decide, rfl⟩
  · exact ⟨10, rfl, by omega, by omega, by decide, rfl⟩
set_option maxRecDepth 100000 in
set_option maxHeartbeats 8000000 in
theorem rput_any (e : E) (w : World) (hl : e.s.length ≤ 10000) : Calls Tryd.prog 8 #[.agg (cE e)] w (PutIs (putE e) w) := by
  have hck := rcheck_any e
  by_cases h0 : checkE e = 0
  case neg =>
    rw [put_bad h0]
    have hn : (checkE e != 0) = true := by rw [bne_iff_ne]; exact h0
    obtain ⟨cd, hcd⟩ : ∃ cd, cd = checkE e := ⟨_, rfl⟩
    rw [← hcd] at hck hn ⊢
    obtain ⟨ek, ew, en, eo, es⟩ := e
    unfold cE at hck ⊢
    simp only at hck ⊢
    have HCK := Lib.hid hck
    have FA := Lib.hid ((Fr.refl No w).alloc (.cells #[.int .i64 ek, .int .i64 ew, .int .i64 en, .bool eo, .string ⟨es.toArray⟩] 23))
    clear hck hcd h0
    go_enter Tryd.func8, Tryd.ntmps8
    go_wp2_with fail
    refine (HCK.out _).mono ?_
    rintro x w1 ⟨rfl, hf⟩
    have F1 := Lib.hid (FA.out.then_no hf)
    clear hf
    go_wp2_with fail
    refine bodyPost_ret (v := .tuple #[.string ⟨#[]⟩, .int .i64 cd]) ?_ rfl ⟨rfl, F1.out⟩
    simp [results, Tryd.f8, go_sem]
  case pos =>
    obtain ⟨r, hr, i1, i2, -⟩ := check_row h0
    rw [put_ok hr h0]
    rw [h0] at hck
    have p1 := fun W => Digit.rput_any e.who (by have := of_decide_eq_true i1; omega) W
    have p2 := fun W => Digit.rput_any e.n (by have := of_decide_eq_true i2; omega) W
    have p3 := fun W => rshow_any e.s W (by omega)
    have l1 := putR_len i1
    have l2 := putR_len i2
    have l3 := show_len e.s
    have hh := has_row hr
    obtain ⟨ek, ew, en, eo, es⟩ := e
    simp only at hr p1 p2 p3 l1 l2 l3 hl hh
    obtain ⟨n, rfl, n1, n10, hn, hrn⟩ := row_nat hr
    obtain ⟨tw, htw⟩ : ∃ t, t = putR ew := ⟨_, rfl⟩
    obtain ⟨tn, htn⟩ : ∃ t, t = putR en := ⟨_, rfl⟩
    obtain ⟨ts, hts⟩ : ∃ t, t = showR es := ⟨_, rfl⟩
    rw [← htw] at p1 l1
    rw [← htn] at p2 l2
    rw [← hts] at p3 l3
    have HLN := Lib.hid (show lineR r ⟨(n : Int), ew, en, eo, es⟩ = r.word ++ (if r.w then 32 :: tw else []) ++ (if r.y then 32 :: yn eo else []) ++ (if r.n then 32 :: tn else []) ++ (if r.s then 32 :: ts else []) by rw [htw, htn, hts]; rfl)
    have hwl : r.word.length ≤ 6 := by have : ∀ r ∈ rowsP, r.word.length ≤ 6 := by decide
                                       exact this r (byK_mem hr).1
    have hflag := flags_of hr
    have HP1 := Lib.hid p1
    have HP2 := Lib.hid p2
    have HP3 := Lib.hid p3
    have HCK := Lib.hid hck
    have HH := Lib.hid hh
    have HWD := Lib.hid (fun W => (words_any W).mono fun x w' hq => (show ∃ g, x = .returned (.slice (some ⟨g, 0, none⟩) 11 11) ∧ w'.cell? ⟨g, n, none⟩ = some (.string ⟨r.word.toArray⟩) ∧ Fr No W w' from by
      obtain ⟨g, q1, q2, q3⟩ := hq
      have q4 := q2 (n - 1) hn
      rw [hrn, show n - 1 + 1 = n by omega] at q4
      exact ⟨g, q1, q4, q3⟩))
    clear h0 i1 i2 p1 p2 p3 htw htn hts hck hr hh hrn
    unfold cE at HCK ⊢
    simp only at HCK ⊢
    have X1 := Blk.new w 23 #[.int .i64 (n : Int), .int .i64 ew, .int .i64 en, .bool eo, .string ⟨es.toArray⟩]
    have FA := Lib.hid ((Fr.refl No w).alloc (.cells #[.int .i64 (n : Int), .int .i64 ew, .int .i64 en, .bool eo, .string ⟨es.toArray⟩] 23))
    obtain ⟨b1, hb1⟩ : ∃ b, w.heap.size = b := ⟨_, rfl⟩
    rw [hb1] at X1
    go_enter Tryd.func8, Tryd.ntmps8
    go_upto_region 1 with (fail)
    try rw [hb1]
    clear hb1
    generalize w.alloc (.cells #[.int .i64 (n : Int), .int .i64 ew, .int .i64 en, .bool eo, .string ⟨es.toArray⟩] 23) = wa at X1 FA ⊢
    have y0 := X1.cell 0
    have y1 := X1.cell 1
    have y2 := X1.cell 2
    have y3 := X1.cell 3
    have y4 := X1.cell 4
    simp only [List.getElem?_toArray, List.getElem?_cons_zero, List.getElem?_cons_succ] at y0 y1 y2 y3 y4
    have XX := Lib.hid X1
    clear X1
    go_wp2_with fail
    refine (HCK.out _).mono ?_
    rintro x W ⟨rfl, hf⟩
    have F1 := Lib.hid hf
    have hc : ∀ X, Fr No W X → X.cell? ⟨b1, 0, none⟩ = some (.int .i64 (n : Int)) ∧ X.cell? ⟨b1, 1, none⟩ = some (.int .i64 ew) ∧ X.cell? ⟨b1, 2, none⟩ = some (.int .i64 en) ∧ X.cell? ⟨b1, 3, none⟩ = some (.bool eo) ∧ X.cell? ⟨b1, 4, none⟩ = some (.string ⟨es.toArray⟩) := fun X hX => ⟨(XX.out.fr (hf.then_no hX) (fun h => h)).cell 0, (XX.out.fr (hf.then_no hX) (fun h => h)).cell 1, (XX.out.fr (hf.then_no hX) (fun h => h)).cell 2, (XX.out.fr (hf.then_no hX) (fun h => h)).cell 3, (XX.out.fr (hf.then_no hX) (fun h => h)).cell 4⟩
    have HC := Lib.hid hc
    clear hf y0 y1 y2 y3 y4 hc
    obtain ⟨xk, xt, x2, x3, x4, x5⟩ := r
    simp only at HLN hwl HH HWD hflag
    have hadd := fun (a b : Str) (h : a.length + b.length ≤ 100000) (X : World) => Go.run_string_add_sum (P := Tryd.prog) (w := X) ⟨a.toArray⟩ ⟨b.toArray⟩ (by simp [ByteArray.size]; omega)
    have HADD := Lib.hid hadd
    clear hadd
    have hk0 : (0 : Int) ≤ (n : Int) := by omega
    have hk1 : (n : Int) < 11 := by omega
    have hk2 : n < 11 := by omega
    go_upto_region 4 with (fail)
    obtain ⟨u0, u1, u2, u3, u4⟩ := HC.out W (Fr.refl _ _)
    go_region_with (go_at_call 23; refine (HWD.out _).mono ?_; rintro x w6 ⟨g, rfl, hgc, hf⟩; have hf6 : Fr No W w6 := Fr.then_no (by (repeat' (first | with_reducible assumption | with_reducible exact Fr.refl _ _ | with_reducible refine Fr.drew ?_ | with_reducible refine Fr.drewN ?_ _ | with_reducible refine Fr.alloc ?_ _))) hf; obtain ⟨u0, u1, u2, u3, u4⟩ := HC.out w6 hf6; clear hf)
    all_goals
      simp only [List.mem_cons, List.not_mem_nil, or_false, Prod.mk.injEq] at hflag
      rcases hflag with ⟨rfl, rfl, rfl, rfl⟩ | ⟨rfl, rfl, rfl, rfl⟩ | ⟨rfl, rfl, rfl, rfl⟩ | ⟨rfl, rfl, rfl, rfl⟩ | ⟨rfl, rfl, rfl, rfl⟩ | ⟨rfl, rfl, rfl, rfl⟩
      · obtain ⟨b4, hb1⟩ : ∃ b, b = xt ++ ([32] : Str) := ⟨_, rfl⟩
        have hm1 : b4.length = xt.length + 1 := by rw [hb1]; simp
        obtain ⟨a1, ha1⟩ : ∃ a, a = b4 ++ tw := ⟨_, rfl⟩
        have hl1 : a1.length = b4.length + tw.length := by rw [ha1]; simp
        have hr1 := fun X => HADD.out xt [32] (by simp; omega) X
        rw [ba_app, ← hb1] at hr1
        have hs1 := fun X => HADD.out b4 tw (by omega) X
        rw [ba_app, ← ha1] at hs1
        have HLL := Lib.hid (show lineR ⟨xk, xt, true, false, false, false⟩ ⟨(n : Int), ew, en, eo, es⟩ = a1 by rw [HLN.out, ha1, hb1]; simp [yn, yesB, noB])
        clear hb1 ha1 HLN
        go_wp2_with (first
          | (go_at_call 24; with_reducible refine (HH.out _).1.mono ?_; rintro x w7 ⟨rfl, hf⟩; have hf1 : Fr No W w7 := Fr.then_no (by with_reducible assumption) hf; obtain ⟨u0, u1, u2, u3, u4⟩ := HC.out w7 hf1; clear hf)
          | (go_at_call 24; with_reducible refine (HH.out _).2.1.mono ?_; rintro x w7 ⟨rfl, hf⟩; have hf1 : Fr No W w7 := Fr.then_no (by with_reducible assumption) hf; obtain ⟨u0, u1, u2, u3, u4⟩ := HC.out w7 hf1; clear hf)
          | (go_at_call 24; with_reducible refine (HH.out _).2.2.1.mono ?_; rintro x w7 ⟨rfl, hf⟩; have hf1 : Fr No W w7 := Fr.then_no (by with_reducible assumption) hf; obtain ⟨u0, u1, u2, u3, u4⟩ := HC.out w7 hf1; clear hf)
          | (go_at_call 24; with_reducible refine (HH.out _).2.2.2.mono ?_; rintro x w7 ⟨rfl, hf⟩; have hf1 : Fr No W w7 := Fr.then_no (by with_reducible assumption) hf; obtain ⟨u0, u1, u2, u3, u4⟩ := HC.out w7 hf1; clear hf)
          | (go_at_call 25; with_reducible refine (HP1.out _).mono ?_; rintro x w7 ⟨rfl, hw7⟩; subst hw7)
          | (go_at_call 25; with_reducible refine (HP2.out _).mono ?_; rintro x w7 ⟨rfl, hw7⟩; subst hw7)
          | (go_at_call 26; with_reducible refine (HP3.out _).mono ?_; rintro x w7 ⟨rfl, hf⟩; have hf1 : Fr No W w7 := Fr.then_no (by with_reducible assumption) hf; obtain ⟨u0, u1, u2, u3, u4⟩ := HC.out w7 hf1; clear hf))
        refine bodyPost_ret (v := .tuple #[.string ⟨a1.toArray⟩, .int .i64 0]) ?_ rfl ⟨by rw [HLL.out], FA.out.then_no (F1.out.then_no (by assumption))⟩
        simp [results, Tryd.f8, go_sem]
      · obtain ⟨b4, hb1⟩ : ∃ b, b = xt ++ ([32] : Str) := ⟨_, rfl⟩
        have hm1 : b4.length = xt.length + 1 := by rw [hb1]; simp
        obtain ⟨a1, ha1⟩ : ∃ a, a = b4 ++ tw := ⟨_, rfl⟩
        have hl1 : a1.length = b4.length + tw.length := by rw [ha1]; simp
        have hr1 := fun X => HADD.out xt [32] (by simp; omega) X
        rw [ba_app, ← hb1] at hr1
        have hs1 := fun X => HADD.out b4 tw (by omega) X
        rw [ba_app, ← ha1] at hs1
        obtain ⟨b5, hb2⟩ : ∃ b, b = a1 ++ ([32] : Str) := ⟨_, rfl⟩
        have hm2 : b5.length = a1.length + 1 := by rw [hb2]; simp
        obtain ⟨a2, ha2⟩ : ∃ a, a = b5 ++ ts := ⟨_, rfl⟩
        have hl2 : a2.length = b5.length + ts.length := by rw [ha2]; simp
        have hr2 := fun X => HADD.out a1 [32] (by simp; omega) X
        rw [ba_app, ← hb2] at hr2
        have hs2 := fun X => HADD.out b5 ts (by omega) X
        rw [ba_app, ← ha2] at hs2
        have HLL := Lib.hid (show lineR ⟨xk, xt, true, false, false, true⟩ ⟨(n : Int), ew, en, eo, es⟩ = a2 by rw [HLN.out, ha2, hb2, ha1, hb1]; simp [yn, yesB, noB])
        clear hb1 ha1 hb2 ha2 HLN
        go_wp2_with (first
          | (go_at_call 24; with_reducible refine (HH.out _).1.mono ?_; rintro x w7 ⟨rfl, hf⟩; have hf1 : Fr No W w7 := Fr.then_no (by with_reducible assumption) hf; obtain ⟨u0, u1, u2, u3, u4⟩ := HC.out w7 hf1; clear hf)
          | (go_at_call 24; with_reducible refine (HH.out _).2.1.mono ?_; rintro x w7 ⟨rfl, hf⟩; have hf1 : Fr No W w7 := Fr.then_no (by with_reducible assumption) hf; obtain ⟨u0, u1, u2, u3, u4⟩ := HC.out w7 hf1; clear hf)
          | (go_at_call 24; with_reducible refine (HH.out _).2.2.1.mono ?_; rintro x w7 ⟨rfl, hf⟩; have hf1 : Fr No W w7 := Fr.then_no (by with_reducible assumption) hf; obtain ⟨u0, u1, u2, u3, u4⟩ := HC.out w7 hf1; clear hf)
          | (go_at_call 24; with_reducible refine (HH.out _).2.2.2.mono ?_; rintro x w7 ⟨rfl, hf⟩; have hf1 : Fr No W w7 := Fr.then_no (by with_reducible assumption) hf; obtain ⟨u0, u1, u2, u3, u4⟩ := HC.out w7 hf1; clear hf)
          | (go_at_call 25; with_reducible refine (HP1.out _).mono ?_; rintro x w7 ⟨rfl, hw7⟩; subst hw7)
          | (go_at_call 25; with_reducible refine (HP2.out _).mono ?_; rintro x w7 ⟨rfl, hw7⟩; subst hw7)
          | (go_at_call 26; with_reducible refine (HP3.out _).mono ?_; rintro x w7 ⟨rfl, hf⟩; have hf1 : Fr No W w7 := Fr.then_no (by with_reducible assumption) hf; obtain ⟨u0, u1, u2, u3, u4⟩ := HC.out w7 hf1; clear hf))
        refine bodyPost_ret (v := .tuple #[.string ⟨a2.toArray⟩, .int .i64 0]) ?_ rfl ⟨by rw [HLL.out], FA.out.then_no (F1.out.then_no (by assumption))⟩
        simp [results, Tryd.f8, go_sem]
      · obtain ⟨b4, hb1⟩ : ∃ b, b = xt ++ ([32] : Str) := ⟨_, rfl⟩
        have hm1 : b4.length = xt.length + 1 := by rw [hb1]; simp
        obtain ⟨a1, ha1⟩ : ∃ a, a = b4 ++ tw := ⟨_, rfl⟩
        have hl1 : a1.length = b4.length + tw.length := by rw [ha1]; simp
        have hr1 := fun X => HADD.out xt [32] (by simp; omega) X
        rw [ba_app, ← hb1] at hr1
        have hs1 := fun X => HADD.out b4 tw (by omega) X
        rw [ba_app, ← ha1] at hs1
        obtain ⟨b5, hb2⟩ : ∃ b, b = a1 ++ ([32] : Str) := ⟨_, rfl⟩
        have hm2 : b5.length = a1.length + 1 := by rw [hb2]; simp
        obtain ⟨a2, ha2⟩ : ∃ a, a = b5 ++ tn := ⟨_, rfl⟩
        have hl2 : a2.length = b5.length + tn.length := by rw [ha2]; simp
        have hr2 := fun X => HADD.out a1 [32] (by simp; omega) X
        rw [ba_app, ← hb2] at hr2
        have hs2 := fun X => HADD.out b5 tn (by omega) X
        rw [ba_app, ← ha2] at hs2
        have HLL := Lib.hid (show lineR ⟨xk, xt, true, false, true, false⟩ ⟨(n : Int), ew, en, eo, es⟩ = a2 by rw [HLN.out, ha2, hb2, ha1, hb1]; simp [yn, yesB, noB])
        clear hb1 ha1 hb2 ha2 HLN
        go_wp2_with (first
          | (go_at_call 24; with_reducible refine (HH.out _).1.mono ?_; rintro x w7 ⟨rfl, hf⟩; have hf1 : Fr No W w7 := Fr.then_no (by with_reducible assumption) hf; obtain ⟨u0, u1, u2, u3, u4⟩ := HC.out w7 hf1; clear hf)
          | (go_at_call 24; with_reducible refine (HH.out _).2.1.mono ?_; rintro x w7 ⟨rfl, hf⟩; have hf1 : Fr No W w7 := Fr.then_no (by with_reducible assumption) hf; obtain ⟨u0, u1, u2, u3, u4⟩ := HC.out w7 hf1; clear hf)
          | (go_at_call 24; with_reducible refine (HH.out _).2.2.1.mono ?_; rintro x w7 ⟨rfl, hf⟩; have hf1 : Fr No W w7 := Fr.then_no (by with_reducible assumption) hf; obtain ⟨u0, u1, u2, u3, u4⟩ := HC.out w7 hf1; clear hf)
          | (go_at_call 24; with_reducible refine (HH.out _).2.2.2.mono ?_; rintro x w7 ⟨rfl, hf⟩; have hf1 : Fr No W w7 := Fr.then_no (by with_reducible assumption) hf; obtain ⟨u0, u1, u2, u3, u4⟩ := HC.out w7 hf1; clear hf)
          | (go_at_call 25; with_reducible refine (HP1.out _).mono ?_; rintro x w7 ⟨rfl, hw7⟩; subst hw7)
          | (go_at_call 25; with_reducible refine (HP2.out _).mono ?_; rintro x w7 ⟨rfl, hw7⟩; subst hw7)
          | (go_at_call 26; with_reducible refine (HP3.out _).mono ?_; rintro x w7 ⟨rfl, hf⟩; have hf1 : Fr No W w7 := Fr.then_no (by with_reducible assumption) hf; obtain ⟨u0, u1, u2, u3, u4⟩ := HC.out w7 hf1; clear hf))
        refine bodyPost_ret (v := .tuple #[.string ⟨a2.toArray⟩, .int .i64 0]) ?_ rfl ⟨by rw [HLL.out], FA.out.then_no (F1.out.then_no (by assumption))⟩
        simp [results, Tryd.f8, go_sem]
      · cases eo with
        | true =>
          obtain ⟨b4, hb1⟩ : ∃ b, b = xt ++ ([32] : Str) := ⟨_, rfl⟩
          have hm1 : b4.length = xt.length + 1 := by rw [hb1]; simp
          obtain ⟨a1, ha1⟩ : ∃ a, a = b4 ++ tw := ⟨_, rfl⟩
          have hl1 : a1.length = b4.length + tw.length := by rw [ha1]; simp
          have hr1 := fun X => HADD.out xt [32] (by simp; omega) X
          rw [ba_app, ← hb1] at hr1
          have hs1 := fun X => HADD.out b4 tw (by omega) X
          rw [ba_app, ← ha1] at hs1
          obtain ⟨a2, ha2⟩ : ∃ a, a = a1 ++ ([32, 121, 101, 115] : Str) := ⟨_, rfl⟩
          have hl2 : a2.length ≤ a1.length + 4 := by rw [ha2]; simp
          have hs2 := fun X => HADD.out a1 [32, 121, 101, 115] (by simp; omega) X
          rw [ba_app, ← ha2] at hs2
          obtain ⟨b6, hb3⟩ : ∃ b, b = a2 ++ ([32] : Str) := ⟨_, rfl⟩
          have hm3 : b6.length = a2.length + 1 := by rw [hb3]; simp
          obtain ⟨a3, ha3⟩ : ∃ a, a = b6 ++ tn := ⟨_, rfl⟩
          have hl3 : a3.length = b6.length + tn.length := by rw [ha3]; simp
          have hr3 := fun X => HADD.out a2 [32] (by simp; omega) X
          rw [ba_app, ← hb3] at hr3
          have hs3 := fun X => HADD.out b6 tn (by omega) X
          rw [ba_app, ← ha3] at hs3
          have HLL := Lib.hid (show lineR ⟨xk, xt, true, true, true, false⟩ ⟨(n : Int), ew, en, true, es⟩ = a3 by rw [HLN.out, ha3, hb3, ha2, ha1, hb1]; simp [yn, yesB, noB])
          clear hb1 ha1 ha2 hb3 ha3 HLN
          go_wp2_with (first
            | (go_at_call 24; with_reducible refine (HH.out _).1.mono ?_; rintro x w7 ⟨rfl, hf⟩; have hf1 : Fr No W w7 := Fr.then_no (by with_reducible assumption) hf; obtain ⟨u0, u1, u2, u3, u4⟩ := HC.out w7 hf1; clear hf)
            | (go_at_call 24; with_reducible refine (HH.out _).2.1.mono ?_; rintro x w7 ⟨rfl, hf⟩; have hf1 : Fr No W w7 := Fr.then_no (by with_reducible assumption) hf; obtain ⟨u0, u1, u2, u3, u4⟩ := HC.out w7 hf1; clear hf)
            | (go_at_call 24; with_reducible refine (HH.out _).2.2.1.mono ?_; rintro x w7 ⟨rfl, hf⟩; have hf1 : Fr No W w7 := Fr.then_no (by with_reducible assumption) hf; obtain ⟨u0, u1, u2, u3, u4⟩ := HC.out w7 hf1; clear hf)
            | (go_at_call 24; with_reducible refine (HH.out _).2.2.2.mono ?_; rintro x w7 ⟨rfl, hf⟩; have hf1 : Fr No W w7 := Fr.then_no (by with_reducible assumption) hf; obtain ⟨u0, u1, u2, u3, u4⟩ := HC.out w7 hf1; clear hf)
            | (go_at_call 25; with_reducible refine (HP1.out _).mono ?_; rintro x w7 ⟨rfl, hw7⟩; subst hw7)
            | (go_at_call 25; with_reducible refine (HP2.out _).mono ?_; rintro x w7 ⟨rfl, hw7⟩; subst hw7)
            | (go_at_call 26; with_reducible refine (HP3.out _).mono ?_; rintro x w7 ⟨rfl, hf⟩; have hf1 : Fr No W w7 := Fr.then_no (by with_reducible assumption) hf; obtain ⟨u0, u1, u2, u3, u4⟩ := HC.out w7 hf1; clear hf))
          refine bodyPost_ret (v := .tuple #[.string ⟨a3.toArray⟩, .int .i64 0]) ?_ rfl ⟨by rw [HLL.out], FA.out.then_no (F1.out.then_no (by assumption))⟩
          simp [results, Tryd.f8, go_sem]
        | false =>
          obtain ⟨b4, hb1⟩ : ∃ b, b = xt ++ ([32] : Str) := ⟨_, rfl⟩
          have hm1 : b4.length = xt.length + 1 := by rw [hb1]; simp
          obtain ⟨a1, ha1⟩ : ∃ a, a = b4 ++ tw := ⟨_, rfl⟩
          have hl1 : a1.length = b4.length + tw.length := by rw [ha1]; simp
          have hr1 := fun X => HADD.out xt [32] (by simp; omega) X
          rw [ba_app, ← hb1] at hr1
          have hs1 := fun X => HADD.out b4 tw (by omega) X
          rw [ba_app, ← ha1] at hs1
          obtain ⟨a2, ha2⟩ : ∃ a, a = a1 ++ ([32, 110, 111] : Str) := ⟨_, rfl⟩
          have hl2 : a2.length ≤ a1.length + 4 := by rw [ha2]; simp
          have hs2 := fun X => HADD.out a1 [32, 110, 111] (by simp; omega) X
          rw [ba_app, ← ha2] at hs2
          obtain ⟨b6, hb3⟩ : ∃ b, b = a2 ++ ([32] : Str) := ⟨_, rfl⟩
          have hm3 : b6.length = a2.length + 1 := by rw [hb3]; simp
          obtain ⟨a3, ha3⟩ : ∃ a, a = b6 ++ tn := ⟨_, rfl⟩
          have hl3 : a3.length = b6.length + tn.length := by rw [ha3]; simp
          have hr3 := fun X => HADD.out a2 [32] (by simp; omega) X
          rw [ba_app, ← hb3] at hr3
          have hs3 := fun X => HADD.out b6 tn (by omega) X
          rw [ba_app, ← ha3] at hs3
          have HLL := Lib.hid (show lineR ⟨xk, xt, true, true, true, false⟩ ⟨(n : Int), ew, en, false, es⟩ = a3 by rw [HLN.out, ha3, hb3, ha2, ha1, hb1]; simp [yn, yesB, noB])
          clear hb1 ha1 ha2 hb3 ha3 HLN
          go_wp2_with (first
            | (go_at_call 24; with_reducible refine (HH.out _).1.mono ?_; rintro x w7 ⟨rfl, hf⟩; have hf1 : Fr No W w7 := Fr.then_no (by with_reducible assumption) hf; obtain ⟨u0, u1, u2, u3, u4⟩ := HC.out w7 hf1; clear hf)
            | (go_at_call 24; with_reducible refine (HH.out _).2.1.mono ?_; rintro x w7 ⟨rfl, hf⟩; have hf1 : Fr No W w7 := Fr.then_no (by with_reducible assumption) hf; obtain ⟨u0, u1, u2, u3, u4⟩ := HC.out w7 hf1; clear hf)
            | (go_at_call 24; with_reducible refine (HH.out _).2.2.1.mono ?_; rintro x w7 ⟨rfl, hf⟩; have hf1 : Fr No W w7 := Fr.then_no (by with_reducible assumption) hf; obtain ⟨u0, u1, u2, u3, u4⟩ := HC.out w7 hf1; clear hf)
            | (go_at_call 24; with_reducible refine (HH.out _).2.2.2.mono ?_; rintro x w7 ⟨rfl, hf⟩; have hf1 : Fr No W w7 := Fr.then_no (by with_reducible assumption) hf; obtain ⟨u0, u1, u2, u3, u4⟩ := HC.out w7 hf1; clear hf)
            | (go_at_call 25; with_reducible refine (HP1.out _).mono ?_; rintro x w7 ⟨rfl, hw7⟩; subst hw7)
            | (go_at_call 25; with_reducible refine (HP2.out _).mono ?_; rintro x w7 ⟨rfl, hw7⟩; subst hw7)
            | (go_at_call 26; with_reducible refine (HP3.out _).mono ?_; rintro x w7 ⟨rfl, hf⟩; have hf1 : Fr No W w7 := Fr.then_no (by with_reducible assumption) hf; obtain ⟨u0, u1, u2, u3, u4⟩ := HC.out w7 hf1; clear hf))
          refine bodyPost_ret (v := .tuple #[.string ⟨a3.toArray⟩, .int .i64 0]) ?_ rfl ⟨by rw [HLL.out], FA.out.then_no (F1.out.then_no (by assumption))⟩
          simp [results, Tryd.f8, go_sem]
      · obtain ⟨b4, hb1⟩ : ∃ b, b = xt ++ ([32] : Str) := ⟨_, rfl⟩
        have hm1 : b4.length = xt.length + 1 := by rw [hb1]; simp
        obtain ⟨a1, ha1⟩ : ∃ a, a = b4 ++ tn := ⟨_, rfl⟩
        have hl1 : a1.length = b4.length + tn.length := by rw [ha1]; simp
        have hr1 := fun X => HADD.out xt [32] (by simp; omega) X
        rw [ba_app, ← hb1] at hr1
        have hs1 := fun X => HADD.out b4 tn (by omega) X
        rw [ba_app, ← ha1] at hs1
        have HLL := Lib.hid (show lineR ⟨xk, xt, false, false, true, false⟩ ⟨(n : Int), ew, en, eo, es⟩ = a1 by rw [HLN.out, ha1, hb1]; simp [yn, yesB, noB])
        clear hb1 ha1 HLN
        go_wp2_with (first
          | (go_at_call 24; with_reducible refine (HH.out _).1.mono ?_; rintro x w7 ⟨rfl, hf⟩; have hf1 : Fr No W w7 := Fr.then_no (by with_reducible assumption) hf; obtain ⟨u0, u1, u2, u3, u4⟩ := HC.out w7 hf1; clear hf)
          | (go_at_call 24; with_reducible refine (HH.out _).2.1.mono ?_; rintro x w7 ⟨rfl, hf⟩; have hf1 : Fr No W w7 := Fr.then_no (by with_reducible assumption) hf; obtain ⟨u0, u1, u2, u3, u4⟩ := HC.out w7 hf1; clear hf)
          | (go_at_call 24; with_reducible refine (HH.out _).2.2.1.mono ?_; rintro x w7 ⟨rfl, hf⟩; have hf1 : Fr No W w7 := Fr.then_no (by with_reducible assumption) hf; obtain ⟨u0, u1, u2, u3, u4⟩ := HC.out w7 hf1; clear hf)
          | (go_at_call 24; with_reducible refine (HH.out _).2.2.2.mono ?_; rintro x w7 ⟨rfl, hf⟩; have hf1 : Fr No W w7 := Fr.then_no (by with_reducible assumption) hf; obtain ⟨u0, u1, u2, u3, u4⟩ := HC.out w7 hf1; clear hf)
          | (go_at_call 25; with_reducible refine (HP1.out _).mono ?_; rintro x w7 ⟨rfl, hw7⟩; subst hw7)
          | (go_at_call 25; with_reducible refine (HP2.out _).mono ?_; rintro x w7 ⟨rfl, hw7⟩; subst hw7)
          | (go_at_call 26; with_reducible refine (HP3.out _).mono ?_; rintro x w7 ⟨rfl, hf⟩; have hf1 : Fr No W w7 := Fr.then_no (by with_reducible assumption) hf; obtain ⟨u0, u1, u2, u3, u4⟩ := HC.out w7 hf1; clear hf))
        refine bodyPost_ret (v := .tuple #[.string ⟨a1.toArray⟩, .int .i64 0]) ?_ rfl ⟨by rw [HLL.out], FA.out.then_no (F1.out.then_no (by assumption))⟩
        simp [results, Tryd.f8, go_sem]
      · obtain ⟨b4, hb1⟩ : ∃ b, b = xt ++ ([32] : Str) := ⟨_, rfl⟩
        have hm1 : b4.length = xt.length + 1 := by rw [hb1]; simp
        obtain ⟨a1, ha1⟩ : ∃ a, a = b4 ++ ts := ⟨_, rfl⟩
        have hl1 : a1.length = b4.length + ts.length := by rw [ha1]; simp
        have hr1 := fun X => HADD.out xt [32] (by simp; omega) X
        rw [ba_app, ← hb1] at hr1
        have hs1 := fun X => HADD.out b4 ts (by omega) X
        rw [ba_app, ← ha1] at hs1
        have HLL := Lib.hid (show lineR ⟨xk, xt, false, false, false, true⟩ ⟨(n : Int), ew, en, eo, es⟩ = a1 by rw [HLN.out, ha1, hb1]; simp [yn, yesB, noB])
        clear hb1 ha1 HLN
        go_wp2_with (first
          | (go_at_call 24; with_reducible refine (HH.out _).1.mono ?_; rintro x w7 ⟨rfl, hf⟩; have hf1 : Fr No W w7 := Fr.then_no (by with_reducible assumption) hf; obtain ⟨u0, u1, u2, u3, u4⟩ := HC.out w7 hf1; clear hf)
          | (go_at_call 24; with_reducible refine (HH.out _).2.1.mono ?_; rintro x w7 ⟨rfl, hf⟩; have hf1 : Fr No W w7 := Fr.then_no (by with_reducible assumption) hf; obtain ⟨u0, u1, u2, u3, u4⟩ := HC.out w7 hf1; clear hf)
          | (go_at_call 24; with_reducible refine (HH.out _).2.2.1.mono ?_; rintro x w7 ⟨rfl, hf⟩; have hf1 : Fr No W w7 := Fr.then_no (by with_reducible assumption) hf; obtain ⟨u0, u1, u2, u3, u4⟩ := HC.out w7 hf1; clear hf)
          | (go_at_call 24; with_reducible refine (HH.out _).2.2.2.mono ?_; rintro x w7 ⟨rfl, hf⟩; have hf1 : Fr No W w7 := Fr.then_no (by with_reducible assumption) hf; obtain ⟨u0, u1, u2, u3, u4⟩ := HC.out w7 hf1; clear hf)
          | (go_at_call 25; with_reducible refine (HP1.out _).mono ?_; rintro x w7 ⟨rfl, hw7⟩; subst hw7)
          | (go_at_call 25; with_reducible refine (HP2.out _).mono ?_; rintro x w7 ⟨rfl, hw7⟩; subst hw7)
          | (go_at_call 26; with_reducible refine (HP3.out _).mono ?_; rintro x w7 ⟨rfl, hf⟩; have hf1 : Fr No W w7 := Fr.then_no (by with_reducible assumption) hf; obtain ⟨u0, u1, u2, u3, u4⟩ := HC.out w7 hf1; clear hf))
        refine bodyPost_ret (v := .tuple #[.string ⟨a1.toArray⟩, .int .i64 0]) ?_ rfl ⟨by rw [HLL.out], FA.out.then_no (F1.out.then_no (by assumption))⟩
        simp [results, Tryd.f8, go_sem]

end Ev
end Go.Proofs.YtohjnbkehcdoaaaDoor
