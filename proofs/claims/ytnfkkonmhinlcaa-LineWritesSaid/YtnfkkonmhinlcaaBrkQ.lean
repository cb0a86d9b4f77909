/- Package brk: the reference's step with which a text begins. Printed by gen_brkq.py. -/
import Derived.Test.YtnfkkonmhinlcaaBrkL
import Derived.Deep.LoopGhost
import Derived.Outline
namespace Go.Proofs.Ytnfkkonmhinlcaa
open Go.RowKit
set_option linter.unusedVariables false
set_option linter.unusedSimpArgs false
namespace Brk
open Digit Sls
theorem ba_app (a b : Str) : (⟨a.toArray⟩ : ByteArray) ++ ⟨b.toArray⟩ = ⟨(a ++ b).toArray⟩ := by
  apply ByteArray.ext
  simp [ByteArray.data_append]
theorem take4 {s t : Str} (h : s.take 4 = t) (hl : t.length = 4) : s = t ++ s.drop 4 := by
  conv => lhs; rw [← List.take_append_drop 4 s, h]
theorem step_of_w {s : Str} {n : Nat} (h1 : 1 ≤ n) (h2 : n ≤ 99) (h : s.take 4 = [92, 119] ++ two n) : stepR s = (waitO n, 4) := by
  rw [take4 h rfl]
  exact step_w n h1 h2 _
theorem step_of_x {s : Str} {n : Nat} (h2 : n < 256) (h : s.take 4 = [92, 120] ++ hexR n) : stepR s = (sendO [UInt8.ofNat n], 4) := by
  have e := take4 h rfl
  rw [e]
  have e1 : stepR ([92, 120] ++ hexR n ++ s.drop 4) = if (readHexR ((hexR n ++ s.drop 4).take 2)).2 = 0 then ((1, [UInt8.ofNat (readHexR ((hexR n ++ s.drop 4).take 2)).1], 0), 4) else bad := rfl
  have e2 : (hexR n ++ s.drop 4).take 2 = hexR n := rfl
  rw [e1, e2, readHex_hex n h2]
  rfl
theorem step_of_s {s : Str} {c : UInt8} (hl : (signR c).length = 2) (h : s.take 2 = signR c) : stepR s = (sendO [c], 2) := by
  have e : s = signR c ++ s.drop 2 := by conv => lhs; rw [← List.take_append_drop 2 s, h]
  rw [e, step_sign, hl]
/-- None of the words that the reference tries. -/
theorem step_none {d : UInt8} {r : Str} (h1 : d ≠ 100) (h2 : d ≠ 122) (hw : ∀ j, 1 ≤ j → j < 100 → (92 :: d :: r : Str).take 4 ≠ [92, 119] ++ two j) (hx : ∀ n, n < 256 → (92 :: d :: r : Str).take 4 ≠ [92, 120] ++ hexR n ∧ ((signR (UInt8.ofNat n)).length = 2 → (92 :: d :: r : Str).take 2 ≠ signR (UInt8.ofNat n))) : stepR (92 :: d :: r) = bad := by
  show escR d r = bad
  unfold escR
  have g1 : d ≠ 92 := fun e => (hx 92 (by omega)).2 rfl (by rw [e]; rfl)
  have g2 : d ≠ 114 := fun e => (hx 13 (by omega)).2 rfl (by rw [e]; rfl)
  have g3 : d ≠ 110 := fun e => (hx 10 (by omega)).2 rfl (by rw [e]; rfl)
  have g4 : d ≠ 116 := fun e => (hx 9 (by omega)).2 rfl (by rw [e]; rfl)
  rw [if_neg g1, if_neg g2, if_neg g3, if_neg g4, if_neg h1, if_neg h2]
  by_cases g5 : d = 119
  · rw [if_pos g5]
    by_cases hz : numR r = 0
    · rw [if_pos hz]
    · exfalso
      match r, hz with
      | a :: b :: t, hz =>
        refine hw (numR (a :: b :: t)) (by omega) (by have := num_le (a :: b :: t); omega) ?_
        rw [two_num a b t hz, g5]
        rfl
      | [a], hz => exact hz rfl
      | [], hz => exact hz rfl
  · rw [if_neg g5]
    by_cases g6 : d = 120
    · rw [if_pos g6]
      by_cases hz : (readHexR (r.take 2)).2 = 0
      · exfalso
        rcases readHex_cases (r.take 2) with h | ⟨m, hm, h⟩
        · rw [h] at hz; cases hz
        · refine (hx m hm).1 ?_
          rw [g6, ← h]
          rfl
      · rw [if_neg hz]
    · rw [if_neg g6]
def OneIs (p : Op × Nat) (w : World) (e : Ending) (w' : World) : Prop := e = .returned (.tuple #[vOp p.1, .int .i64 p.2]) ∧ Fr No w w'
set_option maxRecDepth 100000 in
set_option maxHeartbeats 4000000 in
theorem rone_plain (s : Str) (c : UInt8) (hc : s.head? = some c) (h92 : ¬ c = 92) (hl : s.length ≤ 1000000) (w : World) : Calls Try.prog 48 #[.string ⟨s.toArray⟩] w (OneIs (stepR s) w) := by
  have hs : s ≠ [] := fun e => by rw [e] at hc; cases hc
  have hsz : 1 ≤ s.length := by cases s with | nil => exact absurd rfl hs | cons c t => simp
  have hix : (⟨s.toArray⟩ : ByteArray)[0]'(by simp [ByteArray.size]; omega) = c := head_ix hc _
  have HV := Lib.hid (show stepR s = if c.toNat < 32 ∨ 126 < c.toNat then bad else (sendO [c], 1) by
    cases s with
    | nil => exact absurd rfl hs
    | cons a t =>
      have e : a = c := by injection hc
      subst e
      show (if a = 92 then _ else _) = _
      rw [if_neg h92])
  have c0 : ((c.toNat : Int) != 92) = true := (u8_f (d := 92) rfl h92).2
  have hsl := fun W : World => slice_to (P := Try.prog) W 9 Try.underlying9 s 1 1 rfl hsz
  rw [show s.take 1 = [c] by cases s with | nil => exact absurd rfl hs | cons a t => injection hc with hc; rw [hc]; rfl] at hsl
  clear h92 hc hs
  by_cases h1 : c.toNat < 32
  · rw [if_pos (.inl h1)] at HV
    go_enter Try.func48, Try.ntmps48
    go_wp2_with fail
    exact bodyPost_ret (v := .tuple #[.agg #[.int .i64 0, .string ⟨#[]⟩, .int .i64 0], .int .i64 0]) (by simp [results, Try.f48, go_sem]; try rfl) rfl ⟨by rw [HV.out]; rfl, (Fr.refl _ _).alloc _⟩
  · by_cases h2 : 126 < c.toNat
    · rw [if_pos (.inr h2)] at HV
      go_enter Try.func48, Try.ntmps48
      go_wp2_with fail
      exact bodyPost_ret (v := .tuple #[.agg #[.int .i64 0, .string ⟨#[]⟩, .int .i64 0], .int .i64 0]) (by simp [results, Try.f48, go_sem]; try rfl) rfl ⟨by rw [HV.out]; rfl, (Fr.refl _ _).alloc _⟩
    · rw [if_neg (by omega)] at HV
      go_enter Try.func48, Try.ntmps48
      go_wp2_with fail
      exact bodyPost_ret (v := .tuple #[.agg #[.int .i64 1, .string ⟨#[c]⟩, .int .i64 0], .int .i64 1]) (by simp [results, Try.f48, go_sem]; try rfl) rfl ⟨by rw [HV.out]; rfl, (Fr.refl _ _).alloc _⟩
set_option maxRecDepth 100000 in
set_option maxHeartbeats 4000000 in
theorem rone_d (s : Str) (hc : s.head? = some 92) (h1 : 1 < s.length) (hd : s[1] = 100) (hl : s.length ≤ 1000000) (w : World) : Calls Try.prog 48 #[.string ⟨s.toArray⟩] w (OneIs (stepR s) w) := by
  have hix : (⟨s.toArray⟩ : ByteArray)[0]'(by simp [ByteArray.size]; omega) = 92 := head_ix hc _
  have hix2 : (⟨s.toArray⟩ : ByteArray)[1]'(by simpa [ByteArray.size] using h1) = 100 := hd
  have HV := Lib.hid (show stepR s = (waitO 1, 2) by
    match s, hc, h1, hd with
    | a :: b :: t, hc, _, hd =>
      have e : a = 92 := by injection hc
      have e2 : b = 100 := hd
      subst e e2
      rfl)
  clear hd hc
  go_enter Try.func48, Try.ntmps48
  go_wp2_with fail
  exact bodyPost_ret (v := .tuple #[.agg #[.int .i64 2, .string ⟨#[]⟩, .int .i64 1], .int .i64 2]) (by simp [results, Try.f48, go_sem]; try rfl) rfl ⟨by rw [HV.out]; rfl, (Fr.refl _ _).alloc _⟩
set_option maxRecDepth 100000 in
set_option maxHeartbeats 4000000 in
theorem rone_z (s : Str) (hc : s.head? = some 92) (h1 : 1 < s.length) (hd : s[1] = 122) (hl : s.length ≤ 1000000) (w : World) : Calls Try.prog 48 #[.string ⟨s.toArray⟩] w (OneIs (stepR s) w) := by
  have hix : (⟨s.toArray⟩ : ByteArray)[0]'(by simp [ByteArray.size]; omega) = 92 := head_ix hc _
  have hix2 : (⟨s.toArray⟩ : ByteArray)[1]'(by simpa [ByteArray.size] using h1) = 122 := hd
  have HV := Lib.hid (show stepR s = ((3, [], 0), 2) by
    match s, hc, h1, hd with
    | a :: b :: t, hc, _, hd =>
      have e : a = 92 := by injection hc
      have e2 : b = 122 := hd
      subst e e2
      rfl)
  clear hd hc
  go_enter Try.func48, Try.ntmps48
  go_wp2_with fail
  exact bodyPost_ret (v := .tuple #[.agg #[.int .i64 3, .string ⟨#[]⟩, .int .i64 0], .int .i64 2]) (by simp [results, Try.f48, go_sem]; try rfl) rfl ⟨by rw [HV.out]; rfl, (Fr.refl _ _).alloc _⟩
set_option maxRecDepth 100000 in
set_option maxHeartbeats 8000000 in
theorem rone_loop (s : Str) (hc : s.head? = some 92) (hd : s.length = 1 ∨ ∃ h1 : 1 < s.length, s[1] ≠ 100 ∧ s[1] ≠ 122) (hl : s.length ≤ 1000000) (w : World) : Calls Try.prog 48 #[.string ⟨s.toArray⟩] w (OneIs (stepR s) w) := by
  have hsz : 1 ≤ s.length := by rcases hd with h | ⟨h, _⟩ <;> omega
  have hix : (⟨s.toArray⟩ : ByteArray)[0]'(by simp [ByteArray.size]; omega) = 92 := head_ix hc _
  have HZ := Lib.hid (show (∀ j, 1 ≤ j → j < 100 → s.take 4 ≠ [92, 119] ++ two j) → (∀ n, n < 256 → s.take 4 ≠ [92, 120] ++ hexR n ∧ ((signR (UInt8.ofNat n)).length = 2 → s.take 2 ≠ signR (UInt8.ofNat n))) → stepR s = bad by
    intro g1 g2
    match s, hc, hd with
    | [a], hc, hd =>
      have e : a = 92 := by injection hc
      subst e; rfl
    | a :: b :: t, hc, hd =>
      have e : a = 92 := by injection hc
      subst e
      rcases hd with h | ⟨h1, h2, h3⟩
      · simp at h
      · exact step_none h2 h3 g1 g2)
  have hs4 := fun (h : 4 ≤ s.length) (W : World) => slice_to (P := Try.prog) W 9 Try.underlying9 s 4 4 rfl h
  have hs2 := fun (h : 2 ≤ s.length) (W : World) => slice_to (P := Try.prog) W 9 Try.underlying9 s 2 2 rfl h
  have HS4 := Lib.hid hs4
  have HS2 := Lib.hid hs2
  clear hs4 hs2 hc
  have HD : (s.length = 1 ∨ ∃ h1 : 1 < s.length, s[1] ≠ 100 ∧ s[1] ≠ 122) := hd
  clear hd
  rcases HD with hd | ⟨h1, hd1, hd2⟩
  · go_enter Try.func48, Try.ntmps48
    go_wp2_with fail
    clear hix
    obtain ⟨g0, hg⟩ : ∃ g0, w.heap.size = g0 := ⟨_, rfl⟩
    have hg0 : w.heap.size ≤ g0 := by omega
    have RB := Blk.new w 69 #[.int .i64 0, .string ⟨#[]⟩, .int .i64 0]
    have HF := (Fr.refl No w).alloc (.cells #[.int .i64 0, .string ⟨#[]⟩, .int .i64 0] 69)
    rw [hg] at RB ⊢
    generalize w.alloc (.cells #[.int .i64 0, .string ⟨#[]⟩, .int .i64 0] 69) = w1 at RB HF ⊢
    clear hg
    have RB := Lib.hid RB
    have HF := Lib.hid HF
    go_loopg [4] 99 (fun g nv wr => ∃ n : Nat, nv = .int .i64 n ∧ 1 ≤ n ∧ n ≤ 100 ∧ g = 100 - n ∧ Hid (∀ j, 1 ≤ j → j < n → s.take 4 ≠ [92, 119] ++ two j) ∧ Hid (Blk wr g0 69 #[.int .i64 0, .string ⟨#[]⟩, .int .i64 0]) ∧ Hid (Fr No w wr))
    case atStart => exact ⟨1, rfl, by omega, by omega, by omega, fun j h1 h2 => absurd h2 (by omega), RB, HF⟩
    case round =>
      clear RB HF
      obtain ⟨n, rfl, hn1, hn2, hgn, HJ, RB, HF⟩ := hrel
      have hN : n = 100 ∨ n < 100 := by omega
      have HW : Hid (∀ j, 1 ≤ j → j < 100 → s.take 4 ≠ [92, 119] ++ two j) := Lib.hid (fun j g1 g2 => by
        by_cases h4 : 4 ≤ s.length
        · exact HJ.out j g1 (by omega)
        · intro e
          have := congrArg List.length e
          simp [two] at this
          omega)
      clear HJ
      obtain ⟨G, hG⟩ : ∃ G, G = gk := ⟨_, rfl⟩
      subst hG
      obtain ⟨wo, hwo⟩ : ∃ wo, wo = wr := ⟨_, rfl⟩
      subst hwo
      rcases hN with rfl | hn100
      all_goals
        go_wp2_with fail
        go_loopg [5] 256 (fun g nv wx => ∃ n : Nat, nv = .int .i64 n ∧ n ≤ 256 ∧ g = 256 - n ∧ Hid (∀ j, j < n → s.take 4 ≠ [92, 120] ++ hexR j ∧ ((signR (UInt8.ofNat j)).length = 2 → s.take 2 ≠ signR (UInt8.ofNat j))) ∧ Hid (Blk wx g0 69 #[.int .i64 0, .string ⟨#[]⟩, .int .i64 0]) ∧ Hid (Fr No w wx))
        case atStart => exact ⟨0, rfl, by omega, by omega, fun j h => absurd h (by omega), RB, HF⟩
        case round =>
          clear RB HF
          obtain ⟨m, rfl, hm, hgm, HM, RB, HF⟩ := hrel
          by_cases hm2 : m < 256
          · obtain ⟨c, hc⟩ : ∃ c, c = UInt8.ofNat m := ⟨_, rfl⟩
            have hcm : c.toNat = m := by rw [hc, UInt8.toNat_ofNat']; omega
            have hcv := conv_one c m hcm
            have hxx := fun W => rhex_any m hm2 W
            have hsh := fun W => rshow_any [c] W (by simp)
            rw [show showR [c] = signR c by simp [showR]] at hsh
            obtain ⟨t, ht⟩ : ∃ t, t = signR c := ⟨_, rfl⟩
            obtain ⟨h, hh⟩ : ∃ h, h = hexR m := ⟨_, rfl⟩
            have hhl : h.length = 2 := by rw [hh]; rfl
            have htl := sign_len c
            rw [← ht] at hsh htl
            rw [← hh] at hxx
            have hcat := ba_app [92, 120] h
            obtain ⟨u, hu⟩ : ∃ u, u = [92, 120] ++ h := ⟨_, rfl⟩
            rw [← hu] at hcat
            obtain ⟨q, hq⟩ : ∃ q, q = s.take 4 := ⟨_, rfl⟩
            obtain ⟨q2, hq2⟩ : ∃ q2, q2 = s.take 2 := ⟨_, rfl⟩
            have HS4' := HS4.out
            have HS2' := HS2.out
            rw [← hq] at HS4'
            rw [← hq2] at HS2'
            have HS4q := Lib.hid HS4'
            have HS2q := Lib.hid HS2'
            clear HS4' HS2'
            have HNA := Lib.hid (show s.take 4 ≠ [92, 120] ++ hexR m by
              rw [← hq, ← hh, ← hu]
              intro e
              have e2 := congrArg List.length e
              rw [hq, hu] at e2
              simp [hhl] at e2
              omega)
            have HB := Lib.hid (show (signR (UInt8.ofNat m)).length = 2 → s.take 2 ≠ signR (UInt8.ofNat m) from fun g1 g2 => by have := congrArg List.length g2; rw [g1, List.length_take] at this; omega)
            have HM2 : Hid (∀ j, j < m + 1 → s.take 4 ≠ [92, 120] ++ hexR j ∧ ((signR (UInt8.ofNat j)).length = 2 → s.take 2 ≠ signR (UInt8.ofNat j))) := Lib.hid (fun j hj => by
              by_cases e : j = m
              · subst e; exact ⟨HNA.out, HB.out⟩
              · exact HM.out j (by omega))
            have hB : t.length = 2 ∨ ((t.length : Int) == 2) = false := by
              by_cases g2 : t.length = 2
              · exact .inl g2
              · exact .inr (beq_eq_false_iff_ne.2 (by omega))
            clear HNA HB htl hu hh ht hc hcm hq hq2 HM
            rcases hB with htl2 | htb
            all_goals
              go_wp2_with fail
              refine (hxx _).mono ?_
              rintro e w3 ⟨rfl, rfl⟩
              go_wp2_with fail
              refine (hsh _).mono ?_
              rintro e w2 ⟨rfl, hf⟩
              have D : Fr No wr w2 := by first | exact ((Fr.refl No wr).alloc _).then_no hf | exact hf
              have RB2 := Lib.hid (RB.out.fr D (fun h => h))
              have HF2 := Lib.hid (HF.out.then_no D)
              clear D hf
              go_wp2_with fail
              go_roundg (256 - (m + 1))
              case measure => omega
              case rel => exact ⟨m + 1, by go_num, by omega, rfl, HM2, RB2, HF2⟩
          · have HV := Lib.hid (show stepR s = bad from HZ.out HW.out (fun j hj => HM.out j (by omega)))
            clear HM HW
            have hf : Fr No wr wr := Fr.refl _ _
            have D : Fr No wr wr := hf
            have RB2 := RB.out.fr D (fun h => h)
            have HF2 := HF.out.then_no D
            have r0 := RB2.cell 0
            have r1 := RB2.cell 1
            have r2 := RB2.cell 2
            have q0 := RB2.frozen 0
            have q1 := RB2.frozen 1
            have q2 := RB2.frozen 2
            simp only [List.getElem?_toArray, List.getElem?_cons_zero, List.getElem?_cons_succ] at r0 r1 r2
            have b9 := Lib.hid (((RB2.put 0 (.int .i64 0)).put 1 (.string ⟨#[]⟩)).put 2 (.int .i64 0))
            have FF := Lib.hid (((HF2.setCell (p := ⟨g0, 0, none⟩) (.inr hg0) (.int .i64 0)).setCell (p := ⟨g0, 1, none⟩) (.inr hg0) (.string ⟨#[]⟩)).setCell (p := ⟨g0, 2, none⟩) (.inr hg0) (.int .i64 0))
            clear D RB2 HF2 hf
            go_wp2_with fail
            have e9 := b9.out
            simp only [List.setIfInBounds_toArray, List.set_cons_zero, List.set_cons_succ] at e9
            have e0 := e9.cell 0
            have e1 := e9.cell 1
            have e2 := e9.cell 2
            simp only [List.getElem?_toArray, List.getElem?_cons_zero, List.getElem?_cons_succ] at e0 e1 e2
            refine bodyPost_ret (v := .tuple #[.agg #[.int .i64 0, .string ⟨#[]⟩, .int .i64 0], .int .i64 0]) ?_ rfl ⟨by rw [HV.out]; rfl, FF.out⟩
            clear e9 r0 r1 r2 q0 q1 q2
            simp [results, Try.f48, go_sem, e0, e1, e2]
  · have hix2 : (⟨s.toArray⟩ : ByteArray)[1]'(by simpa [ByteArray.size] using h1) = s[1] := rfl
    have b1 : ((s[1].toNat : Int) == 100) = false := (u8_f (d := 100) rfl hd1).1
    have b2 : ((s[1].toNat : Int) == 122) = false := (u8_f (d := 122) rfl hd2).1
    clear hd1 hd2
    go_enter Try.func48, Try.ntmps48
    go_wp2_with fail
    clear hix
    obtain ⟨g0, hg⟩ : ∃ g0, w.heap.size = g0 := ⟨_, rfl⟩
    have hg0 : w.heap.size ≤ g0 := by omega
    have RB := Blk.new w 69 #[.int .i64 0, .string ⟨#[]⟩, .int .i64 0]
    have HF := (Fr.refl No w).alloc (.cells #[.int .i64 0, .string ⟨#[]⟩, .int .i64 0] 69)
    rw [hg] at RB ⊢
    generalize w.alloc (.cells #[.int .i64 0, .string ⟨#[]⟩, .int .i64 0] 69) = w1 at RB HF ⊢
    clear hg
    have RB := Lib.hid RB
    have HF := Lib.hid HF
    go_loopg [4] 99 (fun g nv wr => ∃ n : Nat, nv = .int .i64 n ∧ 1 ≤ n ∧ n ≤ 100 ∧ g = 100 - n ∧ Hid (∀ j, 1 ≤ j → j < n → s.take 4 ≠ [92, 119] ++ two j) ∧ Hid (Blk wr g0 69 #[.int .i64 0, .string ⟨#[]⟩, .int .i64 0]) ∧ Hid (Fr No w wr))
    case atStart => exact ⟨1, rfl, by omega, by omega, by omega, fun j h1 h2 => absurd h2 (by omega), RB, HF⟩
    case round =>
      clear RB HF
      obtain ⟨n, rfl, hn1, hn2, hgn, HJ, RB, HF⟩ := hrel
      by_cases hcnd : n < 100 ∧ 4 ≤ s.length
      · obtain ⟨hn, h4⟩ := hcnd
        have hp := fun W => rpad_any (n : Nat) 2 (by omega) (by omega) W
        rw [two_pad n (by omega)] at hp
        have hsl := HS4.out h4
        obtain ⟨q, hq⟩ : ∃ q, q = s.take 4 := ⟨_, rfl⟩
        obtain ⟨p, hp2⟩ : ∃ p, p = two n := ⟨_, rfl⟩
        have hql : q.length = 4 := by rw [hq, List.length_take]; omega
        have hpl : p.length = 2 := by rw [hp2]; rfl
        rw [← hq] at hsl
        rw [← hp2] at hp
        have hcat := ba_app [92, 119] p
        obtain ⟨u, hu⟩ : ∃ u, u = [92, 119] ++ p := ⟨_, rfl⟩
        rw [← hu] at hcat
        by_cases he : q = u
        · have HV := Lib.hid (show stepR s = (waitO n, 4) from step_of_w hn1 (by omega) (by rw [← hq, ← hp2, ← hu]; exact he))
          have heb : (q == u) = true := beq_iff_eq.2 he
          clear hq hp2 hu he
          go_wp2_with fail
          go_region_with (go_at_call 63; refine (hp _).mono ?_; rintro e w2 ⟨rfl, hf⟩)
          all_goals
            have D : Fr No wr w2 := by first | exact ((Fr.refl No wr).drew).then_no hf | exact hf
            have RB2 := RB.out.fr D (fun h => h)
            have HF2 := HF.out.then_no D
            have r0 := RB2.cell 0
            have r1 := RB2.cell 1
            have r2 := RB2.cell 2
            have q0 := RB2.frozen 0
            have q1 := RB2.frozen 1
            have q2 := RB2.frozen 2
            simp only [List.getElem?_toArray, List.getElem?_cons_zero, List.getElem?_cons_succ] at r0 r1 r2
            have b9 := Lib.hid (((RB2.put 0 (.int .i64 2)).put 1 (.string ⟨#[]⟩)).put 2 (.int .i64 (n : Int)))
            have FF := Lib.hid (((HF2.setCell (p := ⟨g0, 0, none⟩) (.inr hg0) (.int .i64 2)).setCell (p := ⟨g0, 1, none⟩) (.inr hg0) (.string ⟨#[]⟩)).setCell (p := ⟨g0, 2, none⟩) (.inr hg0) (.int .i64 (n : Int)))
            clear D RB2 HF2 hf
            go_wp2_with fail
            have e9 := b9.out
            simp only [List.setIfInBounds_toArray, List.set_cons_zero, List.set_cons_succ] at e9
            have e0 := e9.cell 0
            have e1 := e9.cell 1
            have e2 := e9.cell 2
            simp only [List.getElem?_toArray, List.getElem?_cons_zero, List.getElem?_cons_succ] at e0 e1 e2
            refine bodyPost_ret (v := .tuple #[.agg #[.int .i64 2, .string ⟨#[]⟩, .int .i64 (n : Int)], .int .i64 4]) ?_ rfl ⟨by rw [HV.out]; rfl, FF.out⟩
            clear e9 r0 r1 r2 q0 q1 q2
            simp [results, Try.f48, go_sem, e0, e1, e2]
        · have HJ2 : Hid (∀ j, 1 ≤ j → j < n + 1 → s.take 4 ≠ [92, 119] ++ two j) := Lib.hid (fun j g1 g2 => by
            by_cases e : j = n
            · subst e; rw [← hq, ← hp2, ← hu]; exact he
            · exact HJ.out j g1 (by omega))
          have heb : (q == u) = false := beq_eq_false_iff_ne.2 he
          clear hq hp2 hu he HJ
          go_wp2_with fail
          go_region_with (go_at_call 63; refine (hp _).mono ?_; rintro e w2 ⟨rfl, hf⟩)
          all_goals
            have D : Fr No wr w2 := by first | exact ((Fr.refl No wr).drew).then_no hf | exact hf
            have RB2 := Lib.hid (RB.out.fr D (fun h => h))
            have HF2 := Lib.hid (HF.out.then_no D)
            clear D hf
            go_wp2_with fail
            go_roundg (100 - (n + 1))
            case measure => omega
            case rel => exact ⟨n + 1, by go_num, by omega, by omega, rfl, HJ2, by first | exact RB2 | exact RB2.out.drewN _, by first | exact HF2 | exact HF2.out.drew⟩
      · by_cases h4 : 4 ≤ s.length
        · have hn100 : n = 100 := by omega
          subst hn100
          clear hcnd
          have HW : Hid (∀ j, 1 ≤ j → j < 100 → s.take 4 ≠ [92, 119] ++ two j) := Lib.hid (fun j g1 g2 => by
            by_cases h4 : 4 ≤ s.length
            · exact HJ.out j g1 (by omega)
            · intro e
              have := congrArg List.length e
              simp [two] at this
              omega)
          clear HJ
          obtain ⟨G, hG⟩ : ∃ G, G = gk := ⟨_, rfl⟩
          subst hG
          obtain ⟨wo, hwo⟩ : ∃ wo, wo = wr := ⟨_, rfl⟩
          subst hwo
          go_wp2_with fail
          go_loopg [5] 256 (fun g nv wx => ∃ n : Nat, nv = .int .i64 n ∧ n ≤ 256 ∧ g = 256 - n ∧ Hid (∀ j, j < n → s.take 4 ≠ [92, 120] ++ hexR j ∧ ((signR (UInt8.ofNat j)).length = 2 → s.take 2 ≠ signR (UInt8.ofNat j))) ∧ Hid (Blk wx g0 69 #[.int .i64 0, .string ⟨#[]⟩, .int .i64 0]) ∧ Hid (Fr No w wx))
          case atStart => exact ⟨0, rfl, by omega, by omega, fun j h => absurd h (by omega), RB, HF⟩
          case round =>
            clear RB HF
            obtain ⟨m, rfl, hm, hgm, HM, RB, HF⟩ := hrel
            by_cases hm2 : m < 256
            · obtain ⟨c, hc⟩ : ∃ c, c = UInt8.ofNat m := ⟨_, rfl⟩
              have hcm : c.toNat = m := by rw [hc, UInt8.toNat_ofNat']; omega
              have hcv := conv_one c m hcm
              have hxx := fun W => rhex_any m hm2 W
              have hsh := fun W => rshow_any [c] W (by simp)
              rw [show showR [c] = signR c by simp [showR]] at hsh
              obtain ⟨t, ht⟩ : ∃ t, t = signR c := ⟨_, rfl⟩
              obtain ⟨h, hh⟩ : ∃ h, h = hexR m := ⟨_, rfl⟩
              have hhl : h.length = 2 := by rw [hh]; rfl
              have htl := sign_len c
              rw [← ht] at hsh htl
              rw [← hh] at hxx
              have hcat := ba_app [92, 120] h
              obtain ⟨u, hu⟩ : ∃ u, u = [92, 120] ++ h := ⟨_, rfl⟩
              rw [← hu] at hcat
              obtain ⟨q, hq⟩ : ∃ q, q = s.take 4 := ⟨_, rfl⟩
              obtain ⟨q2, hq2⟩ : ∃ q2, q2 = s.take 2 := ⟨_, rfl⟩
              have HS4' := HS4.out
              have HS2' := HS2.out
              rw [← hq] at HS4'
              rw [← hq2] at HS2'
              have HS4q := Lib.hid HS4'
              have HS2q := Lib.hid HS2'
              clear HS4' HS2'
              by_cases ha : 4 ≤ s.length ∧ q = u
              · obtain ⟨h4, hqu⟩ := ha
                have HV := Lib.hid (show stepR s = (sendO [c], 4) by rw [hc]; exact step_of_x hm2 (by rw [← hq, ← hh, ← hu]; exact hqu))
                have hqb : (q == u) = true := beq_iff_eq.2 hqu
                have hsl := HS4q.out h4
                clear hqu htl hu hh ht hc hcm hq hq2
                go_wp2_with fail
                refine (hxx _).mono ?_
                rintro e w3 ⟨rfl, rfl⟩
                go_wp2_with fail
                refine (hsh _).mono ?_
                rintro e w2 ⟨rfl, hf⟩
                have D : Fr No wr w2 := by first | exact ((Fr.refl No wr).alloc _).then_no hf | exact hf
                have RB2 := RB.out.fr D (fun h => h)
                have HF2 := HF.out.then_no D
                have r0 := RB2.cell 0
                have r1 := RB2.cell 1
                have r2 := RB2.cell 2
                have q0 := RB2.frozen 0
                have q1 := RB2.frozen 1
                have q2 := RB2.frozen 2
                simp only [List.getElem?_toArray, List.getElem?_cons_zero, List.getElem?_cons_succ] at r0 r1 r2
                have b9 := Lib.hid (((RB2.put 0 (.int .i64 1)).put 1 (.string ⟨#[c]⟩)).put 2 (.int .i64 0))
                have FF := Lib.hid (((HF2.setCell (p := ⟨g0, 0, none⟩) (.inr hg0) (.int .i64 1)).setCell (p := ⟨g0, 1, none⟩) (.inr hg0) (.string ⟨#[c]⟩)).setCell (p := ⟨g0, 2, none⟩) (.inr hg0) (.int .i64 0))
                clear D RB2 HF2 hf
                go_wp2_with fail
                have e9 := b9.out
                simp only [List.setIfInBounds_toArray, List.set_cons_zero, List.set_cons_succ] at e9
                have e0 := e9.cell 0
                have e1 := e9.cell 1
                have e2 := e9.cell 2
                simp only [List.getElem?_toArray, List.getElem?_cons_zero, List.getElem?_cons_succ] at e0 e1 e2
                refine bodyPost_ret (v := .tuple #[.agg #[.int .i64 1, .string ⟨#[c]⟩, .int .i64 0], .int .i64 4]) ?_ rfl ⟨by rw [HV.out]; rfl, FF.out⟩
                clear e9 r0 r1 r2 q0 q1 q2
                simp [results, Try.f48, go_sem, e0, e1, e2]
              have hqf : (q == u) = false := beq_eq_false_iff_ne.2 fun e => ha ⟨h4, e⟩
              have HNA := Lib.hid (show s.take 4 ≠ [92, 120] ++ hexR m by rw [← hq, ← hh, ← hu]; exact fun e => ha ⟨h4, e⟩)
              have hsl := HS4q.out h4
              have h2 : 2 ≤ s.length := by omega
              clear ha
              by_cases hb : t.length = 2 ∧ q2 = t
              · obtain ⟨htl2, hqt⟩ := hb
                have HV := Lib.hid (show stepR s = (sendO [c], 2) from step_of_s (by rw [← ht]; exact htl2) (by rw [← ht, ← hq2]; exact hqt))
                have hqb : (q2 == t) = true := beq_iff_eq.2 hqt
                have hsl2 := HS2q.out h2
                clear hqt HNA htl hu hh ht hc hcm hq hq2
                go_wp2_with fail
                refine (hxx _).mono ?_
                rintro e w3 ⟨rfl, rfl⟩
                go_wp2_with fail
                refine (hsh _).mono ?_
                rintro e w2 ⟨rfl, hf⟩
                have D : Fr No wr w2 := by first | exact ((Fr.refl No wr).alloc _).then_no hf | exact hf
                have RB2 := RB.out.fr D (fun h => h)
                have HF2 := HF.out.then_no D
                have r0 := RB2.cell 0
                have r1 := RB2.cell 1
                have r2 := RB2.cell 2
                have q0 := RB2.frozen 0
                have q1 := RB2.frozen 1
                have q2 := RB2.frozen 2
                simp only [List.getElem?_toArray, List.getElem?_cons_zero, List.getElem?_cons_succ] at r0 r1 r2
                have b9 := Lib.hid (((RB2.put 0 (.int .i64 1)).put 1 (.string ⟨#[c]⟩)).put 2 (.int .i64 0))
                have FF := Lib.hid (((HF2.setCell (p := ⟨g0, 0, none⟩) (.inr hg0) (.int .i64 1)).setCell (p := ⟨g0, 1, none⟩) (.inr hg0) (.string ⟨#[c]⟩)).setCell (p := ⟨g0, 2, none⟩) (.inr hg0) (.int .i64 0))
                clear D RB2 HF2 hf
                go_wp2_with fail
                have e9 := b9.out
                simp only [List.setIfInBounds_toArray, List.set_cons_zero, List.set_cons_succ] at e9
                have e0 := e9.cell 0
                have e1 := e9.cell 1
                have e2 := e9.cell 2
                simp only [List.getElem?_toArray, List.getElem?_cons_zero, List.getElem?_cons_succ] at e0 e1 e2
                refine bodyPost_ret (v := .tuple #[.agg #[.int .i64 1, .string ⟨#[c]⟩, .int .i64 0], .int .i64 2]) ?_ rfl ⟨by rw [HV.out]; rfl, FF.out⟩
                clear e9 r0 r1 r2 q0 q1 q2
                simp [results, Try.f48, go_sem, e0, e1, e2]
              · have HB := Lib.hid (show (signR (UInt8.ofNat m)).length = 2 → s.take 2 ≠ signR (UInt8.ofNat m) from fun g1 g2 => hb ⟨by rw [ht, hc]; exact g1, by rw [ht, hc, hq2]; exact g2⟩)
                have HM2 : Hid (∀ j, j < m + 1 → s.take 4 ≠ [92, 120] ++ hexR j ∧ ((signR (UInt8.ofNat j)).length = 2 → s.take 2 ≠ signR (UInt8.ofNat j))) := Lib.hid (fun j hj => by
                  by_cases e : j = m
                  · subst e; exact ⟨HNA.out, HB.out⟩
                  · exact HM.out j (by omega))
                have hB : (t.length = 2 ∧ (q2 == t) = false) ∨ ((t.length : Int) == 2) = false := by
                  by_cases g2 : t.length = 2
                  · exact .inl ⟨g2, beq_eq_false_iff_ne.2 fun e => hb ⟨g2, e⟩⟩
                  · exact .inr (beq_eq_false_iff_ne.2 (by omega))
                have hsl2 := HS2q.out h2
                clear hb
                clear HNA HB htl hu hh ht hc hcm hq hq2 HM
                rcases hB with ⟨htl2, hqb⟩ | htb
                all_goals
                  go_wp2_with fail
                  refine (hxx _).mono ?_
                  rintro e w3 ⟨rfl, rfl⟩
                  go_wp2_with fail
                  refine (hsh _).mono ?_
                  rintro e w2 ⟨rfl, hf⟩
                  have D : Fr No wr w2 := by first | exact ((Fr.refl No wr).alloc _).then_no hf | exact hf
                  have RB2 := Lib.hid (RB.out.fr D (fun h => h))
                  have HF2 := Lib.hid (HF.out.then_no D)
                  clear D hf
                  go_wp2_with fail
                  go_roundg (256 - (m + 1))
                  case measure => omega
                  case rel => exact ⟨m + 1, by go_num, by omega, rfl, HM2, RB2, HF2⟩
            · have HV := Lib.hid (show stepR s = bad from HZ.out HW.out (fun j hj => HM.out j (by omega)))
              clear HM HW
              have hf : Fr No wr wr := Fr.refl _ _
              have D : Fr No wr wr := hf
              have RB2 := RB.out.fr D (fun h => h)
              have HF2 := HF.out.then_no D
              have r0 := RB2.cell 0
              have r1 := RB2.cell 1
              have r2 := RB2.cell 2
              have q0 := RB2.frozen 0
              have q1 := RB2.frozen 1
              have q2 := RB2.frozen 2
              simp only [List.getElem?_toArray, List.getElem?_cons_zero, List.getElem?_cons_succ] at r0 r1 r2
              have b9 := Lib.hid (((RB2.put 0 (.int .i64 0)).put 1 (.string ⟨#[]⟩)).put 2 (.int .i64 0))
              have FF := Lib.hid (((HF2.setCell (p := ⟨g0, 0, none⟩) (.inr hg0) (.int .i64 0)).setCell (p := ⟨g0, 1, none⟩) (.inr hg0) (.string ⟨#[]⟩)).setCell (p := ⟨g0, 2, none⟩) (.inr hg0) (.int .i64 0))
              clear D RB2 HF2 hf
              go_wp2_with fail
              have e9 := b9.out
              simp only [List.setIfInBounds_toArray, List.set_cons_zero, List.set_cons_succ] at e9
              have e0 := e9.cell 0
              have e1 := e9.cell 1
              have e2 := e9.cell 2
              simp only [List.getElem?_toArray, List.getElem?_cons_zero, List.getElem?_cons_succ] at e0 e1 e2
              refine bodyPost_ret (v := .tuple #[.agg #[.int .i64 0, .string ⟨#[]⟩, .int .i64 0], .int .i64 0]) ?_ rfl ⟨by rw [HV.out]; rfl, FF.out⟩
              clear e9 r0 r1 r2 q0 q1 q2
              simp [results, Try.f48, go_sem, e0, e1, e2]
        · have h4n : s.length < 4 := by omega
          have h2 : 2 ≤ s.length := by omega
          have hd4 : decide ((4 : Int) ≤ (s.length : Int)) = false := decide_eq_false (by omega)
          have hN : n = 100 ∨ n < 100 := by omega
          clear hcnd h4
          have HW : Hid (∀ j, 1 ≤ j → j < 100 → s.take 4 ≠ [92, 119] ++ two j) := Lib.hid (fun j g1 g2 => by
            by_cases h4 : 4 ≤ s.length
            · exact HJ.out j g1 (by omega)
            · intro e
              have := congrArg List.length e
              simp [two] at this
              omega)
          clear HJ
          obtain ⟨G, hG⟩ : ∃ G, G = gk := ⟨_, rfl⟩
          subst hG
          obtain ⟨wo, hwo⟩ : ∃ wo, wo = wr := ⟨_, rfl⟩
          subst hwo
          rcases hN with rfl | hn100
          all_goals
            go_wp2_with fail
            go_loopg [5] 256 (fun g nv wx => ∃ n : Nat, nv = .int .i64 n ∧ n ≤ 256 ∧ g = 256 - n ∧ Hid (∀ j, j < n → s.take 4 ≠ [92, 120] ++ hexR j ∧ ((signR (UInt8.ofNat j)).length = 2 → s.take 2 ≠ signR (UInt8.ofNat j))) ∧ Hid (Blk wx g0 69 #[.int .i64 0, .string ⟨#[]⟩, .int .i64 0]) ∧ Hid (Fr No w wx))
            case atStart => exact ⟨0, rfl, by omega, by omega, fun j h => absurd h (by omega), RB, HF⟩
            case round =>
              clear RB HF
              obtain ⟨m, rfl, hm, hgm, HM, RB, HF⟩ := hrel
              by_cases hm2 : m < 256
              · obtain ⟨c, hc⟩ : ∃ c, c = UInt8.ofNat m := ⟨_, rfl⟩
                have hcm : c.toNat = m := by rw [hc, UInt8.toNat_ofNat']; omega
                have hcv := conv_one c m hcm
                have hxx := fun W => rhex_any m hm2 W
                have hsh := fun W => rshow_any [c] W (by simp)
                rw [show showR [c] = signR c by simp [showR]] at hsh
                obtain ⟨t, ht⟩ : ∃ t, t = signR c := ⟨_, rfl⟩
                obtain ⟨h, hh⟩ : ∃ h, h = hexR m := ⟨_, rfl⟩
                have hhl : h.length = 2 := by rw [hh]; rfl
                have htl := sign_len c
                rw [← ht] at hsh htl
                rw [← hh] at hxx
                have hcat := ba_app [92, 120] h
                obtain ⟨u, hu⟩ : ∃ u, u = [92, 120] ++ h := ⟨_, rfl⟩
                rw [← hu] at hcat
                obtain ⟨q, hq⟩ : ∃ q, q = s.take 4 := ⟨_, rfl⟩
                obtain ⟨q2, hq2⟩ : ∃ q2, q2 = s.take 2 := ⟨_, rfl⟩
                have HS4' := HS4.out
                have HS2' := HS2.out
                rw [← hq] at HS4'
                rw [← hq2] at HS2'
                have HS4q := Lib.hid HS4'
                have HS2q := Lib.hid HS2'
                clear HS4' HS2'
                have HNA := Lib.hid (show s.take 4 ≠ [92, 120] ++ hexR m by
                  rw [← hq, ← hh, ← hu]
                  intro e
                  have e2 := congrArg List.length e
                  rw [hq, hu] at e2
                  simp [hhl] at e2
                  omega)
                by_cases hb : t.length = 2 ∧ q2 = t
                · obtain ⟨htl2, hqt⟩ := hb
                  have HV := Lib.hid (show stepR s = (sendO [c], 2) from step_of_s (by rw [← ht]; exact htl2) (by rw [← ht, ← hq2]; exact hqt))
                  have hqb : (q2 == t) = true := beq_iff_eq.2 hqt
                  have hsl2 := HS2q.out h2
                  clear hqt HNA htl hu hh ht hc hcm hq hq2
                  go_wp2_with fail
                  refine (hxx _).mono ?_
                  rintro e w3 ⟨rfl, rfl⟩
                  go_wp2_with fail
                  refine (hsh _).mono ?_
                  rintro e w2 ⟨rfl, hf⟩
                  have D : Fr No wr w2 := by first | exact ((Fr.refl No wr).alloc _).then_no hf | exact hf
                  have RB2 := RB.out.fr D (fun h => h)
                  have HF2 := HF.out.then_no D
                  have r0 := RB2.cell 0
                  have r1 := RB2.cell 1
                  have r2 := RB2.cell 2
                  have q0 := RB2.frozen 0
                  have q1 := RB2.frozen 1
                  have q2 := RB2.frozen 2
                  simp only [List.getElem?_toArray, List.getElem?_cons_zero, List.getElem?_cons_succ] at r0 r1 r2
                  have b9 := Lib.hid (((RB2.put 0 (.int .i64 1)).put 1 (.string ⟨#[c]⟩)).put 2 (.int .i64 0))
                  have FF := Lib.hid (((HF2.setCell (p := ⟨g0, 0, none⟩) (.inr hg0) (.int .i64 1)).setCell (p := ⟨g0, 1, none⟩) (.inr hg0) (.string ⟨#[c]⟩)).setCell (p := ⟨g0, 2, none⟩) (.inr hg0) (.int .i64 0))
                  clear D RB2 HF2 hf
                  go_wp2_with fail
                  have e9 := b9.out
                  simp only [List.setIfInBounds_toArray, List.set_cons_zero, List.set_cons_succ] at e9
                  have e0 := e9.cell 0
                  have e1 := e9.cell 1
                  have e2 := e9.cell 2
                  simp only [List.getElem?_toArray, List.getElem?_cons_zero, List.getElem?_cons_succ] at e0 e1 e2
                  refine bodyPost_ret (v := .tuple #[.agg #[.int .i64 1, .string ⟨#[c]⟩, .int .i64 0], .int .i64 2]) ?_ rfl ⟨by rw [HV.out]; rfl, FF.out⟩
                  clear e9 r0 r1 r2 q0 q1 q2
                  simp [results, Try.f48, go_sem, e0, e1, e2]
                · have HB := Lib.hid (show (signR (UInt8.ofNat m)).length = 2 → s.take 2 ≠ signR (UInt8.ofNat m) from fun g1 g2 => hb ⟨by rw [ht, hc]; exact g1, by rw [ht, hc, hq2]; exact g2⟩)
                  have HM2 : Hid (∀ j, j < m + 1 → s.take 4 ≠ [92, 120] ++ hexR j ∧ ((signR (UInt8.ofNat j)).length = 2 → s.take 2 ≠ signR (UInt8.ofNat j))) := Lib.hid (fun j hj => by
                    by_cases e : j = m
                    · subst e; exact ⟨HNA.out, HB.out⟩
                    · exact HM.out j (by omega))
                  have hB : (t.length = 2 ∧ (q2 == t) = false) ∨ ((t.length : Int) == 2) = false := by
                    by_cases g2 : t.length = 2
                    · exact .inl ⟨g2, beq_eq_false_iff_ne.2 fun e => hb ⟨g2, e⟩⟩
                    · exact .inr (beq_eq_false_iff_ne.2 (by omega))
                  have hsl2 := HS2q.out h2
                  clear hb
                  clear HNA HB htl hu hh ht hc hcm hq hq2 HM
                  rcases hB with ⟨htl2, hqb⟩ | htb
                  all_goals
                    go_wp2_with fail
                    refine (hxx _).mono ?_
                    rintro e w3 ⟨rfl, rfl⟩
                    go_wp2_with fail
                    refine (hsh _).mono ?_
                    rintro e w2 ⟨rfl, hf⟩
                    have D : Fr No wr w2 := by first | exact ((Fr.refl No wr).alloc _).then_no hf | exact hf
                    have RB2 := Lib.hid (RB.out.fr D (fun h => h))
                    have HF2 := Lib.hid (HF.out.then_no D)
                    clear D hf
                    go_wp2_with fail
                    go_roundg (256 - (m + 1))
                    case measure => omega
                    case rel => exact ⟨m + 1, by go_num, by omega, rfl, HM2, RB2, HF2⟩
              · have HV := Lib.hid (show stepR s = bad from HZ.out HW.out (fun j hj => HM.out j (by omega)))
                clear HM HW
                have hf : Fr No wr wr := Fr.refl _ _
                have D : Fr No wr wr := hf
                have RB2 := RB.out.fr D (fun h => h)
                have HF2 := HF.out.then_no D
                have r0 := RB2.cell 0
                have r1 := RB2.cell 1
                have r2 := RB2.cell 2
                have q0 := RB2.frozen 0
                have q1 := RB2.frozen 1
                have q2 := RB2.frozen 2
                simp only [List.getElem?_toArray, List.getElem?_cons_zero, List.getElem?_cons_succ] at r0 r1 r2
                have b9 := Lib.hid (((RB2.put 0 (.int .i64 0)).put 1 (.string ⟨#[]⟩)).put 2 (.int .i64 0))
                have FF := Lib.hid (((HF2.setCell (p := ⟨g0, 0, none⟩) (.inr hg0) (.int .i64 0)).setCell (p := ⟨g0, 1, none⟩) (.inr hg0) (.string ⟨#[]⟩)).setCell (p := ⟨g0, 2, none⟩) (.inr hg0) (.int .i64 0))
                clear D RB2 HF2 hf
                go_wp2_with fail
                have e9 := b9.out
                simp only [List.setIfInBounds_toArray, List.set_cons_zero, List.set_cons_succ] at e9
                have e0 := e9.cell 0
                have e1 := e9.cell 1
                have e2 := e9.cell 2
                simp only [List.getElem?_toArray, List.getElem?_cons_zero, List.getElem?_cons_succ] at e0 e1 e2
                refine bodyPost_ret (v := .tuple #[.agg #[.int .i64 0, .string ⟨#[]⟩, .int .i64 0], .int .i64 0]) ?_ rfl ⟨by rw [HV.out]; rfl, FF.out⟩
                clear e9 r0 r1 r2 q0 q1 q2
                simp [results, Try.f48, go_sem, e0, e1, e2]
end Brk
end Go.Proofs.Ytnfkkonmhinlcaa
