/- Package event: the reference's Read. Printed by gen_evi.py. -/
import Derived.Test.YtohjnbkehcdoaaaDoorEvG
import Derived.Test.YtohjnbkehcdoaaaDoorDigitRUns
namespace Go.Proofs.YtohjnbkehcdoaaaDoor
open Go.RowKit
set_option linter.unusedVariables false
set_option linter.unusedSimpArgs false
namespace Ev
open Digit Sls
/-- Where the reference's Read stands: the result, the event. -/
structure Ar (w W : World) (b2 b7 : Nat) (e : E) : Prop where
  res : Blk W b2 23 #[.int .i64 0, .int .i64 0, .int .i64 0, .bool false, .string ⟨#[]⟩]
  ev : Blk W b7 23 (cE e)
  fr : Fr No w W
  ne : b2 ≠ b7
  hw : w.heap.size ≤ b2 ∧ w.heap.size ≤ b7
section
variable {w W W1 : World} {b2 b7 : Nat} {e e' : E}
theorem Ar.no (h : Ar w W b2 b7 e) (hf : Fr No W W1) : Ar w W1 b2 b7 e :=
  ⟨h.res.fr hf (fun h => h), h.ev.fr hf (fun h => h), h.fr.then_no hf, h.ne, h.hw⟩
theorem Ar.put (h : Ar w W b2 b7 e) (i : Nat) (u : Value) (hb : (cE e).setIfInBounds i u = cE e') : Ar w (W.setCell ⟨b7, i, none⟩ u) b2 b7 e' := by
  have hf : Fr (OneB b7) W (W.setCell ⟨b7, i, none⟩ u) := Fr.setCell (F := OneB b7) (Fr.refl _ _) (p := ⟨b7, i, none⟩) (.inl rfl) _
  exact ⟨h.res.fr hf (fun e => h.ne e), hb ▸ h.ev.put i u, h.fr.trans hf (fun k hk hl => by have e : k = b7 := hk; have := h.hw.2; omega), h.ne, h.hw⟩
end
def RreadIs (q : E × Int) (w : World) (x : Ending) (w' : World) : Prop := x = .returned (.tuple #[.agg (cE q.1), .int .i64 q.2]) ∧ Fr No w w'
theorem rret5 {w W : World} {b : Nat} {z a0 a1 a2 a3 a4 : Value} {z1 z2 z3 z4 : Value} (hX : Blk W b 23 #[z, z1, z2, z3, z4]) (hF : Fr No w W) (hle : w.heap.size ≤ b) :
    Blk (((((W.setCell ⟨b, 0, none⟩ a0).setCell ⟨b, 1, none⟩ a1).setCell ⟨b, 2, none⟩ a2).setCell ⟨b, 3, none⟩ a3).setCell ⟨b, 4, none⟩ a4) b 23 #[a0, a1, a2, a3, a4] ∧ Fr No w (((((W.setCell ⟨b, 0, none⟩ a0).setCell ⟨b, 1, none⟩ a1).setCell ⟨b, 2, none⟩ a2).setCell ⟨b, 3, none⟩ a3).setCell ⟨b, 4, none⟩ a4) := by
  refine ⟨by simpa using ((((hX.put 0 a0).put 1 a1).put 2 a2).put 3 a3).put 4 a4, ((((hF.setCell (p := ⟨b, 0, none⟩) (.inr hle) _).setCell (p := ⟨b, 1, none⟩) (.inr hle) _).setCell (p := ⟨b, 2, none⟩) (.inr hle) _).setCell (p := ⟨b, 3, none⟩) (.inr hle) _).setCell (p := ⟨b, 4, none⟩) (.inr hle) _⟩
/-- The kind that the first n words give. -/
def kw (t : Str) : Nat → Int
  | 0 => 0
  | n + 1 => if (match rowsP[n]? with | some r => r.word == t | none => false) then (n : Int) + 1 else kw t n
theorem kw_next {t : Str} {n : Nat} (h : n < rowsP.length) : kw t (n + 1) = if (rowsP[n].word == t) then (n : Int) + 1 else kw t n := by
  rw [kw, List.getElem?_eq_getElem h]
theorem kw_none {t : Str} (h : ∀ r ∈ rowsP, (r.word == t) = false) : ∀ n, kw t n = 0
  | 0 => rfl
  | n + 1 => by
    rw [kw]
    cases hr : rowsP[n]? with
    | none => exact kw_none h n
    | some r =>
      rw [if_neg (by simp only; rw [h r (List.mem_of_getElem? hr)]; decide)]
      exact kw_none h n
theorem kw_all (t : Str) : kw t 10 = match byW t with | none => 0 | some r => r.k := by
  cases hb : byW t with
  | none =>
    refine kw_none (fun r hr => ?_) 10
    have := List.find?_eq_none.1 hb r hr
    simpa using this
  | some r =>
    obtain ⟨hm, rfl⟩ := byW_mem hb
    have : ∀ r ∈ rowsP, kw r.word 10 = r.k := by decide
    exact this r hm
theorem piece_len (s : Str) : (piece s).1.length ≤ s.length ∧ (piece s).2.length ≤ s.length := by
  unfold piece
  cases hc : cutB s with
  | none => exact ⟨Nat.le_refl _, Nat.zero_le _⟩
  | some p =>
    obtain ⟨h, -⟩ := cutB_some (a := p.1) (b := p.2) hc
    constructor
    · show p.1.length ≤ s.length
      rw [h]; simp
    · show p.2.length ≤ s.length
      rw [h]; simp; omega
theorem show_ge (s : Str) : s.length ≤ (showR s).length := by
  induction s with
  | nil => simp
  | cons c s ih =>
    have e : showR (c :: s) = signR c ++ showR s := rfl
    have := (sign_len c).1
    rw [e]; simp; omega
theorem uns_len (s : Str) : (unsP s).1.length ≤ s.length := by
  unfold unsP
  cases hu : unsR s with
  | none => exact Nat.zero_le _
  | some o =>
    have h := show_uns s.length s o (Nat.le_refl _) hu
    have h2 := show_ge o
    rw [h] at h2
    exact h2
theorem bs_eq (a b : Str) : ((⟨a.toArray⟩ : ByteArray) == ⟨b.toArray⟩) = (a == b) := by
  show (a.toArray == b.toArray) = _
  simp
def finR (s : Str) (p : E × Str) : E × Int := if ((putE p.1).2 != 0 || (putE p.1).1 != s) = true then (E0, 3) else (p.1, 0)
set_option maxRecDepth 100000 in
set_option maxHeartbeats 8000000 in
theorem rread38_any (s : Str) (w : World) (hl : s.length ≤ 9000) : Calls Tryd.prog 11 #[.string ⟨s.toArray⟩] w (RreadIs (rreadE s) w) := by
  have hp := piece_any s
  have hpl := piece_len s
  have HRE1 : rreadE s = match byW (piece s).1 with
    | none => (E0, 3)
    | some r => (fun p : E × Str => if ((putE p.1).2 != 0 || (putE p.1).1 != s) = true then (E0, 3) else (p.1, 0)) (rS r (rN r (rY r (rW r ({ E0 with k := r.k }, (piece s).2))))) := rfl
  obtain ⟨⟨t, x0⟩, ht⟩ : ∃ p, p = piece s := ⟨_, rfl⟩
  rw [← ht] at hp hpl HRE1
  clear ht
  have HP := Lib.hid (fun W => hp W (by omega))
  have HRE := Lib.hid HRE1
  have hx0 : x0.length ≤ 9000 := by have := hpl.2; simp only at this; omega
  have HX0 := Lib.hid hx0
  clear hp hpl hx0 HRE1
  have X1 := Blk.new w 23 #[.int .i64 0, .int .i64 0, .int .i64 0, .bool false, .string ⟨#[]⟩]
  have FA := Lib.hid ((Fr.refl No w).alloc (.cells #[.int .i64 0, .int .i64 0, .int .i64 0, .bool false, .string ⟨#[]⟩] 23))
  obtain ⟨b2, hb2⟩ : ∃ b, w.heap.size = b := ⟨_, rfl⟩
  rw [hb2] at X1
  go_enter Tryd.func11, Tryd.ntmps11
  go_upto_region 1 with (fail)
  try rw [hb2]
  have hbw := hb2
  clear hb2
  generalize w.alloc (.cells #[.int .i64 0, .int .i64 0, .int .i64 0, .bool false, .string ⟨#[]⟩] 23) = wa at X1 FA ⊢
  have XX := Lib.hid X1
  clear X1
  go_wp2_with fail
  refine (HP.out _).mono ?_
  rintro x w1 ⟨bb, rfl, hf⟩
  have X2 := XX.out.fr hf (fun h => h)
  have F2 := FA.out.then_no hf
  clear hf XX FA HP
  have hlt := X2.lt
  obtain ⟨b7, hb7⟩ : ∃ b, w1.heap.size = b := ⟨_, rfl⟩
  have HE0 := Lib.hid (show Ar w (w1.alloc (.cells (cE E0) 23)) b2 b7 E0 from ⟨X2.alloc _, by rw [← hb7]; exact Blk.new w1 _ _, F2.alloc _, by omega, by omega, by omega⟩)
  clear X2 F2 hlt
  go_upto_region 3 with (fail)
  try rw [hb7]
  clear hb7
  rw [show (#[Value.int .i64 0, .int .i64 0, .int .i64 0, .bool false, .string ⟨#[]⟩] : Array Value) = cE E0 from rfl]
  generalize w1.alloc (.cells (cE E0) 23) = wb at HE0 ⊢
  clear w1 wa
  go_upto_region 4 with (fail)
  go_loopw [8] (fun i wr => ∃ n : Nat, i = .int .i64 (n : Int) ∧ 1 ≤ n ∧ n ≤ 11 ∧ Hid (Ar w wr b2 b7 { E0 with k := kw t (n - 1) })) (fun i _ => 11 - (intOf i).toNat)
  case atStart => exact ⟨1, rfl, by omega, by omega, HE0.out⟩
  case round =>
    obtain ⟨n, rfl, hn1, hn11, HA⟩ := hrel
    clear HE0
    by_cases hlt : n ≤ 10
    · have hn : n - 1 < rowsP.length := by show n - 1 < 10; omega
      have hwd := fun W => (words_any W).mono fun x w' hq => (show ∃ g, x = .returned (.slice (some ⟨g, 0, none⟩) 11 11) ∧ w'.cell? ⟨g, n, none⟩ = some (.string ⟨rowsP[n - 1].word.toArray⟩) ∧ Fr No W w' from by
        obtain ⟨g, q1, q2, q3⟩ := hq
        have q4 := q2 (n - 1) hn
        rw [show n - 1 + 1 = n by omega] at q4
        exact ⟨g, q1, q4, q3⟩)
      have hkn := kw_next (t := t) hn
      rw [show n - 1 + 1 = n by omega, show ((n - 1 : Nat) : Int) + 1 = (n : Int) by omega] at hkn
      obtain ⟨wd, hwdd⟩ : ∃ x, x = rowsP[n - 1].word := ⟨_, rfl⟩
      rw [← hwdd] at hwd hkn
      have HWD := Lib.hid hwd
      have HKN := Lib.hid hkn
      clear hwd hkn hwdd
      have hk0 : (0 : Int) ≤ (n : Int) := by omega
      have hk1 : (n : Int) < 11 := by omega
      have hk2 : n < 11 := by omega
      go_wp2_with fail
      refine (HWD.out _).mono ?_
      rintro x w6 ⟨g, rfl, hgc, hf⟩
      have HA6 := Lib.hid (HA.out.no hf)
      clear hf HWD
      have e0 := HA6.out.ev.cell 0
      have ef0 := HA6.out.ev.frozen 0
      simp only [cE, List.getElem?_toArray, List.getElem?_cons_zero, List.getElem?_cons_succ] at e0
      cases hb : (wd == t) with
      | true =>
        have hb2 : ((⟨wd.toArray⟩ : ByteArray) == ⟨t.toArray⟩) = true := (bs_eq wd t).trans hb
        rw [hb] at HKN
        have HA7 := Lib.hid (show Ar w (w6.setCell ⟨b7, 0, none⟩ (.int .i64 (n : Int))) b2 b7 { E0 with k := kw t (n + 1 - 1) } from by
          rw [Nat.add_sub_cancel, HKN.out]
          exact HA6.out.put (e' := { E0 with k := (n : Int) }) 0 (.int .i64 (n : Int)) rfl)
        clear HKN
        go_wp2_with fail
        go_roundw
        case rel => exact ⟨n + 1, by go_num, by omega, by omega, HA7.out⟩
        case measure => simp [intOf]; omega
      | false =>
        have hb2 : ((⟨wd.toArray⟩ : ByteArray) == ⟨t.toArray⟩) = false := (bs_eq wd t).trans hb
        rw [hb] at HKN
        have HA7 := Lib.hid (show Ar w w6 b2 b7 { E0 with k := kw t (n + 1 - 1) } from by
          rw [Nat.add_sub_cancel, HKN.out]
          exact HA6.out)
        clear HKN
        go_wp2_with fail
        go_roundw
        case rel => exact ⟨n + 1, by go_num, by omega, by omega, HA7.out⟩
        case measure => simp [intOf]; omega
    · obtain rfl : n = 11 := by omega
      have HE0 := Lib.hid (show Ar w wr b2 b7 { E0 with k := match byW t with | none => 0 | some r => r.k } from by rw [← kw_all t]; exact HA.out)
      clear HA hlt hn1 hn11
      go_upto_region 8 with (fail)
      cases hby : byW t with
      | none =>
        rw [hby] at HRE HE0
        have HE0 := Lib.hid (show Ar w wr b2 b7 E0 from HE0.out)
        have e0 := HE0.out.ev.cell 0
        have ef0 := HE0.out.ev.frozen 0
        have e1 := HE0.out.ev.cell 1
        have ef1 := HE0.out.ev.frozen 1
        have e2 := HE0.out.ev.cell 2
        have ef2 := HE0.out.ev.frozen 2
        have e3 := HE0.out.ev.cell 3
        have ef3 := HE0.out.ev.frozen 3
        have e4 := HE0.out.ev.cell 4
        have ef4 := HE0.out.ev.frozen 4
        simp only [cE, List.getElem?_toArray, List.getElem?_cons_zero, List.getElem?_cons_succ] at e0 e1 e2 e3 e4
        have q0 := HE0.out.res.cell 0
        have qf0 := HE0.out.res.frozen 0
        have q1 := HE0.out.res.cell 1
        have qf1 := HE0.out.res.frozen 1
        have q2 := HE0.out.res.cell 2
        have qf2 := HE0.out.res.frozen 2
        have q3 := HE0.out.res.cell 3
        have qf3 := HE0.out.res.frozen 3
        have q4 := HE0.out.res.cell 4
        have qf4 := HE0.out.res.frozen 4
        simp only [List.getElem?_toArray, List.getElem?_cons_zero, List.getElem?_cons_succ] at q0 q1 q2 q3 q4
        have HR5 := Lib.hid (rret5 (a0 := .int .i64 0) (a1 := .int .i64 0) (a2 := .int .i64 0) (a3 := .bool false) (a4 := .string ⟨#[]⟩) HE0.out.res HE0.out.fr HE0.out.hw.1)
        go_wp2_with fail
        obtain ⟨hY, hF⟩ := HR5.out
        have v0 := hY.cell 0
        have v1 := hY.cell 1
        have v2 := hY.cell 2
        have v3 := hY.cell 3
        have v4 := hY.cell 4
        simp only [List.getElem?_toArray, List.getElem?_cons_zero, List.getElem?_cons_succ] at v0 v1 v2 v3 v4
        refine bodyPost_ret (v := .tuple #[.agg (cE E0), .int .i64 3]) ?_ rfl ⟨by rw [HRE.out], hF⟩
        simp [results, Tryd.f11, go_sem, v0, v1, v2, v3, v4, cE, E0]
      | some r =>
        rw [hby] at HRE HE0
        obtain ⟨hm, -⟩ := byW_mem hby
        obtain ⟨hbk, -, -, hkn⟩ := rows_ok r hm
        have hflag := flags_of hbk
        have hh := has_row hbk
        clear hby hm hbk
        obtain ⟨xk, xt, x2, x3, x4, x5⟩ := r
        have HRE := Lib.hid (show rreadE s = finR s (rS ⟨xk, xt, x2, x3, x4, x5⟩ (rN ⟨xk, xt, x2, x3, x4, x5⟩ (rY ⟨xk, xt, x2, x3, x4, x5⟩ (rW ⟨xk, xt, x2, x3, x4, x5⟩ (⟨xk, 0, 0, false, []⟩, x0))))) from HRE.out)
        have HE0 := Lib.hid (show Ar w wr b2 b7 ⟨xk, 0, 0, false, []⟩ from HE0.out)
        simp only at hflag hkn hh
        simp only [List.mem_cons, List.not_mem_nil, or_false, Prod.mk.injEq] at hflag
        have HH := Lib.hid hh
        clear hh
        have hkb : (xk == 0) = false := by rw [beq_eq_false_iff_ne]; exact hkn
        have e0 := HE0.out.ev.cell 0
        simp only [cE, List.getElem?_toArray, List.getElem?_cons_zero, List.getElem?_cons_succ] at e0
        go_upto_region 11 with (fail)
        clear e0
        rcases hflag with ⟨rfl, rfl, rfl, rfl⟩ | ⟨rfl, rfl, rfl, rfl⟩ | ⟨rfl, rfl, rfl, rfl⟩ | ⟨rfl, rfl, rfl, rfl⟩ | ⟨rfl, rfl, rfl, rfl⟩ | ⟨rfl, rfl, rfl, rfl⟩
        · have HQ0 := Lib.hid (show rreadE s = finR s (rW ⟨xk, xt, true, false, false, false⟩ (⟨xk, 0, 0, false, []⟩, x0)) from by rw [HRE.out]; rfl)
          clear HRE
          have HL0 := HX0
          have hsl : ([] : Str).length ≤ 9000 := Nat.zero_le _
          have e0 := HE0.out.ev.cell 0
          have ef0 := HE0.out.ev.frozen 0
          have e1 := HE0.out.ev.cell 1
          have ef1 := HE0.out.ev.frozen 1
          have e2 := HE0.out.ev.cell 2
          have ef2 := HE0.out.ev.frozen 2
          have e3 := HE0.out.ev.cell 3
          have ef3 := HE0.out.ev.frozen 3
          have e4 := HE0.out.ev.cell 4
          have ef4 := HE0.out.ev.frozen 4
          simp only [cE, List.getElem?_toArray, List.getElem?_cons_zero, List.getElem?_cons_succ] at e0 e1 e2 e3 e4
          go_wp2_with fail
          refine (HH.out _).1.mono ?_
          rintro x W1 ⟨rfl, hf⟩
          clear e0 ef0 e1 ef1 e2 ef2 e3 ef3 e4 ef4
          have HE1 := Lib.hid (HE0.out.no hf)
          clear hf HE0
          have hpc := fun W => piece_any x0 W (by have := HL0.out; omega)
          have hpl := piece_len x0
          obtain ⟨⟨t0, r0⟩, hp⟩ : ∃ p, p = piece x0 := ⟨_, rfl⟩
          rw [← hp] at hpc hpl
          simp only at hpl
          have HPC := Lib.hid hpc
          have HQ1 := Lib.hid (show rreadE s = finR s (⟨xk, (readR t0).1, 0, false, []⟩, r0) from by rw [HQ0.out, show rW ⟨xk, xt, true, false, false, false⟩ (⟨xk, 0, 0, false, []⟩, x0) = (⟨xk, (readR (piece x0).1).1, 0, false, []⟩, (piece x0).2) from rfl, ← hp])
          have HL1 := Lib.hid (show r0.length ≤ 9000 from by have := HL0.out; omega)
          have HT := Lib.hid (show t0.length ≤ 9000 from by have := HL0.out; omega)
          clear hp hpl hpc HQ0 HL0
          have HQ0 := HQ1
          have HL0 := HL1
          clear HQ1 HL1
          have e0 := HE1.out.ev.cell 0
          have ef0 := HE1.out.ev.frozen 0
          have e1 := HE1.out.ev.cell 1
          have ef1 := HE1.out.ev.frozen 1
          have e2 := HE1.out.ev.cell 2
          have ef2 := HE1.out.ev.frozen 2
          have e3 := HE1.out.ev.cell 3
          have ef3 := HE1.out.ev.frozen 3
          have e4 := HE1.out.ev.cell 4
          have ef4 := HE1.out.ev.frozen 4
          simp only [cE, List.getElem?_toArray, List.getElem?_cons_zero, List.getElem?_cons_succ] at e0 e1 e2 e3 e4
          go_wp2_with fail
          refine (HPC.out _).mono ?_
          rintro x W2 ⟨bb2, rfl, hf⟩
          clear e0 ef0 e1 ef1 e2 ef2 e3 ef3 e4 ef4
          have HE2 := Lib.hid (HE1.out.no hf)
          clear hf HE1 HPC
          have hrd := fun W => Digit.rread_any t0 (Nat.le_trans HT.out (by decide)) W
          obtain ⟨⟨num0, cc0⟩, hnum⟩ : ∃ p, p = readR t0 := ⟨_, rfl⟩
          rw [← hnum] at hrd HQ0
          simp only at hrd
          have HRD := Lib.hid hrd
          clear hrd hnum
          have HQ0 := Lib.hid (show rreadE s = finR s (⟨xk, num0, 0, false, []⟩, r0) from HQ0.out)
          go_wp2_with fail
          refine (HRD.out _).mono ?_
          rintro x W3 ⟨rfl, hww⟩
          subst hww
          clear HRD HT
          have e0 := HE2.out.ev.cell 0
          have ef0 := HE2.out.ev.frozen 0
          have e1 := HE2.out.ev.cell 1
          have ef1 := HE2.out.ev.frozen 1
          have e2 := HE2.out.ev.cell 2
          have ef2 := HE2.out.ev.frozen 2
          have e3 := HE2.out.ev.cell 3
          have ef3 := HE2.out.ev.frozen 3
          have e4 := HE2.out.ev.cell 4
          have ef4 := HE2.out.ev.frozen 4
          simp only [cE, List.getElem?_toArray, List.getElem?_cons_zero, List.getElem?_cons_succ] at e0 e1 e2 e3 e4
          have HE3 := Lib.hid (show Ar w (W2.setCell ⟨b7, 1, none⟩ (.int .i64 num0)) b2 b7 ⟨xk, num0, 0, false, []⟩ from HE2.out.put 1 (.int .i64 num0) rfl)
          go_upto_region 15 with (fail)
          clear e0 ef0 e1 ef1 e2 ef2 e3 ef3 e4 ef4
          generalize W2.setCell ⟨b7, 1, none⟩ (.int .i64 num0) = W3 at HE3 ⊢
          clear HE2
          have e0 := HE3.out.ev.cell 0
          have ef0 := HE3.out.ev.frozen 0
          have e1 := HE3.out.ev.cell 1
          have ef1 := HE3.out.ev.frozen 1
          have e2 := HE3.out.ev.cell 2
          have ef2 := HE3.out.ev.frozen 2
          have e3 := HE3.out.ev.cell 3
          have ef3 := HE3.out.ev.frozen 3
          have e4 := HE3.out.ev.cell 4
          have ef4 := HE3.out.ev.frozen 4
          simp only [cE, List.getElem?_toArray, List.getElem?_cons_zero, List.getElem?_cons_succ] at e0 e1 e2 e3 e4
          go_wp2_with fail
          refine (HH.out _).2.1.mono ?_
          rintro x W4 ⟨rfl, hf⟩
          clear e0 ef0 e1 ef1 e2 ef2 e3 ef3 e4 ef4
          have HE4 := Lib.hid (HE3.out.no hf)
          clear hf HE3
          have e0 := HE4.out.ev.cell 0
          have ef0 := HE4.out.ev.frozen 0
          have e1 := HE4.out.ev.cell 1
          have ef1 := HE4.out.ev.frozen 1
          have e2 := HE4.out.ev.cell 2
          have ef2 := HE4.out.ev.frozen 2
          have e3 := HE4.out.ev.cell 3
          have ef3 := HE4.out.ev.frozen 3
          have e4 := HE4.out.ev.cell 4
          have ef4 := HE4.out.ev.frozen 4
          simp only [cE, List.getElem?_toArray, List.getElem?_cons_zero, List.getElem?_cons_succ] at e0 e1 e2 e3 e4
          go_wp2_with fail
          refine (HH.out _).2.2.1.mono ?_
          rintro x W5 ⟨rfl, hf⟩
          clear e0 ef0 e1 ef1 e2 ef2 e3 ef3 e4 ef4
          have HE5 := Lib.hid (HE4.out.no hf)
          clear hf HE4
          have e0 := HE5.out.ev.cell 0
          have ef0 := HE5.out.ev.frozen 0
          have e1 := HE5.out.ev.cell 1
          have ef1 := HE5.out.ev.frozen 1
          have e2 := HE5.out.ev.cell 2
          have ef2 := HE5.out.ev.frozen 2
          have e3 := HE5.out.ev.cell 3
          have ef3 := HE5.out.ev.frozen 3
          have e4 := HE5.out.ev.cell 4
          have ef4 := HE5.out.ev.frozen 4
          simp only [cE, List.getElem?_toArray, List.getElem?_cons_zero, List.getElem?_cons_succ] at e0 e1 e2 e3 e4
          go_wp2_with fail
          refine (HH.out _).2.2.2.mono ?_
          rintro x W6 ⟨rfl, hf⟩
          clear e0 ef0 e1 ef1 e2 ef2 e3 ef3 e4 ef4
          have HE6 := Lib.hid (HE5.out.no hf)
          clear hf HE5
          have hpt := fun W => rput_any ⟨xk, num0, 0, false, []⟩ W (Nat.le_trans hsl (by decide))
          have hqe := show rreadE s = if ((putE ⟨xk, num0, 0, false, []⟩).2 != 0 || (putE ⟨xk, num0, 0, false, []⟩).1 != s) = true then (E0, 3) else (⟨xk, num0, 0, false, []⟩, 0) from HQ0.out
          obtain ⟨⟨ln, cd⟩, hpe⟩ : ∃ p, p = putE ⟨xk, num0, 0, false, []⟩ := ⟨_, rfl⟩
          rw [← hpe] at hpt hqe
          simp only at hqe
          have HPT := Lib.hid hpt
          have HQ := Lib.hid hqe
          clear hpt hqe hpe HQ0
          have e0 := HE6.out.ev.cell 0
          have ef0 := HE6.out.ev.frozen 0
          have e1 := HE6.out.ev.cell 1
          have ef1 := HE6.out.ev.frozen 1
          have e2 := HE6.out.ev.cell 2
          have ef2 := HE6.out.ev.frozen 2
          have e3 := HE6.out.ev.cell 3
          have ef3 := HE6.out.ev.frozen 3
          have e4 := HE6.out.ev.cell 4
          have ef4 := HE6.out.ev.frozen 4
          simp only [cE, List.getElem?_toArray, List.getElem?_cons_zero, List.getElem?_cons_succ] at e0 e1 e2 e3 e4
          go_wp2_with fail
          refine (HPT.out _).mono ?_
          unfold PutIs
          rintro x W7 ⟨rfl, hf⟩
          clear e0 ef0 e1 ef1 e2 ef2 e3 ef3 e4 ef4
          have HE7 := Lib.hid (HE6.out.no hf)
          clear hf HE6 HPT
          simp only
          by_cases hcd : cd = 0
          · subst hcd
            cases hls : (ln == s) with
            | true =>
              have hls2 : ((⟨ln.toArray⟩ : ByteArray) == ⟨s.toArray⟩) = true := (bs_eq ln s).trans hls
              have HQ := Lib.hid (show rreadE s = (⟨xk, num0, 0, false, []⟩, 0) from by rw [HQ.out]; simp [bne, hls])
              have e0 := HE7.out.ev.cell 0
              have ef0 := HE7.out.ev.frozen 0
              have e1 := HE7.out.ev.cell 1
              have ef1 := HE7.out.ev.frozen 1
              have e2 := HE7.out.ev.cell 2
              have ef2 := HE7.out.ev.frozen 2
              have e3 := HE7.out.ev.cell 3
              have ef3 := HE7.out.ev.frozen 3
              have e4 := HE7.out.ev.cell 4
              have ef4 := HE7.out.ev.frozen 4
              simp only [cE, List.getElem?_toArray, List.getElem?_cons_zero, List.getElem?_cons_succ] at e0 e1 e2 e3 e4
              have q0 := HE7.out.res.cell 0
              have qf0 := HE7.out.res.frozen 0
              have q1 := HE7.out.res.cell 1
              have qf1 := HE7.out.res.frozen 1
              have q2 := HE7.out.res.cell 2
              have qf2 := HE7.out.res.frozen 2
              have q3 := HE7.out.res.cell 3
              have qf3 := HE7.out.res.frozen 3
              have q4 := HE7.out.res.cell 4
              have qf4 := HE7.out.res.frozen 4
              simp only [List.getElem?_toArray, List.getElem?_cons_zero, List.getElem?_cons_succ] at q0 q1 q2 q3 q4
              have HR5 := Lib.hid (rret5 (a0 := .int .i64 xk) (a1 := .int .i64 num0) (a2 := .int .i64 0) (a3 := .bool false) (a4 := .string ⟨([] : Str).toArray⟩) HE7.out.res HE7.out.fr HE7.out.hw.1)
              go_wp2_with fail
              obtain ⟨hY, hF⟩ := HR5.out
              have v0 := hY.cell 0
              have v1 := hY.cell 1
              have v2 := hY.cell 2
              have v3 := hY.cell 3
              have v4 := hY.cell 4
              simp only [List.getElem?_toArray, List.getElem?_cons_zero, List.getElem?_cons_succ] at v0 v1 v2 v3 v4
              refine bodyPost_ret (v := .tuple #[.agg (cE ⟨xk, num0, 0, false, []⟩), .int .i64 0]) ?_ rfl ⟨by rw [HQ.out], hF⟩
              simp [results, Tryd.f11, go_sem, v0, v1, v2, v3, v4, cE]
            | false =>
              have hls2 : ((⟨ln.toArray⟩ : ByteArray) == ⟨s.toArray⟩) = false := (bs_eq ln s).trans hls
              have HQ := Lib.hid (show rreadE s = (E0, 3) from by rw [HQ.out]; simp [bne, hls])
              have e0 := HE7.out.ev.cell 0
              have ef0 := HE7.out.ev.frozen 0
              have e1 := HE7.out.ev.cell 1
              have ef1 := HE7.out.ev.frozen 1
              have e2 := HE7.out.ev.cell 2
              have ef2 := HE7.out.ev.frozen 2
              have e3 := HE7.out.ev.cell 3
              have ef3 := HE7.out.ev.frozen 3
              have e4 := HE7.out.ev.cell 4
              have ef4 := HE7.out.ev.frozen 4
              simp only [cE, List.getElem?_toArray, List.getElem?_cons_zero, List.getElem?_cons_succ] at e0 e1 e2 e3 e4
              have q0 := HE7.out.res.cell 0
              have qf0 := HE7.out.res.frozen 0
              have q1 := HE7.out.res.cell 1
              have qf1 := HE7.out.res.frozen 1
              have q2 := HE7.out.res.cell 2
              have qf2 := HE7.out.res.frozen 2
              have q3 := HE7.out.res.cell 3
              have qf3 := HE7.out.res.frozen 3
              have q4 := HE7.out.res.cell 4
              have qf4 := HE7.out.res.frozen 4
              simp only [List.getElem?_toArray, List.getElem?_cons_zero, List.getElem?_cons_succ] at q0 q1 q2 q3 q4
              have HR5 := Lib.hid (rret5 (a0 := .int .i64 0) (a1 := .int .i64 0) (a2 := .int .i64 0) (a3 := .bool false) (a4 := .string ⟨#[]⟩) HE7.out.res HE7.out.fr HE7.out.hw.1)
              go_wp2_with fail
              obtain ⟨hY, hF⟩ := HR5.out
              have v0 := hY.cell 0
              have v1 := hY.cell 1
              have v2 := hY.cell 2
              have v3 := hY.cell 3
              have v4 := hY.cell 4
              simp only [List.getElem?_toArray, List.getElem?_cons_zero, List.getElem?_cons_succ] at v0 v1 v2 v3 v4
              refine bodyPost_ret (v := .tuple #[.agg (cE E0), .int .i64 3]) ?_ rfl ⟨by rw [HQ.out], hF⟩
              simp [results, Tryd.f11, go_sem, v0, v1, v2, v3, v4, cE, E0]
          · have hn : (cd != 0) = true := by rw [bne_iff_ne]; exact hcd
            have HQ := Lib.hid (show rreadE s = (E0, 3) from by rw [HQ.out, hn]; rfl)
            have e0 := HE7.out.ev.cell 0
            have ef0 := HE7.out.ev.frozen 0
            have e1 := HE7.out.ev.cell 1
            have ef1 := HE7.out.ev.frozen 1
            have e2 := HE7.out.ev.cell 2
            have ef2 := HE7.out.ev.frozen 2
            have e3 := HE7.out.ev.cell 3
            have ef3 := HE7.out.ev.frozen 3
            have e4 := HE7.out.ev.cell 4
            have ef4 := HE7.out.ev.frozen 4
            simp only [cE, List.getElem?_toArray, List.getElem?_cons_zero, List.getElem?_cons_succ] at e0 e1 e2 e3 e4
            have q0 := HE7.out.res.cell 0
            have qf0 := HE7.out.res.frozen 0
            have q1 := HE7.out.res.cell 1
            have qf1 := HE7.out.res.frozen 1
            have q2 := HE7.out.res.cell 2
            have qf2 := HE7.out.res.frozen 2
            have q3 := HE7.out.res.cell 3
            have qf3 := HE7.out.res.frozen 3
            have q4 := HE7.out.res.cell 4
            have qf4 := HE7.out.res.frozen 4
            simp only [List.getElem?_toArray, List.getElem?_cons_zero, List.getElem?_cons_succ] at q0 q1 q2 q3 q4
            have HR5 := Lib.hid (rret5 (a0 := .int .i64 0) (a1 := .int .i64 0) (a2 := .int .i64 0) (a3 := .bool false) (a4 := .string ⟨#[]⟩) HE7.out.res HE7.out.fr HE7.out.hw.1)
            go_wp2_with fail
            obtain ⟨hY, hF⟩ := HR5.out
            have v0 := hY.cell 0
            have v1 := hY.cell 1
            have v2 := hY.cell 2
            have v3 := hY.cell 3
            have v4 := hY.cell 4
            simp only [List.getElem?_toArray, List.getElem?_cons_zero, List.getElem?_cons_succ] at v0 v1 v2 v3 v4
            refine bodyPost_ret (v := .tuple #[.agg (cE E0), .int .i64 3]) ?_ rfl ⟨by rw [HQ.out], hF⟩
            simp [results, Tryd.f11, go_sem, v0, v1, v2, v3, v4, cE, E0]
        · have HQ0 := Lib.hid (show rreadE s = finR s (rS ⟨xk, xt, true, false, false, true⟩ (rW ⟨xk, xt, true, false, false, true⟩ (⟨xk, 0, 0, false, []⟩, x0))) from by rw [HRE.out]; rfl)
          clear HRE
          have HL0 := HX0
          have hsl : ([] : Str).length ≤ 9000 := Nat.zero_le _
          have e0 := HE0.out.ev.cell 0
          have ef0 := HE0.out.ev.frozen 0
          have e1 := HE0.out.ev.cell 1
          have ef1 := HE0.out.ev.frozen 1
          have e2 := HE0.out.ev.cell 2
          have ef2 := HE0.out.ev.frozen 2
          have e3 := HE0.out.ev.cell 3
          have ef3 := HE0.out.ev.frozen 3
          have e4 := HE0.out.ev.cell 4
          have ef4 := HE0.out.ev.frozen 4
          simp only [cE, List.getElem?_toArray, List.getElem?_cons_zero, List.getElem?_cons_succ] at e0 e1 e2 e3 e4
          go_wp2_with fail
          refine (HH.out _).1.mono ?_
          rintro x W1 ⟨rfl, hf⟩
          clear e0 ef0 e1 ef1 e2 ef2 e3 ef3 e4 ef4
          have HE1 := Lib.hid (HE0.out.no hf)
          clear hf HE0
          have hpc := fun W => piece_any x0 W (by have := HL0.out; omega)
          have hpl := piece_len x0
          obtain ⟨⟨t0, r0⟩, hp⟩ : ∃ p, p = piece x0 := ⟨_, rfl⟩
          rw [← hp] at hpc hpl
          simp only at hpl
          have HPC := Lib.hid hpc
          have HQ1 := Lib.hid (show rreadE s = finR s (rS ⟨xk, xt, true, false, false, true⟩ (⟨xk, (readR t0).1, 0, false, []⟩, r0)) from by rw [HQ0.out, show rW ⟨xk, xt, true, false, false, true⟩ (⟨xk, 0, 0, false, []⟩, x0) = (⟨xk, (readR (piece x0).1).1, 0, false, []⟩, (piece x0).2) from rfl, ← hp])
          have HL1 := Lib.hid (show r0.length ≤ 9000 from by have := HL0.out; omega)
          have HT := Lib.hid (show t0.length ≤ 9000 from by have := HL0.out; omega)
          clear hp hpl hpc HQ0 HL0
          have HQ0 := HQ1
          have HL0 := HL1
          clear HQ1 HL1
          have e0 := HE1.out.ev.cell 0
          have ef0 := HE1.out.ev.frozen 0
          have e1 := HE1.out.ev.cell 1
          have ef1 := HE1.out.ev.frozen 1
          have e2 := HE1.out.ev.cell 2
          have ef2 := HE1.out.ev.frozen 2
          have e3 := HE1.out.ev.cell 3
          have ef3 := HE1.out.ev.frozen 3
          have e4 := HE1.out.ev.cell 4
          have ef4 := HE1.out.ev.frozen 4
          simp only [cE, List.getElem?_toArray, List.getElem?_cons_zero, List.getElem?_cons_succ] at e0 e1 e2 e3 e4
          go_wp2_with fail
          refine (HPC.out _).mono ?_
          rintro x W2 ⟨bb2, rfl, hf⟩
          clear e0 ef0 e1 ef1 e2 ef2 e3 ef3 e4 ef4
          have HE2 := Lib.hid (HE1.out.no hf)
          clear hf HE1 HPC
          have hrd := fun W => Digit.rread_any t0 (Nat.le_trans HT.out (by decide)) W
          obtain ⟨⟨num0, cc0⟩, hnum⟩ : ∃ p, p = readR t0 := ⟨_, rfl⟩
          rw [← hnum] at hrd HQ0
          simp only at hrd
          have HRD := Lib.hid hrd
          clear hrd hnum
          have HQ0 := Lib.hid (show rreadE s = finR s (rS ⟨xk, xt, true, false, false, true⟩ (⟨xk, num0, 0, false, []⟩, r0)) from HQ0.out)
          go_wp2_with fail
          refine (HRD.out _).mono ?_
          rintro x W3 ⟨rfl, hww⟩
          subst hww
          clear HRD HT
          have e0 := HE2.out.ev.cell 0
          have ef0 := HE2.out.ev.frozen 0
          have e1 := HE2.out.ev.cell 1
          have ef1 := HE2.out.ev.frozen 1
          have e2 := HE2.out.ev.cell 2
          have ef2 := HE2.out.ev.frozen 2
          have e3 := HE2.out.ev.cell 3
          have ef3 := HE2.out.ev.frozen 3
          have e4 := HE2.out.ev.cell 4
          have ef4 := HE2.out.ev.frozen 4
          simp only [cE, List.getElem?_toArray, List.getElem?_cons_zero, List.getElem?_cons_succ] at e0 e1 e2 e3 e4
          have HE3 := Lib.hid (show Ar w (W2.setCell ⟨b7, 1, none⟩ (.int .i64 num0)) b2 b7 ⟨xk, num0, 0, false, []⟩ from HE2.out.put 1 (.int .i64 num0) rfl)
          go_upto_region 15 with (fail)
          clear e0 ef0 e1 ef1 e2 ef2 e3 ef3 e4 ef4
          generalize W2.setCell ⟨b7, 1, none⟩ (.int .i64 num0) = W3 at HE3 ⊢
          clear HE2
          have e0 := HE3.out.ev.cell 0
          have ef0 := HE3.out.ev.frozen 0
          have e1 := HE3.out.ev.cell 1
          have ef1 := HE3.out.ev.frozen 1
          have e2 := HE3.out.ev.cell 2
          have ef2 := HE3.out.ev.frozen 2
          have e3 := HE3.out.ev.cell 3
          have ef3 := HE3.out.ev.frozen 3
          have e4 := HE3.out.ev.cell 4
          have ef4 := HE3.out.ev.frozen 4
          simp only [cE, List.getElem?_toArray, List.getElem?_cons_zero, List.getElem?_cons_succ] at e0 e1 e2 e3 e4
          go_wp2_with fail
          refine (HH.out _).2.1.mono ?_
          rintro x W4 ⟨rfl, hf⟩
          clear e0 ef0 e1 ef1 e2 ef2 e3 ef3 e4 ef4
          have HE4 := Lib.hid (HE3.out.no hf)
          clear hf HE3
          have e0 := HE4.out.ev.cell 0
          have ef0 := HE4.out.ev.frozen 0
          have e1 := HE4.out.ev.cell 1
          have ef1 := HE4.out.ev.frozen 1
          have e2 := HE4.out.ev.cell 2
          have ef2 := HE4.out.ev.frozen 2
          have e3 := HE4.out.ev.cell 3
          have ef3 := HE4.out.ev.frozen 3
          have e4 := HE4.out.ev.cell 4
          have ef4 := HE4.out.ev.frozen 4
          simp only [cE, List.getElem?_toArray, List.getElem?_cons_zero, List.getElem?_cons_succ] at e0 e1 e2 e3 e4
          go_wp2_with fail
          refine (HH.out _).2.2.1.mono ?_
          rintro x W5 ⟨rfl, hf⟩
          clear e0 ef0 e1 ef1 e2 ef2 e3 ef3 e4 ef4
          have HE5 := Lib.hid (HE4.out.no hf)
          clear hf HE4
          have e0 := HE5.out.ev.cell 0
          have ef0 := HE5.out.ev.frozen 0
          have e1 := HE5.out.ev.cell 1
          have ef1 := HE5.out.ev.frozen 1
          have e2 := HE5.out.ev.cell 2
          have ef2 := HE5.out.ev.frozen 2
          have e3 := HE5.out.ev.cell 3
          have ef3 := HE5.out.ev.frozen 3
          have e4 := HE5.out.ev.cell 4
          have ef4 := HE5.out.ev.frozen 4
          simp only [cE, List.getElem?_toArray, List.getElem?_cons_zero, List.getElem?_cons_succ] at e0 e1 e2 e3 e4
          go_wp2_with fail
          refine (HH.out _).2.2.2.mono ?_
          rintro x W6 ⟨rfl, hf⟩
          clear e0 ef0 e1 ef1 e2 ef2 e3 ef3 e4 ef4
          have HE6 := Lib.hid (HE5.out.no hf)
          clear hf HE5
          have hun := fun W => runshow_any r0 W (by have := HL0.out; omega)
          have hul := uns_len r0
          obtain ⟨⟨us, cu⟩, hus⟩ : ∃ p, p = unsP r0 := ⟨_, rfl⟩
          rw [← hus] at hun hul
          simp only at hun hul
          have HUN := Lib.hid hun
          have HQ1 := Lib.hid (show rreadE s = finR s (⟨xk, num0, 0, false, us⟩, r0) from by rw [HQ0.out, show rS ⟨xk, xt, true, false, false, true⟩ (⟨xk, num0, 0, false, []⟩, r0) = (⟨xk, num0, 0, false, (unsP r0).1⟩, r0) from rfl, ← hus])
          clear hsl
          have hsl : us.length ≤ 9000 := by have := HL0.out; omega
          clear hus hun hul HQ0
          have HQ0 := HQ1
          clear HQ1
          have e0 := HE6.out.ev.cell 0
          have ef0 := HE6.out.ev.frozen 0
          have e1 := HE6.out.ev.cell 1
          have ef1 := HE6.out.ev.frozen 1
          have e2 := HE6.out.ev.cell 2
          have ef2 := HE6.out.ev.frozen 2
          have e3 := HE6.out.ev.cell 3
          have ef3 := HE6.out.ev.frozen 3
          have e4 := HE6.out.ev.cell 4
          have ef4 := HE6.out.ev.frozen 4
          simp only [cE, List.getElem?_toArray, List.getElem?_cons_zero, List.getElem?_cons_succ] at e0 e1 e2 e3 e4
          go_wp2_with fail
          refine (HUN.out _).mono ?_
          rintro x W7 ⟨rfl, hf⟩
          clear e0 ef0 e1 ef1 e2 ef2 e3 ef3 e4 ef4
          have HE7 := Lib.hid (HE6.out.no hf)
          clear hf HE6 HUN
          have e0 := HE7.out.ev.cell 0
          have ef0 := HE7.out.ev.frozen 0
          have e1 := HE7.out.ev.cell 1
          have ef1 := HE7.out.ev.frozen 1
          have e2 := HE7.out.ev.cell 2
          have ef2 := HE7.out.ev.frozen 2
          have e3 := HE7.out.ev.cell 3
          have ef3 := HE7.out.ev.frozen 3
          have e4 := HE7.out.ev.cell 4
          have ef4 := HE7.out.ev.frozen 4
          simp only [cE, List.getElem?_toArray, List.getElem?_cons_zero, List.getElem?_cons_succ] at e0 e1 e2 e3 e4
          have HE8 := Lib.hid (show Ar w (W7.setCell ⟨b7, 4, none⟩ (.string ⟨us.toArray⟩)) b2 b7 ⟨xk, num0, 0, false, us⟩ from HE7.out.put 4 (.string ⟨us.toArray⟩) rfl)
          go_upto_region 25 with (fail)
          clear e0 ef0 e1 ef1 e2 ef2 e3 ef3 e4 ef4
          generalize W7.setCell ⟨b7, 4, none⟩ (.string ⟨us.toArray⟩) = W8 at HE8 ⊢
          clear HE7
          have hpt := fun W => rput_any ⟨xk, num0, 0, false, us⟩ W (Nat.le_trans hsl (by decide))
          have hqe := show rreadE s = if ((putE ⟨xk, num0, 0, false, us⟩).2 != 0 || (putE ⟨xk, num0, 0, false, us⟩).1 != s) = true then (E0, 3) else (⟨xk, num0, 0, false, us⟩, 0) from HQ0.out
          obtain ⟨⟨ln, cd⟩, hpe⟩ : ∃ p, p = putE ⟨xk, num0, 0, false, us⟩ := ⟨_, rfl⟩
          rw [← hpe] at hpt hqe
          simp only at hqe
          have HPT := Lib.hid hpt
          have HQ := Lib.hid hqe
          clear hpt hqe hpe HQ0
          have e0 := HE8.out.ev.cell 0
          have ef0 := HE8.out.ev.frozen 0
          have e1 := HE8.out.ev.cell 1
          have ef1 := HE8.out.ev.frozen 1
          have e2 := HE8.out.ev.cell 2
          have ef2 := HE8.out.ev.frozen 2
          have e3 := HE8.out.ev.cell 3
          have ef3 := HE8.out.ev.frozen 3
          have e4 := HE8.out.ev.cell 4
          have ef4 := HE8.out.ev.frozen 4
          simp only [cE, List.getElem?_toArray, List.getElem?_cons_zero, List.getElem?_cons_succ] at e0 e1 e2 e3 e4
          go_wp2_with fail
          refine (HPT.out _).mono ?_
          unfold PutIs
          rintro x W9 ⟨rfl, hf⟩
          clear e0 ef0 e1 ef1 e2 ef2 e3 ef3 e4 ef4
          have HE9 := Lib.hid (HE8.out.no hf)
          clear hf HE8 HPT
          simp only
          by_cases hcd : cd = 0
          · subst hcd
            cases hls : (ln == s) with
            | true =>
              have hls2 : ((⟨ln.toArray⟩ : ByteArray) == ⟨s.toArray⟩) = true := (bs_eq ln s).trans hls
              have HQ := Lib.hid (show rreadE s = (⟨xk, num0, 0, false, us⟩, 0) from by rw [HQ.out]; simp [bne, hls])
              have e0 := HE9.out.ev.cell 0
              have ef0 := HE9.out.ev.frozen 0
              have e1 := HE9.out.ev.cell 1
              have ef1 := HE9.out.ev.frozen 1
              have e2 := HE9.out.ev.cell 2
              have ef2 := HE9.out.ev.frozen 2
              have e3 := HE9.out.ev.cell 3
              have ef3 := HE9.out.ev.frozen 3
              have e4 := HE9.out.ev.cell 4
              have ef4 := HE9.out.ev.frozen 4
              simp only [cE, List.getElem?_toArray, List.getElem?_cons_zero, List.getElem?_cons_succ] at e0 e1 e2 e3 e4
              have q0 := HE9.out.res.cell 0
              have qf0 := HE9.out.res.frozen 0
              have q1 := HE9.out.res.cell 1
              have qf1 := HE9.out.res.frozen 1
              have q2 := HE9.out.res.cell 2
              have qf2 := HE9.out.res.frozen 2
              have q3 := HE9.out.res.cell 3
              have qf3 := HE9.out.res.frozen 3
              have q4 := HE9.out.res.cell 4
              have qf4 := HE9.out.res.frozen 4
              simp only [List.getElem?_toArray, List.getElem?_cons_zero, List.getElem?_cons_succ] at q0 q1 q2 q3 q4
              have HR5 := Lib.hid (rret5 (a0 := .int .i64 xk) (a1 := .int .i64 num0) (a2 := .int .i64 0) (a3 := .bool false) (a4 := .string ⟨(us : Str).toArray⟩) HE9.out.res HE9.out.fr HE9.out.hw.1)
              go_wp2_with fail
              obtain ⟨hY, hF⟩ := HR5.out
              have v0 := hY.cell 0
              have v1 := hY.cell 1
              have v2 := hY.cell 2
              have v3 := hY.cell 3
              have v4 := hY.cell 4
              simp only [List.getElem?_toArray, List.getElem?_cons_zero, List.getElem?_cons_succ] at v0 v1 v2 v3 v4
              refine bodyPost_ret (v := .tuple #[.agg (cE ⟨xk, num0, 0, false, us⟩), .int .i64 0]) ?_ rfl ⟨by rw [HQ.out], hF⟩
              simp [results, Tryd.f11, go_sem, v0, v1, v2, v3, v4, cE]
            | false =>
              have hls2 : ((⟨ln.toArray⟩ : ByteArray) == ⟨s.toArray⟩) = false := (bs_eq ln s).trans hls
              have HQ := Lib.hid (show rreadE s = (E0, 3) from by rw [HQ.out]; simp [bne, hls])
              have e0 := HE9.out.ev.cell 0
              have ef0 := HE9.out.ev.frozen 0
              have e1 := HE9.out.ev.cell 1
              have ef1 := HE9.out.ev.frozen 1
              have e2 := HE9.out.ev.cell 2
              have ef2 := HE9.out.ev.frozen 2
              have e3 := HE9.out.ev.cell 3
              have ef3 := HE9.out.ev.frozen 3
              have e4 := HE9.out.ev.cell 4
              have ef4 := HE9.out.ev.frozen 4
              simp only [cE, List.getElem?_toArray, List.getElem?_cons_zero, List.getElem?_cons_succ] at e0 e1 e2 e3 e4
              have q0 := HE9.out.res.cell 0
              have qf0 := HE9.out.res.frozen 0
              have q1 := HE9.out.res.cell 1
              have qf1 := HE9.out.res.frozen 1
              have q2 := HE9.out.res.cell 2
              have qf2 := HE9.out.res.frozen 2
              have q3 := HE9.out.res.cell 3
              have qf3 := HE9.out.res.frozen 3
              have q4 := HE9.out.res.cell 4
              have qf4 := HE9.out.res.frozen 4
              simp only [List.getElem?_toArray, List.getElem?_cons_zero, List.getElem?_cons_succ] at q0 q1 q2 q3 q4
              have HR5 := Lib.hid (rret5 (a0 := .int .i64 0) (a1 := .int .i64 0) (a2 := .int .i64 0) (a3 := .bool false) (a4 := .string ⟨#[]⟩) HE9.out.res HE9.out.fr HE9.out.hw.1)
              go_wp2_with fail
              obtain ⟨hY, hF⟩ := HR5.out
              have v0 := hY.cell 0
              have v1 := hY.cell 1
              have v2 := hY.cell 2
              have v3 := hY.cell 3
              have v4 := hY.cell 4
              simp only [List.getElem?_toArray, List.getElem?_cons_zero, List.getElem?_cons_succ] at v0 v1 v2 v3 v4
              refine bodyPost_ret (v := .tuple #[.agg (cE E0), .int .i64 3]) ?_ rfl ⟨by rw [HQ.out], hF⟩
              simp [results, Tryd.f11, go_sem, v0, v1, v2, v3, v4, cE, E0]
          · have hn : (cd != 0) = true := by rw [bne_iff_ne]; exact hcd
            have HQ := Lib.hid (show rreadE s = (E0, 3) from by rw [HQ.out, hn]; rfl)
            have e0 := HE9.out.ev.cell 0
            have ef0 := HE9.out.ev.frozen 0
            have e1 := HE9.out.ev.cell 1
            have ef1 := HE9.out.ev.frozen 1
            have e2 := HE9.out.ev.cell 2
            have ef2 := HE9.out.ev.frozen 2
            have e3 := HE9.out.ev.cell 3
            have ef3 := HE9.out.ev.frozen 3
            have e4 := HE9.out.ev.cell 4
            have ef4 := HE9.out.ev.frozen 4
            simp only [cE, List.getElem?_toArray, List.getElem?_cons_zero, List.getElem?_cons_succ] at e0 e1 e2 e3 e4
            have q0 := HE9.out.res.cell 0
            have qf0 := HE9.out.res.frozen 0
            have q1 := HE9.out.res.cell 1
            have qf1 := HE9.out.res.frozen 1
            have q2 := HE9.out.res.cell 2
            have qf2 := HE9.out.res.frozen 2
            have q3 := HE9.out.res.cell 3
            have qf3 := HE9.out.res.frozen 3
            have q4 := HE9.out.res.cell 4
            have qf4 := HE9.out.res.frozen 4
            simp only [List.getElem?_toArray, List.getElem?_cons_zero, List.getElem?_cons_succ] at q0 q1 q2 q3 q4
            have HR5 := Lib.hid (rret5 (a0 := .int .i64 0) (a1 := .int .i64 0) (a2 := .int .i64 0) (a3 := .bool false) (a4 := .string ⟨#[]⟩) HE9.out.res HE9.out.fr HE9.out.hw.1)
            go_wp2_with fail
            obtain ⟨hY, hF⟩ := HR5.out
            have v0 := hY.cell 0
            have v1 := hY.cell 1
            have v2 := hY.cell 2
            have v3 := hY.cell 3
            have v4 := hY.cell 4
            simp only [List.getElem?_toArray, List.getElem?_cons_zero, List.getElem?_cons_succ] at v0 v1 v2 v3 v4
            refine bodyPost_ret (v := .tuple #[.agg (cE E0), .int .i64 3]) ?_ rfl ⟨by rw [HQ.out], hF⟩
            simp [results, Tryd.f11, go_sem, v0, v1, v2, v3, v4, cE, E0]
        · have HQ0 := Lib.hid (show rreadE s = finR s (rN ⟨xk, xt, true, false, true, false⟩ (rW ⟨xk, xt, true, false, true, false⟩ (⟨xk, 0, 0, false, []⟩, x0))) from by rw [HRE.out]; rfl)
          clear HRE
          have HL0 := HX0
          have hsl : ([] : Str).length ≤ 9000 := Nat.zero_le _
          have e0 := HE0.out.ev.cell 0
          have ef0 := HE0.out.ev.frozen 0
          have e1 := HE0.out.ev.cell 1
          have ef1 := HE0.out.ev.frozen 1
          have e2 := HE0.out.ev.cell 2
          have ef2 := HE0.out.ev.frozen 2
          have e3 := HE0.out.ev.cell 3
          have ef3 := HE0.out.ev.frozen 3
          have e4 := HE0.out.ev.cell 4
          have ef4 := HE0.out.ev.frozen 4
          simp only [cE, List.getElem?_toArray, List.getElem?_cons_zero, List.getElem?_cons_succ] at e0 e1 e2 e3 e4
          go_wp2_with fail
          refine (HH.out _).1.mono ?_
          rintro x W1 ⟨rfl, hf⟩
          clear e0 ef0 e1 ef1 e2 ef2 e3 ef3 e4 ef4
          have HE1 := Lib.hid (HE0.out.no hf)
          clear hf HE0
          have hpc := fun W => piece_any x0 W (by have := HL0.out; omega)
          have hpl := piece_len x0
          obtain ⟨⟨t0, r0⟩, hp⟩ : ∃ p, p = piece x0 := ⟨_, rfl⟩
          rw [← hp] at hpc hpl
          simp only at hpl
          have HPC := Lib.hid hpc
          have HQ1 := Lib.hid (show rreadE s = finR s (rN ⟨xk, xt, true, false, true, false⟩ (⟨xk, (readR t0).1, 0, false, []⟩, r0)) from by rw [HQ0.out, show rW ⟨xk, xt, true, false, true, false⟩ (⟨xk, 0, 0, false, []⟩, x0) = (⟨xk, (readR (piece x0).1).1, 0, false, []⟩, (piece x0).2) from rfl, ← hp])
          have HL1 := Lib.hid (show r0.length ≤ 9000 from by have := HL0.out; omega)
          have HT := Lib.hid (show t0.length ≤ 9000 from by have := HL0.out; omega)
          clear hp hpl hpc HQ0 HL0
          have HQ0 := HQ1
          have HL0 := HL1
          clear HQ1 HL1
          have e0 := HE1.out.ev.cell 0
          have ef0 := HE1.out.ev.frozen 0
          have e1 := HE1.out.ev.cell 1
          have ef1 := HE1.out.ev.frozen 1
          have e2 := HE1.out.ev.cell 2
          have ef2 := HE1.out.ev.frozen 2
          have e3 := HE1.out.ev.cell 3
          have ef3 := HE1.out.ev.frozen 3
          have e4 := HE1.out.ev.cell 4
          have ef4 := HE1.out.ev.frozen 4
          simp only [cE, List.getElem?_toArray, List.getElem?_cons_zero, List.getElem?_cons_succ] at e0 e1 e2 e3 e4
          go_wp2_with fail
          refine (HPC.out _).mono ?_
          rintro x W2 ⟨bb2, rfl, hf⟩
          clear e0 ef0 e1 ef1 e2 ef2 e3 ef3 e4 ef4
          have HE2 := Lib.hid (HE1.out.no hf)
          clear hf HE1 HPC
          have hrd := fun W => Digit.rread_any t0 (Nat.le_trans HT.out (by decide)) W
          obtain ⟨⟨num0, cc0⟩, hnum⟩ : ∃ p, p = readR t0 := ⟨_, rfl⟩
          rw [← hnum] at hrd HQ0
          simp only at hrd
          have HRD := Lib.hid hrd
          clear hrd hnum
          have HQ0 := Lib.hid (show rreadE s = finR s (rN ⟨xk, xt, true, false, true, false⟩ (⟨xk, num0, 0, false, []⟩, r0)) from HQ0.out)
          go_wp2_with fail
          refine (HRD.out _).mono ?_
          rintro x W3 ⟨rfl, hww⟩
          subst hww
          clear HRD HT
          have e0 := HE2.out.ev.cell 0
          have ef0 := HE2.out.ev.frozen 0
          have e1 := HE2.out.ev.cell 1
          have ef1 := HE2.out.ev.frozen 1
          have e2 := HE2.out.ev.cell 2
          have ef2 := HE2.out.ev.frozen 2
          have e3 := HE2.out.ev.cell 3
          have ef3 := HE2.out.ev.frozen 3
          have e4 := HE2.out.ev.cell 4
          have ef4 := HE2.out.ev.frozen 4
          simp only [cE, List.getElem?_toArray, List.getElem?_cons_zero, List.getElem?_cons_succ] at e0 e1 e2 e3 e4
          have HE3 := Lib.hid (show Ar w (W2.setCell ⟨b7, 1, none⟩ (.int .i64 num0)) b2 b7 ⟨xk, num0, 0, false, []⟩ from HE2.out.put 1 (.int .i64 num0) rfl)
          go_upto_region 15 with (fail)
          clear e0 ef0 e1 ef1 e2 ef2 e3 ef3 e4 ef4
          generalize W2.setCell ⟨b7, 1, none⟩ (.int .i64 num0) = W3 at HE3 ⊢
          clear HE2
          have e0 := HE3.out.ev.cell 0
          have ef0 := HE3.out.ev.frozen 0
          have e1 := HE3.out.ev.cell 1
          have ef1 := HE3.out.ev.frozen 1
          have e2 := HE3.out.ev.cell 2
          have ef2 := HE3.out.ev.frozen 2
          have e3 := HE3.out.ev.cell 3
          have ef3 := HE3.out.ev.frozen 3
          have e4 := HE3.out.ev.cell 4
          have ef4 := HE3.out.ev.frozen 4
          simp only [cE, List.getElem?_toArray, List.getElem?_cons_zero, List.getElem?_cons_succ] at e0 e1 e2 e3 e4
          go_wp2_with fail
          refine (HH.out _).2.1.mono ?_
          rintro x W4 ⟨rfl, hf⟩
          clear e0 ef0 e1 ef1 e2 ef2 e3 ef3 e4 ef4
          have HE4 := Lib.hid (HE3.out.no hf)
          clear hf HE3
          have e0 := HE4.out.ev.cell 0
          have ef0 := HE4.out.ev.frozen 0
          have e1 := HE4.out.ev.cell 1
          have ef1 := HE4.out.ev.frozen 1
          have e2 := HE4.out.ev.cell 2
          have ef2 := HE4.out.ev.frozen 2
          have e3 := HE4.out.ev.cell 3
          have ef3 := HE4.out.ev.frozen 3
          have e4 := HE4.out.ev.cell 4
          have ef4 := HE4.out.ev.frozen 4
          simp only [cE, List.getElem?_toArray, List.getElem?_cons_zero, List.getElem?_cons_succ] at e0 e1 e2 e3 e4
          go_wp2_with fail
          refine (HH.out _).2.2.1.mono ?_
          rintro x W5 ⟨rfl, hf⟩
          clear e0 ef0 e1 ef1 e2 ef2 e3 ef3 e4 ef4
          have HE5 := Lib.hid (HE4.out.no hf)
          clear hf HE4
          have hpc := fun W => piece_any r0 W (by have := HL0.out; omega)
          have hpl := piece_len r0
          obtain ⟨⟨t2, r2⟩, hp⟩ : ∃ p, p = piece r0 := ⟨_, rfl⟩
          rw [← hp] at hpc hpl
          simp only at hpl
          have HPC := Lib.hid hpc
          have HQ1 := Lib.hid (show rreadE s = finR s (⟨xk, num0, (readR t2).1, false, []⟩, r2) from by rw [HQ0.out, show rN ⟨xk, xt, true, false, true, false⟩ (⟨xk, num0, 0, false, []⟩, r0) = (⟨xk, num0, (readR (piece r0).1).1, false, []⟩, (piece r0).2) from rfl, ← hp])
          have HL1 := Lib.hid (show r2.length ≤ 9000 from by have := HL0.out; omega)
          have HT := Lib.hid (show t2.length ≤ 9000 from by have := HL0.out; omega)
          clear hp hpl hpc HQ0 HL0
          have HQ0 := HQ1
          have HL0 := HL1
          clear HQ1 HL1
          have e0 := HE5.out.ev.cell 0
          have ef0 := HE5.out.ev.frozen 0
          have e1 := HE5.out.ev.cell 1
          have ef1 := HE5.out.ev.frozen 1
          have e2 := HE5.out.ev.cell 2
          have ef2 := HE5.out.ev.frozen 2
          have e3 := HE5.out.ev.cell 3
          have ef3 := HE5.out.ev.frozen 3
          have e4 := HE5.out.ev.cell 4
          have ef4 := HE5.out.ev.frozen 4
          simp only [cE, List.getElem?_toArray, List.getElem?_cons_zero, List.getElem?_cons_succ] at e0 e1 e2 e3 e4
          go_wp2_with fail
          refine (HPC.out _).mono ?_
          rintro x W6 ⟨bb6, rfl, hf⟩
          clear e0 ef0 e1 ef1 e2 ef2 e3 ef3 e4 ef4
          have HE6 := Lib.hid (HE5.out.no hf)
          clear hf HE5 HPC
          have hrd := fun W => Digit.rread_any t2 (Nat.le_trans HT.out (by decide)) W
          obtain ⟨⟨num2, cc2⟩, hnum⟩ : ∃ p, p = readR t2 := ⟨_, rfl⟩
          rw [← hnum] at hrd HQ0
          simp only at hrd
          have HRD := Lib.hid hrd
          clear hrd hnum
          have HQ0 := Lib.hid (show rreadE s = finR s (⟨xk, num0, num2, false, []⟩, r2) from HQ0.out)
          go_wp2_with fail
          refine (HRD.out _).mono ?_
          rintro x W7 ⟨rfl, hww⟩
          subst hww
          clear HRD HT
          have e0 := HE6.out.ev.cell 0
          have ef0 := HE6.out.ev.frozen 0
          have e1 := HE6.out.ev.cell 1
          have ef1 := HE6.out.ev.frozen 1
          have e2 := HE6.out.ev.cell 2
          have ef2 := HE6.out.ev.frozen 2
          have e3 := HE6.out.ev.cell 3
          have ef3 := HE6.out.ev.frozen 3
          have e4 := HE6.out.ev.cell 4
          have ef4 := HE6.out.ev.frozen 4
          simp only [cE, List.getElem?_toArray, List.getElem?_cons_zero, List.getElem?_cons_succ] at e0 e1 e2 e3 e4
          have HE7 := Lib.hid (show Ar w (W6.setCell ⟨b7, 2, none⟩ (.int .i64 num2)) b2 b7 ⟨xk, num0, num2, false, []⟩ from HE6.out.put 2 (.int .i64 num2) rfl)
          go_upto_region 22 with (fail)
          clear e0 ef0 e1 ef1 e2 ef2 e3 ef3 e4 ef4
          generalize W6.setCell ⟨b7, 2, none⟩ (.int .i64 num2) = W7 at HE7 ⊢
          clear HE6
          have e0 := HE7.out.ev.cell 0
          have ef0 := HE7.out.ev.frozen 0
          have e1 := HE7.out.ev.cell 1
          have ef1 := HE7.out.ev.frozen 1
          have e2 := HE7.out.ev.cell 2
          have ef2 := HE7.out.ev.frozen 2
          have e3 := HE7.out.ev.cell 3
          have ef3 := HE7.out.ev.frozen 3
          have e4 := HE7.out.ev.cell 4
          have ef4 := HE7.out.ev.frozen 4
          simp only [cE, List.getElem?_toArray, List.getElem?_cons_zero, List.getElem?_cons_succ] at e0 e1 e2 e3 e4
          go_wp2_with fail
          refine (HH.out _).2.2.2.mono ?_
          rintro x W8 ⟨rfl, hf⟩
          clear e0 ef0 e1 ef1 e2 ef2 e3 ef3 e4 ef4
          have HE8 := Lib.hid (HE7.out.no hf)
          clear hf HE7
          have hpt := fun W => rput_any ⟨xk, num0, num2, false, []⟩ W (Nat.le_trans hsl (by decide))
          have hqe := show rreadE s = if ((putE ⟨xk, num0, num2, false, []⟩).2 != 0 || (putE ⟨xk, num0, num2, false, []⟩).1 != s) = true then (E0, 3) else (⟨xk, num0, num2, false, []⟩, 0) from HQ0.out
          obtain ⟨⟨ln, cd⟩, hpe⟩ : ∃ p, p = putE ⟨xk, num0, num2, false, []⟩ := ⟨_, rfl⟩
          rw [← hpe] at hpt hqe
          simp only at hqe
          have HPT := Lib.hid hpt
          have HQ := Lib.hid hqe
          clear hpt hqe hpe HQ0
          have e0 := HE8.out.ev.cell 0
          have ef0 := HE8.out.ev.frozen 0
          have e1 := HE8.out.ev.cell 1
          have ef1 := HE8.out.ev.frozen 1
          have e2 := HE8.out.ev.cell 2
          have ef2 := HE8.out.ev.frozen 2
          have e3 := HE8.out.ev.cell 3
          have ef3 := HE8.out.ev.frozen 3
          have e4 := HE8.out.ev.cell 4
          have ef4 := HE8.out.ev.frozen 4
          simp only [cE, List.getElem?_toArray, List.getElem?_cons_zero, List.getElem?_cons_succ] at e0 e1 e2 e3 e4
          go_wp2_with fail
          refine (HPT.out _).mono ?_
          unfold PutIs
          rintro x W9 ⟨rfl, hf⟩
          clear e0 ef0 e1 ef1 e2 ef2 e3 ef3 e4 ef4
          have HE9 := Lib.hid (HE8.out.no hf)
          clear hf HE8 HPT
          simp only
          by_cases hcd : cd = 0
          · subst hcd
            cases hls : (ln == s) with
            | true =>
              have hls2 : ((⟨ln.toArray⟩ : ByteArray) == ⟨s.toArray⟩) = true := (bs_eq ln s).trans hls
              have HQ := Lib.hid (show rreadE s = (⟨xk, num0, num2, false, []⟩, 0) from by rw [HQ.out]; simp [bne, hls])
              have e0 := HE9.out.ev.cell 0
              have ef0 := HE9.out.ev.frozen 0
              have e1 := HE9.out.ev.cell 1
              have ef1 := HE9.out.ev.frozen 1
              have e2 := HE9.out.ev.cell 2
              have ef2 := HE9.out.ev.frozen 2
              have e3 := HE9.out.ev.cell 3
              have ef3 := HE9.out.ev.frozen 3
              have e4 := HE9.out.ev.cell 4
              have ef4 := HE9.out.ev.frozen 4
              simp only [cE, List.getElem?_toArray, List.getElem?_cons_zero, List.getElem?_cons_succ] at e0 e1 e2 e3 e4
              have q0 := HE9.out.res.cell 0
              have qf0 := HE9.out.res.frozen 0
              have q1 := HE9.out.res.cell 1
              have qf1 := HE9.out.res.frozen 1
              have q2 := HE9.out.res.cell 2
              have qf2 := HE9.out.res.frozen 2
              have q3 := HE9.out.res.cell 3
              have qf3 := HE9.out.res.frozen 3
              have q4 := HE9.out.res.cell 4
              have qf4 := HE9.out.res.frozen 4
              simp only [List.getElem?_toArray, List.getElem?_cons_zero, List.getElem?_cons_succ] at q0 q1 q2 q3 q4
              have HR5 := Lib.hid (rret5 (a0 := .int .i64 xk) (a1 := .int .i64 num0) (a2 := .int .i64 num2) (a3 := .bool false) (a4 := .string ⟨([] : Str).toArray⟩) HE9.out.res HE9.out.fr HE9.out.hw.1)
              go_wp2_with fail
              obtain ⟨hY, hF⟩ := HR5.out
              have v0 := hY.cell 0
              have v1 := hY.cell 1
              have v2 := hY.cell 2
              have v3 := hY.cell 3
              have v4 := hY.cell 4
              simp only [List.getElem?_toArray, List.getElem?_cons_zero, List.getElem?_cons_succ] at v0 v1 v2 v3 v4
              refine bodyPost_ret (v := .tuple #[.agg (cE ⟨xk, num0, num2, false, []⟩), .int .i64 0]) ?_ rfl ⟨by rw [HQ.out], hF⟩
              simp [results, Tryd.f11, go_sem, v0, v1, v2, v3, v4, cE]
            | false =>
              have hls2 : ((⟨ln.toArray⟩ : ByteArray) == ⟨s.toArray⟩) = false := (bs_eq ln s).trans hls
              have HQ := Lib.hid (show rreadE s = (E0, 3) from by rw [HQ.out]; simp [bne, hls])
              have e0 := HE9.out.ev.cell 0
              have ef0 := HE9.out.ev.frozen 0
              have e1 := HE9.out.ev.cell 1
              have ef1 := HE9.out.ev.frozen 1
              have e2 := HE9.out.ev.cell 2
              have ef2 := HE9.out.ev.frozen 2
              have e3 := HE9.out.ev.cell 3
              have ef3 := HE9.out.ev.frozen 3
              have e4 := HE9.out.ev.cell 4
              have ef4 := HE9.out.ev.frozen 4
              simp only [cE, List.getElem?_toArray, List.getElem?_cons_zero, List.getElem?_cons_succ] at e0 e1 e2 e3 e4
              have q0 := HE9.out.res.cell 0
              have qf0 := HE9.out.res.frozen 0
              have q1 := HE9.out.res.cell 1
              have qf1 := HE9.out.res.frozen 1
              have q2 := HE9.out.res.cell 2
              have qf2 := HE9.out.res.frozen 2
              have q3 := HE9.out.res.cell 3
              have qf3 := HE9.out.res.frozen 3
              have q4 := HE9.out.res.cell 4
              have qf4 := HE9.out.res.frozen 4
              simp only [List.getElem?_toArray, List.getElem?_cons_zero, List.getElem?_cons_succ] at q0 q1 q2 q3 q4
              have HR5 := Lib.hid (rret5 (a0 := .int .i64 0) (a1 := .int .i64 0) (a2 := .int .i64 0) (a3 := .bool false) (a4 := .string ⟨#[]⟩) HE9.out.res HE9.out.fr HE9.out.hw.1)
              go_wp2_with fail
              obtain ⟨hY, hF⟩ := HR5.out
              have v0 := hY.cell 0
              have v1 := hY.cell 1
              have v2 := hY.cell 2
              have v3 := hY.cell 3
              have v4 := hY.cell 4
              simp only [List.getElem?_toArray, List.getElem?_cons_zero, List.getElem?_cons_succ] at v0 v1 v2 v3 v4
              refine bodyPost_ret (v := .tuple #[.agg (cE E0), .int .i64 3]) ?_ rfl ⟨by rw [HQ.out], hF⟩
              simp [results, Tryd.f11, go_sem, v0, v1, v2, v3, v4, cE, E0]
          · have hn : (cd != 0) = true := by rw [bne_iff_ne]; exact hcd
            have HQ := Lib.hid (show rreadE s = (E0, 3) from by rw [HQ.out, hn]; rfl)
            have e0 := HE9.out.ev.cell 0
            have ef0 := HE9.out.ev.frozen 0
            have e1 := HE9.out.ev.cell 1
            have ef1 := HE9.out.ev.frozen 1
            have e2 := HE9.out.ev.cell 2
            have ef2 := HE9.out.ev.frozen 2
            have e3 := HE9.out.ev.cell 3
            have ef3 := HE9.out.ev.frozen 3
            have e4 := HE9.out.ev.cell 4
            have ef4 := HE9.out.ev.frozen 4
            simp only [cE, List.getElem?_toArray, List.getElem?_cons_zero, List.getElem?_cons_succ] at e0 e1 e2 e3 e4
            have q0 := HE9.out.res.cell 0
            have qf0 := HE9.out.res.frozen 0
            have q1 := HE9.out.res.cell 1
            have qf1 := HE9.out.res.frozen 1
            have q2 := HE9.out.res.cell 2
            have qf2 := HE9.out.res.frozen 2
            have q3 := HE9.out.res.cell 3
            have qf3 := HE9.out.res.frozen 3
            have q4 := HE9.out.res.cell 4
            have qf4 := HE9.out.res.frozen 4
            simp only [List.getElem?_toArray, List.getElem?_cons_zero, List.getElem?_cons_succ] at q0 q1 q2 q3 q4
            have HR5 := Lib.hid (rret5 (a0 := .int .i64 0) (a1 := .int .i64 0) (a2 := .int .i64 0) (a3 := .bool false) (a4 := .string ⟨#[]⟩) HE9.out.res HE9.out.fr HE9.out.hw.1)
            go_wp2_with fail
            obtain ⟨hY, hF⟩ := HR5.out
            have v0 := hY.cell 0
            have v1 := hY.cell 1
            have v2 := hY.cell 2
            have v3 := hY.cell 3
            have v4 := hY.cell 4
            simp only [List.getElem?_toArray, List.getElem?_cons_zero, List.getElem?_cons_succ] at v0 v1 v2 v3 v4
            refine bodyPost_ret (v := .tuple #[.agg (cE E0), .int .i64 3]) ?_ rfl ⟨by rw [HQ.out], hF⟩
            simp [results, Tryd.f11, go_sem, v0, v1, v2, v3, v4, cE, E0]
        · have HQ0 := Lib.hid (show rreadE s = finR s (rN ⟨xk, xt, true, true, true, false⟩ (rY ⟨xk, xt, true, true, true, false⟩ (rW ⟨xk, xt, true, true, true, false⟩ (⟨xk, 0, 0, false, []⟩, x0)))) from by rw [HRE.out]; rfl)
          clear HRE
          have HL0 := HX0
          have hsl : ([] : Str).length ≤ 9000 := Nat.zero_le _
          have e0 := HE0.out.ev.cell 0
          have ef0 := HE0.out.ev.frozen 0
          have e1 := HE0.out.ev.cell 1
          have ef1 := HE0.out.ev.frozen 1
          have e2 := HE0.out.ev.cell 2
          have ef2 := HE0.out.ev.frozen 2
          have e3 := HE0.out.ev.cell 3
          have ef3 := HE0.out.ev.frozen 3
          have e4 := HE0.out.ev.cell 4
          have ef4 := HE0.out.ev.frozen 4
          simp only [cE, List.getElem?_toArray, List.getElem?_cons_zero, List.getElem?_cons_succ] at e0 e1 e2 e3 e4
          go_wp2_with fail
          refine (HH.out _).1.mono ?_
          rintro x W1 ⟨rfl, hf⟩
          clear e0 ef0 e1 ef1 e2 ef2 e3 ef3 e4 ef4
          have HE1 := Lib.hid (HE0.out.no hf)
          clear hf HE0
          have hpc := fun W => piece_any x0 W (by have := HL0.out; omega)
          have hpl := piece_len x0
          obtain ⟨⟨t0, r0⟩, hp⟩ : ∃ p, p = piece x0 := ⟨_, rfl⟩
          rw [← hp] at hpc hpl
          simp only at hpl
          have HPC := Lib.hid hpc
          have HQ1 := Lib.hid (show rreadE s = finR s (rN ⟨xk, xt, true, true, true, false⟩ (rY ⟨xk, xt, true, true, true, false⟩ (⟨xk, (readR t0).1, 0, false, []⟩, r0))) from by rw [HQ0.out, show rW ⟨xk, xt, true, true, true, false⟩ (⟨xk, 0, 0, false, []⟩, x0) = (⟨xk, (readR (piece x0).1).1, 0, false, []⟩, (piece x0).2) from rfl, ← hp])
          have HL1 := Lib.hid (show r0.length ≤ 9000 from by have := HL0.out; omega)
          have HT := Lib.hid (show t0.length ≤ 9000 from by have := HL0.out; omega)
          clear hp hpl hpc HQ0 HL0
          have HQ0 := HQ1
          have HL0 := HL1
          clear HQ1 HL1
          have e0 := HE1.out.ev.cell 0
          have ef0 := HE1.out.ev.frozen 0
          have e1 := HE1.out.ev.cell 1
          have ef1 := HE1.out.ev.frozen 1
          have e2 := HE1.out.ev.cell 2
          have ef2 := HE1.out.ev.frozen 2
          have e3 := HE1.out.ev.cell 3
          have ef3 := HE1.out.ev.frozen 3
          have e4 := HE1.out.ev.cell 4
          have ef4 := HE1.out.ev.frozen 4
          simp only [cE, List.getElem?_toArray, List.getElem?_cons_zero, List.getElem?_cons_succ] at e0 e1 e2 e3 e4
          go_wp2_with fail
          refine (HPC.out _).mono ?_
          rintro x W2 ⟨bb2, rfl, hf⟩
          clear e0 ef0 e1 ef1 e2 ef2 e3 ef3 e4 ef4
          have HE2 := Lib.hid (HE1.out.no hf)
          clear hf HE1 HPC
          have hrd := fun W => Digit.rread_any t0 (Nat.le_trans HT.out (by decide)) W
          obtain ⟨⟨num0, cc0⟩, hnum⟩ : ∃ p, p = readR t0 := ⟨_, rfl⟩
          rw [← hnum] at hrd HQ0
          simp only at hrd
          have HRD := Lib.hid hrd
          clear hrd hnum
          have HQ0 := Lib.hid (show rreadE s = finR s (rN ⟨xk, xt, true, true, true, false⟩ (rY ⟨xk, xt, true, true, true, false⟩ (⟨xk, num0, 0, false, []⟩, r0))) from HQ0.out)
          go_wp2_with fail
          refine (HRD.out _).mono ?_
          rintro x W3 ⟨rfl, hww⟩
          subst hww
          clear HRD HT
          have e0 := HE2.out.ev.cell 0
          have ef0 := HE2.out.ev.frozen 0
          have e1 := HE2.out.ev.cell 1
          have ef1 := HE2.out.ev.frozen 1
          have e2 := HE2.out.ev.cell 2
          have ef2 := HE2.out.ev.frozen 2
          have e3 := HE2.out.ev.cell 3
          have ef3 := HE2.out.ev.frozen 3
          have e4 := HE2.out.ev.cell 4
          have ef4 := HE2.out.ev.frozen 4
          simp only [cE, List.getElem?_toArray, List.getElem?_cons_zero, List.getElem?_cons_succ] at e0 e1 e2 e3 e4
          have HE3 := Lib.hid (show Ar w (W2.setCell ⟨b7, 1, none⟩ (.int .i64 num0)) b2 b7 ⟨xk, num0, 0, false, []⟩ from HE2.out.put 1 (.int .i64 num0) rfl)
          go_upto_region 15 with (fail)
          clear e0 ef0 e1 ef1 e2 ef2 e3 ef3 e4 ef4
          generalize W2.setCell ⟨b7, 1, none⟩ (.int .i64 num0) = W3 at HE3 ⊢
          clear HE2
          have e0 := HE3.out.ev.cell 0
          have ef0 := HE3.out.ev.frozen 0
          have e1 := HE3.out.ev.cell 1
          have ef1 := HE3.out.ev.frozen 1
          have e2 := HE3.out.ev.cell 2
          have ef2 := HE3.out.ev.frozen 2
          have e3 := HE3.out.ev.cell 3
          have ef3 := HE3.out.ev.frozen 3
          have e4 := HE3.out.ev.cell 4
          have ef4 := HE3.out.ev.frozen 4
          simp only [cE, List.getElem?_toArray, List.getElem?_cons_zero, List.getElem?_cons_succ] at e0 e1 e2 e3 e4
          go_wp2_with fail
          refine (HH.out _).2.1.mono ?_
          rintro x W4 ⟨rfl, hf⟩
          clear e0 ef0 e1 ef1 e2 ef2 e3 ef3 e4 ef4
          have HE4 := Lib.hid (HE3.out.no hf)
          clear hf HE3
          have hpc := fun W => piece_any r0 W (by have := HL0.out; omega)
          have hpl := piece_len r0
          obtain ⟨⟨t1, r1⟩, hp⟩ : ∃ p, p = piece r0 := ⟨_, rfl⟩
          rw [← hp] at hpc hpl
          simp only at hpl
          have HPC := Lib.hid hpc
          have HQ1 := Lib.hid (show rreadE s = finR s (rN ⟨xk, xt, true, true, true, false⟩ (⟨xk, num0, 0, (t1 == yesB), []⟩, r1)) from by rw [HQ0.out, show rY ⟨xk, xt, true, true, true, false⟩ (⟨xk, num0, 0, false, []⟩, r0) = (⟨xk, num0, 0, ((piece r0).1 == yesB), []⟩, (piece r0).2) from rfl, ← hp])
          have HL1 := Lib.hid (show r1.length ≤ 9000 from by have := HL0.out; omega)
          have HT := Lib.hid (show t1.length ≤ 9000 from by have := HL0.out; omega)
          clear hp hpl hpc HQ0 HL0
          have HQ0 := HQ1
          have HL0 := HL1
          clear HQ1 HL1
          have e0 := HE4.out.ev.cell 0
          have ef0 := HE4.out.ev.frozen 0
          have e1 := HE4.out.ev.cell 1
          have ef1 := HE4.out.ev.frozen 1
          have e2 := HE4.out.ev.cell 2
          have ef2 := HE4.out.ev.frozen 2
          have e3 := HE4.out.ev.cell 3
          have ef3 := HE4.out.ev.frozen 3
          have e4 := HE4.out.ev.cell 4
          have ef4 := HE4.out.ev.frozen 4
          simp only [cE, List.getElem?_toArray, List.getElem?_cons_zero, List.getElem?_cons_succ] at e0 e1 e2 e3 e4
          go_wp2_with fail
          refine (HPC.out _).mono ?_
          rintro x W5 ⟨bb5, rfl, hf⟩
          clear e0 ef0 e1 ef1 e2 ef2 e3 ef3 e4 ef4
          have HE5 := Lib.hid (HE4.out.no hf)
          clear hf HE4 HPC
          have e0 := HE5.out.ev.cell 0
          have ef0 := HE5.out.ev.frozen 0
          have e1 := HE5.out.ev.cell 1
          have ef1 := HE5.out.ev.frozen 1
          have e2 := HE5.out.ev.cell 2
          have ef2 := HE5.out.ev.frozen 2
          have e3 := HE5.out.ev.cell 3
          have ef3 := HE5.out.ev.frozen 3
          have e4 := HE5.out.ev.cell 4
          have ef4 := HE5.out.ev.frozen 4
          simp only [cE, List.getElem?_toArray, List.getElem?_cons_zero, List.getElem?_cons_succ] at e0 e1 e2 e3 e4
          have HE6 := Lib.hid (show Ar w (W5.setCell ⟨b7, 3, none⟩ (.bool (t1 == yesB))) b2 b7 ⟨xk, num0, 0, (t1 == yesB), []⟩ from HE5.out.put 3 (.bool (t1 == yesB)) rfl)
          go_upto_region 18 with (fail)
          clear e0 ef0 e1 ef1 e2 ef2 e3 ef3 e4 ef4
          try rw [show (t1 == [121, 101, 115]) = (t1 == yesB) from rfl]
          generalize W5.setCell ⟨b7, 3, none⟩ (.bool (t1 == yesB)) = W6 at HE6 ⊢
          clear HE5
          generalize (t1 == yesB) = yv at HE6 HQ0 ⊢
          have e0 := HE6.out.ev.cell 0
          have ef0 := HE6.out.ev.frozen 0
          have e1 := HE6.out.ev.cell 1
          have ef1 := HE6.out.ev.frozen 1
          have e2 := HE6.out.ev.cell 2
          have ef2 := HE6.out.ev.frozen 2
          have e3 := HE6.out.ev.cell 3
          have ef3 := HE6.out.ev.frozen 3
          have e4 := HE6.out.ev.cell 4
          have ef4 := HE6.out.ev.frozen 4
          simp only [cE, List.getElem?_toArray, List.getElem?_cons_zero, List.getElem?_cons_succ] at e0 e1 e2 e3 e4
          go_wp2_with fail
          refine (HH.out _).2.2.1.mono ?_
          rintro x W7 ⟨rfl, hf⟩
          clear e0 ef0 e1 ef1 e2 ef2 e3 ef3 e4 ef4
          have HE7 := Lib.hid (HE6.out.no hf)
          clear hf HE6
          have hpc := fun W => piece_any r1 W (by have := HL0.out; omega)
          have hpl := piece_len r1
          obtain ⟨⟨t2, r2⟩, hp⟩ : ∃ p, p = piece r1 := ⟨_, rfl⟩
          rw [← hp] at hpc hpl
          simp only at hpl
          have HPC := Lib.hid hpc
          have HQ1 := Lib.hid (show rreadE s = finR s (⟨xk, num0, (readR t2).1, yv, []⟩, r2) from by rw [HQ0.out, show rN ⟨xk, xt, true, true, true, false⟩ (⟨xk, num0, 0, yv, []⟩, r1) = (⟨xk, num0, (readR (piece r1).1).1, yv, []⟩, (piece r1).2) from rfl, ← hp])
          have HL1 := Lib.hid (show r2.length ≤ 9000 from by have := HL0.out; omega)
          have HT := Lib.hid (show t2.length ≤ 9000 from by have := HL0.out; omega)
          clear hp hpl hpc HQ0 HL0
          have HQ0 := HQ1
          have HL0 := HL1
          clear HQ1 HL1
          have e0 := HE7.out.ev.cell 0
          have ef0 := HE7.out.ev.frozen 0
          have e1 := HE7.out.ev.cell 1
          have ef1 := HE7.out.ev.frozen 1
          have e2 := HE7.out.ev.cell 2
          have ef2 := HE7.out.ev.frozen 2
          have e3 := HE7.out.ev.cell 3
          have ef3 := HE7.out.ev.frozen 3
          have e4 := HE7.out.ev.cell 4
          have ef4 := HE7.out.ev.frozen 4
          simp only [cE, List.getElem?_toArray, List.getElem?_cons_zero, List.getElem?_cons_succ] at e0 e1 e2 e3 e4
          go_wp2_with fail
          refine (HPC.out _).mono ?_
          rintro x W8 ⟨bb8, rfl, hf⟩
          clear e0 ef0 e1 ef1 e2 ef2 e3 ef3 e4 ef4
          have HE8 := Lib.hid (HE7.out.no hf)
          clear hf HE7 HPC
          have hrd := fun W => Digit.rread_any t2 (Nat.le_trans HT.out (by decide)) W
          obtain ⟨⟨num2, cc2⟩, hnum⟩ : ∃ p, p = readR t2 := ⟨_, rfl⟩
          rw [← hnum] at hrd HQ0
          simp only at hrd
          have HRD := Lib.hid hrd
          clear hrd hnum
          have HQ0 := Lib.hid (show rreadE s = finR s (⟨xk, num0, num2, yv, []⟩, r2) from HQ0.out)
          go_wp2_with fail
          refine (HRD.out _).mono ?_
          rintro x W9 ⟨rfl, hww⟩
          subst hww
          clear HRD HT
          have e0 := HE8.out.ev.cell 0
          have ef0 := HE8.out.ev.frozen 0
          have e1 := HE8.out.ev.cell 1
          have ef1 := HE8.out.ev.frozen 1
          have e2 := HE8.out.ev.cell 2
          have ef2 := HE8.out.ev.frozen 2
          have e3 := HE8.out.ev.cell 3
          have ef3 := HE8.out.ev.frozen 3
          have e4 := HE8.out.ev.cell 4
          have ef4 := HE8.out.ev.frozen 4
          simp only [cE, List.getElem?_toArray, List.getElem?_cons_zero, List.getElem?_cons_succ] at e0 e1 e2 e3 e4
          have HE9 := Lib.hid (show Ar w (W8.setCell ⟨b7, 2, none⟩ (.int .i64 num2)) b2 b7 ⟨xk, num0, num2, yv, []⟩ from HE8.out.put 2 (.int .i64 num2) rfl)
          go_upto_region 22 with (fail)
          clear e0 ef0 e1 ef1 e2 ef2 e3 ef3 e4 ef4
          generalize W8.setCell ⟨b7, 2, none⟩ (.int .i64 num2) = W9 at HE9 ⊢
          clear HE8
          have e0 := HE9.out.ev.cell 0
          have ef0 := HE9.out.ev.frozen 0
          have e1 := HE9.out.ev.cell 1
          have ef1 := HE9.out.ev.frozen 1
          have e2 := HE9.out.ev.cell 2
          have ef2 := HE9.out.ev.frozen 2
          have e3 := HE9.out.ev.cell 3
          have ef3 := HE9.out.ev.frozen 3
          have e4 := HE9.out.ev.cell 4
          have ef4 := HE9.out.ev.frozen 4
          simp only [cE, List.getElem?_toArray, List.getElem?_cons_zero, List.getElem?_cons_succ] at e0 e1 e2 e3 e4
          go_wp2_with fail
          refine (HH.out _).2.2.2.mono ?_
          rintro x W10 ⟨rfl, hf⟩
          clear e0 ef0 e1 ef1 e2 ef2 e3 ef3 e4 ef4
          have HE10 := Lib.hid (HE9.out.no hf)
          clear hf HE9
          have hpt := fun W => rput_any ⟨xk, num0, num2, yv, []⟩ W (Nat.le_trans hsl (by decide))
          have hqe := show rreadE s = if ((putE ⟨xk, num0, num2, yv, []⟩).2 != 0 || (putE ⟨xk, num0, num2, yv, []⟩).1 != s) = true then (E0, 3) else (⟨xk, num0, num2, yv, []⟩, 0) from HQ0.out
          obtain ⟨⟨ln, cd⟩, hpe⟩ : ∃ p, p = putE ⟨xk, num0, num2, yv, []⟩ := ⟨_, rfl⟩
          rw [← hpe] at hpt hqe
          simp only at hqe
          have HPT := Lib.hid hpt
          have HQ := Lib.hid hqe
          clear hpt hqe hpe HQ0
          have e0 := HE10.out.ev.cell 0
          have ef0 := HE10.out.ev.frozen 0
          have e1 := HE10.out.ev.cell 1
          have ef1 := HE10.out.ev.frozen 1
          have e2 := HE10.out.ev.cell 2
          have ef2 := HE10.out.ev.frozen 2
          have e3 := HE10.out.ev.cell 3
          have ef3 := HE10.out.ev.frozen 3
          have e4 := HE10.out.ev.cell 4
          have ef4 := HE10.out.ev.frozen 4
          simp only [cE, List.getElem?_toArray, List.getElem?_cons_zero, List.getElem?_cons_succ] at e0 e1 e2 e3 e4
          go_wp2_with fail
          refine (HPT.out _).mono ?_
          unfold PutIs
          rintro x W11 ⟨rfl, hf⟩
          clear e0 ef0 e1 ef1 e2 ef2 e3 ef3 e4 ef4
          have HE11 := Lib.hid (HE10.out.no hf)
          clear hf HE10 HPT
          simp only
          by_cases hcd : cd = 0
          · subst hcd
            cases hls : (ln == s) with
            | true =>
              have hls2 : ((⟨ln.toArray⟩ : ByteArray) == ⟨s.toArray⟩) = true := (bs_eq ln s).trans hls
              have HQ := Lib.hid (show rreadE s = (⟨xk, num0, num2, yv, []⟩, 0) from by rw [HQ.out]; simp [bne, hls])
              have e0 := HE11.out.ev.cell 0
              have ef0 := HE11.out.ev.frozen 0
              have e1 := HE11.out.ev.cell 1
              have ef1 := HE11.out.ev.frozen 1
              have e2 := HE11.out.ev.cell 2
              have ef2 := HE11.out.ev.frozen 2
              have e3 := HE11.out.ev.cell 3
              have ef3 := HE11.out.ev.frozen 3
              have e4 := HE11.out.ev.cell 4
              have ef4 := HE11.out.ev.frozen 4
              simp only [cE, List.getElem?_toArray, List.getElem?_cons_zero, List.getElem?_cons_succ] at e0 e1 e2 e3 e4
              have q0 := HE11.out.res.cell 0
              have qf0 := HE11.out.res.frozen 0
              have q1 := HE11.out.res.cell 1
              have qf1 := HE11.out.res.frozen 1
              have q2 := HE11.out.res.cell 2
              have qf2 := HE11.out.res.frozen 2
              have q3 := HE11.out.res.cell 3
              have qf3 := HE11.out.res.frozen 3
              have q4 := HE11.out.res.cell 4
              have qf4 := HE11.out.res.frozen 4
              simp only [List.getElem?_toArray, List.getElem?_cons_zero, List.getElem?_cons_succ] at q0 q1 q2 q3 q4
              have HR5 := Lib.hid (rret5 (a0 := .int .i64 xk) (a1 := .int .i64 num0) (a2 := .int .i64 num2) (a3 := .bool yv) (a4 := .string ⟨([] : Str).toArray⟩) HE11.out.res HE11.out.fr HE11.out.hw.1)
              go_wp2_with fail
              obtain ⟨hY, hF⟩ := HR5.out
              have v0 := hY.cell 0
              have v1 := hY.cell 1
              have v2 := hY.cell 2
              have v3 := hY.cell 3
              have v4 := hY.cell 4
              simp only [List.getElem?_toArray, List.getElem?_cons_zero, List.getElem?_cons_succ] at v0 v1 v2 v3 v4
              refine bodyPost_ret (v := .tuple #[.agg (cE ⟨xk, num0, num2, yv, []⟩), .int .i64 0]) ?_ rfl ⟨by rw [HQ.out], hF⟩
              simp [results, Tryd.f11, go_sem, v0, v1, v2, v3, v4, cE]
            | false =>
              have hls2 : ((⟨ln.toArray⟩ : ByteArray) == ⟨s.toArray⟩) = false := (bs_eq ln s).trans hls
              have HQ := Lib.hid (show rreadE s = (E0, 3) from by rw [HQ.out]; simp [bne, hls])
              have e0 := HE11.out.ev.cell 0
              have ef0 := HE11.out.ev.frozen 0
              have e1 := HE11.out.ev.cell 1
              have ef1 := HE11.out.ev.frozen 1
              have e2 := HE11.out.ev.cell 2
              have ef2 := HE11.out.ev.frozen 2
              have e3 := HE11.out.ev.cell 3
              have ef3 := HE11.out.ev.frozen 3
              have e4 := HE11.out.ev.cell 4
              have ef4 := HE11.out.ev.frozen 4
              simp only [cE, List.getElem?_toArray, List.getElem?_cons_zero, List.getElem?_cons_succ] at e0 e1 e2 e3 e4
              have q0 := HE11.out.res.cell 0
              have qf0 := HE11.out.res.frozen 0
              have q1 := HE11.out.res.cell 1
              have qf1 := HE11.out.res.frozen 1
              have q2 := HE11.out.res.cell 2
              have qf2 := HE11.out.res.frozen 2
              have q3 := HE11.out.res.cell 3
              have qf3 := HE11.out.res.frozen 3
              have q4 := HE11.out.res.cell 4
              have qf4 := HE11.out.res.frozen 4
              simp only [List.getElem?_toArray, List.getElem?_cons_zero, List.getElem?_cons_succ] at q0 q1 q2 q3 q4
              have HR5 := Lib.hid (rret5 (a0 := .int .i64 0) (a1 := .int .i64 0) (a2 := .int .i64 0) (a3 := .bool false) (a4 := .string ⟨#[]⟩) HE11.out.res HE11.out.fr HE11.out.hw.1)
              go_wp2_with fail
              obtain ⟨hY, hF⟩ := HR5.out
              have v0 := hY.cell 0
              have v1 := hY.cell 1
              have v2 := hY.cell 2
              have v3 := hY.cell 3
              have v4 := hY.cell 4
              simp only [List.getElem?_toArray, List.getElem?_cons_zero, List.getElem?_cons_succ] at v0 v1 v2 v3 v4
              refine bodyPost_ret (v := .tuple #[.agg (cE E0), .int .i64 3]) ?_ rfl ⟨by rw [HQ.out], hF⟩
              simp [results, Tryd.f11, go_sem, v0, v1, v2, v3, v4, cE, E0]
          · have hn : (cd != 0) = true := by rw [bne_iff_ne]; exact hcd
            have HQ := Lib.hid (show rreadE s = (E0, 3) from by rw [HQ.out, hn]; rfl)
            have e0 := HE11.out.ev.cell 0
            have ef0 := HE11.out.ev.frozen 0
            have e1 := HE11.out.ev.cell 1
            have ef1 := HE11.out.ev.frozen 1
            have e2 := HE11.out.ev.cell 2
            have ef2 := HE11.out.ev.frozen 2
            have e3 := HE11.out.ev.cell 3
            have ef3 := HE11.out.ev.frozen 3
            have e4 := HE11.out.ev.cell 4
            have ef4 := HE11.out.ev.frozen 4
            simp only [cE, List.getElem?_toArray, List.getElem?_cons_zero, List.getElem?_cons_succ] at e0 e1 e2 e3 e4
            have q0 := HE11.out.res.cell 0
            have qf0 := HE11.out.res.frozen 0
            have q1 := HE11.out.res.cell 1
            have qf1 := HE11.out.res.frozen 1
            have q2 := HE11.out.res.cell 2
            have qf2 := HE11.out.res.frozen 2
            have q3 := HE11.out.res.cell 3
            have qf3 := HE11.out.res.frozen 3
            have q4 := HE11.out.res.cell 4
            have qf4 := HE11.out.res.frozen 4
            simp only [List.getElem?_toArray, List.getElem?_cons_zero, List.getElem?_cons_succ] at q0 q1 q2 q3 q4
            have HR5 := Lib.hid (rret5 (a0 := .int .i64 0) (a1 := .int .i64 0) (a2 := .int .i64 0) (a3 := .bool false) (a4 := .string ⟨#[]⟩) HE11.out.res HE11.out.fr HE11.out.hw.1)
            go_wp2_with fail
            obtain ⟨hY, hF⟩ := HR5.out
            have v0 := hY.cell 0
            have v1 := hY.cell 1
            have v2 := hY.cell 2
            have v3 := hY.cell 3
            have v4 := hY.cell 4
            simp only [List.getElem?_toArray, List.getElem?_cons_zero, List.getElem?_cons_succ] at v0 v1 v2 v3 v4
            refine bodyPost_ret (v := .tuple #[.agg (cE E0), .int .i64 3]) ?_ rfl ⟨by rw [HQ.out], hF⟩
            simp [results, Tryd.f11, go_sem, v0, v1, v2, v3, v4, cE, E0]
        · have HQ0 := Lib.hid (show rreadE s = finR s (rN ⟨xk, xt, false, false, true, false⟩ (⟨xk, 0, 0, false, []⟩, x0)) from by rw [HRE.out]; rfl)
          clear HRE
          have HL0 := HX0
          have hsl : ([] : Str).length ≤ 9000 := Nat.zero_le _
          have e0 := HE0.out.ev.cell 0
          have ef0 := HE0.out.ev.frozen 0
          have e1 := HE0.out.ev.cell 1
          have ef1 := HE0.out.ev.frozen 1
          have e2 := HE0.out.ev.cell 2
          have ef2 := HE0.out.ev.frozen 2
          have e3 := HE0.out.ev.cell 3
          have ef3 := HE0.out.ev.frozen 3
          have e4 := HE0.out.ev.cell 4
          have ef4 := HE0.out.ev.frozen 4
          simp only [cE, List.getElem?_toArray, List.getElem?_cons_zero, List.getElem?_cons_succ] at e0 e1 e2 e3 e4
          go_wp2_with fail
          refine (HH.out _).1.mono ?_
          rintro x W1 ⟨rfl, hf⟩
          clear e0 ef0 e1 ef1 e2 ef2 e3 ef3 e4 ef4
          have HE1 := Lib.hid (HE0.out.no hf)
          clear hf HE0
          have e0 := HE1.out.ev.cell 0
          have ef0 := HE1.out.ev.frozen 0
          have e1 := HE1.out.ev.cell 1
          have ef1 := HE1.out.ev.frozen 1
          have e2 := HE1.out.ev.cell 2
          have ef2 := HE1.out.ev.frozen 2
          have e3 := HE1.out.ev.cell 3
          have ef3 := HE1.out.ev.frozen 3
          have e4 := HE1.out.ev.cell 4
          have ef4 := HE1.out.ev.frozen 4
          simp only [cE, List.getElem?_toArray, List.getElem?_cons_zero, List.getElem?_cons_succ] at e0 e1 e2 e3 e4
          go_wp2_with fail
          refine (HH.out _).2.1.mono ?_
          rintro x W2 ⟨rfl, hf⟩
          clear e0 ef0 e1 ef1 e2 ef2 e3 ef3 e4 ef4
          have HE2 := Lib.hid (HE1.out.no hf)
          clear hf HE1
          have e0 := HE2.out.ev.cell 0
          have ef0 := HE2.out.ev.frozen 0
          have e1 := HE2.out.ev.cell 1
          have ef1 := HE2.out.ev.frozen 1
          have e2 := HE2.out.ev.cell 2
          have ef2 := HE2.out.ev.frozen 2
          have e3 := HE2.out.ev.cell 3
          have ef3 := HE2.out.ev.frozen 3
          have e4 := HE2.out.ev.cell 4
          have ef4 := HE2.out.ev.frozen 4
          simp only [cE, List.getElem?_toArray, List.getElem?_cons_zero, List.getElem?_cons_succ] at e0 e1 e2 e3 e4
          go_wp2_with fail
          refine (HH.out _).2.2.1.mono ?_
          rintro x W3 ⟨rfl, hf⟩
          clear e0 ef0 e1 ef1 e2 ef2 e3 ef3 e4 ef4
          have HE3 := Lib.hid (HE2.out.no hf)
          clear hf HE2
          have hpc := fun W => piece_any x0 W (by have := HL0.out; omega)
          have hpl := piece_len x0
          obtain ⟨⟨t2, r2⟩, hp⟩ : ∃ p, p = piece x0 := ⟨_, rfl⟩
          rw [← hp] at hpc hpl
          simp only at hpl
          have HPC := Lib.hid hpc
          have HQ1 := Lib.hid (show rreadE s = finR s (⟨xk, 0, (readR t2).1, false, []⟩, r2) from by rw [HQ0.out, show rN ⟨xk, xt, false, false, true, false⟩ (⟨xk, 0, 0, false, []⟩, x0) = (⟨xk, 0, (readR (piece x0).1).1, false, []⟩, (piece x0).2) from rfl, ← hp])
          have HL1 := Lib.hid (show r2.length ≤ 9000 from by have := HL0.out; omega)
          have HT := Lib.hid (show t2.length ≤ 9000 from by have := HL0.out; omega)
          clear hp hpl hpc HQ0 HL0
          have HQ0 := HQ1
          have HL0 := HL1
          clear HQ1 HL1
          have e0 := HE3.out.ev.cell 0
          have ef0 := HE3.out.ev.frozen 0
          have e1 := HE3.out.ev.cell 1
          have ef1 := HE3.out.ev.frozen 1
          have e2 := HE3.out.ev.cell 2
          have ef2 := HE3.out.ev.frozen 2
          have e3 := HE3.out.ev.cell 3
          have ef3 := HE3.out.ev.frozen 3
          have e4 := HE3.out.ev.cell 4
          have ef4 := HE3.out.ev.frozen 4
          simp only [cE, List.getElem?_toArray, List.getElem?_cons_zero, List.getElem?_cons_succ] at e0 e1 e2 e3 e4
          go_wp2_with fail
          refine (HPC.out _).mono ?_
          rintro x W4 ⟨bb4, rfl, hf⟩
          clear e0 ef0 e1 ef1 e2 ef2 e3 ef3 e4 ef4
          have HE4 := Lib.hid (HE3.out.no hf)
          clear hf HE3 HPC
          have hrd := fun W => Digit.rread_any t2 (Nat.le_trans HT.out (by decide)) W
          obtain ⟨⟨num2, cc2⟩, hnum⟩ : ∃ p, p = readR t2 := ⟨_, rfl⟩
          rw [← hnum] at hrd HQ0
          simp only at hrd
          have HRD := Lib.hid hrd
          clear hrd hnum
          have HQ0 := Lib.hid (show rreadE s = finR s (⟨xk, 0, num2, false, []⟩, r2) from HQ0.out)
          go_wp2_with fail
          refine (HRD.out _).mono ?_
          rintro x W5 ⟨rfl, hww⟩
          subst hww
          clear HRD HT
          have e0 := HE4.out.ev.cell 0
          have ef0 := HE4.out.ev.frozen 0
          have e1 := HE4.out.ev.cell 1
          have ef1 := HE4.out.ev.frozen 1
          have e2 := HE4.out.ev.cell 2
          have ef2 := HE4.out.ev.frozen 2
          have e3 := HE4.out.ev.cell 3
          have ef3 := HE4.out.ev.frozen 3
          have e4 := HE4.out.ev.cell 4
          have ef4 := HE4.out.ev.frozen 4
          simp only [cE, List.getElem?_toArray, List.getElem?_cons_zero, List.getElem?_cons_succ] at e0 e1 e2 e3 e4
          have HE5 := Lib.hid (show Ar w (W4.setCell ⟨b7, 2, none⟩ (.int .i64 num2)) b2 b7 ⟨xk, 0, num2, false, []⟩ from HE4.out.put 2 (.int .i64 num2) rfl)
          go_upto_region 22 with (fail)
          clear e0 ef0 e1 ef1 e2 ef2 e3 ef3 e4 ef4
          generalize W4.setCell ⟨b7, 2, none⟩ (.int .i64 num2) = W5 at HE5 ⊢
          clear HE4
          have e0 := HE5.out.ev.cell 0
          have ef0 := HE5.out.ev.frozen 0
          have e1 := HE5.out.ev.cell 1
          have ef1 := HE5.out.ev.frozen 1
          have e2 := HE5.out.ev.cell 2
          have ef2 := HE5.out.ev.frozen 2
          have e3 := HE5.out.ev.cell 3
          have ef3 := HE5.out.ev.frozen 3
          have e4 := HE5.out.ev.cell 4
          have ef4 := HE5.out.ev.frozen 4
          simp only [cE, List.getElem?_toArray, List.getElem?_cons_zero, List.getElem?_cons_succ] at e0 e1 e2 e3 e4
          go_wp2_with fail
          refine (HH.out _).2.2.2.mono ?_
          rintro x W6 ⟨rfl, hf⟩
          clear e0 ef0 e1 ef1 e2 ef2 e3 ef3 e4 ef4
          have HE6 := Lib.hid (HE5.out.no hf)
          clear hf HE5
          have hpt := fun W => rput_any ⟨xk, 0, num2, false, []⟩ W (Nat.le_trans hsl (by decide))
          have hqe := show rreadE s = if ((putE ⟨xk, 0, num2, false, []⟩).2 != 0 || (putE ⟨xk, 0, num2, false, []⟩).1 != s) = true then (E0, 3) else (⟨xk, 0, num2, false, []⟩, 0) from HQ0.out
          obtain ⟨⟨ln, cd⟩, hpe⟩ : ∃ p, p = putE ⟨xk, 0, num2, false, []⟩ := ⟨_, rfl⟩
          rw [← hpe] at hpt hqe
          simp only at hqe
          have HPT := Lib.hid hpt
          have HQ := Lib.hid hqe
          clear hpt hqe hpe HQ0
          have e0 := HE6.out.ev.cell 0
          have ef0 := HE6.out.ev.frozen 0
          have e1 := HE6.out.ev.cell 1
          have ef1 := HE6.out.ev.frozen 1
          have e2 := HE6.out.ev.cell 2
          have ef2 := HE6.out.ev.frozen 2
          have e3 := HE6.out.ev.cell 3
          have ef3 := HE6.out.ev.frozen 3
          have e4 := HE6.out.ev.cell 4
          have ef4 := HE6.out.ev.frozen 4
          simp only [cE, List.getElem?_toArray, List.getElem?_cons_zero, List.getElem?_cons_succ] at e0 e1 e2 e3 e4
          go_wp2_with fail
          refine (HPT.out _).mono ?_
          unfold PutIs
          rintro x W7 ⟨rfl, hf⟩
          clear e0 ef0 e1 ef1 e2 ef2 e3 ef3 e4 ef4
          have HE7 := Lib.hid (HE6.out.no hf)
          clear hf HE6 HPT
          simp only
          by_cases hcd : cd = 0
          · subst hcd
            cases hls : (ln == s) with
            | true =>
              have hls2 : ((⟨ln.toArray⟩ : ByteArray) == ⟨s.toArray⟩) = true := (bs_eq ln s).trans hls
              have HQ := Lib.hid (show rreadE s = (⟨xk, 0, num2, false, []⟩, 0) from by rw [HQ.out]; simp [bne, hls])
              have e0 := HE7.out.ev.cell 0
              have ef0 := HE7.out.ev.frozen 0
              have e1 := HE7.out.ev.cell 1
              have ef1 := HE7.out.ev.frozen 1
              have e2 := HE7.out.ev.cell 2
              have ef2 := HE7.out.ev.frozen 2
              have e3 := HE7.out.ev.cell 3
              have ef3 := HE7.out.ev.frozen 3
              have e4 := HE7.out.ev.cell 4
              have ef4 := HE7.out.ev.frozen 4
              simp only [cE, List.getElem?_toArray, List.getElem?_cons_zero, List.getElem?_cons_succ] at e0 e1 e2 e3 e4
              have q0 := HE7.out.res.cell 0
              have qf0 := HE7.out.res.frozen 0
              have q1 := HE7.out.res.cell 1
              have qf1 := HE7.out.res.frozen 1
              have q2 := HE7.out.res.cell 2
              have qf2 := HE7.out.res.frozen 2
              have q3 := HE7.out.res.cell 3
              have qf3 := HE7.out.res.frozen 3
              have q4 := HE7.out.res.cell 4
              have qf4 := HE7.out.res.frozen 4
              simp only [List.getElem?_toArray, List.getElem?_cons_zero, List.getElem?_cons_succ] at q0 q1 q2 q3 q4
              have HR5 := Lib.hid (rret5 (a0 := .int .i64 xk) (a1 := .int .i64 0) (a2 := .int .i64 num2) (a3 := .bool false) (a4 := .string ⟨([] : Str).toArray⟩) HE7.out.res HE7.out.fr HE7.out.hw.1)
              go_wp2_with fail
              obtain ⟨hY, hF⟩ := HR5.out
              have v0 := hY.cell 0
              have v1 := hY.cell 1
              have v2 := hY.cell 2
              have v3 := hY.cell 3
              have v4 := hY.cell 4
              simp only [List.getElem?_toArray, List.getElem?_cons_zero, List.getElem?_cons_succ] at v0 v1 v2 v3 v4
              refine bodyPost_ret (v := .tuple #[.agg (cE ⟨xk, 0, num2, false, []⟩), .int .i64 0]) ?_ rfl ⟨by rw [HQ.out], hF⟩
              simp [results, Tryd.f11, go_sem, v0, v1, v2, v3, v4, cE]
            | false =>
              have hls2 : ((⟨ln.toArray⟩ : ByteArray) == ⟨s.toArray⟩) = false := (bs_eq ln s).trans hls
              have HQ := Lib.hid (show rreadE s = (E0, 3) from by rw [HQ.out]; simp [bne, hls])
              have e0 := HE7.out.ev.cell 0
              have ef0 := HE7.out.ev.frozen 0
              have e1 := HE7.out.ev.cell 1
              have ef1 := HE7.out.ev.frozen 1
              have e2 := HE7.out.ev.cell 2
              have ef2 := HE7.out.ev.frozen 2
              have e3 := HE7.out.ev.cell 3
              have ef3 := HE7.out.ev.frozen 3
              have e4 := HE7.out.ev.cell 4
              have ef4 := HE7.out.ev.frozen 4
              simp only [cE, List.getElem?_toArray, List.getElem?_cons_zero, List.getElem?_cons_succ] at e0 e1 e2 e3 e4
              have q0 := HE7.out.res.cell 0
              have qf0 := HE7.out.res.frozen 0
              have q1 := HE7.out.res.cell 1
              have qf1 := HE7.out.res.frozen 1
              have q2 := HE7.out.res.cell 2
              have qf2 := HE7.out.res.frozen 2
              have q3 := HE7.out.res.cell 3
              have qf3 := HE7.out.res.frozen 3
              have q4 := HE7.out.res.cell 4
              have qf4 := HE7.out.res.frozen 4
              simp only [List.getElem?_toArray, List.getElem?_cons_zero, List.getElem?_cons_succ] at q0 q1 q2 q3 q4
              have HR5 := Lib.hid (rret5 (a0 := .int .i64 0) (a1 := .int .i64 0) (a2 := .int .i64 0) (a3 := .bool false) (a4 := .string ⟨#[]⟩) HE7.out.res HE7.out.fr HE7.out.hw.1)
              go_wp2_with fail
              obtain ⟨hY, hF⟩ := HR5.out
              have v0 := hY.cell 0
              have v1 := hY.cell 1
              have v2 := hY.cell 2
              have v3 := hY.cell 3
              have v4 := hY.cell 4
              simp only [List.getElem?_toArray, List.getElem?_cons_zero, List.getElem?_cons_succ] at v0 v1 v2 v3 v4
              refine bodyPost_ret (v := .tuple #[.agg (cE E0), .int .i64 3]) ?_ rfl ⟨by rw [HQ.out], hF⟩
              simp [results, Tryd.f11, go_sem, v0, v1, v2, v3, v4, cE, E0]
          · have hn : (cd != 0) = true := by rw [bne_iff_ne]; exact hcd
            have HQ := Lib.hid (show rreadE s = (E0, 3) from by rw [HQ.out, hn]; rfl)
            have e0 := HE7.out.ev.cell 0
            have ef0 := HE7.out.ev.frozen 0
            have e1 := HE7.out.ev.cell 1
            have ef1 := HE7.out.ev.frozen 1
            have e2 := HE7.out.ev.cell 2
            have ef2 := HE7.out.ev.frozen 2
            have e3 := HE7.out.ev.cell 3
            have ef3 := HE7.out.ev.frozen 3
            have e4 := HE7.out.ev.cell 4
            have ef4 := HE7.out.ev.frozen 4
            simp only [cE, List.getElem?_toArray, List.getElem?_cons_zero, List.getElem?_cons_succ] at e0 e1 e2 e3 e4
            have q0 := HE7.out.res.cell 0
            have qf0 := HE7.out.res.frozen 0
            have q1 := HE7.out.res.cell 1
            have qf1 := HE7.out.res.frozen 1
            have q2 := HE7.out.res.cell 2
            have qf2 := HE7.out.res.frozen 2
            have q3 := HE7.out.res.cell 3
            have qf3 := HE7.out.res.frozen 3
            have q4 := HE7.out.res.cell 4
            have qf4 := HE7.out.res.frozen 4
            simp only [List.getElem?_toArray, List.getElem?_cons_zero, List.getElem?_cons_succ] at q0 q1 q2 q3 q4
            have HR5 := Lib.hid (rret5 (a0 := .int .i64 0) (a1 := .int .i64 0) (a2 := .int .i64 0) (a3 := .bool false) (a4 := .string ⟨#[]⟩) HE7.out.res HE7.out.fr HE7.out.hw.1)
            go_wp2_with fail
            obtain ⟨hY, hF⟩ := HR5.out
            have v0 := hY.cell 0
            have v1 := hY.cell 1
            have v2 := hY.cell 2
            have v3 := hY.cell 3
            have v4 := hY.cell 4
            simp only [List.getElem?_toArray, List.getElem?_cons_zero, List.getElem?_cons_succ] at v0 v1 v2 v3 v4
            refine bodyPost_ret (v := .tuple #[.agg (cE E0), .int .i64 3]) ?_ rfl ⟨by rw [HQ.out], hF⟩
            simp [results, Tryd.f11, go_sem, v0, v1, v2, v3, v4, cE, E0]
        · have HQ0 := Lib.hid (show rreadE s = finR s (rS ⟨xk, xt, false, false, false, true⟩ (⟨xk, 0, 0, false, []⟩, x0)) from by rw [HRE.out]; rfl)
          clear HRE
          have HL0 := HX0
          have hsl : ([] : Str).length ≤ 9000 := Nat.zero_le _
          have e0 := HE0.out.ev.cell 0
          have ef0 := HE0.out.ev.frozen 0
          have e1 := HE0.out.ev.cell 1
          have ef1 := HE0.out.ev.frozen 1
          have e2 := HE0.out.ev.cell 2
          have ef2 := HE0.out.ev.frozen 2
          have e3 := HE0.out.ev.cell 3
          have ef3 := HE0.out.ev.frozen 3
          have e4 := HE0.out.ev.cell 4
          have ef4 := HE0.out.ev.frozen 4
          simp only [cE, List.getElem?_toArray, List.getElem?_cons_zero, List.getElem?_cons_succ] at e0 e1 e2 e3 e4
          go_wp2_with fail
          refine (HH.out _).1.mono ?_
          rintro x W1 ⟨rfl, hf⟩
          clear e0 ef0 e1 ef1 e2 ef2 e3 ef3 e4 ef4
          have HE1 := Lib.hid (HE0.out.no hf)
          clear hf HE0
          have e0 := HE1.out.ev.cell 0
          have ef0 := HE1.out.ev.frozen 0
          have e1 := HE1.out.ev.cell 1
          have ef1 := HE1.out.ev.frozen 1
          have e2 := HE1.out.ev.cell 2
          have ef2 := HE1.out.ev.frozen 2
          have e3 := HE1.out.ev.cell 3
          have ef3 := HE1.out.ev.frozen 3
          have e4 := HE1.out.ev.cell 4
          have ef4 := HE1.out.ev.frozen 4
          simp only [cE, List.getElem?_toArray, List.getElem?_cons_zero, List.getElem?_cons_succ] at e0 e1 e2 e3 e4
          go_wp2_with fail
          refine (HH.out _).2.1.mono ?_
          rintro x W2 ⟨rfl, hf⟩
          clear e0 ef0 e1 ef1 e2 ef2 e3 ef3 e4 ef4
          have HE2 := Lib.hid (HE1.out.no hf)
          clear hf HE1
          have e0 := HE2.out.ev.cell 0
          have ef0 := HE2.out.ev.frozen 0
          have e1 := HE2.out.ev.cell 1
          have ef1 := HE2.out.ev.frozen 1
          have e2 := HE2.out.ev.cell 2
          have ef2 := HE2.out.ev.frozen 2
          have e3 := HE2.out.ev.cell 3
          have ef3 := HE2.out.ev.frozen 3
          have e4 := HE2.out.ev.cell 4
          have ef4 := HE2.out.ev.frozen 4
          simp only [cE, List.getElem?_toArray, List.getElem?_cons_zero, List.getElem?_cons_succ] at e0 e1 e2 e3 e4
          go_wp2_with fail
          refine (HH.out _).2.2.1.mono ?_
          rintro x W3 ⟨rfl, hf⟩
          clear e0 ef0 e1 ef1 e2 ef2 e3 ef3 e4 ef4
          have HE3 := Lib.hid (HE2.out.no hf)
          clear hf HE2
          have e0 := HE3.out.ev.cell 0
          have ef0 := HE3.out.ev.frozen 0
          have e1 := HE3.out.ev.cell 1
          have ef1 := HE3.out.ev.frozen 1
          have e2 := HE3.out.ev.cell 2
          have ef2 := HE3.out.ev.frozen 2
          have e3 := HE3.out.ev.cell 3
          have ef3 := HE3.out.ev.frozen 3
          have e4 := HE3.out.ev.cell 4
          have ef4 := HE3.out.ev.frozen 4
          simp only [cE, List.getElem?_toArray, List.getElem?_cons_zero, List.getElem?_cons_succ] at e0 e1 e2 e3 e4
          go_wp2_with fail
          refine (HH.out _).2.2.2.mono ?_
          rintro x W4 ⟨rfl, hf⟩
          clear e0 ef0 e1 ef1 e2 ef2 e3 ef3 e4 ef4
          have HE4 := Lib.hid (HE3.out.no hf)
          clear hf HE3
          have hun := fun W => runshow_any x0 W (by have := HL0.out; omega)
          have hul := uns_len x0
          obtain ⟨⟨us, cu⟩, hus⟩ : ∃ p, p = unsP x0 := ⟨_, rfl⟩
          rw [← hus] at hun hul
          simp only at hun hul
          have HUN := Lib.hid hun
          have HQ1 := Lib.hid (show rreadE s = finR s (⟨xk, 0, 0, false, us⟩, x0) from by rw [HQ0.out, show rS ⟨xk, xt, false, false, false, true⟩ (⟨xk, 0, 0, false, []⟩, x0) = (⟨xk, 0, 0, false, (unsP x0).1⟩, x0) from rfl, ← hus])
          clear hsl
          have hsl : us.length ≤ 9000 := by have := HL0.out; omega
          clear hus hun hul HQ0
          have HQ0 := HQ1
          clear HQ1
          have e0 := HE4.out.ev.cell 0
          have ef0 := HE4.out.ev.frozen 0
          have e1 := HE4.out.ev.cell 1
          have ef1 := HE4.out.ev.frozen 1
          have e2 := HE4.out.ev.cell 2
          have ef2 := HE4.out.ev.frozen 2
          have e3 := HE4.out.ev.cell 3
          have ef3 := HE4.out.ev.frozen 3
          have e4 := HE4.out.ev.cell 4
          have ef4 := HE4.out.ev.frozen 4
          simp only [cE, List.getElem?_toArray, List.getElem?_cons_zero, List.getElem?_cons_succ] at e0 e1 e2 e3 e4
          go_wp2_with fail
          refine (HUN.out _).mono ?_
          rintro x W5 ⟨rfl, hf⟩
          clear e0 ef0 e1 ef1 e2 ef2 e3 ef3 e4 ef4
          have HE5 := Lib.hid (HE4.out.no hf)
          clear hf HE4 HUN
          have e0 := HE5.out.ev.cell 0
          have ef0 := HE5.out.ev.frozen 0
          have e1 := HE5.out.ev.cell 1
          have ef1 := HE5.out.ev.frozen 1
          have e2 := HE5.out.ev.cell 2
          have ef2 := HE5.out.ev.frozen 2
          have e3 := HE5.out.ev.cell 3
          have ef3 := HE5.out.ev.frozen 3
          have e4 := HE5.out.ev.cell 4
          have ef4 := HE5.out.ev.frozen 4
          simp only [cE, List.getElem?_toArray, List.getElem?_cons_zero, List.getElem?_cons_succ] at e0 e1 e2 e3 e4
          have HE6 := Lib.hid (show Ar w (W5.setCell ⟨b7, 4, none⟩ (.string ⟨us.toArray⟩)) b2 b7 ⟨xk, 0, 0, false, us⟩ from HE5.out.put 4 (.string ⟨us.toArray⟩) rfl)
          go_upto_region 25 with (fail)
          clear e0 ef0 e1 ef1 e2 ef2 e3 ef3 e4 ef4
          generalize W5.setCell ⟨b7, 4, none⟩ (.string ⟨us.toArray⟩) = W6 at HE6 ⊢
          clear HE5
          have hpt := fun W => rput_any ⟨xk, 0, 0, false, us⟩ W (Nat.le_trans hsl (by decide))
          have hqe := show rreadE s = if ((putE ⟨xk, 0, 0, false, us⟩).2 != 0 || (putE ⟨xk, 0, 0, false, us⟩).1 != s) = true then (E0, 3) else (⟨xk, 0, 0, false, us⟩, 0) from HQ0.out
          obtain ⟨⟨ln, cd⟩, hpe⟩ : ∃ p, p = putE ⟨xk, 0, 0, false, us⟩ := ⟨_, rfl⟩
          rw [← hpe] at hpt hqe
          simp only at hqe
          have HPT := Lib.hid hpt
          have HQ := Lib.hid hqe
          clear hpt hqe hpe HQ0
          have e0 := HE6.out.ev.cell 0
          have ef0 := HE6.out.ev.frozen 0
          have e1 := HE6.out.ev.cell 1
          have ef1 := HE6.out.ev.frozen 1
          have e2 := HE6.out.ev.cell 2
          have ef2 := HE6.out.ev.frozen 2
          have e3 := HE6.out.ev.cell 3
          have ef3 := HE6.out.ev.frozen 3
          have e4 := HE6.out.ev.cell 4
          have ef4 := HE6.out.ev.frozen 4
          simp only [cE, List.getElem?_toArray, List.getElem?_cons_zero, List.getElem?_cons_succ] at e0 e1 e2 e3 e4
          go_wp2_with fail
          refine (HPT.out _).mono ?_
          unfold PutIs
          rintro x W7 ⟨rfl, hf⟩
          clear e0 ef0 e1 ef1 e2 ef2 e3 ef3 e4 ef4
          have HE7 := Lib.hid (HE6.out.no hf)
          clear hf HE6 HPT
          simp only
          by_cases hcd : cd = 0
          · subst hcd
            cases hls : (ln == s) with
            | true =>
              have hls2 : ((⟨ln.toArray⟩ : ByteArray) == ⟨s.toArray⟩) = true := (bs_eq ln s).trans hls
              have HQ := Lib.hid (show rreadE s = (⟨xk, 0, 0, false, us⟩, 0) from by rw [HQ.out]; simp [bne, hls])
              have e0 := HE7.out.ev.cell 0
              have ef0 := HE7.out.ev.frozen 0
              have e1 := HE7.out.ev.cell 1
              have ef1 := HE7.out.ev.frozen 1
              have e2 := HE7.out.ev.cell 2
              have ef2 := HE7.out.ev.frozen 2
              have e3 := HE7.out.ev.cell 3
              have ef3 := HE7.out.ev.frozen 3
              have e4 := HE7.out.ev.cell 4
              have ef4 := HE7.out.ev.frozen 4
              simp only [cE, List.getElem?_toArray, List.getElem?_cons_zero, List.getElem?_cons_succ] at e0 e1 e2 e3 e4
              have q0 := HE7.out.res.cell 0
              have qf0 := HE7.out.res.frozen 0
              have q1 := HE7.out.res.cell 1
              have qf1 := HE7.out.res.frozen 1
              have q2 := HE7.out.res.cell 2
              have qf2 := HE7.out.res.frozen 2
              have q3 := HE7.out.res.cell 3
              have qf3 := HE7.out.res.frozen 3
              have q4 := HE7.out.res.cell 4
              have qf4 := HE7.out.res.frozen 4
              simp only [List.getElem?_toArray, List.getElem?_cons_zero, List.getElem?_cons_succ] at q0 q1 q2 q3 q4
              have HR5 := Lib.hid (rret5 (a0 := .int .i64 xk) (a1 := .int .i64 0) (a2 := .int .i64 0) (a3 := .bool false) (a4 := .string ⟨(us : Str).toArray⟩) HE7.out.res HE7.out.fr HE7.out.hw.1)
              go_wp2_with fail
              obtain ⟨hY, hF⟩ := HR5.out
              have v0 := hY.cell 0
              have v1 := hY.cell 1
              have v2 := hY.cell 2
              have v3 := hY.cell 3
              have v4 := hY.cell 4
              simp only [List.getElem?_toArray, List.getElem?_cons_zero, List.getElem?_cons_succ] at v0 v1 v2 v3 v4
              refine bodyPost_ret (v := .tuple #[.agg (cE ⟨xk, 0, 0, false, us⟩), .int .i64 0]) ?_ rfl ⟨by rw [HQ.out], hF⟩
              simp [results, Tryd.f11, go_sem, v0, v1, v2, v3, v4, cE]
            | false =>
              have hls2 : ((⟨ln.toArray⟩ : ByteArray) == ⟨s.toArray⟩) = false := (bs_eq ln s).trans hls
              have HQ := Lib.hid (show rreadE s = (E0, 3) from by rw [HQ.out]; simp [bne, hls])
              have e0 := HE7.out.ev.cell 0
              have ef0 := HE7.out.ev.frozen 0
              have e1 := HE7.out.ev.cell 1
              have ef1 := HE7.out.ev.frozen 1
              have e2 := HE7.out.ev.cell 2
              have ef2 := HE7.out.ev.frozen 2
              have e3 := HE7.out.ev.cell 3
              have ef3 := HE7.out.ev.frozen 3
              have e4 := HE7.out.ev.cell 4
              have ef4 := HE7.out.ev.frozen 4
              simp only [cE, List.getElem?_toArray, List.getElem?_cons_zero, List.getElem?_cons_succ] at e0 e1 e2 e3 e4
              have q0 := HE7.out.res.cell 0
              have qf0 := HE7.out.res.frozen 0
              have q1 := HE7.out.res.cell 1
              have qf1 := HE7.out.res.frozen 1
              have q2 := HE7.out.res.cell 2
              have qf2 := HE7.out.res.frozen 2
              have q3 := HE7.out.res.cell 3
              have qf3 := HE7.out.res.frozen 3
              have q4 := HE7.out.res.cell 4
              have qf4 := HE7.out.res.frozen 4
              simp only [List.getElem?_toArray, List.getElem?_cons_zero, List.getElem?_cons_succ] at q0 q1 q2 q3 q4
              have HR5 := Lib.hid (rret5 (a0 := .int .i64 0) (a1 := .int .i64 0) (a2 := .int .i64 0) (a3 := .bool false) (a4 := .string ⟨#[]⟩) HE7.out.res HE7.out.fr HE7.out.hw.1)
              go_wp2_with fail
              obtain ⟨hY, hF⟩ := HR5.out
              have v0 := hY.cell 0
              have v1 := hY.cell 1
              have v2 := hY.cell 2
              have v3 := hY.cell 3
              have v4 := hY.cell 4
              simp only [List.getElem?_toArray, List.getElem?_cons_zero, List.getElem?_cons_succ] at v0 v1 v2 v3 v4
              refine bodyPost_ret (v := .tuple #[.agg (cE E0), .int .i64 3]) ?_ rfl ⟨by rw [HQ.out], hF⟩
              simp [results, Tryd.f11, go_sem, v0, v1, v2, v3, v4, cE, E0]
          · have hn : (cd != 0) = true := by rw [bne_iff_ne]; exact hcd
            have HQ := Lib.hid (show rreadE s = (E0, 3) from by rw [HQ.out, hn]; rfl)
            have e0 := HE7.out.ev.cell 0
            have ef0 := HE7.out.ev.frozen 0
            have e1 := HE7.out.ev.cell 1
            have ef1 := HE7.out.ev.frozen 1
            have e2 := HE7.out.ev.cell 2
            have ef2 := HE7.out.ev.frozen 2
            have e3 := HE7.out.ev.cell 3
            have ef3 := HE7.out.ev.frozen 3
            have e4 := HE7.out.ev.cell 4
            have ef4 := HE7.out.ev.frozen 4
            simp only [cE, List.getElem?_toArray, List.getElem?_cons_zero, List.getElem?_cons_succ] at e0 e1 e2 e3 e4
            have q0 := HE7.out.res.cell 0
            have qf0 := HE7.out.res.frozen 0
            have q1 := HE7.out.res.cell 1
            have qf1 := HE7.out.res.frozen 1
            have q2 := HE7.out.res.cell 2
            have qf2 := HE7.out.res.frozen 2
            have q3 := HE7.out.res.cell 3
            have qf3 := HE7.out.res.frozen 3
            have q4 := HE7.out.res.cell 4
            have qf4 := HE7.out.res.frozen 4
            simp only [List.getElem?_toArray, List.getElem?_cons_zero, List.getElem?_cons_succ] at q0 q1 q2 q3 q4
            have HR5 := Lib.hid (rret5 (a0 := .int .i64 0) (a1 := .int .i64 0) (a2 := .int .i64 0) (a3 := .bool false) (a4 := .string ⟨#[]⟩) HE7.out.res HE7.out.fr HE7.out.hw.1)
            go_wp2_with fail
            obtain ⟨hY, hF⟩ := HR5.out
            have v0 := hY.cell 0
            have v1 := hY.cell 1
            have v2 := hY.cell 2
            have v3 := hY.cell 3
            have v4 := hY.cell 4
            simp only [List.getElem?_toArray, List.getElem?_cons_zero, List.getElem?_cons_succ] at v0 v1 v2 v3 v4
            refine bodyPost_ret (v := .tuple #[.agg (cE E0), .int .i64 3]) ?_ rfl ⟨by rw [HQ.out], hF⟩
            simp [results, Tryd.f11, go_sem, v0, v1, v2, v3, v4, cE, E0]
end Ev
end Go.Proofs.YtohjnbkehcdoaaaDoor
