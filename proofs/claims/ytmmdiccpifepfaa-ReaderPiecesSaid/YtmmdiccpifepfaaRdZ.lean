/- Reader: SameReplies; the law's Same. Printed by gen_rdz.py. -/
import Derived.Test.YtmmdiccpifepfaaRdY
import Derived.Test.YtmmdiccpifepfaaAnsS
namespace Go.Proofs.Ytmmdiccpifepfaa
open Go.RowKit
set_option linter.unusedVariables false
set_option linter.unusedSimpArgs false
namespace Rd
open Ans Digit Sls Word
theorem reply_at {w : World} {g n c : Nat} {rv : List (Int × Value)} (h : w.ownsRow 0 69 2 (.slice (some ⟨g, 0, none⟩) n c) n (rv.flatMap encR)) {k : Nat} (hk : k < rv.length) :
    w.cell? ⟨g, k * 2, none⟩ = some (.int .i64 rv[k].1) ∧ w.cell? ⟨g, k * 2 + 1, none⟩ = some rv[k].2 := by
  have e : ∀ j u, j < 2 → (encR rv[k])[j]? = some u → w.cell? ⟨g, k * 2 + j, none⟩ = some u := by
    intro j u hj hu
    have := fm_get rv encR 2 k j hk (fun _ _ => rfl) hj
    rw [hu] at this
    have := h.cells (g := g) rfl (k * 2 + j) _ this
    have e2 : (⟨g, 0, none⟩ : Addr).add (k * 2 + j) = ⟨g, k * 2 + j, none⟩ := by rw [Addr.add_lit, Nat.zero_add]
    rw [e2] at this
    exact this
  exact ⟨e 0 _ (by omega) rfl, e 1 _ (by omega) rfl⟩
theorem slice_pos {w : World} {base : Nat} {e : TypeId} {size n c : Nat} {A : Option Addr} {xs : List Value} (h : w.ownsRow base e size (.slice A n c) n xs) (hn : 0 < n) : ∃ g, A = some ⟨g, 0, none⟩ := by
  obtain ⟨g, c', h1⟩ := own_pos h hn
  injection h1 with h1 _ _
  exact ⟨g, h1⟩
set_option maxRecDepth 100000 in
set_option maxHeartbeats 4000000 in
theorem samer_any (R : List Rep) (rv1 rv2 : List (Int × Value)) (A1 A2 : Option Addr) (n c1 c2 : Nat) (w : World) (B1 B2 : Nat → Prop) (hB1 : ∀ k, B1 k → k < w.heap.size) (hB2 : ∀ k, B2 k → k < w.heap.size) (hn9 : n ≤ 1000000) (hn1 : n = rv1.length) (hn2 : n = rv2.length)
    (o1 : w.ownsRow 0 69 2 (.slice A1 n c1) n (rv1.flatMap encR)) (l1 : Lines w B1 rv1 R) (o2 : w.ownsRow 0 69 2 (.slice A2 n c2) n (rv2.flatMap encR)) (l2 : Lines w B2 rv2 R) :
    Calls Try.prog 22 #[.slice A1 n c1, .slice A2 n c2] w fun e w' => e = .returned (.bool true) ∧ Fr No w w' := by
  have O1 := Lib.hid o1
  have O2 := Lib.hid o2
  have L1 := Lib.hid l1
  have L2 := Lib.hid l2
  have N1 := Lib.hid hn1
  have N2 := Lib.hid hn2
  have HB1 := Lib.hid hB1
  have HB2 := Lib.hid hB2
  clear o1 o2 l1 l2 hn1 hn2 hB1 hB2
  go_enter Try.func22, Try.ntmps22
  go_wp2_with fail
  go_loopw [5] (fun i wr => ∃ k : Nat, i = .int .i64 k ∧ k ≤ n ∧ Hid (Fr No w wr)) (fun i _ => n - (intOf i).toNat)
  case atStart => exact ⟨0, rfl, Nat.zero_le _, Fr.refl _ _⟩
  case round =>
    obtain ⟨k, rfl, hk, hd⟩ := hrel
    by_cases hlt : k < n
    · obtain ⟨g1, rfl⟩ := slice_pos O1.out (by omega)
      obtain ⟨g2, rfl⟩ := slice_pos O2.out (by omega)
      have k1 : k < rv1.length := N1.out ▸ hlt
      have k2 : k < rv2.length := N2.out ▸ hlt
      have kR : k < R.length := L1.out.1 ▸ k1
      have hf := hd.out
      have at1 := fun X (hX : Fr No wr X) => reply_at (own_fr O1.out (hf.then_no hX) (fun _ _ h => h)) k1
      have at2 := fun X (hX : Fr No wr X) => reply_at (own_fr O2.out (hf.then_no hX) (fun _ _ h => h)) k2
      obtain ⟨e1, h1⟩ := L1.out.2 k k1 kR
      obtain ⟨e2, h2⟩ := L2.out.2 k k2 kR
      obtain ⟨⟨num, L⟩, hR⟩ : ∃ q, q = R[k] := ⟨_, rfl⟩
      obtain ⟨⟨m1, v1⟩, hv1⟩ : ∃ q, q = rv1[k] := ⟨_, rfl⟩
      obtain ⟨⟨m2, v2⟩, hv2⟩ : ∃ q, q = rv2[k] := ⟨_, rfl⟩
      rw [← hR, ← hv1] at e1 h1
      rw [← hR, ← hv2] at e2 h2
      rw [← hv1] at at1
      rw [← hv2] at at2
      simp only at e1 e2 h1 h2 at1 at2
      subst e1 e2
      obtain ⟨A3, c3, rfl, -, -⟩ := h1.slice
      obtain ⟨A4, c4, rfl, -, -⟩ := h2.slice
      obtain ⟨n3, hn3⟩ : ∃ n3, n3 = L.length := ⟨_, rfl⟩
      rw [← hn3] at h1 h2 at1 at2
      have hSM := fun X (hX : Fr No wr X) => (same_yes m2 (.slice A3 n3 c3) (.slice A4 n3 c4) L L X (fun q => B1 q ∨ B2 q) (fun q hq => hq.elim (fun h => Nat.lt_of_lt_of_le (HB1.out q h) (hf.then_no hX).size) (fun h => Nat.lt_of_lt_of_le (HB2.out q h) (hf.then_no hX).size))
        ((RSl.stable RStr.stable).go h1 (Kept.of_no (hf.then_no hX) HB1.out) (fun _ h => .inl h)) ((RSl.stable RStr.stable).go h2 (Kept.of_no (hf.then_no hX) HB2.out) (fun _ h => .inr h)) rfl).mono fun e w' hh => And.intro hh.1 (hX.then_no hh.2)
      have HSM := Lib.hid hSM
      have HK := Lib.hid (show ∀ X, Fr No wr X → X.cell? ⟨g1, k * 2, none⟩ = some (.int .i64 m2) ∧ X.cell? ⟨g1, k * 2 + 1, none⟩ = some (.slice A3 n3 c3) ∧ X.cell? ⟨g2, k * 2, none⟩ = some (.int .i64 m2) ∧ X.cell? ⟨g2, k * 2 + 1, none⟩ = some (.slice A4 n3 c4) from fun X hX => ⟨(at1 X hX).1, (at1 X hX).2, (at2 X hX).1, (at2 X hX).2⟩)
      have HF := Lib.hid hf
      clear at1 at2 h1 h2 hR hv1 hv2 hn3 hSM hf hd
      go_upto_region 6 with (fail)
      go_region_held3 (fun X => X.cell? ⟨g1, k * 2, none⟩ = some (.int .i64 m2) ∧ X.cell? ⟨g1, k * 2 + 1, none⟩ = some (.slice A3 n3 c3) ∧ X.cell? ⟨g2, k * 2, none⟩ = some (.int .i64 m2) ∧ X.cell? ⟨g2, k * 2 + 1, none⟩ = some (.slice A4 n3 c4)) ((refine HK.out _ ?_; (repeat' (first | with_reducible assumption | with_reducible exact Fr.refl _ _ | with_reducible refine Fr.drew ?_ | with_reducible refine Fr.drewN ?_ _ | with_reducible refine Fr.alloc ?_ _)))) ((go_at_call 35; refine (HSM.out _ (by (repeat' (first | with_reducible assumption | with_reducible exact Fr.refl _ _ | with_reducible refine Fr.drew ?_ | with_reducible refine Fr.drewN ?_ _ | with_reducible refine Fr.alloc ?_ _)))).mono ?_; rintro e2 w6 ⟨rfl, f6⟩))
      have F6 := Lib.hid (HF.out.then_no f6)
      clear f6 HK HSM HF
      go_wp2_with fail
      go_roundw
      case rel => exact ⟨k + 1, by go_num, by omega, F6.out⟩
      case measure => simp [intOf]; omega
    · have F6 := Lib.hid hd.out
      clear hd
      go_wp2_with fail
      go_ret
      exact ⟨rfl, F6.out⟩

theorem RA.rp {w : World} {A : Nat → Prop} {g p : Nat} {x : X} {op : Str} (h : RA w A g x p op) : ∃ Fs B vR vV rv, RP w Fs B g vR vV rv x p op := by
  obtain ⟨Fs, B, vR, vV, rv, h1, -⟩ := h
  exact ⟨Fs, B, vR, vV, rv, h1⟩
set_option maxRecDepth 100000 in
set_option maxHeartbeats 8000000 in
theorem lsame_any {w : World} {A A2 : Nat → Prop} {g p : Nat} {x y : X} {op : Str} {vR vV : Value} {ro : Int} {bd : Bool} (h : RA w A g x p op) (hx : RB w A2 y #[vR, vV, .int .i64 ro, .bool bd]) (eR : y.R = x.R) (eV : y.V = x.V) (eo : y.role = x.role) (hf : Fit 900000 x) :
    Calls Try.prog 10 #[.pointer (some ⟨g, 0, none⟩), .agg #[vR, vV, .int .i64 ro, .bool bd]] w fun e w' => e = .returned (.bool true) ∧ Fr No w w' := by
  obtain ⟨Fs, B, vRx, vVx, rvx, hp, hA, hlt⟩ := h
  obtain ⟨B2, rv, hrw, rfl, rfl, hA2, hlt2⟩ := hx.parts
  have hra : RA w A g x p op := ⟨Fs, B, vRx, vVx, rvx, hp, hA, hlt⟩
  obtain ⟨A5, k5, hu⟩ := own_form hrw.rown
  subst hu
  obtain ⟨A6, k6, hu⟩ := own_form hrw.vown
  subst hu
  obtain ⟨n5, hn5⟩ : ∃ n5, n5 = rv.length := ⟨_, rfl⟩
  obtain ⟨n6, hn6⟩ : ∃ n6, n6 = y.V.length := ⟨_, rfl⟩
  obtain ⟨ro, hro⟩ : ∃ ro, ro = y.role := ⟨_, rfl⟩
  obtain ⟨bd, hbd⟩ : ∃ bd, bd = y.bad := ⟨_, rfl⟩
  rw [← hn5, ← hn6] at hrw
  rw [← hn5, ← hn6, ← hro, ← hbd]
  have hl5 : n5 ≤ 1000000 := by rw [hn5, hrw.lines.1, eR]; have := hf.1; omega
  have hl6 : n6 ≤ 1000000 := by rw [hn6, eV]; have := hf.2.1; omega
  have hv6 : x.V.length = n6 := by rw [hn6, eV]
  have h5x : rvx.length = n5 := by rw [hn5, hrw.lines.1, hp.rows.lines.1, eR]
  have X3 := Lib.hid (Blk.new w 31 #[.slice A5 n5 k5, .slice A6 n6 k6, .int .i64 ro, .bool bd])
  obtain ⟨bx, hbx⟩ : ∃ bx, w.heap.size = bx := ⟨_, rfl⟩
  have X3 := Lib.hid (show Blk _ bx _ _ from by rw [← hbx]; exact X3.out)
  have FW := Lib.hid ((Fr.refl No w).alloc (.cells #[.slice A5 n5 k5, .slice A6 n6 k6, .int .i64 ro, .bool bd] 31))
  have HVI := Lib.hid (fun W (hW : Fr No w W) => views_any (hp.no hW) (hf.mono (by omega)))
  have HRE := Lib.hid (fun W (hW : Fr No w W) => replies_any (hp.no hW) (hf.mono (by omega)))
  have HRO := Lib.hid (fun W (hW : Fr No w W) => role_any (hra.no hW))
  unfold CopyV at HVI
  unfold CopyR at HRE
  rw [hv6] at HVI
  rw [h5x] at HRE
  rw [← eo, ← hro] at HRO
  have HRW := Lib.hid hrw
  have HV6 := Lib.hid hv6
  have H5X := Lib.hid h5x
  have HN5 := Lib.hid hn5
  have HN6 := Lib.hid hn6
  have HER := Lib.hid eR
  have HEV := Lib.hid eV
  have HPB := Lib.hid (fun q hq => (hp.rows.hB q hq).1)
  clear hp hra hx hA hlt hrw hA2 hlt2 hn5 hn6 hro hbd hv6 h5x eR eV eo hf
  go_enter Try.func10, Try.ntmps10
  go_wp2_with fail
  try rw [hbx]
  clear hbx
  generalize w.alloc (.cells #[.slice A5 n5 k5, .slice A6 n6 k6, .int .i64 ro, .bool bd] 31) = wa at X3 FW ⊢
  refine (HVI.out wa FW.out).mono ?_
  rintro e w1 ⟨AC, cC, rfl, hC, hf1, hN1⟩
  have HC := Lib.hid hC
  have F1 := Lib.hid hf1
  clear hC hf1 hN1
  have HK := Lib.hid (show ∀ X, Fr No w1 X → X.cell? ⟨bx, 0, none⟩ = some (.slice A5 n5 k5) ∧ X.cell? ⟨bx, 1, none⟩ = some (.slice A6 n6 k6) ∧ X.cell? ⟨bx, 2, none⟩ = some (.int .i64 ro) from fun X hX => ⟨(X3.out.fr (F1.out.then_no hX) (fun h => h)).cell 0, (X3.out.fr (F1.out.then_no hX) (fun h => h)).cell 1, (X3.out.fr (F1.out.then_no hX) (fun h => h)).cell 2⟩)
  have HSM : Hid (∀ X w' Ar cr, Fr No w1 X → w'.ownsRow 0 69 2 (.slice Ar n5 cr) n5 (rvx.flatMap encR) → Lines w' B rvx x.R → Fr No X w' → ∀ Y, Fr No w' Y → Calls Try.prog 22 #[.slice Ar n5 cr, .slice A5 n5 k5] Y fun e w'' => e = .returned (.bool true) ∧ Fr No w1 w'') := Lib.hid (by
    intro X w' Ar cr hX ho hl hXw Y hY
    have hXY := hXw.then_no hY
    have hYw : Fr No w Y := ((FW.out.then_no F1.out).then_no hX).then_no hXY
    have hr := HRW.out.no hYw
    refine (samer_any x.R rvx rv Ar A5 n5 cr k5 Y B B2 (fun q hq => Nat.lt_of_lt_of_le (HPB.out q hq) hYw.size) (fun q hq => (hr.hB q hq).1) hl5 H5X.out.symm HN5.out (own_fr ho hY (fun _ _ h => h)) (hl.fr hY (fun q hq => ⟨Nat.lt_of_lt_of_le (HPB.out q hq) ((((FW.out.then_no F1.out).then_no hX).then_no hXw).size), fun h => h⟩)) (by have hq := hr.rown; rw [← HN5.out] at hq; exact hq) (by rw [← HER.out]; exact hr.lines)).mono fun e w'' hh => ⟨hh.1, (hX.then_no hXY).then_no hh.2⟩)
  go_upto_region 2 with (fail)
  go_region_held3 (fun X => X.cell? ⟨bx, 0, none⟩ = some (.slice A5 n5 k5) ∧ X.cell? ⟨bx, 1, none⟩ = some (.slice A6 n6 k6) ∧ X.cell? ⟨bx, 2, none⟩ = some (.int .i64 ro)) ((refine HK.out _ ?_; (repeat' (first | with_reducible assumption | with_reducible exact Fr.refl _ _ | with_reducible refine Fr.drew ?_ | with_reducible refine Fr.drewN ?_ _ | with_reducible refine Fr.alloc ?_ _)))) (first
    | (go_at_call 12; refine (HRO.out _ ((FW.out.then_no F1.out).then_no (by (repeat' (first | with_reducible assumption | with_reducible exact Fr.refl _ _ | with_reducible refine Fr.drew ?_ | with_reducible refine Fr.drewN ?_ _ | with_reducible refine Fr.alloc ?_ _))))).mono ?_; rintro e2 w6 ⟨rfl, rfl⟩)
    | (go_at_call 11; refine (HRE.out _ ((FW.out.then_no F1.out).then_no (by (repeat' (first | with_reducible assumption | with_reducible exact Fr.refl _ _ | with_reducible refine Fr.drew ?_ | with_reducible refine Fr.drewN ?_ _ | with_reducible refine Fr.alloc ?_ _))))).mono ?_; rintro e2 w7 ⟨Ar, cr, rfl, r1, r2, r3, r4⟩; have f7 : Fr No w1 w7 := (show Fr No w1 _ from (by (repeat' (first | with_reducible assumption | with_reducible exact Fr.refl _ _ | with_reducible refine Fr.drew ?_ | with_reducible refine Fr.drewN ?_ _ | with_reducible refine Fr.alloc ?_ _)))).then_no r3; have R1 := Lib.hid r1; have R2 := Lib.hid r2; clear r1 r2 r3 r4)
    | (go_at_call 22; refine (HSM.out w7 w7 Ar cr f7 R1.out R2.out (Fr.refl _ _) _ (by (repeat' (first | with_reducible assumption | with_reducible exact Fr.refl _ _ | with_reducible refine Fr.drew ?_ | with_reducible refine Fr.drewN ?_ _ | with_reducible refine Fr.alloc ?_ _)))).mono ?_; rintro e2 w8 ⟨rfl, f8⟩))
  go_upto_region 5 with (fail)
  try go_wp2_with fail
  have FW8 := Lib.hid (F1.out.then_no f8)
  have F8 := Lib.hid f8
  clear f7 f8 HSM HRE HRO HVI
  go_loopw [6] (fun i wr => ∃ k : Nat, i = .int .i64 k ∧ k ≤ n6 ∧ Hid (Fr No w8 wr)) (fun i _ => n6 - (intOf i).toNat)
  case atStart => exact ⟨0, rfl, Nat.zero_le _, Fr.refl _ _⟩
  case round =>
    obtain ⟨k, rfl, hk, hd⟩ := hrel
    by_cases hlt : k < n6
    · have hfw := FW8.out.then_no hd.out
      have hr := HRW.out.no (FW.out.then_no hfw)
      obtain ⟨gV, hgV⟩ := slice_pos (n := n6) (by have hq := hr.vown; rw [← HN6.out] at hq; exact hq) (by omega)
      obtain ⟨gC, hgC⟩ := slice_pos HC.out (by omega)
      subst hgV hgC
      have k1 : k < y.V.length := HN6.out ▸ hlt
      have k2 : k < x.V.length := HEV.out ▸ k1
      have hC := own_fr HC.out ((F8.out.then_no hd.out)) (fun _ _ h => h)
      obtain ⟨v0, v1, v2⟩ := view_at (by have hq := hr.vown; rw [← HN6.out] at hq ⊢; exact hq) k1
      obtain ⟨u0, u1, u2⟩ := view_at (by rw [HV6.out]; exact hC) k2
      have hvv : x.V[k] = y.V[k] := by simp only [HEV.out]
      rw [hvv] at u0 u1 u2
      obtain ⟨⟨na, te, oo⟩, hv⟩ : ∃ q, q = y.V[k] := ⟨_, rfl⟩
      rw [← hv] at u0 u1 u2 v0 v1 v2
      simp only at u0 u1 u2 v0 v1 v2
      have x1 := (X3.out.fr hfw (fun h => h)).cell 1
      simp only [List.getElem?_toArray, List.getElem?_cons_zero, List.getElem?_cons_succ] at x1
      have HD := Lib.hid hd.out
      clear hC hr hfw hv hvv k1 k2 hd
      go_upto_region 7 with (fail)
      go_quiet (fail)
      have HD2 := Lib.hid (HD.out.then_no ((Fr.refl No wr).drewN nq))
      go_wp2_with fail
      go_roundw
      case rel => exact ⟨k + 1, by go_num, by omega, HD2.out⟩
      case measure => simp [intOf]; omega
    · have HD := Lib.hid hd.out
      clear hd
      go_wp2_with fail
      go_ret
      exact ⟨rfl, FW.out.then_no (FW8.out.then_no HD.out)⟩
end Rd
end Go.Proofs.Ytmmdiccpifepfaa
