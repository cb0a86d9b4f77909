/- container/heap over package timer's pile: up and down. Printed by gen_tmh.py. -/
import Derived.Test.YtkmlmjglipmdcaaTmS
import Derived.Deep.CutRange
namespace Go.Proofs.Ytkmlmjglipmdcaa
open Go.RowKit
set_option linter.unusedVariables false
set_option linter.unusedSimpArgs false
namespace Tm
open Sls
abbrev hp (b : Nat) : Value := .iface 67 (.pointer (some ⟨b, 1, none⟩))
section
variable {w w' : World} {b : Nat} {c0 c2 v : Value} {P : List E}
theorem meth_Len (h : w.cell? ⟨b, 1, none⟩ = some v) : (method 193 67 (.pointer (some ⟨b, 1, none⟩)) "Len").run Try.prog w = .ok (43, v) w := by
  have e : (method 193 67 (.pointer (some ⟨b, 1, none⟩)) "Len").run Try.prog w = ((do return (43, ← loadVar 59 ⟨b, 1, none⟩) : Sem (FuncId × Value))).run Try.prog w := by kernel_rfl
  rw [e]
  simp [go_sem, loadVar, h]
theorem meth_Less (h : w.cell? ⟨b, 1, none⟩ = some v) : (method 193 67 (.pointer (some ⟨b, 1, none⟩)) "Less").run Try.prog w = .ok (44, v) w := by
  have e : (method 193 67 (.pointer (some ⟨b, 1, none⟩)) "Less").run Try.prog w = ((do return (44, ← loadVar 59 ⟨b, 1, none⟩) : Sem (FuncId × Value))).run Try.prog w := by kernel_rfl
  rw [e]
  simp [go_sem, loadVar, h]
theorem meth_Swap (h : w.cell? ⟨b, 1, none⟩ = some v) : (method 193 67 (.pointer (some ⟨b, 1, none⟩)) "Swap").run Try.prog w = .ok (45, v) w := by
  have e : (method 193 67 (.pointer (some ⟨b, 1, none⟩)) "Swap").run Try.prog w = ((do return (45, ← loadVar 59 ⟨b, 1, none⟩) : Sem (FuncId × Value))).run Try.prog w := by kernel_rfl
  rw [e]
  simp [go_sem, loadVar, h]
theorem meth_Push : (method 193 67 (.pointer (some ⟨b, 1, none⟩)) "Push").run Try.prog w = .ok (47, .pointer (some ⟨b, 1, none⟩)) w := by kernel_rfl
theorem meth_Pop : (method 193 67 (.pointer (some ⟨b, 1, none⟩)) "Pop").run Try.prog w = .ok (46, .pointer (some ⟨b, 1, none⟩)) w := by kernel_rfl
theorem PP.c1 (h : PP w b c0 c2 v P) : w.cell? ⟨b, 1, none⟩ = some v := h.blk.cell 1
/-- What stays of a pile whose entries change places; the first n of them. -/
structure Perm1 (w w' : World) (b : Nat) (c0 c2 v : Value) (P Q : List E) (n : Nat) : Prop where
  pp : PP w' b c0 c2 v Q
  perm : Q.Perm P
  tail : ∀ m, n ≤ m → at' Q m = at' P m
  fr : Fr (Foot v P) w w'
theorem Perm1.start (h : PP w b c0 c2 v P) (n : Nat) : Perm1 w w b c0 c2 v P P n := ⟨h, List.Perm.refl _, fun _ _ => rfl, Fr.refl _ _⟩
theorem Perm1.no {w2 : World} {Q : List E} {n : Nat} (h : Perm1 w w' b c0 c2 v P Q n) (hf : Fr No w' w2) : Perm1 w w2 b c0 c2 v P Q n := ⟨h.pp.no hf, h.perm, h.tail, h.fr.then_no hf⟩
theorem Perm1.swap {w2 : World} {Q : List E} {n i k : Nat} (h : Perm1 w w' b c0 c2 v P Q n) (hi : i < n) (hk : k < n) (hn : n ≤ P.length) (hs : PP w2 b c0 c2 v (sw Q i k)) (hf : Fr (Foot v Q) w' w2) : Perm1 w w2 b c0 c2 v P (sw Q i k) n := by
  have hl := h.perm.length_eq
  refine ⟨hs, (sw_perm (by omega) (by omega)).trans h.perm, fun m hm => ?_, h.fr.trans hf (fun x hx _ => (foot_sw h.perm).1 hx)⟩
  rw [sw_at (by omega) (by omega)]
  unfold swf
  rw [if_neg (by omega), if_neg (by omega)]
  exact h.tail m hm
theorem Perm1.len {Q : List E} {n : Nat} (h : Perm1 w w' b c0 c2 v P Q n) : Q.length = P.length := h.perm.length_eq
def Heaped (w : World) (b : Nat) (c0 c2 v : Value) (P : List E) (n : Nat) (e : Ending) (w' : World) : Prop := ∃ Q, e = .returned (.tuple #[]) ∧ Perm1 w w' b c0 c2 v P Q n ∧ Ok (at' Q) n
theorem tdiv_par (m : Nat) (h : 0 < m) : ((m : Int) - 1) / 2 = (par m : Nat) := by
  unfold par; omega
set_option maxRecDepth 100000 in
set_option maxHeartbeats 4000000 in
theorem up_any (h : PP w b c0 c2 v P) {j n : Nat} (hj : j < n) (hn : n ≤ P.length) (hl : P.length ≤ 4096) (hu : UpO (at' P) n j) : Calls Try.prog 26 #[hp b, .int .i64 j] w (Heaped w b c0 c2 v P n) := by
  have H0 := Lib.hid (Perm1.start h n)
  have HU := Lib.hid hu
  have HN := Lib.hid hn
  obtain ⟨n0, hn0⟩ : ∃ n0, n0 = n := ⟨_, rfl⟩
  have hn4 : n ≤ 4096 := by omega
  have HL := Lib.hid hl
  clear h hu hn0 hl hn
  go_enter Try.func26, Try.ntmps26
  go_wp2_with fail
  go_loopw [1] (fun jv wr => ∃ (m : Nat) (Q : List E), jv = .int .i64 m ∧ m < n ∧ Hid (Perm1 w wr b c0 c2 v P Q n ∧ UpO (at' Q) n m)) (fun jv _ => (intOf jv).toNat)
  case atStart => exact ⟨j, P, rfl, hj, H0.out, HU.out⟩
  case round =>
    obtain ⟨m, Q, rfl, hm, HQ⟩ := hrel
    clear H0 HU hj
    by_cases h0 : m = 0
    · subst h0
      have hz : Int.tdiv (((0 : Nat) : Int) - 1) 2 = 0 := by decide
      have HE := Lib.hid (up_end HQ.out.2 (.inl rfl))
      go_wp2_with fail
      go_end0
      exact ⟨Q, rfl, HQ.out.1, HE.out⟩
    · have h0' : 0 < m := by omega
      have HD := Lib.hid (tdiv_par m h0')
      have hpm : par m < m := by unfold par; omega
      have HUS := Lib.hid (fun hl => up_step HQ.out.2 h0' hm hl)
      have HUE := Lib.hid (fun hl => up_end HQ.out.2 (.inr hl))
      obtain ⟨p, hp'⟩ : ∃ p, p = par m := ⟨_, rfl⟩
      rw [← hp'] at HD hpm HUS HUE
      have hml : m < Q.length := by rw [HQ.out.1.len]; exact Nat.lt_of_lt_of_le hm HN.out
      have hpl : p < Q.length := by omega
      have hQl : Q.length ≤ 4096 := by rw [HQ.out.1.len]; exact HL.out
      have hpe : ((p : Int) == (m : Int)) = false := by simp; omega
      have HLE := Lib.hid (less_any HQ.out.1.pp hml hpl hQl)
      have HSW := Lib.hid (fun (X : World) (hX : PP X b c0 c2 v Q) => swap_any hX hpl hml (by omega) hQl)
      have HSA := Lib.hid (sw_at hpl hml)
      have m1 := meth_Less HQ.out.1.pp.c1
      obtain ⟨q, hq⟩ : ∃ q, q = lt (at' Q m) (at' Q p) := ⟨_, rfl⟩
      rw [← hq] at HLE HUS HUE
      clear hp' hq h0
      go_upto_region 1 with (fail)
      rw [HD.out]
      cases q
      · go_wp2_with fail
        refine HLE.out.mono ?_
        rintro e w1 ⟨rfl, hf⟩
        have HF := Lib.hid hf
        clear hf
        go_wp2_with fail
        go_end0
        exact ⟨Q, rfl, HQ.out.1.no HF.out, HUE.out (by simp)⟩
      · go_wp2_with fail
        refine HLE.out.mono ?_
        rintro e w1 ⟨rfl, hf⟩
        have H1 := Lib.hid (HQ.out.1.no hf)
        have m2 := meth_Swap H1.out.pp.c1
        clear hf
        go_wp2_with fail
        refine (HSW.out _ H1.out.pp).mono ?_
        rintro e w2 ⟨rfl, hs, hf⟩
        have H2 := Lib.hid (H1.out.swap (by omega) hm HN.out hs hf)
        clear hs hf
        go_wp2_with fail
        go_roundw
        case rel => exact ⟨p, sw Q p m, rfl, by omega, H2.out, by rw [HSA.out]; exact HUS.out (by simp)⟩
        case measure => simp [intOf]; omega
def Downed (w : World) (b : Nat) (c0 c2 v : Value) (P : List E) (n i0 : Nat) (e : Ending) (w' : World) : Prop := ∃ Q mv, e = .returned (.bool mv) ∧ Perm1 w w' b c0 c2 v P Q n ∧ (mv = true → Ok (at' Q) n) ∧ (mv = false → Q = P ∧ UpO (at' P) n i0)
theorem down_none {f : Nat → E} {n m : Nat} (h : n ≤ 2 * m + 1) : ∀ k, 0 < k → k < n → par k = m → lt (f k) (f m) = false := fun k h0 hk hp => by
  rw [par_child h0] at hp; omega
theorem Perm1.downed {w2 : World} {Q : List E} {n m i0 : Nat} (h : Perm1 w w2 b c0 c2 v P Q n) (hd : Dn (at' Q) n m i0) (hi : i0 ≤ m) (he : m = i0 → Q = P) (hc : ∀ k, 0 < k → k < n → par k = m → lt (at' Q k) (at' Q m) = false) : Downed w b c0 c2 v P n i0 (.returned (.bool (decide (i0 < m)))) w2 := by
  have hde := down_end hd hc
  refine ⟨Q, _, rfl, h, fun g => hde.2 (by have := of_decide_eq_true g; omega), fun g => ?_⟩
  have e : m = i0 := by have := of_decide_eq_false g; omega
  have eq := he e
  subst eq e
  exact ⟨rfl, hde.1⟩
theorem kids {f : Nat → E} {n m j : Nat} (h1 : j = 2 * m + 1 ∨ j = 2 * m + 2) (h2 : ∀ k, k = 2 * m + 1 ∨ k = 2 * m + 2 → k < n → lt (f k) (f j) = false) (hl : lt (f j) (f m) = false) : ∀ k, 0 < k → k < n → par k = m → lt (f k) (f m) = false := fun k h0 hk hp => by
  rw [par_child h0] at hp
  exact le_trans hl (h2 k hp hk)
set_option maxRecDepth 100000 in
set_option maxHeartbeats 8000000 in
theorem down_any (h : PP w b c0 c2 v P) {i0 n : Nat} (hi : i0 < n) (hn : n ≤ P.length) (hl : P.length ≤ 4096) (hd : Dn (at' P) n i0 i0) : Calls Try.prog 25 #[hp b, .int .i64 i0, .int .i64 n] w (Downed w b c0 c2 v P n i0) := by
  have H0 := Lib.hid (Perm1.start h n)
  have HD := Lib.hid hd
  have HN := Lib.hid hn
  have hn4 : n ≤ 4096 := by omega
  have HL := Lib.hid hl
  clear h hd hl hn
  go_enter Try.func25, Try.ntmps25
  go_wp2_with fail
  go_loopw [7] (fun iv wr => ∃ (m : Nat) (Q : List E), iv = .int .i64 m ∧ i0 ≤ m ∧ m < n ∧ Hid (Perm1 w wr b c0 c2 v P Q n ∧ Dn (at' Q) n m i0 ∧ (m = i0 → Q = P))) (fun iv _ => n - (intOf iv).toNat)
  case atStart => exact ⟨i0, P, rfl, Nat.le_refl _, hi, H0.out, HD.out, fun _ => rfl⟩
  case round =>
    obtain ⟨m, Q, rfl, him, hm, HQ⟩ := hrel
    clear H0 HD hi
    by_cases h1 : n ≤ 2 * m + 1
    · have HE := Lib.hid (HQ.out.1.downed HQ.out.2.1 him HQ.out.2.2 (down_none h1))
      go_wp2_with fail
      go_ret
      exact HE.out
    · have hml : m < Q.length := by rw [HQ.out.1.len]; exact Nat.lt_of_lt_of_le hm HN.out
      have hQn : n ≤ Q.length := by rw [HQ.out.1.len]; exact HN.out
      have hQl : Q.length ≤ 4096 := by rw [HQ.out.1.len]; exact HL.out
      obtain ⟨j1, hj1⟩ : ∃ j1, j1 = 2 * m + 1 := ⟨_, rfl⟩
      have e1 : (2 : Int) * (m : Int) + 1 = (j1 : Int) := by omega
      have hj1n : j1 < n := by omega
      have hj1z : decide ((n : Int) ≤ (j1 : Int)) = false := decide_eq_false (by omega)
      have hj0 : decide ((j1 : Int) < 0) = false := decide_eq_false (by omega)
      have HJ1 := Lib.hid hj1
      have m1 := meth_Less HQ.out.1.pp.c1
      have hmj : m < j1 := by omega
      clear hj1 h1
      go_upto_region 3 with (fail)
      by_cases h2 : j1 + 1 < n
      · have hj2 : decide ((j1 : Int) + 1 < (n : Int)) = true := decide_eq_true (by omega)
        have HLE := Lib.hid (less_any (i := j1 + 1) (k := j1) HQ.out.1.pp (by omega) (by omega) hQl)
        obtain ⟨q, hq⟩ : ∃ q, q = lt (at' Q (j1 + 1)) (at' Q j1) := ⟨_, rfl⟩
        rw [← hq] at HLE
        have e2 : ((j1 + 1 : Nat) : Int) = (j1 : Int) + 1 := by omega
        rw [e2] at HLE
        have HQ2 := Lib.hid hq
        clear hq
        cases q
        · have HKD := Lib.hid (show ∀ k, k = 2 * m + 1 ∨ k = 2 * m + 2 → k < n → lt (at' Q k) (at' Q j1) = false from fun k hk _ => by
            have := HJ1.out
            rcases hk with g | g
            · rw [show k = j1 by omega]; exact lt_irr _
            · rw [show k = j1 + 1 by omega]; exact HQ2.out.symm)
          go_wp2_with fail
          all_goals try (exfalso; omega)
          refine HLE.out.mono ?_
          rintro e w1 ⟨rfl, hf⟩
          have H1 := Lib.hid (HQ.out.1.no hf)
          clear hf m1 HLE
          have m1 := meth_Less H1.out.pp.c1
          have HJ := Lib.hid (show j1 = 2 * m + 1 ∨ j1 = 2 * m + 2 from .inl HJ1.out)
          have hJn : j1 < n := by omega
          have hmJ : m < j1 := by omega
          have HLF := Lib.hid (less_any (i := j1) (k := m) H1.out.pp (by omega) hml hQl)
          have HSW := Lib.hid (fun (X : World) (hX : PP X b c0 c2 v Q) => swap_any (i := m) (k := j1) hX hml (by omega) (by omega) hQl)
          have HSA := Lib.hid (sw_at (P := Q) (i := m) (k := j1) hml (by omega))
          have HDE := Lib.hid (fun hl => kids (f := at' Q) (n := n) HJ.out HKD.out hl)
          have HDS := Lib.hid (fun hl => down_step HQ.out.2.1 him (show par (j1) = m by rw [par_child (by omega)]; exact HJ.out) (by omega) hJn (fun k h0 hk hp => HKD.out k ((par_child h0).1 hp) hk) hl)
          obtain ⟨q2, hq2⟩ : ∃ q2, q2 = lt (at' Q (j1)) (at' Q m) := ⟨_, rfl⟩
          rw [← hq2] at HLF HDE HDS
          clear hq2 HKD
          cases q2
          · go_wp2_with fail
            all_goals try (exfalso; omega)
            refine HLF.out.mono ?_
            rintro e w2 ⟨rfl, hf⟩
            have H2 := Lib.hid (H1.out.no hf)
            clear hf
            have HE := Lib.hid (H2.out.downed HQ.out.2.1 him HQ.out.2.2 (HDE.out (by simp)))
            go_wp2_with fail
            go_ret
            exact HE.out
          · go_wp2_with fail
            all_goals try (exfalso; omega)
            refine HLF.out.mono ?_
            rintro e w2 ⟨rfl, hf⟩
            have H2 := Lib.hid (H1.out.no hf)
            have m2 := meth_Swap H2.out.pp.c1
            clear hf
            have HSX := Lib.hid (HSW.out _ H2.out.pp)
            go_wp2_with fail
            refine HSX.out.mono ?_
            rintro e w3 ⟨rfl, hs, hf⟩
            have H3 := Lib.hid (H2.out.swap hm hJn HN.out hs hf)
            clear hs hf
            go_wp2_with fail
            go_roundw
            case rel => exact ⟨j1, sw Q m (j1), by go_num, by omega, hJn, H3.out, by rw [HSA.out]; exact HDS.out (by simp), fun g => absurd g (by omega)⟩
            case measure => simp [intOf]; omega
        · have HKD := Lib.hid (show ∀ k, k = 2 * m + 1 ∨ k = 2 * m + 2 → k < n → lt (at' Q k) (at' Q (j1 + 1)) = false from fun k hk _ => by
            have := HJ1.out
            rcases hk with g | g
            · rw [show k = j1 by omega]; exact lt_le HQ2.out.symm
            · rw [show k = j1 + 1 by omega]; exact lt_irr _)
          go_wp2_with fail
          all_goals try (exfalso; omega)
          refine HLE.out.mono ?_
          rintro e w1 ⟨rfl, hf⟩
          have H1 := Lib.hid (HQ.out.1.no hf)
          clear hf m1 HLE
          have m1 := meth_Less H1.out.pp.c1
          have HJ := Lib.hid (show j1 + 1 = 2 * m + 1 ∨ j1 + 1 = 2 * m + 2 from .inr (by have := HJ1.out; omega))
          have hJn : j1 + 1 < n := by omega
          have hmJ : m < j1 + 1 := by omega
          have HLF := Lib.hid (less_any (i := j1 + 1) (k := m) H1.out.pp (by omega) hml hQl)
          have HSW := Lib.hid (fun (X : World) (hX : PP X b c0 c2 v Q) => swap_any (i := m) (k := j1 + 1) hX hml (by omega) (by omega) hQl)
          have HSA := Lib.hid (sw_at (P := Q) (i := m) (k := j1 + 1) hml (by omega))
          have HDE := Lib.hid (fun hl => kids (f := at' Q) (n := n) HJ.out HKD.out hl)
          have HDS := Lib.hid (fun hl => down_step HQ.out.2.1 him (show par (j1 + 1) = m by rw [par_child (by omega)]; exact HJ.out) (by omega) hJn (fun k h0 hk hp => HKD.out k ((par_child h0).1 hp) hk) hl)
          obtain ⟨q2, hq2⟩ : ∃ q2, q2 = lt (at' Q (j1 + 1)) (at' Q m) := ⟨_, rfl⟩
          rw [← hq2] at HLF HDE HDS
          clear hq2 HKD
          rw [e2] at HLF
          cases q2
          · go_wp2_with fail
            all_goals try (exfalso; omega)
            refine HLF.out.mono ?_
            rintro e w2 ⟨rfl, hf⟩
            have H2 := Lib.hid (H1.out.no hf)
            clear hf
            have HE := Lib.hid (H2.out.downed HQ.out.2.1 him HQ.out.2.2 (HDE.out (by simp)))
            go_wp2_with fail
            go_ret
            exact HE.out
          · go_wp2_with fail
            all_goals try (exfalso; omega)
            refine HLF.out.mono ?_
            rintro e w2 ⟨rfl, hf⟩
            have H2 := Lib.hid (H1.out.no hf)
            have m2 := meth_Swap H2.out.pp.c1
            clear hf
            have HSX := Lib.hid (HSW.out _ H2.out.pp)
            rw [e2] at HSX
            go_wp2_with fail
            refine HSX.out.mono ?_
            rintro e w3 ⟨rfl, hs, hf⟩
            have H3 := Lib.hid (H2.out.swap hm hJn HN.out hs hf)
            clear hs hf
            go_wp2_with fail
            go_roundw
            case rel => exact ⟨j1 + 1, sw Q m (j1 + 1), by go_num, by omega, hJn, H3.out, by rw [HSA.out]; exact HDS.out (by simp), fun g => absurd g (by omega)⟩
            case measure => simp [intOf]; omega
      · have hj2 : decide ((j1 : Int) + 1 < (n : Int)) = false := decide_eq_false (by omega)
        have HKD := Lib.hid (show ∀ k, k = 2 * m + 1 ∨ k = 2 * m + 2 → k < n → lt (at' Q k) (at' Q j1) = false from fun k hk hkn => by
          have := HJ1.out
          rcases hk with g | g
          · rw [show k = j1 by omega]; exact lt_irr _
          · omega)
        have HJ := Lib.hid (show j1 = 2 * m + 1 ∨ j1 = 2 * m + 2 from .inl HJ1.out)
        have H1 := Lib.hid HQ.out.1
        have hJn : j1 < n := by omega
        have hmJ : m < j1 := by omega
        have HLF := Lib.hid (less_any (i := j1) (k := m) H1.out.pp (by omega) hml hQl)
        have HSW := Lib.hid (fun (X : World) (hX : PP X b c0 c2 v Q) => swap_any (i := m) (k := j1) hX hml (by omega) (by omega) hQl)
        have HSA := Lib.hid (sw_at (P := Q) (i := m) (k := j1) hml (by omega))
        have HDE := Lib.hid (fun hl => kids (f := at' Q) (n := n) HJ.out HKD.out hl)
        have HDS := Lib.hid (fun hl => down_step HQ.out.2.1 him (show par (j1) = m by rw [par_child (by omega)]; exact HJ.out) (by omega) hJn (fun k h0 hk hp => HKD.out k ((par_child h0).1 hp) hk) hl)
        obtain ⟨q2, hq2⟩ : ∃ q2, q2 = lt (at' Q (j1)) (at' Q m) := ⟨_, rfl⟩
        rw [← hq2] at HLF HDE HDS
        clear hq2 HKD
        cases q2
        · go_wp2_with fail
          all_goals try (exfalso; omega)
          refine HLF.out.mono ?_
          rintro e w2 ⟨rfl, hf⟩
          have H2 := Lib.hid (H1.out.no hf)
          clear hf
          have HE := Lib.hid (H2.out.downed HQ.out.2.1 him HQ.out.2.2 (HDE.out (by simp)))
          go_wp2_with fail
          go_ret
          exact HE.out
        · go_wp2_with fail
          all_goals try (exfalso; omega)
          refine HLF.out.mono ?_
          rintro e w2 ⟨rfl, hf⟩
          have H2 := Lib.hid (H1.out.no hf)
          have m2 := meth_Swap H2.out.pp.c1
          clear hf
          have HSX := Lib.hid (HSW.out _ H2.out.pp)
          go_wp2_with fail
          refine HSX.out.mono ?_
          rintro e w3 ⟨rfl, hs, hf⟩
          have H3 := Lib.hid (H2.out.swap hm hJn HN.out hs hf)
          clear hs hf
          go_wp2_with fail
          go_roundw
          case rel => exact ⟨j1, sw Q m (j1), by go_num, by omega, hJn, H3.out, by rw [HSA.out]; exact HDS.out (by simp), fun g => absurd g (by omega)⟩
          case measure => simp [intOf]; omega
end
end Tm
end Go.Proofs.Ytkmlmjglipmdcaa
