/- Rights: which consoles. Printed by gen_rts.py. -/
import Derived.Test.YtompphakagoaeaaRtF
namespace Go.Proofs.Ytompphakagoaeaa
open Go.RowKit
set_option linter.unusedVariables false
set_option linter.unusedSimpArgs false
namespace Conf
open Word
abbrev encI : Int → Value := fun n => .int .i64 n
theorem infoI : (Try.prog.info? 3).map (fun i => (i.zero, i.size, i.bytes)) = some (some (.int .i64 0), 1, 8) := by kernel_rfl
/-- What is handed back: a new row of numbers. -/
def IntsPost (w : World) (l : List Int) (e : Ending) (w' : World) : Prop := ∃ v, e = .returned v ∧ w'.ownsRow 0 3 1 v l.length (l.map encI) ∧ Step No w (Of v) w'
set_option maxHeartbeats 2000000 in
theorem places_sees (bc bu : Nat) (P : Str → Bool) (A : Option Addr) (kA : Nat) (l : List Con) (w : World) (S : Nat → Prop) (hS : ∀ k, S k → k < w.heap.size) (h : RSq 10 QCon w S [.slice A l.length kA] l)
    (hcl : ∀ W, Fr No w W → ∀ (a b : Str) (n1 n2 n3 n4 n5 n6 n7 n8 : Int), a.length ≤ 40 → Calls Try.prog 26 #[.agg #[.string ⟨a.toArray⟩, .int .i64 n1, .int .i64 n2, .int .i64 n3, .int .i64 n4, .int .i64 n5, .int .i64 n6, .int .i64 n7, .int .i64 n8, .string ⟨b.toArray⟩], .pointer (some ⟨bc, 0, none⟩), .pointer (some ⟨bu, 0, none⟩)] W fun e w' => e = .returned (.bool (P a)) ∧ Fr No W w') :
    Calls Try.prog 25 #[.slice A l.length kA, .func (.func 26) #[] #[.pointer (some ⟨bc, 0, none⟩), .pointer (some ⟨bu, 0, none⟩)]] w (IntsPost w (placesR (fun c => P c.1) l)) := by
  obtain ⟨hU1, hU2⟩ : l.length ≤ kA ∧ kA ≤ 9223372036854775807 := by
    obtain ⟨A', c, e, h1, h2, -⟩ := h.1
    injection e with e _
    injection e with _ _ e
    subst e
    exact ⟨h1, h2⟩
  have hl12 := h.2
  have H := Lib.hid h
  have HS := Lib.hid hS
  have HCL := Lib.hid hcl
  clear h hS hcl
  go_enter Try.func25, Try.ntmps25
  go_wp2_with fail
  go_loopw [5, 10] (fun o iv wr => ∃ (k m : Nat) (out : List Int), iv = .int .i64 k ∧ k ≤ l.length ∧ m ≤ k ∧ Hid (out.length = m ∧ placesR (fun c => P c.1) (l.take k) = out) ∧ Hid (wr.ownsRow 0 3 1 o m (out.map encI) ∧ Step No w (Of o) wr)) (fun _ i _ => l.length - (intOf i).toNat)
  case atStart => exact ⟨0, 0, [], rfl, by omega, by omega, Lib.hid ⟨rfl, rfl⟩, Lib.hid ⟨World.ownsRow_nil _ _ _ _, Fr.refl _ _, fun k hk => by cases hk⟩⟩
  case round =>
    obtain ⟨k, m, out, rfl, hk, hm, Hd, HO⟩ := hrel
    obtain ⟨A1, c1, hu⟩ := own_form HO.out.1
    subst hu
    by_cases hlt : k < l.length
    · obtain ⟨ad, n1, n2, n3, n4, n5, n6, n7, n8, b, rfl, hla, k0, k1, k2, k3, k4, k5, k6, k7, k8, k9, b1⟩ := con_at H.out HO.out.2.1 HS.out hlt
      have hpt := Lib.hid (places_take (p := fun c : Con => P c.1) hlt)
      have hcl := HCL.out (wr.alloc (.cells #[.string ⟨l[k].1.toArray⟩, .int .i64 n1, .int .i64 n2, .int .i64 n3, .int .i64 n4, .int .i64 n5, .int .i64 n6, .int .i64 n7, .int .i64 n8, .string ⟨b.toArray⟩] 50)) (HO.out.2.1.alloc _) l[k].1 b n1 n2 n3 n4 n5 n6 n7 n8 b1
      obtain ⟨q, hq⟩ : ∃ q, P l[k].1 = q := ⟨_, rfl⟩
      obtain ⟨a, ha⟩ : ∃ a, a = l[k].1 := ⟨_, rfl⟩
      rw [hq] at hcl
      simp only [hq] at hpt
      rw [← ha] at k0 hcl
      have Hcl := Lib.hid hcl
      clear hcl ha hq b1
      go_wp2_with fail
      refine Hcl.out.mono ?_
      rintro e w2 ⟨rfl, hf⟩
      have HO2 : Hid (w2.ownsRow 0 3 1 (.slice A1 m c1) m (out.map encI) ∧ Step No w (Of (.slice A1 m c1)) w2) := Lib.hid ⟨own_fr (HO.out.1.alloc _) hf (fun b hb h => h), (HO.out.2.1.alloc _).then_no hf, fun b hb => (HO.out.2.2 b hb).elim .inl (fun h => .inr ⟨h.1, by have := h.2; have := hf.size; simp at this; omega⟩)⟩
      clear hf Hcl k0 k1 k2 k3 k4 k5 k6 k7 k8 k9
      cases q
      · go_wp2_with fail
        go_roundw
        case rel => exact ⟨k + 1, m, out, by go_num, by omega, by omega, Lib.hid ⟨Hd.out.1, by rw [hpt.out, Hd.out.2]; simp⟩, HO2⟩
        case measure => simp [intOf]; omega
      · go_wp2_with (at_builtin; go_loud (refine wp_push rfl (.tmp 18) (.tmp 20) 34 rfl 3 (.int .i64 0) 1 8 Try.underlying34 infoI rfl (by decide) (.slice A1 m c1) m _ rfl HO2.out.1 #[.int .i64 k] rfl rfl (one_lit rfl) (by omega) (by unfold maxLen; omega) ?_; intro g3 c3 w3 h1 h2 h3; have P3 := Lib.hid h1; have F3 := Lib.hid (HO2.out.2.trans (Step.of (n := m + 1) (c := c3) h2 h3)); clear h1 h2 h3))
        go_roundw
        case rel => exact ⟨k + 1, m + 1, out ++ [(k : Int)], by go_num, by omega, by omega, Lib.hid ⟨by rw [List.length_append, Hd.out.1]; rfl, by rw [hpt.out, Hd.out.2]; simp⟩, Lib.hid ⟨by rw [List.map_append]; exact P3.out, F3.out⟩⟩
        case measure => simp [intOf]; omega
    · have HE := Lib.hid (show placesR (fun c => P c.1) l = out ∧ out.length = m from ⟨by have := Hd.out.2; rw [List.take_of_length_le (by omega)] at this; exact this, Hd.out.1⟩)
      go_wp2_with fail
      go_ret
      refine ⟨_, rfl, ?_, HO.out.2⟩
      rw [HE.out.1, HE.out.2]
      exact HO.out.1
set_option maxHeartbeats 2000000 in
theorem places_fit (bp : Nat) (P : Str → Bool) (A : Option Addr) (kA : Nat) (l : List Con) (w : World) (S : Nat → Prop) (hS : ∀ k, S k → k < w.heap.size) (h : RSq 10 QCon w S [.slice A l.length kA] l)
    (hcl : ∀ W, Fr No w W → ∀ (a b : Str) (n1 n2 n3 n4 n5 n6 n7 n8 : Int), a.length ≤ 40 → Calls Try.prog 39 #[.agg #[.string ⟨a.toArray⟩, .int .i64 n1, .int .i64 n2, .int .i64 n3, .int .i64 n4, .int .i64 n5, .int .i64 n6, .int .i64 n7, .int .i64 n8, .string ⟨b.toArray⟩], .pointer (some ⟨bp, 0, none⟩)] W fun e w' => e = .returned (.bool (P a)) ∧ Fr No W w') :
    Calls Try.prog 25 #[.slice A l.length kA, .func (.func 39) #[] #[.pointer (some ⟨bp, 0, none⟩)]] w (IntsPost w (placesR (fun c => P c.1) l)) := by
  obtain ⟨hU1, hU2⟩ : l.length ≤ kA ∧ kA ≤ 9223372036854775807 := by
    obtain ⟨A', c, e, h1, h2, -⟩ := h.1
    injection e with e _
    injection e with _ _ e
    subst e
    exact ⟨h1, h2⟩
  have hl12 := h.2
  have H := Lib.hid h
  have HS := Lib.hid hS
  have HCL := Lib.hid hcl
  clear h hS hcl
  go_enter Try.func25, Try.ntmps25
  go_wp2_with fail
  go_loopw [5, 10] (fun o iv wr => ∃ (k m : Nat) (out : List Int), iv = .int .i64 k ∧ k ≤ l.length ∧ m ≤ k ∧ Hid (out.length = m ∧ placesR (fun c => P c.1) (l.take k) = out) ∧ Hid (wr.ownsRow 0 3 1 o m (out.map encI) ∧ Step No w (Of o) wr)) (fun _ i _ => l.length - (intOf i).toNat)
  case atStart => exact ⟨0, 0, [], rfl, by omega, by omega, Lib.hid ⟨rfl, rfl⟩, Lib.hid ⟨World.ownsRow_nil _ _ _ _, Fr.refl _ _, fun k hk => by cases hk⟩⟩
  case round =>
    obtain ⟨k, m, out, rfl, hk, hm, Hd, HO⟩ := hrel
    obtain ⟨A1, c1, hu⟩ := own_form HO.out.1
    subst hu
    by_cases hlt : k < l.length
    · obtain ⟨ad, n1, n2, n3, n4, n5, n6, n7, n8, b, rfl, hla, k0, k1, k2, k3, k4, k5, k6, k7, k8, k9, b1⟩ := con_at H.out HO.out.2.1 HS.out hlt
      have hpt := Lib.hid (places_take (p := fun c : Con => P c.1) hlt)
      have hcl := HCL.out (wr.alloc (.cells #[.string ⟨l[k].1.toArray⟩, .int .i64 n1, .int .i64 n2, .int .i64 n3, .int .i64 n4, .int .i64 n5, .int .i64 n6, .int .i64 n7, .int .i64 n8, .string ⟨b.toArray⟩] 50)) (HO.out.2.1.alloc _) l[k].1 b n1 n2 n3 n4 n5 n6 n7 n8 b1
      obtain ⟨q, hq⟩ : ∃ q, P l[k].1 = q := ⟨_, rfl⟩
      obtain ⟨a, ha⟩ : ∃ a, a = l[k].1 := ⟨_, rfl⟩
      rw [hq] at hcl
      simp only [hq] at hpt
      rw [← ha] at k0 hcl
      have Hcl := Lib.hid hcl
      clear hcl ha hq b1
      go_wp2_with fail
      refine Hcl.out.mono ?_
      rintro e w2 ⟨rfl, hf⟩
      have HO2 : Hid (w2.ownsRow 0 3 1 (.slice A1 m c1) m (out.map encI) ∧ Step No w (Of (.slice A1 m c1)) w2) := Lib.hid ⟨own_fr (HO.out.1.alloc _) hf (fun b hb h => h), (HO.out.2.1.alloc _).then_no hf, fun b hb => (HO.out.2.2 b hb).elim .inl (fun h => .inr ⟨h.1, by have := h.2; have := hf.size; simp at this; omega⟩)⟩
      clear hf Hcl k0 k1 k2 k3 k4 k5 k6 k7 k8 k9
      cases q
      · go_wp2_with fail
        go_roundw
        case rel => exact ⟨k + 1, m, out, by go_num, by omega, by omega, Lib.hid ⟨Hd.out.1, by rw [hpt.out, Hd.out.2]; simp⟩, HO2⟩
        case measure => simp [intOf]; omega
      · go_wp2_with (at_builtin; go_loud (refine wp_push rfl (.tmp 18) (.tmp 20) 34 rfl 3 (.int .i64 0) 1 8 Try.underlying34 infoI rfl (by decide) (.slice A1 m c1) m _ rfl HO2.out.1 #[.int .i64 k] rfl rfl (one_lit rfl) (by omega) (by unfold maxLen; omega) ?_; intro g3 c3 w3 h1 h2 h3; have P3 := Lib.hid h1; have F3 := Lib.hid (HO2.out.2.trans (Step.of (n := m + 1) (c := c3) h2 h3)); clear h1 h2 h3))
        go_roundw
        case rel => exact ⟨k + 1, m + 1, out ++ [(k : Int)], by go_num, by omega, by omega, Lib.hid ⟨by rw [List.length_append, Hd.out.1]; rfl, by rw [hpt.out, Hd.out.2]; simp⟩, Lib.hid ⟨by rw [List.map_append]; exact P3.out, F3.out⟩⟩
        case measure => simp [intOf]; omega
    · have HE := Lib.hid (show placesR (fun c => P c.1) l = out ∧ out.length = m from ⟨by have := Hd.out.2; rw [List.take_of_length_le (by omega)] at this; exact this, Hd.out.1⟩)
      go_wp2_with fail
      go_ret
      refine ⟨_, rfl, ?_, HO.out.2⟩
      rw [HE.out.1, HE.out.2]
      exact HO.out.1
set_option maxHeartbeats 2000000 in
theorem places_grp (bc bi : Nat) (P : Str → Bool) (A : Option Addr) (kA : Nat) (l : List Con) (w : World) (S : Nat → Prop) (hS : ∀ k, S k → k < w.heap.size) (h : RSq 10 QCon w S [.slice A l.length kA] l)
    (hcl : ∀ W, Fr No w W → ∀ (a b : Str) (n1 n2 n3 n4 n5 n6 n7 n8 : Int), a.length ≤ 40 → Calls Try.prog 32 #[.agg #[.string ⟨a.toArray⟩, .int .i64 n1, .int .i64 n2, .int .i64 n3, .int .i64 n4, .int .i64 n5, .int .i64 n6, .int .i64 n7, .int .i64 n8, .string ⟨b.toArray⟩], .pointer (some ⟨bc, 0, none⟩), .pointer (some ⟨bi, 0, none⟩)] W fun e w' => e = .returned (.bool (P a)) ∧ Fr No W w') :
    Calls Try.prog 25 #[.slice A l.length kA, .func (.func 32) #[] #[.pointer (some ⟨bc, 0, none⟩), .pointer (some ⟨bi, 0, none⟩)]] w (IntsPost w (placesR (fun c => P c.1) l)) := by
  obtain ⟨hU1, hU2⟩ : l.length ≤ kA ∧ kA ≤ 9223372036854775807 := by
    obtain ⟨A', c, e, h1, h2, -⟩ := h.1
    injection e with e _
    injection e with _ _ e
    subst e
    exact ⟨h1, h2⟩
  have hl12 := h.2
  have H := Lib.hid h
  have HS := Lib.hid hS
  have HCL := Lib.hid hcl
  clear h hS hcl
  go_enter Try.func25, Try.ntmps25
  go_wp2_with fail
  go_loopw [5, 10] (fun o iv wr => ∃ (k m : Nat) (out : List Int), iv = .int .i64 k ∧ k ≤ l.length ∧ m ≤ k ∧ Hid (out.length = m ∧ placesR (fun c => P c.1) (l.take k) = out) ∧ Hid (wr.ownsRow 0 3 1 o m (out.map encI) ∧ Step No w (Of o) wr)) (fun _ i _ => l.length - (intOf i).toNat)
  case atStart => exact ⟨0, 0, [], rfl, by omega, by omega, Lib.hid ⟨rfl, rfl⟩, Lib.hid ⟨World.ownsRow_nil _ _ _ _, Fr.refl _ _, fun k hk => by cases hk⟩⟩
  case round =>
    obtain ⟨k, m, out, rfl, hk, hm, Hd, HO⟩ := hrel
    obtain ⟨A1, c1, hu⟩ := own_form HO.out.1
    subst hu
    by_cases hlt : k < l.length
    · obtain ⟨ad, n1, n2, n3, n4, n5, n6, n7, n8, b, rfl, hla, k0, k1, k2, k3, k4, k5, k6, k7, k8, k9, b1⟩ := con_at H.out HO.out.2.1 HS.out hlt
      have hpt := Lib.hid (places_take (p := fun c : Con => P c.1) hlt)
      have hcl := HCL.out (wr.alloc (.cells #[.string ⟨l[k].1.toArray⟩, .int .i64 n1, .int .i64 n2, .int .i64 n3, .int .i64 n4, .int .i64 n5, .int .i64 n6, .int .i64 n7, .int .i64 n8, .string ⟨b.toArray⟩] 50)) (HO.out.2.1.alloc _) l[k].1 b n1 n2 n3 n4 n5 n6 n7 n8 b1
      obtain ⟨q, hq⟩ : ∃ q, P l[k].1 = q := ⟨_, rfl⟩
      obtain ⟨a, ha⟩ : ∃ a, a = l[k].1 := ⟨_, rfl⟩
      rw [hq] at hcl
      simp only [hq] at hpt
      rw [← ha] at k0 hcl
      have Hcl := Lib.hid hcl
      clear hcl ha hq b1
      go_wp2_with fail
      refine Hcl.out.mono ?_
      rintro e w2 ⟨rfl, hf⟩
      have HO2 : Hid (w2.ownsRow 0 3 1 (.slice A1 m c1) m (out.map encI) ∧ Step No w (Of (.slice A1 m c1)) w2) := Lib.hid ⟨own_fr (HO.out.1.alloc _) hf (fun b hb h => h), (HO.out.2.1.alloc _).then_no hf, fun b hb => (HO.out.2.2 b hb).elim .inl (fun h => .inr ⟨h.1, by have := h.2; have := hf.size; simp at this; omega⟩)⟩
      clear hf Hcl k0 k1 k2 k3 k4 k5 k6 k7 k8 k9
      cases q
      · go_wp2_with fail
        go_roundw
        case rel => exact ⟨k + 1, m, out, by go_num, by omega, by omega, Lib.hid ⟨Hd.out.1, by rw [hpt.out, Hd.out.2]; simp⟩, HO2⟩
        case measure => simp [intOf]; omega
      · go_wp2_with (at_builtin; go_loud (refine wp_push rfl (.tmp 18) (.tmp 20) 34 rfl 3 (.int .i64 0) 1 8 Try.underlying34 infoI rfl (by decide) (.slice A1 m c1) m _ rfl HO2.out.1 #[.int .i64 k] rfl rfl (one_lit rfl) (by omega) (by unfold maxLen; omega) ?_; intro g3 c3 w3 h1 h2 h3; have P3 := Lib.hid h1; have F3 := Lib.hid (HO2.out.2.trans (Step.of (n := m + 1) (c := c3) h2 h3)); clear h1 h2 h3))
        go_roundw
        case rel => exact ⟨k + 1, m + 1, out ++ [(k : Int)], by go_num, by omega, by omega, Lib.hid ⟨by rw [List.length_append, Hd.out.1]; rfl, by rw [hpt.out, Hd.out.2]; simp⟩, Lib.hid ⟨by rw [List.map_append]; exact P3.out, F3.out⟩⟩
        case measure => simp [intOf]; omega
    · have HE := Lib.hid (show placesR (fun c => P c.1) l = out ∧ out.length = m from ⟨by have := Hd.out.2; rw [List.take_of_length_le (by omega)] at this; exact this, Hd.out.1⟩)
      go_wp2_with fail
      go_ret
      refine ⟨_, rfl, ?_, HO.out.2⟩
      rw [HE.out.1, HE.out.2]
      exact HO.out.1
set_option maxHeartbeats 1000000 in
theorem fit1_any (w : World) (bp : Nat) (a b p : Str) (n1 n2 n3 n4 n5 n6 n7 n8 : Int) (hp : w.cell? ⟨bp, 0, none⟩ = some (.string ⟨p.toArray⟩)) (hlp : bp < w.heap.size) (h1 : a.length ≤ 40) (h2 : p.length ≤ 40) :
    Calls Try.prog 39 #[.agg #[.string ⟨a.toArray⟩, .int .i64 n1, .int .i64 n2, .int .i64 n3, .int .i64 n4, .int .i64 n5, .int .i64 n6, .int .i64 n7, .int .i64 n8, .string ⟨b.toArray⟩], .pointer (some ⟨bp, 0, none⟩)] w fun e w' => e = .returned (.bool (matchR p a)) ∧ Fr No w w' := by
  have C1 := Lib.hid (fun w => match_any p a (by unfold maxLen; omega) (by omega) w)
  generalize matchR p a = m at C1 ⊢
  have hne : bp ≠ w.heap.size := by omega
  have F0 := Lib.hid ((Fr.refl No w).alloc (.cells #[.string ⟨a.toArray⟩, .int .i64 n1, .int .i64 n2, .int .i64 n3, .int .i64 n4, .int .i64 n5, .int .i64 n6, .int .i64 n7, .int .i64 n8, .string ⟨b.toArray⟩] 50))
  go_enter Try.func39, Try.ntmps39
  go_wp2_with fail
  refine (C1.out _).mono ?_
  rintro e w1 ⟨rfl, hf⟩
  have F1 := Lib.hid (F0.out.then_no hf)
  clear hf
  go_wp2_with fail
  go_ret
  exact ⟨rfl, F1.out⟩
set_option maxHeartbeats 1000000 in
theorem fit_any (c0 : Array Value) (x : C) (pat : Str) (w : World) (S : Nat → Prop) (hS : ∀ k, S k → k < w.heap.size) (h : QConf w S c0.toList x) (h2 : pat.length ≤ 40) :
    Calls Try.prog 21 #[.agg c0, .string ⟨pat.toArray⟩] w (IntsPost w (placesR (fun c => matchR pat c.1) x.1)) := by
  obtain ⟨vC, vG, vU, vA, bs, hc0, hC, hG, hU, hA, hB⟩ := q_open h
  obtain ⟨AC, kC, rfl, hA1, hA2⟩ := hC.1.slice
  have e0 : c0[0]? = some (.slice AC x.1.length kC) := by rw [hc0]; rfl
  have hW : Fr No w ((w.alloc (.cells c0 28)).alloc (.cells #[.string ⟨pat.toArray⟩] 9)) := ((Fr.refl No w).alloc _).alloc _
  have hp := (Blk.new (w.alloc (.cells c0 28)) 9 #[.string ⟨pat.toArray⟩]).cell 0
  have hcl := places_fit (w.alloc (.cells c0 28)).heap.size (fun a => matchR pat a) AC kC x.1 ((w.alloc (.cells c0 28)).alloc (.cells #[.string ⟨pat.toArray⟩] 9)) S (fun k hk => Nat.lt_of_lt_of_le (hS k hk) hW.size) ((RSq.stable stable_qcon).go hC (Kept.of_no hW hS) fun b hb => hb)
    (fun W hf a b n1 n2 n3 n4 n5 n6 n7 n8 ha => fit1_any W _ a b pat n1 n2 n3 n4 n5 n6 n7 n8 ((hf.cell (p := ⟨(w.alloc (.cells c0 28)).heap.size, 0, none⟩) (by simp) (fun h => h)).trans hp) (Nat.lt_of_lt_of_le (by simp) hf.size) ha h2)
  rw [size_alloc] at hcl
  have hb := ((Blk.new w 28 c0).alloc (.cells #[.string ⟨pat.toArray⟩] 9)).cell 0
  rw [e0] at hb
  have Hcl := Lib.hid hcl
  have HW := Lib.hid hW
  generalize placesR (fun c => matchR pat c.1) x.1 = r at Hcl ⊢
  generalize x.1.length = nC at Hcl hb hA1
  clear hC hG hU hA hB h hc0 e0 hS hcl hp hW
  go_enter Try.func21, Try.ntmps21
  go_wp2_with fail
  refine Hcl.out.mono ?_
  rintro e w2 ⟨v, rfl, ho, hs⟩
  have H2 := Lib.hid (And.intro ho hs)
  clear ho hs
  go_wp2_with fail
  go_ret
  exact ⟨_, rfl, H2.out.1, HW.out.then_no H2.out.2.1, fun k hk => (H2.out.2.2 k hk).elim (fun h => h.elim) (fun h => .inr ⟨by have := HW.out.size; have := h.1; omega, h.2⟩)⟩
end Conf
end Go.Proofs.Ytompphakagoaeaa
