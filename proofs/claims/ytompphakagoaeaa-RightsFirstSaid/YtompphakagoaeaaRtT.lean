/- Rights and their reference: Sees. Printed by gen_rtt.py. -/
import Derived.Test.YtompphakagoaeaaRtS
import Derived.Deep.RegionHeld3
namespace Go.Proofs.Ytompphakagoaeaa
open Go.RowKit
set_option linter.unusedVariables false
set_option linter.unusedSimpArgs false
namespace Conf
open Word
def seesP (x : C) (user : Str) (a : Str) : Bool := decide (1 ≤ levelR x.2.2.2.1 user a)
def seesR (x : C) (user : Str) : List Int := placesR (fun c => seesP x user c.1) x.1
set_option maxHeartbeats 2000000 in
theorem sees1_any (w : World) (bc bu : Nat) (c0 : Array Value) (x : C) (user : Str) (S : Nat → Prop) (hS : ∀ k, S k → k < w.heap.size) (h : QConf w S c0.toList x) (hb : Blk w bc 28 c0) (hu : w.cell? ⟨bu, 0, none⟩ = some (.string ⟨user.toArray⟩)) (hlu : bu < w.heap.size)
    (a b : Str) (n1 n2 n3 n4 n5 n6 n7 n8 : Int) (h1 : a.length ≤ 40) (h4 : user.length ≤ 40) :
    Calls Try.prog 26 #[.agg #[.string ⟨a.toArray⟩, .int .i64 n1, .int .i64 n2, .int .i64 n3, .int .i64 n4, .int .i64 n5, .int .i64 n6, .int .i64 n7, .int .i64 n8, .string ⟨b.toArray⟩], .pointer (some ⟨bc, 0, none⟩), .pointer (some ⟨bu, 0, none⟩)] w fun e w' => e = .returned (.bool (seesP x user a)) ∧ Fr No w w' := by
  have hW : Fr No w (w.alloc (.cells #[.string ⟨a.toArray⟩, .int .i64 n1, .int .i64 n2, .int .i64 n3, .int .i64 n4, .int .i64 n5, .int .i64 n6, .int .i64 n7, .int .i64 n8, .string ⟨b.toArray⟩] 50)) := (Fr.refl No w).alloc _
  have HM := Lib.hid (may_any c0 x user a 1 (w.alloc (.cells #[.string ⟨a.toArray⟩, .int .i64 n1, .int .i64 n2, .int .i64 n3, .int .i64 n4, .int .i64 n5, .int .i64 n6, .int .i64 n7, .int .i64 n8, .string ⟨b.toArray⟩] 50)) S (fun k hk => Nat.lt_of_lt_of_le (hS k hk) hW.size) (stable_q.go h (Kept.of_no hW hS) fun b hb => hb) h1 h4)
  have HP := Lib.hid (show seesP x user a = decide (1 ≤ levelR x.2.2.2.1 user a) from rfl)
  rw [← HP.out] at HM
  have hlc := hb.lt
  have HB0 := Lib.hid (hb.alloc (.cells #[.string ⟨a.toArray⟩, .int .i64 n1, .int .i64 n2, .int .i64 n3, .int .i64 n4, .int .i64 n5, .int .i64 n6, .int .i64 n7, .int .i64 n8, .string ⟨b.toArray⟩] 50))
  have HW := Lib.hid hW
  have hne : bc ≠ w.heap.size := by omega
  have hne2 : bu ≠ w.heap.size := by omega
  obtain ⟨AC, kC, AG, kG, AU, kU, AA, kA, s0, s1, s2, s3, s4, s5, s6, s7, s8, s9, rfl, -, -, -, -⟩ := q_lit h
  generalize seesP x user a = m at HM ⊢
  clear h hS hW hb HP
  generalize x.2.2.2.1.length = nA at HB0 HM
  generalize x.2.2.1.length = nU at HB0 HM
  generalize x.2.1.length = nG at HB0 HM
  generalize x.1.length = nC at HB0 HM
  have y0 := HB0.out.cell 0
  have y1 := HB0.out.cell 1
  have y2 := HB0.out.cell 2
  have y3 := HB0.out.cell 3
  have y4 := HB0.out.cell 4
  have y5 := HB0.out.cell 5
  have y6 := HB0.out.cell 6
  have y7 := HB0.out.cell 7
  have y8 := HB0.out.cell 8
  have y9 := HB0.out.cell 9
  have y10 := HB0.out.cell 10
  have y11 := HB0.out.cell 11
  have y12 := HB0.out.cell 12
  have y13 := HB0.out.cell 13
  simp only [List.getElem?_toArray, List.getElem?_cons_zero, List.getElem?_cons_succ] at y0 y1 y2 y3 y4 y5 y6 y7 y8 y9 y10 y11 y12 y13
  go_enter Try.func26, Try.ntmps26
  go_wp2_with fail
  refine HM.out.mono ?_
  rintro e w1 ⟨rfl, hf⟩
  have F1 := Lib.hid (HW.out.then_no hf)
  clear hf
  go_wp2_with fail
  go_ret
  exact ⟨rfl, F1.out⟩
set_option maxHeartbeats 1000000 in
theorem sees_any (c0 : Array Value) (x : C) (user : Str) (w : World) (S : Nat → Prop) (hS : ∀ k, S k → k < w.heap.size) (h : QConf w S c0.toList x) (h4 : user.length ≤ 40) :
    Calls Try.prog 12 #[.agg c0, .string ⟨user.toArray⟩] w (IntsPost w (seesR x user)) := by
  obtain ⟨vC, vG, vU, vA, bs, hc0, hC, hG, hU, hA, hB⟩ := q_open h
  obtain ⟨AC, kC, rfl, hA1, hA2⟩ := hC.1.slice
  have e0 : c0[0]? = some (.slice AC x.1.length kC) := by rw [hc0]; rfl
  have hW : Fr No w ((w.alloc (.cells c0 28)).alloc (.cells #[.string ⟨user.toArray⟩] 9)) := ((Fr.refl No w).alloc _).alloc _
  have hp := (Blk.new (w.alloc (.cells c0 28)) 9 #[.string ⟨user.toArray⟩]).cell 0
  have hbk := (Blk.new w 28 c0).alloc (.cells #[.string ⟨user.toArray⟩] 9)
  have hq := stable_q.go h (Kept.of_no hW hS) (fun b hb => hb)
  have hS2 : ∀ k, S k → k < ((w.alloc (.cells c0 28)).alloc (.cells #[.string ⟨user.toArray⟩] 9)).heap.size := fun k hk => Nat.lt_of_lt_of_le (hS k hk) hW.size
  have hcl := places_sees w.heap.size (w.alloc (.cells c0 28)).heap.size (seesP x user) AC kC x.1 ((w.alloc (.cells c0 28)).alloc (.cells #[.string ⟨user.toArray⟩] 9)) S hS2 ((RSq.stable stable_qcon).go hC (Kept.of_no hW hS) fun b hb => hb)
    (fun W hf a b n1 n2 n3 n4 n5 n6 n7 n8 ha => sees1_any W _ _ c0 x user S (fun k hk => Nat.lt_of_lt_of_le (hS2 k hk) hf.size) (stable_q.go hq (Kept.of_no hf hS2) (fun b hb => hb)) (hbk.fr hf (fun h => h)) ((hf.cell (p := ⟨(w.alloc (.cells c0 28)).heap.size, 0, none⟩) (by simp) (fun h => h)).trans hp) (Nat.lt_of_lt_of_le (by simp) hf.size) a b n1 n2 n3 n4 n5 n6 n7 n8 ha h4)
  rw [size_alloc] at hcl
  have hb := hbk.cell 0
  rw [e0] at hb
  have Hcl := Lib.hid hcl
  have HW := Lib.hid hW
  have HP := Lib.hid (show seesR x user = placesR (fun c => seesP x user c.1) x.1 from rfl)
  rw [← HP.out] at Hcl
  generalize seesR x user = r at Hcl ⊢
  generalize x.1.length = nC at Hcl hb hA1
  clear hC hG hU hA hB h hc0 e0 hS hcl hp hW HP hbk hq hS2
  go_enter Try.func12, Try.ntmps12
  go_wp2_with fail
  refine Hcl.out.mono ?_
  rintro e w2 ⟨v, rfl, ho, hs⟩
  have H2 := Lib.hid (And.intro ho hs)
  clear ho hs
  go_wp2_with fail
  go_ret
  exact ⟨_, rfl, H2.out.1, HW.out.then_no H2.out.2.1, fun k hk => (H2.out.2.2 k hk).elim (fun h => h.elim) (fun h => .inr ⟨by have := HW.out.size; have := h.1; omega, h.2⟩)⟩
set_option maxHeartbeats 4000000 in
theorem rsees_any (c0 : Array Value) (x : C) (user : Str) (w : World) (S : Nat → Prop) (hS : ∀ k, S k → k < w.heap.size) (h : QConf w S c0.toList x) (h4 : user.length ≤ 40) :
    Calls Try.prog 13 #[.agg c0, .string ⟨user.toArray⟩] w (IntsPost w (seesR x user)) := by
  have hW : Fr No w (w.alloc (.cells c0 28)) := (Fr.refl No w).alloc _
  have HS := Lib.hid hS
  have HQ := Lib.hid h
  have hbk := Blk.new w 28 c0
  have hlv := fun a (ha : a.length ≤ 40) W (hf : Fr No w W) => rlevel_any c0 x user a W S (fun k hk => Nat.lt_of_lt_of_le (hS k hk) hf.size) (stable_q.go h (Kept.of_no hf hS) (fun b hb => hb)) ha h4
  have HLV := Lib.hid hlv
  have HP := Lib.hid (show seesR x user = placesR (fun c => seesP x user c.1) x.1 from rfl)
  rw [HP.out]
  obtain ⟨AC, kC, AG, kG, AU, kU, AA, kA, s0, s1, s2, s3, s4, s5, s6, s7, s8, s9, rfl, hC, -, -, -⟩ := q_lit h
  obtain ⟨hA1, hA2⟩ : x.1.length ≤ kC ∧ kC ≤ 9223372036854775807 := by
    obtain ⟨A', c, e, h1, h2, -⟩ := hC.1
    injection e with e _
    injection e with _ _ e
    subst e
    exact ⟨h1, h2⟩
  have hl12 := hC.2
  have HC := Lib.hid hC
  have hSP := Lib.hid (fun a => show seesP x user a = decide (1 ≤ levelR x.2.2.2.1 user a) from rfl)
  generalize seesP x user = P at hSP ⊢
  have HPL := Lib.hid (fun k (hk : k < x.1.length) => places_take (p := fun c : Con => P c.1) hk)
  clear h hS hlv hC HP HQ
  go_enter Try.func13, Try.ntmps13
  go_wp2_with fail
  obtain ⟨W, hWW⟩ : ∃ W, w.alloc (.cells #[.slice AC x.1.length kC, .slice AG x.2.1.length kG, .slice AU x.2.2.1.length kU, .slice AA x.2.2.2.1.length kA, .string ⟨s0.toArray⟩, .string ⟨s1.toArray⟩, .string ⟨s2.toArray⟩, .string ⟨s3.toArray⟩, .string ⟨s4.toArray⟩, .string ⟨s5.toArray⟩, .string ⟨s6.toArray⟩, .string ⟨s7.toArray⟩, .string ⟨s8.toArray⟩, .string ⟨s9.toArray⟩] 28) = W := ⟨_, rfl⟩
  have hlc : w.heap.size < W.heap.size := by rw [← hWW]; simp
  rw [hWW] at hbk hW ⊢
  obtain ⟨bc, hbc⟩ : ∃ bc, w.heap.size = bc := ⟨_, rfl⟩
  have Hbc := Lib.hid hbc
  rw [hbc] at hbk hlc ⊢
  have HB := Lib.hid hbk
  have HW := Lib.hid hW
  clear hWW hbc hbk hW
  obtain ⟨l, hl⟩ : ∃ l, x.1 = l := ⟨_, rfl⟩
  rw [hl] at HC HPL hl12 hA1 HB ⊢
  generalize x.2.2.2.1.length = nA at HB HLV ⊢
  generalize x.2.2.1.length = nU at HB HLV ⊢
  generalize x.2.1.length = nG at HB HLV ⊢
  rw [hl] at HLV
  generalize levelR x.2.2.2.1 user = lev at HLV hSP
  have HX := Lib.hid hl
  clear hl
  go_loopw [5, 6] (fun o iv wr => ∃ (k m : Nat) (out : List Int), iv = .int .i64 k ∧ k ≤ l.length ∧ m ≤ k ∧ Hid (out.length = m ∧ placesR (fun c => P c.1) (l.take k) = out) ∧ Hid (wr.ownsRow 0 3 1 o m (out.map encI) ∧ Step No W (Of o) wr)) (fun _ i _ => l.length - (intOf i).toNat)
  case atStart => exact ⟨0, 0, [], rfl, by omega, by omega, Lib.hid ⟨rfl, rfl⟩, Lib.hid ⟨World.ownsRow_nil _ _ _ _, Fr.refl _ _, fun k hk => by cases hk⟩⟩
  case round =>
    obtain ⟨k, m, out, rfl, hk, hm, Hd, HO⟩ := hrel
    obtain ⟨A1, c1, hu⟩ := own_form HO.out.1
    subst hu
    have HB0 := Lib.hid (HB.out.fr HO.out.2.1 (fun h => h))
    have y0 := HB0.out.cell 0
    have y1 := HB0.out.cell 1
    have y2 := HB0.out.cell 2
    have y3 := HB0.out.cell 3
    have y4 := HB0.out.cell 4
    have y5 := HB0.out.cell 5
    have y6 := HB0.out.cell 6
    have y7 := HB0.out.cell 7
    have y8 := HB0.out.cell 8
    have y9 := HB0.out.cell 9
    have y10 := HB0.out.cell 10
    have y11 := HB0.out.cell 11
    have y12 := HB0.out.cell 12
    have y13 := HB0.out.cell 13
    simp only [List.getElem?_toArray, List.getElem?_cons_zero, List.getElem?_cons_succ] at y0 y1 y2 y3 y4 y5 y6 y7 y8 y9 y10 y11 y12 y13
    by_cases hlt : k < l.length
    · obtain ⟨ad, n1, n2, n3, n4, n5, n6, n7, n8, b, rfl, hla, k0, k1, k2, k3, k4, k5, k6, k7, k8, k9, b1⟩ := con_at HC.out (HW.out.then_no HO.out.2.1) HS.out hlt
      have hpt := Lib.hid (HPL.out k hlt)
      have hlv := fun W' (hf : Fr No wr W') => HLV.out l[k].1 b1 W' ((HW.out.then_no HO.out.2.1).then_no hf)
      have hsp := hSP.out l[k].1
      obtain ⟨a, ha⟩ : ∃ a, a = l[k].1 := ⟨_, rfl⟩
      rw [← ha] at k0 hlv hsp
      have hpt2 : Hid (placesR (fun c => P c.1) (l.take (k + 1)) = placesR (fun c => P c.1) (l.take k) ++ if P a = true then [(k : Int)] else []) := by rw [ha]; exact hpt
      generalize lev a = n at hlv hsp
      have Hlv := Lib.hid hlv
      have Hsp := Lib.hid hsp
      clear k1 k2 k3 k4 k5 k6 k7 k8 k9 b1 ha hlv hsp hpt
      have HK := Lib.hid (fun (W' : World) (hf : Fr No wr W') => (show W'.cell? ⟨bc, 0, none⟩ = some (.slice (some ad) l.length kC) ∧ W'.cell? ⟨bc, 1, none⟩ = some (.slice AG nG kG) ∧ W'.cell? ⟨bc, 2, none⟩ = some (.slice AU nU kU) ∧ W'.cell? ⟨bc, 3, none⟩ = some (.slice AA nA kA) ∧ W'.cell? ⟨bc, 4, none⟩ = some (.string ⟨s0.toArray⟩) ∧ W'.cell? ⟨bc, 5, none⟩ = some (.string ⟨s1.toArray⟩) ∧ W'.cell? ⟨bc, 6, none⟩ = some (.string ⟨s2.toArray⟩) ∧ W'.cell? ⟨bc, 7, none⟩ = some (.string ⟨s3.toArray⟩) ∧ W'.cell? ⟨bc, 8, none⟩ = some (.string ⟨s4.toArray⟩) ∧ W'.cell? ⟨bc, 9, none⟩ = some (.string ⟨s5.toArray⟩) ∧ W'.cell? ⟨bc, 10, none⟩ = some (.string ⟨s6.toArray⟩) ∧ W'.cell? ⟨bc, 11, none⟩ = some (.string ⟨s7.toArray⟩) ∧ W'.cell? ⟨bc, 12, none⟩ = some (.string ⟨s8.toArray⟩) ∧ W'.cell? ⟨bc, 13, none⟩ = some (.string ⟨s9.toArray⟩) ∧ W'.cell? (ad.add (k * 10)) = some (.string ⟨a.toArray⟩) from ⟨(hf.cell (p := ⟨bc, 0, none⟩) HB0.out.lt (fun h => h)).trans y0, (hf.cell (p := ⟨bc, 1, none⟩) HB0.out.lt (fun h => h)).trans y1, (hf.cell (p := ⟨bc, 2, none⟩) HB0.out.lt (fun h => h)).trans y2, (hf.cell (p := ⟨bc, 3, none⟩) HB0.out.lt (fun h => h)).trans y3, (hf.cell (p := ⟨bc, 4, none⟩) HB0.out.lt (fun h => h)).trans y4, (hf.cell (p := ⟨bc, 5, none⟩) HB0.out.lt (fun h => h)).trans y5, (hf.cell (p := ⟨bc, 6, none⟩) HB0.out.lt (fun h => h)).trans y6, (hf.cell (p := ⟨bc, 7, none⟩) HB0.out.lt (fun h => h)).trans y7, (hf.cell (p := ⟨bc, 8, none⟩) HB0.out.lt (fun h => h)).trans y8, (hf.cell (p := ⟨bc, 9, none⟩) HB0.out.lt (fun h => h)).trans y9, (hf.cell (p := ⟨bc, 10, none⟩) HB0.out.lt (fun h => h)).trans y10, (hf.cell (p := ⟨bc, 11, none⟩) HB0.out.lt (fun h => h)).trans y11, (hf.cell (p := ⟨bc, 12, none⟩) HB0.out.lt (fun h => h)).trans y12, (hf.cell (p := ⟨bc, 13, none⟩) HB0.out.lt (fun h => h)).trans y13, (hf.cell (p := ad.add (k * 10)) (by have := HW.out.size; have := HO.out.2.1.size; omega) (fun h => h)).trans k0⟩))
      go_wp2_with fail
      go_region_held3 (fun W' => W'.cell? ⟨bc, 0, none⟩ = some (.slice (some ad) l.length kC) ∧ W'.cell? ⟨bc, 1, none⟩ = some (.slice AG nG kG) ∧ W'.cell? ⟨bc, 2, none⟩ = some (.slice AU nU kU) ∧ W'.cell? ⟨bc, 3, none⟩ = some (.slice AA nA kA) ∧ W'.cell? ⟨bc, 4, none⟩ = some (.string ⟨s0.toArray⟩) ∧ W'.cell? ⟨bc, 5, none⟩ = some (.string ⟨s1.toArray⟩) ∧ W'.cell? ⟨bc, 6, none⟩ = some (.string ⟨s2.toArray⟩) ∧ W'.cell? ⟨bc, 7, none⟩ = some (.string ⟨s3.toArray⟩) ∧ W'.cell? ⟨bc, 8, none⟩ = some (.string ⟨s4.toArray⟩) ∧ W'.cell? ⟨bc, 9, none⟩ = some (.string ⟨s5.toArray⟩) ∧ W'.cell? ⟨bc, 10, none⟩ = some (.string ⟨s6.toArray⟩) ∧ W'.cell? ⟨bc, 11, none⟩ = some (.string ⟨s7.toArray⟩) ∧ W'.cell? ⟨bc, 12, none⟩ = some (.string ⟨s8.toArray⟩) ∧ W'.cell? ⟨bc, 13, none⟩ = some (.string ⟨s9.toArray⟩) ∧ W'.cell? (ad.add (k * 10)) = some (.string ⟨a.toArray⟩)) ((refine HK.out _ ?_; repeat' (first | with_reducible assumption | with_reducible exact Fr.refl _ _ | with_reducible refine Fr.drew ?_))) ((go_at_call 8; refine (Hlv.out _ (by first | exact Fr.refl _ _ | exact (Fr.refl No wr).drew)).mono ?_; rintro e w9 ⟨rfl, hf⟩; have hf9 : Fr No wr w9 := (by first | exact hf | exact ((Fr.refl No wr).drew).then_no hf); have F9 := Lib.hid hf9; clear hf))
      all_goals
        have HO2 : Hid (w9.ownsRow 0 3 1 (.slice A1 m c1) m (out.map encI) ∧ Step No W (Of (.slice A1 m c1)) w9) := Lib.hid ⟨own_fr HO.out.1 F9.out (fun b hb h => h), HO.out.2.1.then_no F9.out, fun b hb => (HO.out.2.2 b hb).elim .inl (fun h => .inr ⟨h.1, by have := h.2; have := F9.out.size; omega⟩)⟩
        clear hf9 F9 HK
        by_cases hn : 1 ≤ n
        · have hpa : Hid (P a = true) := Lib.hid (by rw [Hsp.out]; exact decide_eq_true hn)
          go_wp2_with (at_builtin; go_loud (refine wp_push rfl (.tmp 24) (.tmp 26) 34 rfl 3 (.int .i64 0) 1 8 Try.underlying34 infoI rfl (by decide) (.slice A1 m c1) m _ rfl HO2.out.1 #[.int .i64 k] rfl rfl (one_lit rfl) (by omega) (by unfold maxLen; omega) ?_; intro g3 c3 w3 h1 h2 h3; have P3 := Lib.hid h1; have F3 := Lib.hid (HO2.out.2.trans (Step.of (n := m + 1) (c := c3) h2 h3)); clear h1 h2 h3))
          go_roundw
          case rel => exact ⟨k + 1, m + 1, out ++ [(k : Int)], by go_num, by omega, by omega, Lib.hid ⟨by rw [List.length_append, Hd.out.1]; rfl, by rw [hpt2.out, Hd.out.2, hpa.out]; simp⟩, Lib.hid ⟨by rw [List.map_append]; exact P3.out, F3.out⟩⟩
          case measure => simp [intOf]; omega
        · have hpa : Hid (P a = false) := Lib.hid (by rw [Hsp.out]; exact decide_eq_false hn)
          go_wp2_with fail
          go_roundw
          case rel => exact ⟨k + 1, m, out, by go_num, by omega, by omega, Lib.hid ⟨Hd.out.1, by rw [hpt2.out, Hd.out.2, hpa.out]; simp⟩, HO2⟩
          case measure => simp [intOf]; omega
    · have HE := Lib.hid (show placesR (fun c => P c.1) x.1 = out ∧ out.length = m from ⟨by have := Hd.out.2; rw [List.take_of_length_le (by omega)] at this; rw [HX.out]; exact this, Hd.out.1⟩)
      go_wp2_with fail
      go_ret
      refine ⟨_, rfl, ?_, HW.out.then_no HO.out.2.1, fun b hb => ?_⟩
      · rw [HE.out.1, HE.out.2]
        exact HO.out.1
      · rcases HO.out.2.2 b hb with h | h
        · exact h.elim
        · exact .inr ⟨by have := HW.out.size; have := h.1; omega, h.2⟩
end Conf
end Go.Proofs.Ytompphakagoaeaa
