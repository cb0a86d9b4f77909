/- Rights: Group. Printed by gen_rtv.py. -/
import Derived.Test.YtompphakagoaeaaRtU
namespace Go.Proofs.Ytompphakagoaeaa
open Go.RowKit
set_option linter.unusedVariables false
set_option linter.unusedSimpArgs false
namespace Conf
open Word
def grpR (l : List Grp) (name : Str) : Int := idxR (fun g => decide (g.1 = name)) l
/-- A group's consoles, or why there are none. -/
def groupR (x : C) (name : Str) : List Int × Int := match x.2.1.find? (fun g => decide (g.1 = name)) with
  | none => ([], 7)
  | some g => (placesR (fun c => okP g.2 c.1) x.1, 0)
theorem group_at {x : C} {name : Str} {k : Nat} (h : k < x.2.1.length) (hb : ∀ j (h : j < x.2.1.length), j < k → x.2.1[j].1 ≠ name) (he : x.2.1[k].1 = name) : groupR x name = (placesR (fun c => okP x.2.1[k].2 c.1) x.1, 0) := by
  unfold groupR
  have : x.2.1.find? (fun g => decide (g.1 = name)) = some x.2.1[k] := by
    rw [List.find?_eq_some_iff_getElem]
    exact ⟨by simpa using he, k, h, rfl, fun j hj => by simpa using hb j (by omega) hj⟩
  rw [this]
theorem group_none {x : C} {name : Str} (hb : ∀ j (h : j < x.2.1.length), x.2.1[j].1 ≠ name) : groupR x name = ([], 7) := by
  unfold groupR
  have : x.2.1.find? (fun g => decide (g.1 = name)) = none := by
    rw [List.find?_eq_none]
    intro y hy
    obtain ⟨j, hj, rfl⟩ := List.getElem_of_mem hy
    simpa using hb j hj
  rw [this]
theorem grp_cases (l : List Grp) (name : Str) : (∀ j (h : j < l.length), l[j].1 ≠ name) ∨ ∃ (k : Nat) (h : k < l.length), l[k].1 = name ∧ ∀ j (h : j < l.length), j < k → l[j].1 ≠ name := by
  rcases idx_cases (fun g : Grp => decide (g.1 = name)) l with hn | ⟨k, hlt, he, hb⟩
  · exact .inl fun j h => of_decide_eq_false (hn j h)
  · exact .inr ⟨k, hlt, of_decide_eq_true he, fun j h hj => of_decide_eq_false (hb j h hj)⟩
set_option maxHeartbeats 1000000 in
theorem idxG_any (A : Option Addr) (kA : Nat) (l : List Grp) (name : Str) (w : World) (S : Nat → Prop) (hS : ∀ k, S k → k < w.heap.size) (h : RSq 2 QGrp w S [.slice A l.length kA] l) (bn : Nat)
    (hx : w.cell? ⟨bn, 0, none⟩ = some (.string ⟨name.toArray⟩)) (hlx : bn < w.heap.size) :
    Calls Try.prog 30 #[.slice A l.length kA, .func (.func 31) #[] #[.pointer (some ⟨bn, 0, none⟩)]] w fun e w' => e = .returned (.int .i64 (grpR l name)) ∧ Fr No w w' := by
  obtain ⟨hU1, hU2⟩ : l.length ≤ kA ∧ kA ≤ 9223372036854775807 := by
    obtain ⟨A', c, e, h1, h2, -⟩ := h.1
    injection e with e _
    injection e with _ _ e
    subst e
    exact ⟨h1, h2⟩
  have H := Lib.hid h
  have HS := Lib.hid hS
  have HX := Lib.hid hx
  clear h hS hx
  go_enter Try.func30, Try.ntmps30
  go_wp2_with fail
  go_loopw [8] (fun iv wr => ∃ k : Nat, iv = .int .i64 k ∧ k ≤ l.length ∧ Hid (∀ j (h : j < l.length), j < k → l[j].1 ≠ name) ∧ Hid (Fr No w wr)) (fun i _ => l.length - (intOf i).toNat)
  case atStart => exact ⟨0, rfl, by omega, Lib.hid (fun j _ h => absurd h (by omega)), Lib.hid (Fr.refl _ _)⟩
  case round =>
    obtain ⟨k, rfl, hk, Hd, HF⟩ := hrel
    by_cases hlt : k < l.length
    · obtain ⟨ad, v, rfl, -, k0, k1, hp, b1⟩ := grp_at H.out HF.out HS.out hlt
      obtain ⟨AP, kP, rfl, -, -⟩ := hp.slice
      have hcl := g1_any wr bn l[k].1 name (.slice AP l[k].2.length kP) rfl ((HF.out.cell (p := ⟨bn, 0, none⟩) hlx (fun h => h)).trans HX.out) (Nat.lt_of_lt_of_le hlx HF.out.size)
      have Hlk := Lib.hid (show ∀ q, l[k].1 = q → l[k].1 = q from fun _ h => h)
      obtain ⟨a, ha⟩ : ∃ a, a = l[k].1 := ⟨_, rfl⟩
      obtain ⟨np, hnp⟩ : ∃ n, n = l[k].2.length := ⟨_, rfl⟩
      rw [← ha, ← hnp] at hcl
      rw [← ha] at k0
      rw [← hnp] at k1
      have Ha := Lib.hid ha
      clear hp b1 ha hnp
      by_cases he : a = name
      · rw [decide_eq_true he] at hcl
        have hr := Lib.hid (show grpR l name = k from idx_at hlt (fun j h hj => decide_eq_false (Hd.out j h hj)) (decide_eq_true (by rw [← Ha.out]; exact he)))
        have Hcl := Lib.hid hcl
        clear hcl he
        go_wp2_with fail
        refine Hcl.out.mono ?_
        rintro e w2 ⟨rfl, hf⟩
        have F2 := Lib.hid (HF.out.then_no hf)
        clear hf
        go_wp2_with fail
        go_ret
        exact ⟨ret_int hr.out.symm, F2.out⟩
      · rw [decide_eq_false he] at hcl
        have hn2 : Hid (∀ j (h : j < l.length), j < k + 1 → l[j].1 ≠ name) := by
          intro j h hj
          by_cases e : j = k
          · subst e; rw [← Ha.out]; exact he
          · exact Hd.out j h (by omega)
        have Hcl := Lib.hid hcl
        clear hcl he
        go_wp2_with fail
        refine Hcl.out.mono ?_
        rintro e w2 ⟨rfl, hf⟩
        have F2 := Lib.hid (HF.out.then_no hf)
        clear hf
        go_wp2_with fail
        go_roundw
        case rel => exact ⟨k + 1, by go_num, by omega, hn2, F2⟩
        case measure => simp [intOf]; omega
    · have hr := Lib.hid (show grpR l name = -1 from idx_none (fun j h => decide_eq_false (Hd.out j h (by omega))))
      clear Hd
      go_wp2_with fail
      go_ret
      exact ⟨ret_int hr.out.symm, HF.out⟩
set_option maxHeartbeats 2000000 in
theorem g2_any (w : World) (bc bi : Nat) (c0 : Array Value) (x : C) (j : Nat) (hj : j < x.2.1.length) (S : Nat → Prop) (hS : ∀ k, S k → k < w.heap.size) (h : QConf w S c0.toList x) (hb : Blk w bc 28 c0) (hi : w.cell? ⟨bi, 0, none⟩ = some (.int .i64 j)) (hli : bi < w.heap.size)
    (a b : Str) (n1 n2 n3 n4 n5 n6 n7 n8 : Int) (h1 : a.length ≤ 40) :
    Calls Try.prog 32 #[.agg #[.string ⟨a.toArray⟩, .int .i64 n1, .int .i64 n2, .int .i64 n3, .int .i64 n4, .int .i64 n5, .int .i64 n6, .int .i64 n7, .int .i64 n8, .string ⟨b.toArray⟩], .pointer (some ⟨bc, 0, none⟩), .pointer (some ⟨bi, 0, none⟩)] w fun e w' => e = .returned (.bool (okP x.2.1[j].2 a)) ∧ Fr No w w' := by
  have hW : Fr No w (w.alloc (.cells #[.string ⟨a.toArray⟩, .int .i64 n1, .int .i64 n2, .int .i64 n3, .int .i64 n4, .int .i64 n5, .int .i64 n6, .int .i64 n7, .int .i64 n8, .string ⟨b.toArray⟩] 50)) := (Fr.refl No w).alloc _
  obtain ⟨vC, vG, vU, vA, bs, hc0, hC, hG, hU, hA, hB⟩ := q_open h
  obtain ⟨AG, kG, rfl, hA1, hA2⟩ := hG.1.slice
  have e1 : c0[1]? = some (.slice AG x.2.1.length kG) := by rw [hc0]; rfl
  obtain ⟨ad, v, rfl, hla, k0, k1, hp, b1⟩ := grp_at hG hW hS hj
  obtain ⟨AP, kP, rfl, -, -⟩ := hp.slice
  have hlc := hb.lt
  have y1 := (hb.alloc (.cells #[.string ⟨a.toArray⟩, .int .i64 n1, .int .i64 n2, .int .i64 n3, .int .i64 n4, .int .i64 n5, .int .i64 n6, .int .i64 n7, .int .i64 n8, .string ⟨b.toArray⟩] 50)).cell 1
  rw [e1] at y1
  have hne : bc ≠ w.heap.size := by omega
  have hne2 : bi ≠ w.heap.size := by omega
  have HCN := Lib.hid (cont_any AP kP x.2.1[j].2 a (w.alloc (.cells #[.string ⟨a.toArray⟩, .int .i64 n1, .int .i64 n2, .int .i64 n3, .int .i64 n4, .int .i64 n5, .int .i64 n6, .int .i64 n7, .int .i64 n8, .string ⟨b.toArray⟩] 50)) S (fun k hk => Nat.lt_of_lt_of_le (hS k hk) hW.size) ((RSl.stable RS40.stable).go hp (Kept.of_no hW hS) fun b hb => hb) w.heap.size ((Blk.new w 50 #[.string ⟨a.toArray⟩, .int .i64 n1, .int .i64 n2, .int .i64 n3, .int .i64 n4, .int .i64 n5, .int .i64 n6, .int .i64 n7, .int .i64 n8, .string ⟨b.toArray⟩]).cell 0) (by simp) h1)
  have HW := Lib.hid hW
  generalize okP x.2.1[j].2 a = m at HCN ⊢
  generalize x.2.1[j].2.length = nP at HCN k1
  clear hp b1 k0 hC hG hU hA hB h hc0 e1 hb hS hW
  unfold maxLen at hA2
  generalize x.2.1.length = nG at hj y1 hA1
  go_enter Try.func32, Try.ntmps32
  go_wp2_with fail
  refine HCN.out.mono ?_
  rintro e w1 ⟨rfl, hf⟩
  have F1 := Lib.hid (HW.out.then_no hf)
  clear hf
  go_wp2_with fail
  go_ret
  exact ⟨rfl, F1.out⟩
/-- What is handed back: a new row of numbers, and a number. -/
def IntsPost2 (w : World) (l : List Int × Int) (e : Ending) (w' : World) : Prop := ∃ v, e = .returned (.tuple #[v, .int .i64 l.2]) ∧ w'.ownsRow 0 3 1 v l.1.length (l.1.map encI) ∧ Step No w (Of v) w'
set_option maxHeartbeats 2000000 in
theorem group_any (c0 : Array Value) (x : C) (name : Str) (w : World) (S : Nat → Prop) (hS : ∀ k, S k → k < w.heap.size) (h : QConf w S c0.toList x) :
    Calls Try.prog 17 #[.agg c0, .string ⟨name.toArray⟩] w (IntsPost2 w (groupR x name)) := by
  obtain ⟨vC, vG, vU, vA, bs, hc0, hC, hG, hU, hA, hB⟩ := q_open h
  obtain ⟨AC, kC, rfl, hC1, hC2⟩ := hC.1.slice
  obtain ⟨AG, kG, rfl, hG1, hG2⟩ := hG.1.slice
  have e0 : c0[0]? = some (.slice AC x.1.length kC) := by rw [hc0]; rfl
  have e1 : c0[1]? = some (.slice AG x.2.1.length kG) := by rw [hc0]; rfl
  have hW : Fr No w ((w.alloc (.cells c0 28)).alloc (.cells #[.string ⟨name.toArray⟩] 9)) := ((Fr.refl No w).alloc _).alloc _
  have hp := (Blk.new (w.alloc (.cells c0 28)) 9 #[.string ⟨name.toArray⟩]).cell 0
  have hbk := (Blk.new w 28 c0).alloc (.cells #[.string ⟨name.toArray⟩] 9)
  have hq := stable_q.go h (Kept.of_no hW hS) (fun b hb => hb)
  have hS2 : ∀ k, S k → k < ((w.alloc (.cells c0 28)).alloc (.cells #[.string ⟨name.toArray⟩] 9)).heap.size := fun k hk => Nat.lt_of_lt_of_le (hS k hk) hW.size
  have hix := idxG_any AG kG x.2.1 name _ S hS2 ((RSq.stable stable_qgrp).go hG (Kept.of_no hW hS) fun b hb => hb) (w.alloc (.cells c0 28)).heap.size hp (by simp)
  rw [size_alloc] at hix hp
  have y0 := hbk.cell 0
  rw [e0] at y0
  have y1 := hbk.cell 1
  rw [e1] at y1
  have hsz : w.heap.size + 1 < ((w.alloc (.cells c0 28)).alloc (.cells #[.string ⟨name.toArray⟩] 9)).heap.size := by simp
  have HW := Lib.hid hW
  have HY0 := Lib.hid y0
  have HY1 := Lib.hid y1
  have HQ := Lib.hid hq
  have HS2 := Lib.hid hS2
  have HBK := Lib.hid hbk
  have HC := Lib.hid ((RSq.stable stable_qcon).go hC (Kept.of_no hW hS) fun b hb => hb)
  rcases grp_cases x.2.1 name with hn | ⟨j, hj, he, hbb⟩
  · have hg : grpR x.2.1 name = -1 := idx_none (fun j h => decide_eq_false (hn j h))
    rw [hg] at hix
    have hr := Lib.hid (group_none hn)
    have Hix := Lib.hid hix
    generalize x.2.1.length = nG at Hix y1 hG1
    clear hC hG hU hA hB h hc0 e0 e1 hS hp hW HC hbk hq hS2 hn hg hix y0 HY0 HY1
    go_enter Try.func17, Try.ntmps17
    go_wp2_with fail
    refine Hix.out.mono ?_
    rintro e w1 ⟨rfl, hf⟩
    have F1 := Lib.hid (HW.out.then_no hf)
    clear hf
    go_wp2_with fail
    go_ret2
    refine ⟨_, by rw [hr.out]; rfl, ?_, (F1.out.alloc _), fun k hk => by cases hk⟩
    rw [hr.out]
    exact World.ownsRow_nil _ _ _ _
  · have hg : grpR x.2.1 name = j := idx_at hj (fun i h hi => decide_eq_false (hbb i h hi)) (decide_eq_true he)
    rw [hg] at hix
    have hr := Lib.hid (group_at hj hbb he)
    have Hix := Lib.hid hix
    have Hj := Lib.hid hj
    have HG1 := Lib.hid hG1
    clear hC hG hU hA hB h hc0 e0 e1 hS hp hW hbk hq hS2 hg hix y0 he hbb
    go_enter Try.func17, Try.ntmps17
    go_wp2_with fail
    refine Hix.out.mono ?_
    rintro e w1 ⟨rfl, hf⟩
    have F1 := Lib.hid (HW.out.then_no hf)
    have q0 := (hf.cell (p := ⟨w.heap.size, 0, none⟩) (by simp; omega) (fun h => h)).trans HY0.out
    have hBK1 := HBK.out.fr hf (fun h => h)
    have hQ1 := stable_q.go HQ.out (Kept.of_no hf HS2.out) (fun b hb => hb)
    have hC1b := (RSq.stable stable_qcon).go HC.out (Kept.of_no hf HS2.out) (fun b hb => hb)
    have hS1 : ∀ k, S k → k < w1.heap.size := fun k hk => Nat.lt_of_lt_of_le (HS2.out k hk) hf.size
    have hlw : w.heap.size < w1.heap.size := by have := hf.size; omega
    have hA : Fr No w1 (w1.alloc (.cells #[.int .i64 j] 3)) := (Fr.refl _ _).alloc _
    have hpl := places_grp w.heap.size w1.heap.size (fun a => okP x.2.1[j].2 a) AC kC x.1 (w1.alloc (.cells #[.int .i64 j] 3)) S (fun k hk => Nat.lt_of_lt_of_le (hS1 k hk) hA.size) ((RSq.stable stable_qcon).go hC1b (Kept.of_no hA hS1) fun b hb => hb)
      (fun W' hf' a b n1 n2 n3 n4 n5 n6 n7 n8 ha => g2_any W' _ _ c0 x j Hj.out S (fun k hk => Nat.lt_of_lt_of_le (hS1 k hk) (hA.then_no hf').size) (stable_q.go hQ1 (Kept.of_no (hA.then_no hf') hS1) (fun b hb => hb)) (hBK1.fr (hA.then_no hf') (fun h => h)) ((hf'.cell (p := ⟨w1.heap.size, 0, none⟩) (by simp) (fun h => h)).trans ((Blk.new w1 3 #[.int .i64 j]).cell 0)) (Nat.lt_of_lt_of_le (by simp) hf'.size) a b n1 n2 n3 n4 n5 n6 n7 n8 ha)
    have Hpl := Lib.hid hpl
    have q1 := (hA.cell (p := ⟨w.heap.size, 0, none⟩) hlw (fun h => h)).trans q0
    have q2 := (Blk.new w1 3 #[.int .i64 j]).cell 0
    simp only [List.getElem?_toArray, List.getElem?_cons_zero] at q2
    clear hf hBK1 hQ1 hC1b hS1 hA hpl y1
    go_wp2_with fail
    refine Hpl.out.mono ?_
    rintro e w2 ⟨v, rfl, ho, hs⟩
    have H2 := Lib.hid (And.intro ho hs)
    clear ho hs
    go_wp2_with fail
    go_ret2
    refine ⟨v, by rw [hr.out]; rfl, ?_, ((F1.out.alloc _).then_no H2.out.2.1), fun k hk => (H2.out.2.2 k hk).elim (fun h => h.elim) (fun h => .inr ⟨by have := F1.out.size; have := h.1; simp at this; omega, h.2⟩)⟩
    rw [hr.out]
    exact H2.out.1
end Conf
end Go.Proofs.Ytompphakagoaeaa
