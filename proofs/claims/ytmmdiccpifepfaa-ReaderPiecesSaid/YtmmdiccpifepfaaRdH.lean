/- Reader: Feed. Printed by gen_rdh.py. -/
import Derived.Test.YtmmdiccpifepfaaRdG
namespace Go.Proofs.Ytmmdiccpifepfaa
open Go.RowKit
set_option linter.unusedVariables false
set_option linter.unusedSimpArgs false
namespace Rd
open Ans Digit Sls Word
open Mux (stepR infoP encP of_ne blk_ne FS flushR flush_any feedR feedR_cons stepR_ends flushR_len fs_new checkR infoB sz feed_sz tot_mem tot_take)
/-- The parts of what is fed. -/
def partsR (p : Nat) (op s : Str) : List (Str × Bool) := flushR (feedR p op [] [] s).2.1 (feedR p op [] [] s).2.2
theorem foldP_bad {x : X} (h : x.bad = true) (l : List (Str × Bool)) : l.foldl stepP x = x := by
  induction l with
  | nil => rfl
  | cons a l ih => rw [List.foldl_cons, stepP_bad h, ih]
theorem fold_take {x : X} {P : List (Str × Bool)} {k : Nat} (h : ((P.take k).foldl stepP x).bad = true) : P.foldl stepP x = (P.take k).foldl stepP x := by
  conv => lhs; rw [← List.take_append_drop k P]
  rw [List.foldl_append, foldP_bad h]
theorem fold_next {x : X} {P : List (Str × Bool)} {k : Nat} (h : k < P.length) : (P.take (k + 1)).foldl stepP x = stepP ((P.take k).foldl stepP x) P[k] := by
  rw [List.take_succ_eq_append_getElem h, List.foldl_append]; rfl
section
variable {w w1 : World} {Fs F1 B A : Nat → Prop} {g p p1 : Nat} {vR vV v : Value} {rv : List (Int × Value)} {x : X} {op op1 : Str}
theorem RP.refed (h : RP w Fs B g vR vV rv x p op) (hA : ∀ k, Fs k ∨ B k ∨ Of vR k ∨ Of vV k → A k) (hL : ∀ k, A k → k < w.heap.size) (hs : SAt (vR, vV, .int .i64 x.role, .bool x.bad) w1 F1 g p1 op1) (st : Step Fs w F1 w1) (hv : ∀ k, Of v k → New w w1 k ∧ ¬ F1 k) :
    ∃ A1, RA w1 A1 g x p1 op1 ∧ Step A w A1 w1 ∧ ∀ k, Of v k → ¬ A1 k := by
  have out : ∀ k, k < w.heap.size → ¬ Fs k → ¬ F1 k := fun k hk hn hF => (st.2 k hF).elim hn fun h1 => by have := h1.1; omega
  refine ⟨fun k => A k ∨ F1 k, ⟨F1, B, vR, vV, rv, ⟨hs, h.rows.fr st.1 h.hR h.hV h.hF, fun k hk => out k (of_lt h.rows.rown k hk) (h.hR k hk), fun k hk => out k (of_lt h.rows.vown k hk) (h.hV k hk), fun k hk => out k (h.rows.hB k hk).1 (h.hF k hk)⟩, fun k hk => ?_, fun k hk => ?_⟩, ⟨st.1.mono fun k hk _ => hA k (.inl hk), fun k hk => ?_⟩, fun k hk hk1 => ?_⟩
  · rcases hk with hk | hk | hk | hk
    · exact .inr hk
    · exact .inl (hA k (.inr (.inl hk)))
    · exact .inl (hA k (.inr (.inr (.inl hk))))
    · exact .inl (hA k (.inr (.inr (.inr hk))))
  · rcases hk with hk | hk
    · exact Nat.lt_of_lt_of_le (hL k hk) st.1.size
    · exact hs.size k hk
  · rcases hk with hk | hk
    · exact .inl hk
    · exact (st.2 k hk).elim (fun h1 => .inl (hA k (.inl h1))) .inr
  · rcases hk1 with h1 | h1
    · have := hL k h1; have := (hv k hk).1.1; omega
    · exact (hv k hk).2 h1
end
theorem RA.cell3 {w : World} {A : Nat → Prop} {g p : Nat} {x : X} {op : Str} (h : RA w A g x p op) : w.cell? ⟨g, 3, none⟩ = some (.bool x.bad) := by
  obtain ⟨Fs, B, vR, vV, rv, hp, -⟩ := h
  exact hp.sat.cells.2.2.2.1
theorem part_at {w : World} {g n c : Nat} {P : List (Str × Bool)} (h : w.ownsRow 0 57 2 (.slice (some ⟨g, 0, none⟩) n c) n (P.flatMap encP)) {k : Nat} (hk : k < P.length) :
    w.cell? ⟨g, k * 2, none⟩ = some (.string ⟨P[k].1.toArray⟩) ∧ w.cell? ⟨g, k * 2 + 1, none⟩ = some (.bool P[k].2) := by
  have e : ∀ j u, j < 2 → (encP P[k])[j]? = some u → w.cell? ⟨g, k * 2 + j, none⟩ = some u := by
    intro j u hj hu
    have := fm_get P encP 2 k j hk (fun _ _ => rfl) hj
    rw [hu] at this
    have := h.cells (g := g) rfl (k * 2 + j) _ this
    have e2 : (⟨g, 0, none⟩ : Addr).add (k * 2 + j) = ⟨g, k * 2 + j, none⟩ := by rw [Addr.add_lit, Nat.zero_add]
    rw [e2] at this
    exact this
  exact ⟨e 0 _ (by omega) rfl, e 1 _ (by omega) rfl⟩
def FeedP (w : World) (A : Nat → Prop) (g : Nat) (y : X) (p : Nat) (op : Str) (e : Ending) (w' : World) : Prop := e = .returned (.int .i64 (codeR y p)) ∧ ∃ A', RA w' A' g y p op ∧ Step A w A' w'
theorem rdfeed_nil (s : Str) (w : World) : Calls Try.prog 7 #[.pointer none, .string ⟨s.toArray⟩] w fun e w' => e = .returned (.int .i64 14) ∧ w = w' := by
  go_enter Try.func7, Try.ntmps7
  go_wp2_with fail
  go_step3
  go_wp2_with fail
  rw [Exit.noGoto_ret]
  go_ret
  exact ⟨rfl, rfl⟩
set_option maxRecDepth 100000 in
set_option maxHeartbeats 4000000 in
theorem rdfeed_any (s : Str) (w : World) (A : Nat → Prop) (g p : Nat) (op : Str) (x : X) (h : RA w A g x p op) (hp4 : p ≤ 4) (N : Nat) (hf : Fit N x) (hN : N + 2 * (op.length + 4 * s.length) ≤ 900000) :
    Calls Try.prog 7 #[.pointer (some ⟨g, 0, none⟩), .string ⟨s.toArray⟩] w (FeedP w A g ((partsR p op s).foldl stepP x) (feedR p op [] [] s).1.1 (feedR p op [] [] s).1.2) := by
  obtain ⟨Fs, B, vR, vV, rv, hp, hA, hlt⟩ := h
  have hFD := feed_any _ w Fs g p op s hp.sat hp4 (by omega)
  have hsz := feed_sz s p op [] [] hp4
  have h14 := (Mux.run_le s p op hp4).1
  rw [← (Mux.feedR_run s p op [] []).1] at h14
  unfold partsR
  obtain ⟨⟨⟨p1, op1⟩, d1, o1⟩, hr⟩ : ∃ r, r = feedR p op [] [] s := ⟨_, rfl⟩
  rw [← hr] at hFD hsz h14 ⊢
  unfold FeedPost at hFD
  simp only at hFD hsz h14 ⊢
  obtain ⟨P, hP⟩ : ∃ P, P = flushR d1 o1 := ⟨_, rfl⟩
  rw [← hP] at hFD hsz ⊢
  obtain ⟨n, hn⟩ : ∃ n, n = P.length := ⟨_, rfl⟩
  rw [← hn] at hFD
  have hsz' : Mux.tot P + P.length ≤ op.length + 4 * s.length := by simpa [sz, Mux.tot] using hsz
  rw [← hn] at hsz'
  have hn9 : n ≤ 900000 := by omega
  have HF := Lib.hid (fun k => (Fit.parts (P.take k) hf).mono (show N + Mux.tot (P.take k) + 2 * (P.take k).length ≤ 900000 by have := tot_take P k; simp only [List.length_take]; omega))
  have HM := Lib.hid (fun k (hk : k < P.length) => show (P[k]).1.length ≤ 900000 by have := tot_mem (List.getElem_mem hk); omega)
  have HP := Lib.hid hp
  have HA := Lib.hid hA
  have HL := Lib.hid hlt
  have HN := Lib.hid hn
  have HFD := Lib.hid hFD
  have H14 := Lib.hid h14
  clear hp hA hlt hn hFD hsz hsz' hP hr hf hN hp4 h14
  go_enter Try.func7, Try.ntmps7
  go_wp2_with fail
  go_step3
  go_wp2_with fail
  go_step3
  go_wp2_with (go_at_call 16; go_loud (refine HFD.out.mono ?_; rintro e w1 ⟨F1, A1, c1, rfl, q1, q2, q3, q4⟩; have Q1 := Lib.hid q1; have HRF := Lib.hid (RP.refed HP.out HA.out HL.out q2 q3 q4); clear q1 q2 q3 q4))
  have hrf := HRF.out
  obtain ⟨A2, hra, hst, hof⟩ := hrf
  have RA2 := Lib.hid hra
  have ST2 := Lib.hid hst
  have OF2 := Lib.hid hof
  clear hra hst hof HRF
  go_loopw [15] (fun i wr => ∃ (k : Nat) (A3 : Nat → Prop), i = .int .i64 k ∧ k ≤ n ∧ Hid (RA wr A3 g ((P.take k).foldl stepP x) p1 op1 ∧ Step A2 w1 A3 wr)) (fun i _ => n - (intOf i).toNat)
  case atStart =>
    exact ⟨0, A2, rfl, Nat.zero_le _, RA2.out, Step.refl _ _⟩
  case round =>
    obtain ⟨k, A3, rfl, hk, hd⟩ := hrel
    by_cases hlt : k < n
    · obtain ⟨gp, hgp⟩ : ∃ gp, A1 = some ⟨gp, 0, none⟩ := by
        rcases Q1.out.2 with ⟨h1, h2⟩ | ⟨g', cap, cur, h1, _⟩
        · omega
        · injection h1 with h1; exact ⟨g', h1⟩
      subst hgp
      have hkP : k < P.length := HN.out ▸ hlt
      have ho := own_fr Q1.out hd.out.2.1 (fun b hb => OF2.out b hb)
      obtain ⟨a0, a1⟩ := part_at ho hkP
      have HNX := Lib.hid (fold_next (x := x) hkP)
      have hsl := HM.out k hkP
      have hFk := HF.out k
      obtain ⟨⟨t, r⟩, ht⟩ : ∃ q, q = P[k] := ⟨_, rfl⟩
      rw [← ht] at a0 a1 HNX hsl
      simp only at a0 a1 hsl
      obtain ⟨y, hy⟩ : ∃ y, y = (P.take k).foldl stepP x := ⟨_, rfl⟩
      rw [← hy] at HNX hd hFk
      have HY := Lib.hid hy
      have c3 := ((hd.out.1).no ((Fr.refl No wr).alloc (.cells #[.string ⟨t.toArray⟩, .bool r] 57))).cell3
      have HD := Lib.hid hd.out
      have HFk := Lib.hid hFk
      clear ho ht hy hd hkP hFk
      cases hb : y.bad with
      | true =>
        rw [hb] at c3
        have HB := Lib.hid hb
        have HCK := Lib.hid (rdcheck_any ((HD.out.1).no ((Fr.refl No wr).alloc (.cells #[.string ⟨t.toArray⟩, .bool r] 57))) H14.out)
        clear hb
        go_wp2_with (go_at_call 9; refine HCK.out.mono ?_; rintro e w3 ⟨rfl, rfl⟩)
        go_ret
        have e : P.foldl stepP x = y := by rw [HY.out]; exact fold_take (by rw [← HY.out]; exact HB.out)
        rw [e]
        exact ⟨rfl, A3, (HD.out.1).no ((Fr.refl No wr).alloc _), (ST2.out.trans HD.out.2).trans (Step.no ((Fr.refl No wr).alloc _))⟩
      | false =>
        rw [hb] at c3
        have HB := Lib.hid hb
        clear hb
        cases r with
        | true =>
          have HST := Lib.hid (show stepP y (t, true) = replyR y t by unfold stepP; rw [if_neg (by simp [HB.out]), if_pos rfl])
          have HC := Lib.hid (fun W (hW : Fr No wr W) => reply_any t W A3 g p1 op1 y (HD.out.1.no hW) hsl HFk.out)
          go_wp2_with fail
          go_region_with (go_at_call 17; refine (HC.out _ (by (repeat' (first | with_reducible assumption | with_reducible exact Fr.refl _ _ | with_reducible refine Fr.drew ?_ | with_reducible refine Fr.drewN ?_ _ | with_reducible refine Fr.alloc ?_ _)))).mono ?_; rintro e w3 ⟨rfl, A4, h4, s4⟩; have H4 := Lib.hid h4; have S4 := Lib.hid ((Step.no (F := A3) (show Fr No wr _ by (repeat' (first | with_reducible assumption | with_reducible exact Fr.refl _ _ | with_reducible refine Fr.drew ?_ | with_reducible refine Fr.drewN ?_ _ | with_reducible refine Fr.alloc ?_ _)))).trans s4); clear h4 s4)
          all_goals
            go_wp2_with fail
            go_roundw
            case rel => exact ⟨k + 1, A4, by go_num, by omega, by rw [HNX.out, HST.out]; exact H4.out, HD.out.2.trans S4.out⟩
            case measure => simp [intOf]; omega
        | false =>
          have HST := Lib.hid (show stepP y (t, false) = dataR y t by unfold stepP; rw [if_neg (by simp [HB.out]), if_neg (by simp)])
          have HC := Lib.hid (fun W (hW : Fr No wr W) => data_any t W A3 g p1 op1 y (HD.out.1.no hW) (by omega) (HFk.out.mono (by omega)))
          go_wp2_with fail
          go_region_with (go_at_call 18; refine (HC.out _ (by (repeat' (first | with_reducible assumption | with_reducible exact Fr.refl _ _ | with_reducible refine Fr.drew ?_ | with_reducible refine Fr.drewN ?_ _ | with_reducible refine Fr.alloc ?_ _)))).mono ?_; rintro e w3 ⟨rfl, A4, h4, s4⟩; have H4 := Lib.hid h4; have S4 := Lib.hid ((Step.no (F := A3) (show Fr No wr _ by (repeat' (first | with_reducible assumption | with_reducible exact Fr.refl _ _ | with_reducible refine Fr.drew ?_ | with_reducible refine Fr.drewN ?_ _ | with_reducible refine Fr.alloc ?_ _)))).trans s4); clear h4 s4)
          all_goals
            go_wp2_with fail
            go_roundw
            case rel => exact ⟨k + 1, A4, by go_num, by omega, by rw [HNX.out, HST.out]; exact H4.out, HD.out.2.trans S4.out⟩
            case measure => simp [intOf]; omega
    · have hkn : k = n := by omega
      have HD := Lib.hid hd.out
      have e : (P.take k).foldl stepP x = P.foldl stepP x := by rw [hkn, HN.out, List.take_length]
      rw [e] at HD
      have HCK := Lib.hid (rdcheck_any HD.out.1 H14.out)
      clear hd e hkn
      go_wp2_with (go_at_call 9; refine HCK.out.mono ?_; rintro e w3 ⟨rfl, rfl⟩)
      go_ret
      exact ⟨rfl, A3, HD.out.1, ST2.out.trans HD.out.2⟩
end Rd
end Go.Proofs.Ytmmdiccpifepfaa
