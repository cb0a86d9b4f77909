/- Reader: reply. Printed by gen_rdd.py. -/
import Derived.Test.YtmmdiccpifepfaaRdC
namespace Go.Proofs.Ytmmdiccpifepfaa
open Go.RowKit
set_option linter.unusedVariables false
set_option linter.unusedSimpArgs false
namespace Rd
open Ans Digit Sls Word
theorem reply_bad {x : X} {s : Str} (h : ¬ ((readA s).2.2 = 0 ∧ (readA s).2.1 = s.length)) : replyR x s = badR x := by unfold replyR; rw [if_neg h]
/-- What stands behind the push of a reply. -/
structure Got (W : World) (A : Nat → Prop) (w : World) (g : Nat) (x : X) (p : Nat) (op : Str) (b : Nat) (num : Int) (v : Value) (L : List Str) (Fs B A2 : Nat → Prop) (vR vV : Value) (rv : List (Int × Value)) : Prop where
  rp : RP W Fs B g vR vV rv { x with R := x.R ++ [(num, L)] } p op
  hA : ∀ k, Fs k ∨ B k ∨ Of vR k ∨ Of vV k → A2 k
  lt : ∀ k, A2 k → k < W.heap.size
  st : Step A w A2 W
  ls : RSl 1 RStr W B [v] L
  blk : Blk W b 69 #[.int .i64 num, v]
theorem Got.ra {W w : World} {A Fs B A2 : Nat → Prop} {g p b : Nat} {x : X} {op : Str} {num : Int} {v vR vV : Value} {L : List Str} {rv : List (Int × Value)} (h : Got W A w g x p op b num v L Fs B A2 vR vV rv) : RA W A2 g { x with R := x.R ++ [(num, L)] } p op := ⟨Fs, B, vR, vV, rv, h.rp, h.hA, h.lt⟩
theorem got_reply {w w1 w4 : World} {A Fs B : Nat → Prop} {g p n5 k5 g4 cap4 cr : Nat} {x : X} {op : Str} {num : Int} {L : List Str} {A5 Ar : Option Addr} {vV : Value} {rv : List (Int × Value)}
    (hP : RP w Fs B g (.slice A5 n5 k5) vV rv x p op) (hA : ∀ k, Fs k ∨ B k ∨ Of (.slice A5 n5 k5) k ∨ Of vV k → A k) (hL : ∀ k, A k → k < w.heap.size) (hn : n5 = rv.length)
    (hv : RSl 1 RStr w1 (New w w1) [.slice Ar L.length cr] L) (hf : Fr No w w1)
    (p1 : w4.ownsRow 0 69 2 (.slice (some ⟨g4, 0, none⟩) (n5 + 1) cap4) (n5 + 1) (rv.flatMap encR ++ [.int .i64 num, .slice Ar L.length cr]))
    (p2 : Fr (Of (.slice A5 n5 k5)) (w1.alloc (.cells #[.int .i64 num, .slice Ar L.length cr] 69)) w4) (p3 : Of (.slice A5 n5 k5) g4 ∨ New (w1.alloc (.cells #[.int .i64 num, .slice Ar L.length cr] 69)) w4 g4) :
    Got (w4.setCell ⟨g, 0, none⟩ (.slice (some ⟨g4, 0, none⟩) (n5 + 1) cap4)) A w g x p op w1.heap.size num (.slice Ar L.length cr) L Fs (fun k => B k ∨ New w w1 k) (fun k => A k ∨ New w (w4.setCell ⟨g, 0, none⟩ (.slice (some ⟨g4, 0, none⟩) (n5 + 1) cap4)) k) (.slice (some ⟨g4, 0, none⟩) (n5 + 1) cap4) vV (rv ++ [(num, .slice Ar L.length cr)]) := by
  have hp1 := (hP.more hf)
  have fa : Fr No w1 (w1.alloc (.cells #[.int .i64 num, .slice Ar L.length cr] 69)) := (Fr.refl No w1).alloc _
  have hp2 := hp1.no fa
  have hl1 : RSl 1 RStr w1 (fun k => B k ∨ New w w1 k) [.slice Ar L.length cr] L := (RSl.stable RStr.stable).go hv (Kept.refl _ _) (fun k hk => .inr hk)
  have hl2 := str_keep hl1 fa (fun k hk => (hp1.rows.hB k hk).1)
  have hR := RP.rpush hp2 hl2 (w1 := w4) (num := num) (by exact p1) (by rw [hn]) p2 p3
  have hfw : Fr A w w4 := ((hf.then_no fa).no A).trans p2 (fun k hk _ => hA k (.inr (.inr (.inl hk))))
  have hfs : Fr A w (w4.setCell ⟨g, 0, none⟩ (.slice (some ⟨g4, 0, none⟩) (n5 + 1) cap4)) := hfw.setCell (p := ⟨g, 0, none⟩) (.inl (hA g (.inl hP.sat.in_))) _
  have hb := Blk.new w1 69 #[.int .i64 num, .slice Ar L.length cr]
  have hgl := hp1.sat.cells.2.2.2.2.2
  have hgw := hP.sat.cells.2.2.2.2.2
  refine ⟨hR, fun k hk => ?_, fun k hk => hk.elim (fun h => Nat.lt_of_lt_of_le (hL k h) hfs.size) (fun h => h.2), ⟨hfs, fun k hk => hk⟩, ?_, ?_⟩
  · have hs1 : w1.heap.size ≤ w4.heap.size := by have := p2.size; rw [size_alloc] at this; omega
    rcases hk with hk | (hk | hk) | hk | hk
    · exact .inl (hA k (.inl hk))
    · exact .inl (hA k (.inr (.inl hk)))
    · exact .inr ⟨hk.1, by rw [size_setCell]; exact Nat.lt_of_lt_of_le hk.2 hs1⟩
    · have hk : some g4 = some k := hk
      injection hk with hk
      subst hk
      rcases p3 with h3 | h3
      · exact .inl (hA _ (.inr (.inr (.inl h3))))
      · have h4 := h3.1; rw [size_alloc] at h4
        exact .inr ⟨by have := hf.size; omega, by rw [size_setCell]; exact h3.2⟩
    · exact .inl (hA k (.inr (.inr (.inr hk))))
  · have hl3 := hR.rows.lines.2 rv.length (by simp) (by have := hP.rows.lines.1; simp; omega)
    have e1 : (rv ++ [(num, Value.slice Ar L.length cr)])[rv.length]'(by simp) = (num, .slice Ar L.length cr) := by simp
    have e2 : (x.R ++ [(num, L)])[rv.length]'(by have := hP.rows.lines.1; simp; omega) = (num, L) := by simp [hP.rows.lines.1]
    rw [e1] at hl3
    simp only [e2] at hl3
    exact hl3.2
  · refine (hb.fr p2 fun hk => ?_).far (p := ⟨g, 0, none⟩) (fun e => ?_) _
    · have := of_lt hp1.rows.rown _ hk; omega
    · have e : w1.heap.size = g := e
      omega
theorem reply_ok {x : X} {s : Str} (h : (readA s).2.2 = 0 ∧ (readA s).2.1 = s.length) : replyR x s = actR { x with R := x.R ++ [(readA s).1] } (readA s).1 := by unfold replyR; rw [if_pos h]
set_option maxRecDepth 100000 in
set_option maxHeartbeats 2000000 in
theorem replyb_any (s : Str) (w : World) (A : Nat → Prop) (g p : Nat) (op : Str) (x : X) (h : RA w A g x p op) (hs : s.length ≤ 900000) (hb : ¬ ((readA s).2.2 = 0 ∧ (readA s).2.1 = s.length)) :
    Calls Try.prog 17 #[.pointer (some ⟨g, 0, none⟩), .string ⟨s.toArray⟩] w (RAct w A g (replyR x s) p op) := by
  rw [reply_bad hb]
  have hR := read_any s w hs
  obtain ⟨⟨⟨num, L⟩, n, e⟩, hr⟩ : ∃ r, r = readA s := ⟨_, rfl⟩
  rw [← hr] at hR hb
  simp only at hb
  have hpick : (!decide ((e : Int) = 0)) = true ∨ ((e : Int) = 0 ∧ ((n : Int) != (s.length : Int)) = true) := by
    by_cases he : e = 0
    · exact .inr ⟨he, by rw [bne_iff_ne]; intro h1; exact hb ⟨he, by omega⟩⟩
    · exact .inl (by simpa using he)
  have HR := Lib.hid hR
  have HX := Lib.hid h
  clear hR h hr hb
  rcases hpick with he | ⟨rfl, hne⟩
  · have he1 : (e != 0) = true := by simpa using he
    clear he
    go_enter Try.func17, Try.ntmps17
    go_wp2_with (go_at_call 28; refine HR.out.mono ?_; rintro ee w1 ⟨v, rfl, hv, hf⟩; obtain ⟨Ar, cr, rfl, -, -⟩ := hv.slice; obtain ⟨Fs, B, vR, vV, rv, hp, hA, hlt⟩ := HX.out.no (hf.alloc (.cells #[.int .i64 num, .slice Ar L.length cr] 69)); obtain ⟨c0, c1, c2, c3, fz, hg⟩ := hp.sat.cells; have f3 := fz 3; have HP := Lib.hid hp.bad; have HS := Lib.hid (hp.step hA 3 (.bool true)); have HA := Lib.hid hA; have HL := Lib.hid hlt; have HF := Lib.hid hf; clear hp hA hlt hv hf fz)
    go_end0
    exact ⟨rfl, A, ⟨Fs, B, vR, vV, rv, HP.out, HA.out, fun k hk => Nat.lt_of_lt_of_le (HL.out k hk) HS.out.1.size⟩, (Step.no (HF.out.alloc _)).trans HS.out⟩
  · have hb1 : ((0 : Int) != 0) = false := rfl
    go_enter Try.func17, Try.ntmps17
    go_wp2_with (go_at_call 28; refine HR.out.mono ?_; rintro ee w1 ⟨v, rfl, hv, hf⟩; obtain ⟨Ar, cr, rfl, -, -⟩ := hv.slice; obtain ⟨Fs, B, vR, vV, rv, hp, hA, hlt⟩ := HX.out.no (hf.alloc (.cells #[.int .i64 num, .slice Ar L.length cr] 69)); obtain ⟨c0, c1, c2, c3, fz, hg⟩ := hp.sat.cells; have f3 := fz 3; have HP := Lib.hid hp.bad; have HS := Lib.hid (hp.step hA 3 (.bool true)); have HA := Lib.hid hA; have HL := Lib.hid hlt; have HF := Lib.hid hf; clear hp hA hlt hv hf fz)
    go_end0
    exact ⟨rfl, A, ⟨Fs, B, vR, vV, rv, HP.out, HA.out, fun k hk => Nat.lt_of_lt_of_le (HL.out k hk) HS.out.1.size⟩, (Step.no (HF.out.alloc _)).trans HS.out⟩

set_option maxRecDepth 100000 in
set_option maxHeartbeats 2000000 in
theorem reply310_any (s : Str) (w : World) (A : Nat → Prop) (g p : Nat) (op : Str) (x : X) (h : RA w A g x p op) (hs : s.length ≤ 900000) (hf : Fit 900000 x) (hb : (readA s).2.2 = 0 ∧ (readA s).2.1 = s.length) (hnum : (readA s).1.1 = 310) :
    Calls Try.prog 17 #[.pointer (some ⟨g, 0, none⟩), .string ⟨s.toArray⟩] w (RAct w A g (replyR x s) p op) := by
  rw [reply_ok hb]
  have hR := read_any s w hs
  obtain ⟨⟨⟨num, L⟩, n, e⟩, hr⟩ : ∃ r, r = readA s := ⟨_, rfl⟩
  rw [← hr] at hR hb hnum ⊢
  simp only at hb hnum
  subst hnum
  obtain ⟨rfl, rfl⟩ := hb
  have hll : ∀ l ∈ L, l.length ≤ 900000 := fun l hl => Nat.le_trans (by have := read_le s l (by rw [← hr]; exact hl); exact this) hs
  have HLL := Lib.hid hll
  obtain ⟨Fs, B, vR, vV, rv, hp, hA, hlt⟩ := h
  have hro := hp.rows.rown
  have hrl := hp.rows.lines.1
  obtain ⟨A5, k5, hu⟩ := own_form hro
  subst hu
  have hfl := hf.1
  obtain ⟨n5, hn5⟩ : ∃ n5, n5 = rv.length := ⟨_, rfl⟩
  have hn5l : n5 ≤ 1000000 := by omega
  rw [← hn5] at hp hA
  have HN := Lib.hid hn5
  have HP := Lib.hid hp
  have HA := Lib.hid hA
  have HL := Lib.hid hlt
  have HR := Lib.hid hR
  have HF := Lib.hid hf
  have hb1 : ((0 : Int) != 0) = false := rfl
  have hb2 : ((s.length : Int) != (s.length : Int)) = false := by simp
  clear hp hA hlt hro hrl hfl hn5 hR hf hll hr
  have HFB := Lib.hid (show Fit 1000000 { x with R := x.R ++ [((310 : Int), L)] } from ⟨by have := HF.out.1; simp; omega, Nat.le_trans HF.out.2.1 (by omega), fun v hv => Nat.le_trans (HF.out.2.2 v hv) (by omega)⟩)
  go_enter Try.func17, Try.ntmps17
  go_wp2_with (go_at_call 28; go_loud (refine HR.out.mono ?_; rintro ee w1 ⟨v, rfl, hv, hf⟩; obtain ⟨Ar, cr, rfl, -, -⟩ := hv.slice; have hp1 := (HP.out.more hf).no ((Fr.refl No w1).alloc (.cells #[.int .i64 310, .slice Ar L.length cr] 69)); have hl1 := str_keep ((RSl.stable RStr.stable).go hv (Kept.refl _ _) (fun k hk => (Or.inr hk : B k ∨ New w w1 k))) ((Fr.refl No w1).alloc (.cells #[.int .i64 310, .slice Ar L.length cr] 69)) (fun k hk => ((HP.out.more hf).rows.hB k hk).1); obtain ⟨c0, c1, c2, c3, fz, hg⟩ := hp1.sat.cells; have f0 := fz 0; have c0a := fun o => (hp1.no ((Fr.refl No _).alloc o)).sat.cells.1; have HRO := Lib.hid (show World.ownsRow _ 0 69 2 (.slice A5 n5 k5) n5 (rv.flatMap encR) from (by have hq := hp1.rows.rown; rw [← HN.out] at hq; exact hq)); have HP1 := Lib.hid hp1; have HL1 := Lib.hid hl1; have HF1 := Lib.hid hf; have HL0 := Lib.hid hv; clear hp1 hl1 hv hf fz))
  go_region_law (go_loud (refine step_pushD rfl (.tmp 30) (.tmp 32) 28 rfl 69 (.agg #[.int .i64 0, .slice none 0 0]) 2 32 Try.underlying28 infoR rfl (by decide) (.slice A5 n5 k5) n5 _ (by simp [Act.eval, Act.put]) HRO.out #[.int .i64 310, .slice Ar L.length cr] (by simp [Act.eval, Act.put]) rfl (by intro u hu; simp at hu; rcases hu with rfl | rfl <;> rfl) (by omega) (by unfold maxLen; omega) ?_; intro g4 cap4 w4 p1 p2 p3; have s4 := HP1.out.sat.fr p2 (fun k hk hv => HP1.out.hR k hv hk); have q0 := s4.cells.1; have q1 := s4.cells.2.2.2.2.1 0; have q2 := s4.cells.2.2.1; have q3 := s4.cells.2.2.2.1; have r2 := s4.cells.2.2.2.2.1 2; have r3 := s4.cells.2.2.2.2.1 3; have G := Lib.hid (got_reply HP.out HA.out HL.out HN.out HL0.out HF1.out p1 p2 p3); have b0 := G.out.blk.cell 0; have b1 := G.out.blk.cell 1; simp only [List.getElem?_toArray, List.getElem?_cons_zero, List.getElem?_cons_succ] at b0 b1; clear s4 p1 p2 p3))
  all_goals
    go_wp2_with (first
      | (go_at_call 30; refine (last_any 310 _ L _ _ (fun k hk => (G.out.rp.rows.hB k hk).1) G.out.ls HLL.out).mono ?_; rintro e2 w6 ⟨rfl, f6⟩; have F6 := Lib.hid f6; clear f6)
      | (go_at_call 29; refine (be_any 2 (lastR (310, L)) _ _ g p op _ (G.out.ra.no F6.out) HFB.out).mono ?_; rintro e3 w7 ⟨rfl, A7, h7, s7⟩; have H7 := Lib.hid h7; have S7 := Lib.hid s7; clear h7 s7))
    go_end0
    exact ⟨rfl, A7, by exact H7.out, (G.out.st.trans (Step.no F6.out)).trans S7.out⟩

set_option maxRecDepth 100000 in
set_option maxHeartbeats 2000000 in
theorem reply311_any (s : Str) (w : World) (A : Nat → Prop) (g p : Nat) (op : Str) (x : X) (h : RA w A g x p op) (hs : s.length ≤ 900000) (hf : Fit 900000 x) (hb : (readA s).2.2 = 0 ∧ (readA s).2.1 = s.length) (hnum : (readA s).1.1 = 311) :
    Calls Try.prog 17 #[.pointer (some ⟨g, 0, none⟩), .string ⟨s.toArray⟩] w (RAct w A g (replyR x s) p op) := by
  rw [reply_ok hb]
  have hR := read_any s w hs
  obtain ⟨⟨⟨num, L⟩, n, e⟩, hr⟩ : ∃ r, r = readA s := ⟨_, rfl⟩
  rw [← hr] at hR hb hnum ⊢
  simp only at hb hnum
  subst hnum
  obtain ⟨rfl, rfl⟩ := hb
  have hll : ∀ l ∈ L, l.length ≤ 900000 := fun l hl => Nat.le_trans (by have := read_le s l (by rw [← hr]; exact hl); exact this) hs
  have HLL := Lib.hid hll
  obtain ⟨Fs, B, vR, vV, rv, hp, hA, hlt⟩ := h
  have hro := hp.rows.rown
  have hrl := hp.rows.lines.1
  obtain ⟨A5, k5, hu⟩ := own_form hro
  subst hu
  have hfl := hf.1
  obtain ⟨n5, hn5⟩ : ∃ n5, n5 = rv.length := ⟨_, rfl⟩
  have hn5l : n5 ≤ 1000000 := by omega
  rw [← hn5] at hp hA
  have HN := Lib.hid hn5
  have HP := Lib.hid hp
  have HA := Lib.hid hA
  have HL := Lib.hid hlt
  have HR := Lib.hid hR
  have HF := Lib.hid hf
  have hb1 : ((0 : Int) != 0) = false := rfl
  have hb2 : ((s.length : Int) != (s.length : Int)) = false := by simp
  clear hp hA hlt hro hrl hfl hn5 hR hf hll hr
  have HFB := Lib.hid (show Fit 1000000 { x with R := x.R ++ [((311 : Int), L)] } from ⟨by have := HF.out.1; simp; omega, Nat.le_trans HF.out.2.1 (by omega), fun v hv => Nat.le_trans (HF.out.2.2 v hv) (by omega)⟩)
  go_enter Try.func17, Try.ntmps17
  go_wp2_with (go_at_call 28; go_loud (refine HR.out.mono ?_; rintro ee w1 ⟨v, rfl, hv, hf⟩; obtain ⟨Ar, cr, rfl, -, -⟩ := hv.slice; have hp1 := (HP.out.more hf).no ((Fr.refl No w1).alloc (.cells #[.int .i64 311, .slice Ar L.length cr] 69)); have hl1 := str_keep ((RSl.stable RStr.stable).go hv (Kept.refl _ _) (fun k hk => (Or.inr hk : B k ∨ New w w1 k))) ((Fr.refl No w1).alloc (.cells #[.int .i64 311, .slice Ar L.length cr] 69)) (fun k hk => ((HP.out.more hf).rows.hB k hk).1); obtain ⟨c0, c1, c2, c3, fz, hg⟩ := hp1.sat.cells; have f0 := fz 0; have c0a := fun o => (hp1.no ((Fr.refl No _).alloc o)).sat.cells.1; have HRO := Lib.hid (show World.ownsRow _ 0 69 2 (.slice A5 n5 k5) n5 (rv.flatMap encR) from (by have hq := hp1.rows.rown; rw [← HN.out] at hq; exact hq)); have HP1 := Lib.hid hp1; have HL1 := Lib.hid hl1; have HF1 := Lib.hid hf; have HL0 := Lib.hid hv; clear hp1 hl1 hv hf fz))
  go_region_law (go_loud (refine step_pushD rfl (.tmp 30) (.tmp 32) 28 rfl 69 (.agg #[.int .i64 0, .slice none 0 0]) 2 32 Try.underlying28 infoR rfl (by decide) (.slice A5 n5 k5) n5 _ (by simp [Act.eval, Act.put]) HRO.out #[.int .i64 311, .slice Ar L.length cr] (by simp [Act.eval, Act.put]) rfl (by intro u hu; simp at hu; rcases hu with rfl | rfl <;> rfl) (by omega) (by unfold maxLen; omega) ?_; intro g4 cap4 w4 p1 p2 p3; have s4 := HP1.out.sat.fr p2 (fun k hk hv => HP1.out.hR k hv hk); have q0 := s4.cells.1; have q1 := s4.cells.2.2.2.2.1 0; have q2 := s4.cells.2.2.1; have q3 := s4.cells.2.2.2.1; have r2 := s4.cells.2.2.2.2.1 2; have r3 := s4.cells.2.2.2.2.1 3; have G := Lib.hid (got_reply HP.out HA.out HL.out HN.out HL0.out HF1.out p1 p2 p3); have b0 := G.out.blk.cell 0; have b1 := G.out.blk.cell 1; simp only [List.getElem?_toArray, List.getElem?_cons_zero, List.getElem?_cons_succ] at b0 b1; clear s4 p1 p2 p3))
  all_goals
    go_wp2_with (first
      | (go_at_call 30; refine (last_any 311 _ L _ _ (fun k hk => (G.out.rp.rows.hB k hk).1) G.out.ls HLL.out).mono ?_; rintro e2 w6 ⟨rfl, f6⟩; have F6 := Lib.hid f6; clear f6)
      | (go_at_call 29; refine (be_any 1 (lastR (311, L)) _ _ g p op _ (G.out.ra.no F6.out) HFB.out).mono ?_; rintro e3 w7 ⟨rfl, A7, h7, s7⟩; have H7 := Lib.hid h7; have S7 := Lib.hid s7; clear h7 s7))
    go_end0
    exact ⟨rfl, A7, by exact H7.out, (G.out.st.trans (Step.no F6.out)).trans S7.out⟩

set_option maxRecDepth 100000 in
set_option maxHeartbeats 2000000 in
theorem reply312_any (s : Str) (w : World) (A : Nat → Prop) (g p : Nat) (op : Str) (x : X) (h : RA w A g x p op) (hs : s.length ≤ 900000) (hf : Fit 900000 x) (hb : (readA s).2.2 = 0 ∧ (readA s).2.1 = s.length) (hnum : (readA s).1.1 = 312) :
    Calls Try.prog 17 #[.pointer (some ⟨g, 0, none⟩), .string ⟨s.toArray⟩] w (RAct w A g (replyR x s) p op) := by
  rw [reply_ok hb]
  have hR := read_any s w hs
  obtain ⟨⟨⟨num, L⟩, n, e⟩, hr⟩ : ∃ r, r = readA s := ⟨_, rfl⟩
  rw [← hr] at hR hb hnum ⊢
  simp only at hb hnum
  subst hnum
  obtain ⟨rfl, rfl⟩ := hb
  have hll : ∀ l ∈ L, l.length ≤ 900000 := fun l hl => Nat.le_trans (by have := read_le s l (by rw [← hr]; exact hl); exact this) hs
  have HLL := Lib.hid hll
  obtain ⟨Fs, B, vR, vV, rv, hp, hA, hlt⟩ := h
  have hro := hp.rows.rown
  have hrl := hp.rows.lines.1
  obtain ⟨A5, k5, hu⟩ := own_form hro
  subst hu
  have hfl := hf.1
  obtain ⟨n5, hn5⟩ : ∃ n5, n5 = rv.length := ⟨_, rfl⟩
  have hn5l : n5 ≤ 1000000 := by omega
  rw [← hn5] at hp hA
  have HN := Lib.hid hn5
  have HP := Lib.hid hp
  have HA := Lib.hid hA
  have HL := Lib.hid hlt
  have HR := Lib.hid hR
  have HF := Lib.hid hf
  have hb1 : ((0 : Int) != 0) = false := rfl
  have hb2 : ((s.length : Int) != (s.length : Int)) = false := by simp
  clear hp hA hlt hro hrl hfl hn5 hR hf hll hr
  have HFB := Lib.hid (show Fit 1000000 { x with R := x.R ++ [((312 : Int), L)] } from ⟨by have := HF.out.1; simp; omega, Nat.le_trans HF.out.2.1 (by omega), fun v hv => Nat.le_trans (HF.out.2.2 v hv) (by omega)⟩)
  go_enter Try.func17, Try.ntmps17
  go_wp2_with (go_at_call 28; go_loud (refine HR.out.mono ?_; rintro ee w1 ⟨v, rfl, hv, hf⟩; obtain ⟨Ar, cr, rfl, -, -⟩ := hv.slice; have hp1 := (HP.out.more hf).no ((Fr.refl No w1).alloc (.cells #[.int .i64 312, .slice Ar L.length cr] 69)); have hl1 := str_keep ((RSl.stable RStr.stable).go hv (Kept.refl _ _) (fun k hk => (Or.inr hk : B k ∨ New w w1 k))) ((Fr.refl No w1).alloc (.cells #[.int .i64 312, .slice Ar L.length cr] 69)) (fun k hk => ((HP.out.more hf).rows.hB k hk).1); obtain ⟨c0, c1, c2, c3, fz, hg⟩ := hp1.sat.cells; have f0 := fz 0; have c0a := fun o => (hp1.no ((Fr.refl No _).alloc o)).sat.cells.1; have HRO := Lib.hid (show World.ownsRow _ 0 69 2 (.slice A5 n5 k5) n5 (rv.flatMap encR) from (by have hq := hp1.rows.rown; rw [← HN.out] at hq; exact hq)); have HP1 := Lib.hid hp1; have HL1 := Lib.hid hl1; have HF1 := Lib.hid hf; have HL0 := Lib.hid hv; clear hp1 hl1 hv hf fz))
  go_region_law (go_loud (refine step_pushD rfl (.tmp 30) (.tmp 32) 28 rfl 69 (.agg #[.int .i64 0, .slice none 0 0]) 2 32 Try.underlying28 infoR rfl (by decide) (.slice A5 n5 k5) n5 _ (by simp [Act.eval, Act.put]) HRO.out #[.int .i64 312, .slice Ar L.length cr] (by simp [Act.eval, Act.put]) rfl (by intro u hu; simp at hu; rcases hu with rfl | rfl <;> rfl) (by omega) (by unfold maxLen; omega) ?_; intro g4 cap4 w4 p1 p2 p3; have s4 := HP1.out.sat.fr p2 (fun k hk hv => HP1.out.hR k hv hk); have q0 := s4.cells.1; have q1 := s4.cells.2.2.2.2.1 0; have q2 := s4.cells.2.2.1; have q3 := s4.cells.2.2.2.1; have r2 := s4.cells.2.2.2.2.1 2; have r3 := s4.cells.2.2.2.2.1 3; have G := Lib.hid (got_reply HP.out HA.out HL.out HN.out HL0.out HF1.out p1 p2 p3); have b0 := G.out.blk.cell 0; have b1 := G.out.blk.cell 1; simp only [List.getElem?_toArray, List.getElem?_cons_zero, List.getElem?_cons_succ] at b0 b1; clear s4 p1 p2 p3))
  all_goals
    go_wp2_with (first
      | (go_at_call 30; refine (last_any 312 _ L _ _ (fun k hk => (G.out.rp.rows.hB k hk).1) G.out.ls HLL.out).mono ?_; rintro e2 w6 ⟨rfl, f6⟩; have F6 := Lib.hid f6; clear f6)
      | (go_at_call 29; refine (be_any 3 (lastR (312, L)) _ _ g p op _ (G.out.ra.no F6.out) HFB.out).mono ?_; rintro e3 w7 ⟨rfl, A7, h7, s7⟩; have H7 := Lib.hid h7; have S7 := Lib.hid s7; clear h7 s7))
    go_end0
    exact ⟨rfl, A7, by exact H7.out, (G.out.st.trans (Step.no F6.out)).trans S7.out⟩

set_option maxRecDepth 100000 in
set_option maxHeartbeats 2000000 in
theorem replyx_any (s : Str) (w : World) (A : Nat → Prop) (g p : Nat) (op : Str) (x : X) (h : RA w A g x p op) (hs : s.length ≤ 900000) (hf : Fit 900000 x) (hb : (readA s).2.2 = 0 ∧ (readA s).2.1 = s.length) (hnum : (readA s).1.1 ≠ 310 ∧ (readA s).1.1 ≠ 311 ∧ (readA s).1.1 ≠ 312 ∧ (readA s).1.1 ≠ 313 ∧ (readA s).1.1 ≠ 460) :
    Calls Try.prog 17 #[.pointer (some ⟨g, 0, none⟩), .string ⟨s.toArray⟩] w (RAct w A g (replyR x s) p op) := by
  rw [reply_ok hb]
  have hR := read_any s w hs
  obtain ⟨⟨⟨num, L⟩, n, e⟩, hr⟩ : ∃ r, r = readA s := ⟨_, rfl⟩
  rw [← hr] at hR hb hnum ⊢
  simp only at hb hnum
  obtain ⟨rfl, rfl⟩ := hb
  have hll : ∀ l ∈ L, l.length ≤ 900000 := fun l hl => Nat.le_trans (by have := read_le s l (by rw [← hr]; exact hl); exact this) hs
  have HLL := Lib.hid hll
  obtain ⟨Fs, B, vR, vV, rv, hp, hA, hlt⟩ := h
  have hro := hp.rows.rown
  have hrl := hp.rows.lines.1
  obtain ⟨A5, k5, hu⟩ := own_form hro
  subst hu
  have hfl := hf.1
  obtain ⟨n5, hn5⟩ : ∃ n5, n5 = rv.length := ⟨_, rfl⟩
  have hn5l : n5 ≤ 1000000 := by omega
  rw [← hn5] at hp hA
  have HN := Lib.hid hn5
  have HP := Lib.hid hp
  have HA := Lib.hid hA
  have HL := Lib.hid hlt
  have HR := Lib.hid hR
  have HF := Lib.hid hf
  have hb1 : ((0 : Int) != 0) = false := rfl
  have hb2 : ((s.length : Int) != (s.length : Int)) = false := by simp
  clear hp hA hlt hro hrl hfl hn5 hR hf hll hr
  obtain ⟨n1, n2, n3, n4, n6⟩ := hnum
  have d1 : ((num : Int) == 310) = false := by simpa using n1
  have d2 : ((num : Int) == 311) = false := by simpa using n2
  have d3 : ((num : Int) == 312) = false := by simpa using n3
  have d4 : ((num : Int) == 313) = false := by simpa using n4
  have d6 : ((num : Int) == 460) = false := by simpa using n6
  have HAC := Lib.hid (show actR { x with R := x.R ++ [(num, L)] } (num, L) = { x with R := x.R ++ [(num, L)] } from by unfold actR; simp only [n1, n2, n3, n4, n6, if_false])
  go_enter Try.func17, Try.ntmps17
  go_wp2_with (go_at_call 28; go_loud (refine HR.out.mono ?_; rintro ee w1 ⟨v, rfl, hv, hf⟩; obtain ⟨Ar, cr, rfl, -, -⟩ := hv.slice; have hp1 := (HP.out.more hf).no ((Fr.refl No w1).alloc (.cells #[.int .i64 num, .slice Ar L.length cr] 69)); have hl1 := str_keep ((RSl.stable RStr.stable).go hv (Kept.refl _ _) (fun k hk => (Or.inr hk : B k ∨ New w w1 k))) ((Fr.refl No w1).alloc (.cells #[.int .i64 num, .slice Ar L.length cr] 69)) (fun k hk => ((HP.out.more hf).rows.hB k hk).1); obtain ⟨c0, c1, c2, c3, fz, hg⟩ := hp1.sat.cells; have f0 := fz 0; have c0a := fun o => (hp1.no ((Fr.refl No _).alloc o)).sat.cells.1; have HRO := Lib.hid (show World.ownsRow _ 0 69 2 (.slice A5 n5 k5) n5 (rv.flatMap encR) from (by have hq := hp1.rows.rown; rw [← HN.out] at hq; exact hq)); have HP1 := Lib.hid hp1; have HL1 := Lib.hid hl1; have HF1 := Lib.hid hf; have HL0 := Lib.hid hv; clear hp1 hl1 hv hf fz))
  go_region_law (go_loud (refine step_pushD rfl (.tmp 30) (.tmp 32) 28 rfl 69 (.agg #[.int .i64 0, .slice none 0 0]) 2 32 Try.underlying28 infoR rfl (by decide) (.slice A5 n5 k5) n5 _ (by simp [Act.eval, Act.put]) HRO.out #[.int .i64 num, .slice Ar L.length cr] (by simp [Act.eval, Act.put]) rfl (by intro u hu; simp at hu; rcases hu with rfl | rfl <;> rfl) (by omega) (by unfold maxLen; omega) ?_; intro g4 cap4 w4 p1 p2 p3; have s4 := HP1.out.sat.fr p2 (fun k hk hv => HP1.out.hR k hv hk); have q0 := s4.cells.1; have q1 := s4.cells.2.2.2.2.1 0; have q2 := s4.cells.2.2.1; have q3 := s4.cells.2.2.2.1; have r2 := s4.cells.2.2.2.2.1 2; have r3 := s4.cells.2.2.2.2.1 3; have G := Lib.hid (got_reply HP.out HA.out HL.out HN.out HL0.out HF1.out p1 p2 p3); have b0 := G.out.blk.cell 0; have b1 := G.out.blk.cell 1; simp only [List.getElem?_toArray, List.getElem?_cons_zero, List.getElem?_cons_succ] at b0 b1; clear s4 p1 p2 p3))
  all_goals
    go_wp2
    go_end0
    exact ⟨rfl, _, by rw [HAC.out]; exact G.out.ra, G.out.st⟩
end Rd
end Go.Proofs.Ytmmdiccpifepfaa
