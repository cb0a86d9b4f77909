/- Reader: reply, where somebody leaves or falls behind. Printed by gen_rde.py. -/
import Derived.Test.YtmmdiccpifepfaaRdD
import Derived.Test.YtmmdiccpifepfaaStill
import Derived.Test.YtmmdiccpifepfaaCalm
namespace Go.Proofs.Ytmmdiccpifepfaa
open Go.RowKit
set_option linter.unusedVariables false
set_option linter.unusedSimpArgs false
namespace Rd
open Ans Digit Sls Word
theorem leave_same {x : X} {U : List Vw} {n t : Str} (h : x.V = U ++ [(n, t, true)]) : leaveR x n = { x with V := U ++ [(n, t, false)], role := 0 } := by unfold leaveR; rw [h, opn_snoc]; simp [setV, h]
theorem leave_other {x : X} {n t name : Str} (h : opn x.V = some (n, t)) (hn : n ≠ name) : leaveR x name = badR x := by unfold leaveR; rw [h]; simp [hn]
theorem leave_none {x : X} {name : Str} (h : opn x.V = none) : leaveR x name = badR x := by unfold leaveR; rw [h]
theorem drop_some {x : X} {U : List Vw} {n t : Str} (h : x.V = U ++ [(n, t, true)]) : dropR x = { x with V := U ++ [(n, t, false)], role := 0 } := by unfold dropR; rw [h, opn_snoc]; simp [setV, h]
theorem drop_none {x : X} (h : opn x.V = none) : dropR x = { x with role := 0 } := by unfold dropR; rw [h]
/-- The last view's cells. -/
theorem RP.at_ {w : World} {Fs B : Nat → Prop} {g p gV m c : Nat} {vR : Value} {rv : List (Int × Value)} {x : X} {op n t : Str} {U : List Vw} (h : RP w Fs B g vR (.slice (some ⟨gV, 0, none⟩) (m + 1) c) rv x p op) (hx : x.V = U ++ [(n, t, true)]) (hm : m = U.length) :
    w.cell? ⟨gV, m * 3, none⟩ = some (.string ⟨n.toArray⟩) ∧ (∀ i, w.frozen? ⟨gV, i, none⟩ = false) ∧ gV ≠ g ∧ gV < w.heap.size := by
  obtain ⟨U', gV', m', c', hU', hm', he, d0, d1, d2, fz, hne, hlt⟩ := h.open_ (by rw [hx, opn_snoc])
  injection he with e1 e2 e3
  injection e1 with e1
  injection e1 with e1
  subst e1
  obtain rfl : m = m' := by omega
  exact ⟨d0, fz, hne, hlt⟩
theorem RP.open3 {w : World} {Fs B : Nat → Prop} {g p gV m c : Nat} {vR : Value} {rv : List (Int × Value)} {x : X} {op n t : Str} {U : List Vw} (h : RP w Fs B g vR (.slice (some ⟨gV, 0, none⟩) (m + 1) c) rv x p op) (hx : x.V = U ++ [(n, t, true)]) (hm : m = U.length) :
    w.cell? ⟨gV, m * 3 + 2, none⟩ = some (.bool true) := by
  obtain ⟨U', gV', m', c', hU', hm', he, d0, d1, d2, fz, hne, hlt⟩ := h.open_ (by rw [hx, opn_snoc])
  injection he with e1 e2 e3
  injection e1 with e1
  injection e1 with e1
  subst e1
  obtain rfl : m = m' := by omega
  exact d2
/-- The last view is shut, and nobody is anything. -/
theorem RP.shut {w : World} {Fs B A : Nat → Prop} {g p gV m c : Nat} {vR : Value} {rv : List (Int × Value)} {x : X} {op n t : Str} {U : List Vw} (h : RP w Fs B g vR (.slice (some ⟨gV, 0, none⟩) (m + 1) c) rv x p op) (hA : ∀ k, Fs k ∨ B k ∨ Of vR k ∨ Of (.slice (some ⟨gV, 0, none⟩) (m + 1) c) k → A k) (hx : x.V = U ++ [(n, t, true)]) (hm : m = U.length) :
    RP ((w.setCell ⟨gV, m * 3 + 2, none⟩ (.bool false)).setCell ⟨g, 2, none⟩ (.int .i64 0)) Fs B g vR (.slice (some ⟨gV, 0, none⟩) (m + 1) c) rv { x with V := U ++ [(n, t, false)], role := 0 } p op ∧ Step A w A ((w.setCell ⟨gV, m * 3 + 2, none⟩ (.bool false)).setCell ⟨g, 2, none⟩ (.int .i64 0)) := by
  have h1 := h.setv hx hm 2 (by omega) (.bool false) (set_v2 U (n, t, true) false)
  exact ⟨h1.role 0, (h.vstep hA (m * 3 + 2) (.bool false)).trans (h1.step hA 2 (.int .i64 0))⟩

set_option maxRecDepth 100000 in
set_option maxHeartbeats 2000000 in
theorem reply313n_any (s : Str) (w : World) (A : Nat → Prop) (g p : Nat) (op : Str) (x : X) (h : RA w A g x p op) (hs : s.length ≤ 900000) (hf : Fit 900000 x) (hb : (readA s).2.2 = 0 ∧ (readA s).2.1 = s.length) (hnum : (readA s).1.1 = 313) (ho : opn x.V = none) :
    Calls Try.prog 17 #[.pointer (some ⟨g, 0, none⟩), .string ⟨s.toArray⟩] w (RAct w A g (replyR x s) p op) := by
  rw [reply_ok hb]
  have hR := read_any s w hs
  obtain ⟨⟨⟨num, L⟩, n, e⟩, hr⟩ : ∃ r, r = readA s := ⟨_, rfl⟩
  rw [← hr] at hR hb hnum ⊢
  simp only at hb hnum
  subst hnum
  obtain ⟨rfl, rfl⟩ := hb
  have hll : ∀ l ∈ L, l.length ≤ 900000 := fun l hl => Nat.le_trans (by have := read_le s l (by rw [← hr]; exact hl); exact this) hs
  have HLL := Lib.hid hll
  obtain ⟨Fs, B, vR, vV, rv, hp, hA, hlt⟩ := h
  have hro := hp.rows.rown
  have hrl := hp.rows.lines.1
  obtain ⟨A5, k5, hu⟩ := own_form hro
  subst hu
  have hfl := hf.1
  obtain ⟨n5, hn5⟩ : ∃ n5, n5 = rv.length := ⟨_, rfl⟩
  have hn5l : n5 ≤ 1000000 := by omega
  rw [← hn5] at hp hA
  have HN := Lib.hid hn5
  have HP := Lib.hid hp
  have HA := Lib.hid hA
  have HL := Lib.hid hlt
  have HR := Lib.hid hR
  have HF := Lib.hid hf
  have hb1 : ((0 : Int) != 0) = false := rfl
  have hb2 : ((s.length : Int) != (s.length : Int)) = false := by simp
  clear hp hA hlt hro hrl hfl hn5 hR hf hll hr
  have HE := Lib.hid (leave_none (x := { x with R := x.R ++ [((313 : Int), L)] }) (name := lastR (313, L)) ho)
  have HO := Lib.hid ho
  clear ho
  go_enter Try.func17, Try.ntmps17
  go_wp2_with (go_at_call 28; go_loud (refine HR.out.mono ?_; rintro ee w1 ⟨v, rfl, hv, hf⟩; obtain ⟨Ar, cr, rfl, -, -⟩ := hv.slice; have hp1 := (HP.out.more hf).no ((Fr.refl No w1).alloc (.cells #[.int .i64 313, .slice Ar L.length cr] 69)); have hl1 := str_keep ((RSl.stable RStr.stable).go hv (Kept.refl _ _) (fun k hk => (Or.inr hk : B k ∨ New w w1 k))) ((Fr.refl No w1).alloc (.cells #[.int .i64 313, .slice Ar L.length cr] 69)) (fun k hk => ((HP.out.more hf).rows.hB k hk).1); obtain ⟨c0, c1, c2, c3, fz, hg⟩ := hp1.sat.cells; have f0 := fz 0; have c0a := fun o => (hp1.no ((Fr.refl No _).alloc o)).sat.cells.1; have HRO := Lib.hid (show World.ownsRow _ 0 69 2 (.slice A5 n5 k5) n5 (rv.flatMap encR) from (by have hq := hp1.rows.rown; rw [← HN.out] at hq; exact hq)); have HP1 := Lib.hid hp1; have HL1 := Lib.hid hl1; have HF1 := Lib.hid hf; have HL0 := Lib.hid hv; clear hp1 hl1 hv hf fz))
  go_region_law (go_loud (refine step_pushD rfl (.tmp 30) (.tmp 32) 28 rfl 69 (.agg #[.int .i64 0, .slice none 0 0]) 2 32 Try.underlying28 infoR rfl (by decide) (.slice A5 n5 k5) n5 _ (by simp [Act.eval, Act.put]) HRO.out #[.int .i64 313, .slice Ar L.length cr] (by simp [Act.eval, Act.put]) rfl (by intro u hu; simp at hu; rcases hu with rfl | rfl <;> rfl) (by omega) (by unfold maxLen; omega) ?_; intro g4 cap4 w4 p1 p2 p3; have s4 := HP1.out.sat.fr p2 (fun k hk hv => HP1.out.hR k hv hk); have q0 := s4.cells.1; have q1 := s4.cells.2.2.2.2.1 0; have q2 := s4.cells.2.2.1; have q3 := s4.cells.2.2.2.1; have r2 := s4.cells.2.2.2.2.1 2; have r3 := s4.cells.2.2.2.2.1 3; have G := Lib.hid (got_reply HP.out HA.out HL.out HN.out HL0.out HF1.out p1 p2 p3); have b0 := G.out.blk.cell 0; have b1 := G.out.blk.cell 1; simp only [List.getElem?_toArray, List.getElem?_cons_zero, List.getElem?_cons_succ] at b0 b1; clear s4 p1 p2 p3))
  all_goals
    go_wp2_with (go_at_call 31; refine (here_none G.out.rp HO.out).mono ?_; rintro e2 w6 ⟨rfl, rfl⟩)
    go_quiet (fail)
    have rp := G.out.rp.no ((Fr.refl No _).drewN nq)
    have HP := Lib.hid rp.bad
    have HS := Lib.hid (rp.step G.out.hA 3 (.bool true))
    clear rp
    go_wp2
    go_end0
    exact ⟨rfl, _, ⟨Fs, _, _, vV, _, by rw [show actR { x with R := x.R ++ [((313 : Int), L)] } (313, L) = badR { x with R := x.R ++ [((313 : Int), L)] } from HE.out]; exact HP.out, G.out.hA, fun k hk => Nat.lt_of_lt_of_le (G.out.lt k hk) HS.out.1.size⟩, G.out.st.trans ((Step.no ((Fr.refl No _).drewN nq)).trans HS.out)⟩

set_option maxRecDepth 100000 in
set_option maxHeartbeats 2000000 in
theorem reply313o_any (s : Str) (w : World) (A : Nat → Prop) (g p : Nat) (op : Str) (x : X) (h : RA w A g x p op) (hs : s.length ≤ 900000) (hf : Fit 900000 x) (hb : (readA s).2.2 = 0 ∧ (readA s).2.1 = s.length) (hnum : (readA s).1.1 = 313) (n9 t9 : Str) (ho : opn x.V = some (n9, t9)) (hn : n9 ≠ lastR (readA s).1) :
    Calls Try.prog 17 #[.pointer (some ⟨g, 0, none⟩), .string ⟨s.toArray⟩] w (RAct w A g (replyR x s) p op) := by
  rw [reply_ok hb]
  have hR := read_any s w hs
  obtain ⟨⟨⟨num, L⟩, n, e⟩, hr⟩ : ∃ r, r = readA s := ⟨_, rfl⟩
  rw [← hr] at hR hb hnum hn ⊢
  simp only at hb hnum hn
  subst hnum
  obtain ⟨rfl, rfl⟩ := hb
  have hll : ∀ l ∈ L, l.length ≤ 900000 := fun l hl => Nat.le_trans (by have := read_le s l (by rw [← hr]; exact hl); exact this) hs
  have HLL := Lib.hid hll
  obtain ⟨Fs, B, vR, vV, rv, hp, hA, hlt⟩ := h
  have hro := hp.rows.rown
  have hrl := hp.rows.lines.1
  obtain ⟨A5, k5, hu⟩ := own_form hro
  subst hu
  have hfl := hf.1
  obtain ⟨n5, hn5⟩ : ∃ n5, n5 = rv.length := ⟨_, rfl⟩
  have hn5l : n5 ≤ 1000000 := by omega
  rw [← hn5] at hp hA
  have HN := Lib.hid hn5
  have HP := Lib.hid hp
  have HA := Lib.hid hA
  have HL := Lib.hid hlt
  have HR := Lib.hid hR
  have HF := Lib.hid hf
  have hb1 : ((0 : Int) != 0) = false := rfl
  have hb2 : ((s.length : Int) != (s.length : Int)) = false := by simp
  clear hp hA hlt hro hrl hfl hn5 hR hf hll hr
  obtain ⟨U, gV, m, c, hU, hm, rfl, -⟩ := HP.out.open_ ho
  have HU := Lib.hid (show ({ x with R := x.R ++ [((313 : Int), L)] } : X).V = U ++ [(n9, t9, true)] from hU)
  have HM := Lib.hid hm
  have hVm := HF.out.2.1
  rw [hU] at hVm
  simp only [List.length_append, List.length_singleton] at hVm
  rw [← hm] at hVm
  have HE := Lib.hid (leave_other (x := { x with R := x.R ++ [((313 : Int), L)] }) (name := lastR (313, L)) ho hn)
  have hs1 : (n9 == lastR (313, L)) = false := str_f hn
  have hs2 : (n9 != lastR (313, L)) = true := by rw [bne, hs1]; rfl
  clear ho hU hm hn
  go_enter Try.func17, Try.ntmps17
  go_wp2_with (go_at_call 28; go_loud (refine HR.out.mono ?_; rintro ee w1 ⟨v, rfl, hv, hf⟩; obtain ⟨Ar, cr, rfl, -, -⟩ := hv.slice; have hp1 := (HP.out.more hf).no ((Fr.refl No w1).alloc (.cells #[.int .i64 313, .slice Ar L.length cr] 69)); have hl1 := str_keep ((RSl.stable RStr.stable).go hv (Kept.refl _ _) (fun k hk => (Or.inr hk : B k ∨ New w w1 k))) ((Fr.refl No w1).alloc (.cells #[.int .i64 313, .slice Ar L.length cr] 69)) (fun k hk => ((HP.out.more hf).rows.hB k hk).1); obtain ⟨c0, c1, c2, c3, fz, hg⟩ := hp1.sat.cells; have f0 := fz 0; have c0a := fun o => (hp1.no ((Fr.refl No _).alloc o)).sat.cells.1; have HRO := Lib.hid (show World.ownsRow _ 0 69 2 (.slice A5 n5 k5) n5 (rv.flatMap encR) from (by have hq := hp1.rows.rown; rw [← HN.out] at hq; exact hq)); have HP1 := Lib.hid hp1; have HL1 := Lib.hid hl1; have HF1 := Lib.hid hf; have HL0 := Lib.hid hv; clear hp1 hl1 hv hf fz))
  go_region_law (go_loud (refine step_pushD rfl (.tmp 30) (.tmp 32) 28 rfl 69 (.agg #[.int .i64 0, .slice none 0 0]) 2 32 Try.underlying28 infoR rfl (by decide) (.slice A5 n5 k5) n5 _ (by simp [Act.eval, Act.put]) HRO.out #[.int .i64 313, .slice Ar L.length cr] (by simp [Act.eval, Act.put]) rfl (by intro u hu; simp at hu; rcases hu with rfl | rfl <;> rfl) (by omega) (by unfold maxLen; omega) ?_; intro g4 cap4 w4 p1 p2 p3; have s4 := HP1.out.sat.fr p2 (fun k hk hv => HP1.out.hR k hv hk); have q0 := s4.cells.1; have q1 := s4.cells.2.2.2.2.1 0; have q2 := s4.cells.2.2.1; have q3 := s4.cells.2.2.2.1; have r2 := s4.cells.2.2.2.2.1 2; have r3 := s4.cells.2.2.2.2.1 3; have G := Lib.hid (got_reply HP.out HA.out HL.out HN.out HL0.out HF1.out p1 p2 p3); have b0 := G.out.blk.cell 0; have b1 := G.out.blk.cell 1; simp only [List.getElem?_toArray, List.getElem?_cons_zero, List.getElem?_cons_succ] at b0 b1; clear s4 p1 p2 p3))
  all_goals
    go_wp2_with (go_at_call 31; refine (here_some G.out.rp HU.out HM.out).mono ?_; rintro e2 w6 ⟨rfl, rfl⟩)
    have HK := Lib.hid (show ∀ X, Fr No (w4.setCell ⟨g, 0, none⟩ (.slice (some ⟨g4, 0, none⟩) (n5 + 1) cap4)) X → X.cell? ⟨gV, m * 3, none⟩ = some (.string ⟨n9.toArray⟩) ∧ X.cell? ⟨w1.heap.size, 0, none⟩ = some (.int .i64 313) ∧ X.cell? ⟨w1.heap.size, 1, none⟩ = some (.slice Ar L.length cr) from fun X hX => ⟨((G.out.rp.no hX).at_ HU.out HM.out).1, (G.out.blk.fr hX (fun h => h)).cell 0, (G.out.blk.fr hX (fun h => h)).cell 1⟩)
    have HLA := Lib.hid (fun X (hX : Fr No (w4.setCell ⟨g, 0, none⟩ (.slice (some ⟨g4, 0, none⟩) (n5 + 1) cap4)) X) => (last_any 313 (.slice Ar L.length cr) L X _ (fun k hk => Nat.lt_of_lt_of_le (G.out.rp.rows.hB k hk).1 hX.size) (str_keep G.out.ls hX (fun k hk => (G.out.rp.rows.hB k hk).1)) HLL.out).mono fun e' w' hh => And.intro hh.1 (hX.then_no hh.2))
    go_region_held3 (fun X => X.cell? ⟨gV, m * 3, none⟩ = some (.string ⟨n9.toArray⟩) ∧ X.cell? ⟨w1.heap.size, 0, none⟩ = some (.int .i64 313) ∧ X.cell? ⟨w1.heap.size, 1, none⟩ = some (.slice Ar L.length cr)) ((refine HK.out _ ?_; (repeat' (first | with_reducible assumption | with_reducible exact Fr.refl _ _ | with_reducible refine Fr.drew ?_ | with_reducible refine Fr.drewN ?_ _ | with_reducible refine Fr.alloc ?_ _)))) ((go_at_call 30; refine (HLA.out _ (by (repeat' (first | with_reducible assumption | with_reducible exact Fr.refl _ _ | with_reducible refine Fr.drew ?_ | with_reducible refine Fr.drewN ?_ _ | with_reducible refine Fr.alloc ?_ _)))).mono ?_; rintro e2 w6 ⟨rfl, f6⟩))
    have rp := G.out.rp.no f6
    have y3 := rp.sat.cells.2.2.2.1
    have z3 := rp.sat.cells.2.2.2.2.1 3
    have HP6 := Lib.hid rp.bad
    have HS6 := Lib.hid ((Step.no f6).trans (rp.step G.out.hA 3 (.bool true)))
    clear rp f6
    go_wp2
    go_end0
    exact ⟨rfl, _, ⟨Fs, _, _, _, _, by rw [show actR { x with R := x.R ++ [((313 : Int), L)] } (313, L) = badR { x with R := x.R ++ [((313 : Int), L)] } from HE.out]; exact HP6.out, G.out.hA, fun k hk => Nat.lt_of_lt_of_le (G.out.lt k hk) HS6.out.1.size⟩, G.out.st.trans HS6.out⟩

set_option maxRecDepth 100000 in
set_option maxHeartbeats 2000000 in
theorem reply313s_any (s : Str) (w : World) (A : Nat → Prop) (g p : Nat) (op : Str) (x : X) (h : RA w A g x p op) (hs : s.length ≤ 900000) (hf : Fit 900000 x) (hb : (readA s).2.2 = 0 ∧ (readA s).2.1 = s.length) (hnum : (readA s).1.1 = 313) (n9 t9 : Str) (ho : opn x.V = some (n9, t9)) (hn : n9 = lastR (readA s).1) :
    Calls Try.prog 17 #[.pointer (some ⟨g, 0, none⟩), .string ⟨s.toArray⟩] w (RAct w A g (replyR x s) p op) := by
  rw [reply_ok hb]
  have hR := read_any s w hs
  obtain ⟨⟨⟨num, L⟩, n, e⟩, hr⟩ : ∃ r, r = readA s := ⟨_, rfl⟩
  rw [← hr] at hR hb hnum hn ⊢
  simp only at hb hnum hn
  subst hnum
  obtain ⟨rfl, rfl⟩ := hb
  have hll : ∀ l ∈ L, l.length ≤ 900000 := fun l hl => Nat.le_trans (by have := read_le s l (by rw [← hr]; exact hl); exact this) hs
  have HLL := Lib.hid hll
  obtain ⟨Fs, B, vR, vV, rv, hp, hA, hlt⟩ := h
  have hro := hp.rows.rown
  have hrl := hp.rows.lines.1
  obtain ⟨A5, k5, hu⟩ := own_form hro
  subst hu
  have hfl := hf.1
  obtain ⟨n5, hn5⟩ : ∃ n5, n5 = rv.length := ⟨_, rfl⟩
  have hn5l : n5 ≤ 1000000 := by omega
  rw [← hn5] at hp hA
  have HN := Lib.hid hn5
  have HP := Lib.hid hp
  have HA := Lib.hid hA
  have HL := Lib.hid hlt
  have HR := Lib.hid hR
  have HF := Lib.hid hf
  have hb1 : ((0 : Int) != 0) = false := rfl
  have hb2 : ((s.length : Int) != (s.length : Int)) = false := by simp
  clear hp hA hlt hro hrl hfl hn5 hR hf hll hr
  obtain ⟨U, gV, m, c, hU, hm, rfl, -⟩ := HP.out.open_ ho
  have HU := Lib.hid (show ({ x with R := x.R ++ [((313 : Int), L)] } : X).V = U ++ [(n9, t9, true)] from hU)
  have HM := Lib.hid hm
  have hVm := HF.out.2.1
  rw [hU] at hVm
  simp only [List.length_append, List.length_singleton] at hVm
  rw [← hm] at hVm
  have HE := Lib.hid (leave_same (x := { x with R := x.R ++ [((313 : Int), L)] }) hU)
  have HNN := Lib.hid hn
  have hs1 : (n9 == lastR (313, L)) = true := by rw [← hn]; exact beq_self_eq_true _
  have hs2 : (n9 != lastR (313, L)) = false := by rw [bne, hs1]; rfl
  clear ho hU hm hn
  go_enter Try.func17, Try.ntmps17
  go_wp2_with (go_at_call 28; go_loud (refine HR.out.mono ?_; rintro ee w1 ⟨v, rfl, hv, hf⟩; obtain ⟨Ar, cr, rfl, -, -⟩ := hv.slice; have hp1 := (HP.out.more hf).no ((Fr.refl No w1).alloc (.cells #[.int .i64 313, .slice Ar L.length cr] 69)); have hl1 := str_keep ((RSl.stable RStr.stable).go hv (Kept.refl _ _) (fun k hk => (Or.inr hk : B k ∨ New w w1 k))) ((Fr.refl No w1).alloc (.cells #[.int .i64 313, .slice Ar L.length cr] 69)) (fun k hk => ((HP.out.more hf).rows.hB k hk).1); obtain ⟨c0, c1, c2, c3, fz, hg⟩ := hp1.sat.cells; have f0 := fz 0; have c0a := fun o => (hp1.no ((Fr.refl No _).alloc o)).sat.cells.1; have HRO := Lib.hid (show World.ownsRow _ 0 69 2 (.slice A5 n5 k5) n5 (rv.flatMap encR) from (by have hq := hp1.rows.rown; rw [← HN.out] at hq; exact hq)); have HP1 := Lib.hid hp1; have HL1 := Lib.hid hl1; have HF1 := Lib.hid hf; have HL0 := Lib.hid hv; clear hp1 hl1 hv hf fz))
  go_region_law (go_loud (refine step_pushD rfl (.tmp 30) (.tmp 32) 28 rfl 69 (.agg #[.int .i64 0, .slice none 0 0]) 2 32 Try.underlying28 infoR rfl (by decide) (.slice A5 n5 k5) n5 _ (by simp [Act.eval, Act.put]) HRO.out #[.int .i64 313, .slice Ar L.length cr] (by simp [Act.eval, Act.put]) rfl (by intro u hu; simp at hu; rcases hu with rfl | rfl <;> rfl) (by omega) (by unfold maxLen; omega) ?_; intro g4 cap4 w4 p1 p2 p3; have s4 := HP1.out.sat.fr p2 (fun k hk hv => HP1.out.hR k hv hk); have q0 := s4.cells.1; have q1 := s4.cells.2.2.2.2.1 0; have q2 := s4.cells.2.2.1; have q3 := s4.cells.2.2.2.1; have r2 := s4.cells.2.2.2.2.1 2; have r3 := s4.cells.2.2.2.2.1 3; have G := Lib.hid (got_reply HP.out HA.out HL.out HN.out HL0.out HF1.out p1 p2 p3); have b0 := G.out.blk.cell 0; have b1 := G.out.blk.cell 1; simp only [List.getElem?_toArray, List.getElem?_cons_zero, List.getElem?_cons_succ] at b0 b1; clear s4 p1 p2 p3))
  all_goals
    go_wp2_with (go_at_call 31; refine (here_some G.out.rp HU.out HM.out).mono ?_; rintro e2 w6 ⟨rfl, rfl⟩)
    have HK := Lib.hid (show ∀ X, Fr No (w4.setCell ⟨g, 0, none⟩ (.slice (some ⟨g4, 0, none⟩) (n5 + 1) cap4)) X → X.cell? ⟨gV, m * 3, none⟩ = some (.string ⟨n9.toArray⟩) ∧ X.cell? ⟨w1.heap.size, 0, none⟩ = some (.int .i64 313) ∧ X.cell? ⟨w1.heap.size, 1, none⟩ = some (.slice Ar L.length cr) from fun X hX => ⟨((G.out.rp.no hX).at_ HU.out HM.out).1, (G.out.blk.fr hX (fun h => h)).cell 0, (G.out.blk.fr hX (fun h => h)).cell 1⟩)
    have HLA := Lib.hid (fun X (hX : Fr No (w4.setCell ⟨g, 0, none⟩ (.slice (some ⟨g4, 0, none⟩) (n5 + 1) cap4)) X) => (last_any 313 (.slice Ar L.length cr) L X _ (fun k hk => Nat.lt_of_lt_of_le (G.out.rp.rows.hB k hk).1 hX.size) (str_keep G.out.ls hX (fun k hk => (G.out.rp.rows.hB k hk).1)) HLL.out).mono fun e' w' hh => And.intro hh.1 (hX.then_no hh.2))
    go_region_held3 (fun X => X.cell? ⟨gV, m * 3, none⟩ = some (.string ⟨n9.toArray⟩) ∧ X.cell? ⟨w1.heap.size, 0, none⟩ = some (.int .i64 313) ∧ X.cell? ⟨w1.heap.size, 1, none⟩ = some (.slice Ar L.length cr)) ((refine HK.out _ ?_; (repeat' (first | with_reducible assumption | with_reducible exact Fr.refl _ _ | with_reducible refine Fr.drew ?_ | with_reducible refine Fr.drewN ?_ _ | with_reducible refine Fr.alloc ?_ _)))) ((go_at_call 30; refine (HLA.out _ (by (repeat' (first | with_reducible assumption | with_reducible exact Fr.refl _ _ | with_reducible refine Fr.drew ?_ | with_reducible refine Fr.drewN ?_ _ | with_reducible refine Fr.alloc ?_ _)))).mono ?_; rintro e2 w6 ⟨rfl, f6⟩))
    have rp := G.out.rp.no f6
    have y2 := rp.sat.cells.2.2.1
    have z2 := rp.sat.cells.2.2.2.2.1 2
    have yV := (show _ = some (Value.bool true) from (rp.open3 HU.out HM.out))
    have zV := (rp.at_ HU.out HM.out).2.1 (m * 3 + 2)
    have nV := (rp.at_ HU.out HM.out).2.2.1
    have nV' : g ≠ gV := fun e => nV e.symm
    have HP6 := Lib.hid (rp.shut G.out.hA HU.out HM.out)
    have HF6 := Lib.hid f6
    clear rp f6
    go_wp2
    go_end0
    exact ⟨rfl, _, ⟨Fs, _, _, _, _, by rw [show actR { x with R := x.R ++ [((313 : Int), L)] } (313, L) = leaveR { x with R := x.R ++ [((313 : Int), L)] } (lastR (313, L)) from rfl, ← HNN.out, HE.out]; exact HP6.out.1, G.out.hA, fun k hk => Nat.lt_of_lt_of_le (G.out.lt k hk) ((Step.no HF6.out).trans HP6.out.2).1.size⟩, G.out.st.trans ((Step.no HF6.out).trans HP6.out.2)⟩

set_option maxRecDepth 100000 in
set_option maxHeartbeats 2000000 in
theorem reply460s_any (s : Str) (w : World) (A : Nat → Prop) (g p : Nat) (op : Str) (x : X) (h : RA w A g x p op) (hs : s.length ≤ 900000) (hf : Fit 900000 x) (hb : (readA s).2.2 = 0 ∧ (readA s).2.1 = s.length) (hnum : (readA s).1.1 = 460) (n9 t9 : Str) (ho : opn x.V = some (n9, t9)) :
    Calls Try.prog 17 #[.pointer (some ⟨g, 0, none⟩), .string ⟨s.toArray⟩] w (RAct w A g (replyR x s) p op) := by
  rw [reply_ok hb]
  have hR := read_any s w hs
  obtain ⟨⟨⟨num, L⟩, n, e⟩, hr⟩ : ∃ r, r = readA s := ⟨_, rfl⟩
  rw [← hr] at hR hb hnum ⊢
  simp only at hb hnum
  subst hnum
  obtain ⟨rfl, rfl⟩ := hb
  have hll : ∀ l ∈ L, l.length ≤ 900000 := fun l hl => Nat.le_trans (by have := read_le s l (by rw [← hr]; exact hl); exact this) hs
  have HLL := Lib.hid hll
  obtain ⟨Fs, B, vR, vV, rv, hp, hA, hlt⟩ := h
  have hro := hp.rows.rown
  have hrl := hp.rows.lines.1
  obtain ⟨A5, k5, hu⟩ := own_form hro
  subst hu
  have hfl := hf.1
  obtain ⟨n5, hn5⟩ : ∃ n5, n5 = rv.length := ⟨_, rfl⟩
  have hn5l : n5 ≤ 1000000 := by omega
  rw [← hn5] at hp hA
  have HN := Lib.hid hn5
  have HP := Lib.hid hp
  have HA := Lib.hid hA
  have HL := Lib.hid hlt
  have HR := Lib.hid hR
  have HF := Lib.hid hf
  have hb1 : ((0 : Int) != 0) = false := rfl
  have hb2 : ((s.length : Int) != (s.length : Int)) = false := by simp
  clear hp hA hlt hro hrl hfl hn5 hR hf hll hr
  obtain ⟨U, gV, m, c, hU, hm, rfl, -⟩ := HP.out.open_ ho
  have HU := Lib.hid (show ({ x with R := x.R ++ [((460 : Int), L)] } : X).V = U ++ [(n9, t9, true)] from hU)
  have HM := Lib.hid hm
  have hVm := HF.out.2.1
  rw [hU] at hVm
  simp only [List.length_append, List.length_singleton] at hVm
  rw [← hm] at hVm
  have HE := Lib.hid (drop_some (x := { x with R := x.R ++ [((460 : Int), L)] }) hU)
  clear ho hU hm
  go_enter Try.func17, Try.ntmps17
  go_wp2_with (go_at_call 28; go_loud (refine HR.out.mono ?_; rintro ee w1 ⟨v, rfl, hv, hf⟩; obtain ⟨Ar, cr, rfl, -, -⟩ := hv.slice; have hp1 := (HP.out.more hf).no ((Fr.refl No w1).alloc (.cells #[.int .i64 460, .slice Ar L.length cr] 69)); have hl1 := str_keep ((RSl.stable RStr.stable).go hv (Kept.refl _ _) (fun k hk => (Or.inr hk : B k ∨ New w w1 k))) ((Fr.refl No w1).alloc (.cells #[.int .i64 460, .slice Ar L.length cr] 69)) (fun k hk => ((HP.out.more hf).rows.hB k hk).1); obtain ⟨c0, c1, c2, c3, fz, hg⟩ := hp1.sat.cells; have f0 := fz 0; have c0a := fun o => (hp1.no ((Fr.refl No _).alloc o)).sat.cells.1; have HRO := Lib.hid (show World.ownsRow _ 0 69 2 (.slice A5 n5 k5) n5 (rv.flatMap encR) from (by have hq := hp1.rows.rown; rw [← HN.out] at hq; exact hq)); have HP1 := Lib.hid hp1; have HL1 := Lib.hid hl1; have HF1 := Lib.hid hf; have HL0 := Lib.hid hv; clear hp1 hl1 hv hf fz))
  go_region_law (go_loud (refine step_pushD rfl (.tmp 30) (.tmp 32) 28 rfl 69 (.agg #[.int .i64 0, .slice none 0 0]) 2 32 Try.underlying28 infoR rfl (by decide) (.slice A5 n5 k5) n5 _ (by simp [Act.eval, Act.put]) HRO.out #[.int .i64 460, .slice Ar L.length cr] (by simp [Act.eval, Act.put]) rfl (by intro u hu; simp at hu; rcases hu with rfl | rfl <;> rfl) (by omega) (by unfold maxLen; omega) ?_; intro g4 cap4 w4 p1 p2 p3; have s4 := HP1.out.sat.fr p2 (fun k hk hv => HP1.out.hR k hv hk); have q0 := s4.cells.1; have q1 := s4.cells.2.2.2.2.1 0; have q2 := s4.cells.2.2.1; have q3 := s4.cells.2.2.2.1; have r2 := s4.cells.2.2.2.2.1 2; have r3 := s4.cells.2.2.2.2.1 3; have G := Lib.hid (got_reply HP.out HA.out HL.out HN.out HL0.out HF1.out p1 p2 p3); have b0 := G.out.blk.cell 0; have b1 := G.out.blk.cell 1; simp only [List.getElem?_toArray, List.getElem?_cons_zero, List.getElem?_cons_succ] at b0 b1; clear s4 p1 p2 p3))
  all_goals
    go_wp2_with (go_at_call 31; refine (here_some G.out.rp HU.out HM.out).mono ?_; rintro e2 w6 ⟨rfl, rfl⟩; have rp := G.out.rp; have y2 := rp.sat.cells.2.2.1; have z2 := rp.sat.cells.2.2.2.2.1 2; have yV := (show _ = some (Value.bool true) from (rp.open3 HU.out HM.out)); have zV := (rp.at_ HU.out HM.out).2.1 (m * 3 + 2); have nV := (rp.at_ HU.out HM.out).2.2.1; have nV' : g ≠ gV := fun e => nV e.symm; have HP6 := Lib.hid (rp.shut G.out.hA HU.out HM.out); clear rp)
    go_end0
    exact ⟨rfl, _, ⟨Fs, _, _, _, _, by rw [show actR { x with R := x.R ++ [((460 : Int), L)] } (460, L) = dropR { x with R := x.R ++ [((460 : Int), L)] } from rfl, HE.out]; exact HP6.out.1, G.out.hA, fun k hk => Nat.lt_of_lt_of_le (G.out.lt k hk) HP6.out.2.1.size⟩, G.out.st.trans HP6.out.2⟩

set_option maxRecDepth 100000 in
set_option maxHeartbeats 2000000 in
theorem reply460n_any (s : Str) (w : World) (A : Nat → Prop) (g p : Nat) (op : Str) (x : X) (h : RA w A g x p op) (hs : s.length ≤ 900000) (hf : Fit 900000 x) (hb : (readA s).2.2 = 0 ∧ (readA s).2.1 = s.length) (hnum : (readA s).1.1 = 460) (ho : opn x.V = none) :
    Calls Try.prog 17 #[.pointer (some ⟨g, 0, none⟩), .string ⟨s.toArray⟩] w (RAct w A g (replyR x s) p op) := by
  rw [reply_ok hb]
  have hR := read_any s w hs
  obtain ⟨⟨⟨num, L⟩, n, e⟩, hr⟩ : ∃ r, r = readA s := ⟨_, rfl⟩
  rw [← hr] at hR hb hnum ⊢
  simp only at hb hnum
  subst hnum
  obtain ⟨rfl, rfl⟩ := hb
  have hll : ∀ l ∈ L, l.length ≤ 900000 := fun l hl => Nat.le_trans (by have := read_le s l (by rw [← hr]; exact hl); exact this) hs
  have HLL := Lib.hid hll
  obtain ⟨Fs, B, vR, vV, rv, hp, hA, hlt⟩ := h
  have hro := hp.rows.rown
  have hrl := hp.rows.lines.1
  obtain ⟨A5, k5, hu⟩ := own_form hro
  subst hu
  have hfl := hf.1
  obtain ⟨n5, hn5⟩ : ∃ n5, n5 = rv.length := ⟨_, rfl⟩
  have hn5l : n5 ≤ 1000000 := by omega
  rw [← hn5] at hp hA
  have HN := Lib.hid hn5
  have HP := Lib.hid hp
  have HA := Lib.hid hA
  have HL := Lib.hid hlt
  have HR := Lib.hid hR
  have HF := Lib.hid hf
  have hb1 : ((0 : Int) != 0) = false := rfl
  have hb2 : ((s.length : Int) != (s.length : Int)) = false := by simp
  clear hp hA hlt hro hrl hfl hn5 hR hf hll hr
  have HE := Lib.hid (drop_none (x := { x with R := x.R ++ [((460 : Int), L)] }) ho)
  have HO := Lib.hid ho
  clear ho
  go_enter Try.func17, Try.ntmps17
  go_wp2_with (go_at_call 28; go_loud (refine HR.out.mono ?_; rintro ee w1 ⟨v, rfl, hv, hf⟩; obtain ⟨Ar, cr, rfl, -, -⟩ := hv.slice; have hp1 := (HP.out.more hf).no ((Fr.refl No w1).alloc (.cells #[.int .i64 460, .slice Ar L.length cr] 69)); have hl1 := str_keep ((RSl.stable RStr.stable).go hv (Kept.refl _ _) (fun k hk => (Or.inr hk : B k ∨ New w w1 k))) ((Fr.refl No w1).alloc (.cells #[.int .i64 460, .slice Ar L.length cr] 69)) (fun k hk => ((HP.out.more hf).rows.hB k hk).1); obtain ⟨c0, c1, c2, c3, fz, hg⟩ := hp1.sat.cells; have f0 := fz 0; have c0a := fun o => (hp1.no ((Fr.refl No _).alloc o)).sat.cells.1; have HRO := Lib.hid (show World.ownsRow _ 0 69 2 (.slice A5 n5 k5) n5 (rv.flatMap encR) from (by have hq := hp1.rows.rown; rw [← HN.out] at hq; exact hq)); have HP1 := Lib.hid hp1; have HL1 := Lib.hid hl1; have HF1 := Lib.hid hf; have HL0 := Lib.hid hv; clear hp1 hl1 hv hf fz))
  go_region_law (go_loud (refine step_pushD rfl (.tmp 30) (.tmp 32) 28 rfl 69 (.agg #[.int .i64 0, .slice none 0 0]) 2 32 Try.underlying28 infoR rfl (by decide) (.slice A5 n5 k5) n5 _ (by simp [Act.eval, Act.put]) HRO.out #[.int .i64 460, .slice Ar L.length cr] (by simp [Act.eval, Act.put]) rfl (by intro u hu; simp at hu; rcases hu with rfl | rfl <;> rfl) (by omega) (by unfold maxLen; omega) ?_; intro g4 cap4 w4 p1 p2 p3; have s4 := HP1.out.sat.fr p2 (fun k hk hv => HP1.out.hR k hv hk); have q0 := s4.cells.1; have q1 := s4.cells.2.2.2.2.1 0; have q2 := s4.cells.2.2.1; have q3 := s4.cells.2.2.2.1; have r2 := s4.cells.2.2.2.2.1 2; have r3 := s4.cells.2.2.2.2.1 3; have G := Lib.hid (got_reply HP.out HA.out HL.out HN.out HL0.out HF1.out p1 p2 p3); have b0 := G.out.blk.cell 0; have b1 := G.out.blk.cell 1; simp only [List.getElem?_toArray, List.getElem?_cons_zero, List.getElem?_cons_succ] at b0 b1; clear s4 p1 p2 p3))
  all_goals
    go_wp2_with (go_at_call 31; refine (here_none G.out.rp HO.out).mono ?_; rintro e2 w6 ⟨rfl, rfl⟩; have rp := G.out.rp; have y2 := rp.sat.cells.2.2.1; have z2 := rp.sat.cells.2.2.2.2.1 2; have HP6 := Lib.hid (rp.role 0); have HS6 := Lib.hid (rp.step G.out.hA 2 (.int .i64 0)); clear rp)
    go_end0
    exact ⟨rfl, _, ⟨Fs, _, _, vV, _, by rw [show actR { x with R := x.R ++ [((460 : Int), L)] } (460, L) = dropR { x with R := x.R ++ [((460 : Int), L)] } from rfl, HE.out]; exact HP6.out, G.out.hA, fun k hk => Nat.lt_of_lt_of_le (G.out.lt k hk) HS6.out.1.size⟩, G.out.st.trans HS6.out⟩

/-- A reply, whatever it says. -/
theorem reply_any (s : Str) (w : World) (A : Nat → Prop) (g p : Nat) (op : Str) (x : X) (h : RA w A g x p op) (hs : s.length ≤ 900000) (hf : Fit 900000 x) :
    Calls Try.prog 17 #[.pointer (some ⟨g, 0, none⟩), .string ⟨s.toArray⟩] w (RAct w A g (replyR x s) p op) := by
  by_cases hb : (readA s).2.2 = 0 ∧ (readA s).2.1 = s.length
  · by_cases h0 : (readA s).1.1 = 310
    · exact reply310_any s w A g p op x h hs hf hb h0
    by_cases h1 : (readA s).1.1 = 311
    · exact reply311_any s w A g p op x h hs hf hb h1
    by_cases h2 : (readA s).1.1 = 312
    · exact reply312_any s w A g p op x h hs hf hb h2
    by_cases h3 : (readA s).1.1 = 313
    · cases ho : opn x.V with
      | none => exact reply313n_any s w A g p op x h hs hf hb h3 ho
      | some q =>
        obtain ⟨n, t⟩ := q
        by_cases hn : n = lastR (readA s).1
        · exact reply313s_any s w A g p op x h hs hf hb h3 n t ho hn
        · exact reply313o_any s w A g p op x h hs hf hb h3 n t ho hn
    by_cases h4 : (readA s).1.1 = 460
    · cases ho : opn x.V with
      | none => exact reply460n_any s w A g p op x h hs hf hb h4 ho
      | some q => exact reply460s_any s w A g p op x h hs hf hb h4 q.1 q.2 ho
    exact replyx_any s w A g p op x h hs hf hb ⟨h0, h1, h2, h3, h4⟩
  · exact replyb_any s w A g p op x h hs hb
end Rd
end Go.Proofs.Ytmmdiccpifepfaa
