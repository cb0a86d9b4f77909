/- Package brk: the reference's Read. Printed by gen_brkr.py. -/
import Derived.Test.YtnfkkonmhinlcaaBrkR
import Derived.Deep.LoopGhost
import Derived.Outline
import Derived.BigQuiet
import Derived.Deep.CutRange
import Derived.Deep.RegionHeld3
import Derived.Test.YtnfkkonmhinlcaaStill
namespace Go.Proofs.Ytnfkkonmhinlcaa
open Go.RowKit
set_option linter.unusedVariables false
set_option linter.unusedSimpArgs false
namespace Brk
open Digit Sls
set_option maxRecDepth 100000 in
set_option maxHeartbeats 8000000 in
theorem rread_any (s : Str) (hl : s.length ≤ 100000) (w : World) : Calls Try.prog 22 #[.string ⟨s.toArray⟩] w (ReadPost (readR s) w) := by
  by_cases h255 : 255 < s.length
  · have HR := Lib.hid (show readR s = ([], 5) by unfold readR; rw [if_pos h255])
    go_enter Try.func22, Try.ntmps22
    go_wp2
    go_ret2
    exact ⟨.slice none 0 0, by rw [HR.out]; rfl, by rw [HR.out]; exact Grow.start _ _ _ _⟩
  · have hl255 : s.length ≤ 255 := by omega
    go_enter Try.func22, Try.ntmps22
    go_wp2_with fail
    go_loopg [0, 4] 255 (fun g sv lv wr => ∃ (t : Str) (acc : List Op) (j : Nat), sv = .string ⟨t.toArray⟩ ∧ t.length ≤ g ∧ g ≤ 255 ∧ j ≤ 255 ∧ Hid (j = acc.length) ∧ Hid (Inv s t acc) ∧ Hid (GrO w wr lv acc))
    case atStart => exact ⟨s, [], 0, rfl, hl255, by omega, by omega, rfl, Inv.start s, Grow.start _ _ _ _⟩
    case round =>
      obtain ⟨t, acc, j, rfl, htg, hg, hj, HJ, HI, HG⟩ := hrel
      by_cases ht : t = []
      · subst ht
        have HR := Lib.hid (HI.out.done hl255)
        go_wp2_with fail
        go_ret2
        exact ⟨_, by rw [HR.out]; rfl, by rw [HR.out]; exact HG.out⟩
      · obtain ⟨A, c, rfl⟩ := HG.out.form
        rw [← HJ.out] at HG ⊢
        have htb : t.isEmpty = false := by simpa using ht
        have HT := Lib.hid ht
        have hjl : j + t.length ≤ s.length := by rw [HJ.out]; exact HI.out.len
        obtain ⟨x, n, hp⟩ : ∃ x n, stepR t = (x, n) := ⟨_, _, rfl⟩
        have Hc := Lib.hid (fun W => rone_any t ht (by omega) W)
        rw [hp] at Hc
        by_cases hn : n = 0
        · subst hn
          have HB := Lib.hid (HI.out.bad hl255 ht (by rw [hp]))
          clear hp ht
          go_wp2_with fail
          refine (Hc.out _).mono ?_
          rintro e w1 ⟨rfl, hf⟩
          have HF := Lib.hid (HG.out.fr.then_no hf)
          clear hf
          unfold vOp
          go_wp2_with fail
          go_ret2
          exact ⟨.slice none 0 0, by rw [HB.out]; rfl, by rw [HB.out]; exact (Grow.start _ _ _ _).no (HF.out.alloc _)⟩
        · have HN := Lib.hid (HI.out.on ht (by rw [hp]; exact hn))
          obtain ⟨hx1, hx2⟩ := step_one t (by rw [hp]; exact hn)
          rw [hp] at hx1 hx2 HN
          have hsl := fun W : World => slice_from (P := Try.prog) W 9 Try.underlying9 t (n : Nat) n rfl hx2
          have htl : (t.drop n).length + n = t.length := by rw [List.length_drop]; simp only at hx2; omega
          obtain ⟨t2, ht2⟩ : ∃ t2, t2 = t.drop n := ⟨_, rfl⟩
          simp only at HN hx1 hx2
          rw [← ht2] at hsl HN htl
          have HX := Lib.hid hx1
          have hnb : ((n : Int) == 0) = false := by simpa using hn
          obtain ⟨x1, x2, x3⟩ := x
          clear hp ht ht2 hx1
          go_wp2_with fail
          refine (Hc.out _).mono ?_
          rintro e w1 ⟨rfl, hf⟩
          have G0 := Lib.hid (HG.out.no hf)
          clear hf
          unfold vOp
          obtain ⟨bx, hbx⟩ : ∃ bx, w1.heap.size = bx := ⟨_, rfl⟩
          have X1 := Blk.new w1 69 #[.int .i64 x1, .string ⟨x2.toArray⟩, .int .i64 x3]
          rw [hbx] at X1
          have X1 := Lib.hid X1
          have G1 := Lib.hid (G0.out.no ((Fr.refl No w1).alloc (.cells #[.int .i64 x1, .string ⟨x2.toArray⟩, .int .i64 x3] 69)))
          go_upto_region 10 with (fail)
          generalize w1.alloc (.cells #[.int .i64 x1, .string ⟨x2.toArray⟩, .int .i64 x3] 69) = w2 at X1 G1 ⊢
          have y0 := X1.out.cell 0
          have y1 := X1.out.cell 1
          have y2 := X1.out.cell 2
          simp only [List.getElem?_toArray, List.getElem?_cons_zero, List.getElem?_cons_succ] at y0 y1 y2
          clear hbx
          rcases snoc_cases acc with rfl | ⟨a, y, rfl⟩
          · obtain rfl : j = 0 := HJ.out
            have G2 := Lib.hid (show w2.ownsRow 0 69 3 (.slice A 0 c) 0 [] from G1.out.own)
            go_quiet (fail)
            obtain ⟨w3, hw3⟩ : ∃ w3, w2.drewN nq = w3 := ⟨_, rfl⟩
            have G3 := Lib.hid (show GrO w w3 (.slice A 0 c) [] from by rw [← hw3]; exact G1.out.no ((Fr.refl No _).drewN nq))
            have G4 := Lib.hid (show w3.ownsRow 0 69 3 (.slice A 0 c) 0 [] from G3.out.own)
            rw [hw3]
            have y0 : w3.cell? ⟨bx, 0, none⟩ = some (.int .i64 x1) := by rw [← hw3]; exact y0
            have y1 : w3.cell? ⟨bx, 1, none⟩ = some (.string ⟨x2.toArray⟩) := by rw [← hw3]; exact y1
            have y2 : w3.cell? ⟨bx, 2, none⟩ = some (.int .i64 x3) := by rw [← hw3]; exact y2
            clear hw3
            go_wp2_with (at_builtin; go_loud (refine wp_push rfl (.tmp 65) (.tmp 67) 33 rfl 69 (.agg #[.int .i64 0, .string ByteArray.empty, .int .i64 0]) 3 32 Try.underlying33 infoO rfl (by decide) (.slice A 0 c) _ _ rfl G4.out #[.int .i64 x1, .string ⟨x2.toArray⟩, .int .i64 x3] rfl rfl (by intro u hu; simp at hu; rcases hu with rfl | rfl | rfl <;> rfl) (by omega) (by unfold maxLen; omega) ?_; intro g4 cap4 w4 p1 p2 p3; have P1 := Lib.hid p1; have P2 := Lib.hid p2; have P3 := Lib.hid p3; clear p1 p2 p3))
            go_roundg t2.length
            case measure => omega
            case rel => exact ⟨t2, [(x1, x2, x3)], 1, by first | rfl | (simp; done), Nat.le_refl _, by omega, by omega, rfl, HN, G3.out.push (x := (x1, x2, x3)) P1.out P2.out P3.out⟩
          · obtain ⟨i, hi⟩ : ∃ i, i = a.length := ⟨_, rfl⟩
            obtain rfl : j = i + 1 := by rw [HJ.out, hi]; simp
            have HJ2 : Hid (i + 1 = (a ++ [y]).length) := HJ
            obtain ⟨ad, hA, had⟩ : ∃ ad, A = some ad ∧ ∃ g, ad = ⟨g, 0, none⟩ := by
              rcases G1.out.own.2 with ⟨_, h0⟩ | ⟨g, cap, _, h1, _⟩
              · rw [← HJ2.out] at h0; omega
              · injection h1 with h1
                exact ⟨_, h1, g, rfl⟩
            subst hA
            obtain ⟨g0, had⟩ := had
            have HAD := Lib.hid had
            have hy : Fine y := HI.out.fine y (by simp)
            have hyb := HI.out.el (x := y) (by simp)
            have hxb := HX.out.bounds
            obtain ⟨y1', y2', y3'⟩ := y
            obtain ⟨o, ho⟩ : ∃ o, o = i * 3 := ⟨_, rfl⟩
            have hAO : ad.add (i * 3) = ⟨g0, o, none⟩ := by rw [had, Addr.add_lit, Nat.zero_add, ho]
            obtain ⟨z0, z1, z2⟩ : w2.cell? ⟨g0, o, none⟩ = some (.int .i64 y1') ∧ w2.cell? ⟨g0, o + 1, none⟩ = some (.string ⟨y2'.toArray⟩) ∧ w2.cell? ⟨g0, o + 2, none⟩ = some (.int .i64 y3') := by
              have hG := G1.out
              subst had
              have := GrO.at hG HJ2.out (k := i) (by simp [hi])
              rw [ho]
              simpa [hi] using this
            have HO := Lib.hid ho
            clear ho
            have HI2 := Lib.hid hi
            simp only at hyb hxb
            clear had hy hi
            by_cases hjn : y1' = x1 ∧ x1 < 3
            · have HPU := Lib.hid (push_join (l := a) (y := (y1', y2', y3')) (x := (x1, x2, x3)) hjn.1 hjn.2)
              obtain ⟨hj1, hj3⟩ := hjn
              have hj1b : (y1' == x1) = true := beq_iff_eq.2 hj1
              have HJ1 := Lib.hid hj1
              clear hj1
              go_quiet (fail)
              obtain ⟨w3, hw3⟩ : ∃ w3, w2.drewN nq = w3 := ⟨_, rfl⟩
              have G3 := Lib.hid (show GrO w w3 (.slice (some ad) (i + 1) c) (a ++ [(y1', y2', y3')]) from by rw [← hw3]; exact G1.out.no ((Fr.refl No _).drewN nq))
              rw [hw3]
              have y0 : w3.cell? ⟨bx, 0, none⟩ = some (.int .i64 x1) := by rw [← hw3]; exact y0
              have y1 : w3.cell? ⟨bx, 1, none⟩ = some (.string ⟨x2.toArray⟩) := by rw [← hw3]; exact y1
              have y2 : w3.cell? ⟨bx, 2, none⟩ = some (.int .i64 x3) := by rw [← hw3]; exact y2
              have z0 : w3.cell? ⟨g0, o, none⟩ = some (.int .i64 y1') := by rw [← hw3]; exact z0
              have z1 : w3.cell? ⟨g0, o + 1, none⟩ = some (.string ⟨y2'.toArray⟩) := by rw [← hw3]; exact z1
              have z2 : w3.cell? ⟨g0, o + 2, none⟩ = some (.int .i64 y3') := by rw [← hw3]; exact z2
              clear hw3
              go_upto_region 11 with (fail)
              refine wp_region_still_tail 22 (by kernel_rfl) (by kernel_rfl) ?_
              simp only [List.take_succ_cons, List.take_zero, List.drop_succ_cons, List.drop_zero]
              change wpStill _ _ w3.drew (fun a' => wpList _ _ _ _ a' w3.drew) _ _
              obtain ⟨w5, hw5⟩ : ∃ w5, w3.drew = w5 := ⟨_, rfl⟩
              have G5 := Lib.hid (show GrO w w5 (.slice (some ad) (i + 1) c) (a ++ [(y1', y2', y3')]) from by rw [← hw5]; exact G3.out.no ((Fr.refl No _).drew))
              rw [hw5]
              have y0 : w5.cell? ⟨bx, 0, none⟩ = some (.int .i64 x1) := by rw [← hw5]; exact y0
              have y1 : w5.cell? ⟨bx, 1, none⟩ = some (.string ⟨x2.toArray⟩) := by rw [← hw5]; exact y1
              have y2 : w5.cell? ⟨bx, 2, none⟩ = some (.int .i64 x3) := by rw [← hw5]; exact y2
              have z0 : w5.cell? ⟨g0, o, none⟩ = some (.int .i64 y1') := by rw [← hw5]; exact z0
              have z1 : w5.cell? ⟨g0, o + 1, none⟩ = some (.string ⟨y2'.toArray⟩) := by rw [← hw5]; exact z1
              have z2 : w5.cell? ⟨g0, o + 2, none⟩ = some (.int .i64 y3') := by rw [← hw5]; exact z2
              have q0 : w5.frozen? ⟨g0, o, none⟩ = false := by
                have hG := G5.out
                have := HAD.out
                subst this
                exact own_frozen (by have := hG.own; rw [← HJ2.out] at this; exact this) _
              have q1 : w5.frozen? ⟨g0, o + 1, none⟩ = false := by
                have hG := G5.out
                have := HAD.out
                subst this
                exact own_frozen (by have := hG.own; rw [← HJ2.out] at this; exact this) _
              have q2 : w5.frozen? ⟨g0, o + 2, none⟩ = false := by
                have hG := G5.out
                have := HAD.out
                subst this
                exact own_frozen (by have := hG.own; rw [← HJ2.out] at this; exact this) _
              clear hw5 G3 hj1b
              refine wpStill_of_quiet _ _ ?_
              repeat (go_big_quiet_step (fail))
              refine wpQuiet_nil ?_
              go_wp2_with fail
              go_roundg t2.length
              case measure => omega
              case rel => exact ⟨t2, a ++ [joinR (y1', y2', y3') (x1, x2, x3)], i + 1, by first | rfl | (simp; done), Nat.le_refl _, by omega, by omega, (show i + 1 = _ by rw [HJ2.out]; simp), (by have h := HN.out; rw [HPU.out] at h; exact h), (by
                have hG := G5.out
                have := HAD.out
                subst this
                have hii := HI2.out
                have hoo := HO.out
                subst hoo hii
                rw [ba_app, show joinR (y1', y2', y3') (x1, x2, x3) = (x1, y2' ++ x2, y3' + x3) by rw [← HJ1.out]; rfl]
                exact GrO.set (z := (x1, y2' ++ x2, y3' + x3)) hG (by simp))⟩
            · have HPU := Lib.hid (push_on (l := a) (y := (y1', y2', y3')) (x := (x1, x2, x3)) hjn)
              have hgd : decide (x1 < 3) = true ∧ (y1' == x1) = false ∨ decide (x1 < 3) = false := by
                by_cases h3 : x1 < 3
                · exact .inl ⟨decide_eq_true h3, beq_eq_false_iff_ne.2 fun e => hjn ⟨e, h3⟩⟩
                · exact .inr (decide_eq_false h3)
              clear hjn
              rcases hgd with ⟨h3, hne⟩ | h3
              all_goals
                go_quiet (fail)
                obtain ⟨w3, hw3⟩ : ∃ w3, w2.drewN nq = w3 := ⟨_, rfl⟩
                have G3 := Lib.hid (show GrO w w3 (.slice (some ad) (i + 1) c) (a ++ [(y1', y2', y3')]) from by rw [← hw3]; exact G1.out.no ((Fr.refl No _).drewN nq))
                rw [hw3]
                have y0 : w3.cell? ⟨bx, 0, none⟩ = some (.int .i64 x1) := by rw [← hw3]; exact y0
                have y1 : w3.cell? ⟨bx, 1, none⟩ = some (.string ⟨x2.toArray⟩) := by rw [← hw3]; exact y1
                have y2 : w3.cell? ⟨bx, 2, none⟩ = some (.int .i64 x3) := by rw [← hw3]; exact y2
                have z0 : w3.cell? ⟨g0, o, none⟩ = some (.int .i64 y1') := by rw [← hw3]; exact z0
                have z1 : w3.cell? ⟨g0, o + 1, none⟩ = some (.string ⟨y2'.toArray⟩) := by rw [← hw3]; exact z1
                have z2 : w3.cell? ⟨g0, o + 2, none⟩ = some (.int .i64 y3') := by rw [← hw3]; exact z2
                clear hw3
                have G4 := Lib.hid (show w3.ownsRow 0 69 3 (.slice (some ad) (i + 1) c) (i + 1) ((a ++ [(y1', y2', y3')]).flatMap encO) from by have := G3.out.own; rw [← HJ2.out] at this; exact this)
                clear z0 z1 z2
                go_wp2_with (at_builtin; go_loud (refine wp_push rfl (.tmp 65) (.tmp 67) 33 rfl 69 (.agg #[.int .i64 0, .string ByteArray.empty, .int .i64 0]) 3 32 Try.underlying33 infoO rfl (by decide) (.slice (some ad) (i + 1) c) _ _ rfl G4.out #[.int .i64 x1, .string ⟨x2.toArray⟩, .int .i64 x3] rfl rfl (by intro u hu; simp at hu; rcases hu with rfl | rfl | rfl <;> rfl) (by omega) (by unfold maxLen; omega) ?_; intro g4 cap4 w4 p1 p2 p3; have P1 := Lib.hid p1; have P2 := Lib.hid p2; have P3 := Lib.hid p3; clear p1 p2 p3))
                go_roundg t2.length
                case measure => omega
                case rel => exact ⟨t2, a ++ [(y1', y2', y3')] ++ [(x1, x2, x3)], i + 1 + 1, by first | rfl | (simp; done), Nat.le_refl _, by omega, by omega, (show i + 1 + 1 = _ by rw [HJ2.out]; simp), (by have h := HN.out; rw [HPU.out] at h; exact h), (by
                  have e := HJ2.out
                  have g := G3.out
                  have p1 := P1.out
                  have p2 := P2.out
                  have p3 := P3.out
                  rw [e] at g p1 p2 p3 ⊢
                  exact g.push (x := (x1, x2, x3)) p1 p2 p3)⟩
end Brk
end Go.Proofs.Ytnfkkonmhinlcaa
