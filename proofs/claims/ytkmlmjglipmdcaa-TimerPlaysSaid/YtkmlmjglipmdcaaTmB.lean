/- Package timer: its reference: Due and Set. Printed by gen_tmb.py. -/
import Derived.Test.YtkmlmjglipmdcaaTmA
import Derived.Deep.CutBlock
namespace Go.Proofs.Ytkmlmjglipmdcaa
open Go.RowKit
set_option linter.unusedVariables false
set_option linter.unusedSimpArgs false
namespace Tm
open Sls
section
variable {w w' : World} {S : Nat → Prop} {vL : Value} {L : List A2} {most : Int}
def RDue (L : List A2) (most now : Int) (S : Nat → Prop) (w : World) (n : Nat) (e : Ending) (w' : World) : Prop :=
  ∃ vL' A c, e = .returned (.tuple #[agT vL' most, .slice A n c]) ∧ RT w' S vL' (restL L now) ∧ w'.ownsRow 0 3 1 (.slice A n c) n ((ids (dueL L now)).map encI) ∧ (∀ k, Of (.slice A n c) k → New w w' k) ∧ Fr No w w'
theorem Out.grow {w wr w2 : World} {F : Nat → Prop} {v : Value} {l : List Int} {g c n : Nat} {x : Int} (h : Out w wr F v l) (hF : ∀ k, F k → k < wr.heap.size) (hz : w.heap.size ≤ wr.heap.size) (hn : n = l.length) (p1 : w2.ownsRow 0 3 1 (.slice (some ⟨g, 0, none⟩) (n + 1) c) (n + 1) (l.map encI ++ [.int .i64 x])) (p2 : Fr (Of v) wr w2) (p3 : Of v g ∨ New wr w2 g) :
    Out w w2 F (.slice (some ⟨g, 0, none⟩) (n + 1) c) (l ++ [x]) := by
  have hOf : ∀ k, Of (.slice (some ⟨g, 0, none⟩) (n + 1) c) k → k = g := fun k hk => by
    have hk : some g = some k := hk
    injection hk with hk
    exact hk.symm
  subst hn
  refine ⟨by rw [List.length_append, List.map_append]; exact p1, fun k hk => ?_, fun k hk => ?_⟩
  · rw [hOf k hk]
    rcases p3 with g1 | g1
    · exact h.off g g1
    · exact fun g2 => by have := hF g g2; have := g1.1; omega
  · rw [hOf k hk]
    rcases p3 with g1 | g1
    · exact h.new g g1
    · have := g1.1; omega
set_option maxRecDepth 100000 in
set_option maxHeartbeats 4000000 in
theorem rdue_any (h : RT w S vL L) (hln : L.length ≤ 4096) (now : Int) (nd : Nat) (hnd : nd = (ids (dueL L now)).length) : Calls Try.prog 14 #[agT vL most, .int .i64 now] w (RDue L most now S w nd) := by
  obtain ⟨A, c, rfl, hA1, hA2⟩ := h.form
  have X := (Blk.new w 37 #[.slice A L.length c, .int .i64 most]).alloc (.cells #[.slice none 0 0, .int .i64 0] 37)
  have Y := Blk.new (w.alloc (.cells #[.slice A L.length c, .int .i64 most] 37)) 37 #[.slice none 0 0, .int .i64 0]
  have F1 := ((Fr.refl No w).alloc (.cells #[.slice A L.length c, .int .i64 most] 37)).alloc (.cells #[.slice none 0 0, .int .i64 0] 37)
  rw [size_alloc] at Y
  obtain ⟨bx, hbx⟩ : ∃ bx, w.heap.size = bx := ⟨_, rfl⟩
  obtain ⟨br, hbr⟩ : ∃ br, bx + 1 = br := ⟨_, rfl⟩
  rw [hbx] at X Y
  rw [hbr] at Y
  have HBX := Lib.hid (And.intro hbx hbr)
  have H := Lib.hid h
  have HLN := Lib.hid hln
  have HND := Lib.hid hnd
  obtain ⟨n, hn⟩ : ∃ n, n = L.length := ⟨_, rfl⟩
  have HR0 := Lib.hid h.l
  rw [← hn] at X Y F1 hA1 hln HR0
  rw [← hn]
  have HN := Lib.hid hn
  clear h hn hnd
  go_enter Try.func14, Try.ntmps14
  go_upto_region 1 with (fail)
  generalize (w.alloc (.cells #[.slice A n c, .int .i64 most] 37)).alloc (.cells #[.slice none 0 0, .int .i64 0] 37) = w1 at X Y F1 ⊢
  have X1 := Lib.hid X
  have Y1 := Lib.hid Y
  have FF := Lib.hid F1
  clear hbx hbr X Y F1
  go_wp2_with fail
  go_loopw [6] (fun ov wr => ∃ (pre post : List A2) (m d na ca : Nat) (B Aa : Option Addr), ov = .slice B m d ∧ na ≤ ca ∧ ca ≤ 9223372036854775807 ∧ m ≤ 4096 ∧ Hid (na = post.length ∧ m = pre.length) ∧ Hid (L = pre ++ post ∧ (∀ x ∈ pre, x.2 ≤ now)) ∧ Hid (Blk wr bx 37 #[.slice Aa na ca, .int .i64 most] ∧ Blk wr br 37 #[.slice none 0 0, .int .i64 0] ∧ Fr No w wr) ∧ Hid (RSl 2 RA w S [.slice Aa na ca] post) ∧ Hid (Out w wr (fun k => k = bx ∨ k = br) ov (ids pre))) (fun ov _ => 5000 - lenV ov)
  case atStart => exact ⟨[], L, 0, 0, n, c, none, A, rfl, hA1, hA2, by omega, ⟨HN.out, rfl⟩, ⟨rfl, fun x hx => (by cases hx)⟩, ⟨X1.out, Y1.out, FF.out⟩, HR0.out, Out.start _ _ _⟩
  case round =>
    obtain ⟨pre, post, m, d, na, ca, B, Aa, rfl, hna, hca, hm4, HL, HP, HB, HR, HO⟩ := hrel
    clear HR0 X1 Y1 FF hA1 hA2
    have Xo := HB.out.1
    have x0 := Xo.cell 0
    have x1 := Xo.cell 1
    have xf0 := Xo.frozen 0
    have xf1 := Xo.frozen 1
    simp only [List.getElem?_toArray, List.getElem?_cons_zero, List.getElem?_cons_succ] at x0 x1
    have Yo := HB.out.2.1
    have y0 := Yo.cell 0
    have y1 := Yo.cell 1
    have yf0 := Yo.frozen 0
    have yf1 := Yo.frozen 1
    simp only [List.getElem?_toArray, List.getElem?_cons_zero, List.getElem?_cons_succ] at y0 y1
    clear Xo Yo
    obtain ⟨w2, hw2⟩ : ∃ w2, w2 = wr := ⟨_, rfl⟩
    subst hw2
    have hbr := HBX.out
    have hbne1 : bx ≠ br := by omega
    have hbne2 : br ≠ bx := by omega
    -- the end: what stands in the box is the rest
    have END := Lib.hid (fun (h2 : post = [] ∨ ∃ x t, post = x :: t ∧ now < x.2) => (show RDue L most now S w nd (.returned (.tuple #[agT (.slice Aa na ca) most, .slice B m d])) ((w2.setCell ⟨br, 0, none⟩ (.slice Aa na ca)).setCell ⟨br, 1, none⟩ (.int .i64 most)) from by
      have hd := due_split (now := now) HP.out.1 HP.out.2 h2
      have ff : Fr (fun k => k = bx ∨ k = br) w2 ((w2.setCell ⟨br, 0, none⟩ (.slice Aa na ca)).setCell ⟨br, 1, none⟩ (.int .i64 most)) := (((Fr.refl (fun k => k = bx ∨ k = br) w2).setCell (p := ⟨br, 0, none⟩) (.inl (.inr rfl)) _).setCell (p := ⟨br, 1, none⟩) (.inl (.inr rfl)) _)
      have fw : Fr No w ((w2.setCell ⟨br, 0, none⟩ (.slice Aa na ca)).setCell ⟨br, 1, none⟩ (.int .i64 most)) := HB.out.2.2.trans ff (fun k hk hl => by have hk : k = bx ∨ k = br := hk; omega)
      have hmd : nd = m := by rw [HND.out, hd.1, HL.out.2]; unfold ids; rw [List.length_map]
      subst hmd
      have hml : (ids pre).length = nd := by unfold ids; rw [List.length_map]; exact HL.out.2.symm
      have own2 := own_fr HO.out.own ff (fun k hk e => HO.out.off k hk e)
      rw [hml] at own2
      refine ⟨.slice Aa na ca, B, d, rfl, ?_, by rw [hd.1]; exact own2, fun k hk => ⟨HO.out.new k hk, (own2.lt k hk).2⟩, fw⟩
      rw [hd.2]
      exact (RT.no ⟨HR.out, H.out.lt⟩ fw)))
    cases post with
    | nil =>
      have hn0 : na = 0 := HL.out.1
      subst hn0
      have HE := Lib.hid (END.out (.inl rfl))
      clear END
      go_wp2_with fail
      have b9 := ((HB.out.2.1.put 0 (.slice Aa 0 ca)).put 1 (.int .i64 most))
      simp only [List.setIfInBounds_toArray, List.set_cons_zero, List.set_cons_succ] at b9
      have e0 := b9.cell 0
      have e1 := b9.cell 1
      simp only [List.getElem?_toArray, List.getElem?_cons_zero, List.getElem?_cons_succ] at e0 e1
      refine bodyPost_ret (v := .tuple #[.agg #[.slice Aa 0 ca, .int .i64 most], .slice B m d]) ?_ rfl HE.out
      clear b9 HE
      simp [results, Try.f14, go_sem, e0, e1]
    | cons x t =>
      obtain ⟨xi, hxi⟩ : ∃ y, y = x.1 := ⟨_, rfl⟩
      obtain ⟨xt, hxt⟩ : ∃ y, y = x.2 := ⟨_, rfl⟩
      have hna1 : na = t.length + 1 := by have := HL.out.1; rw [List.length_cons] at this; exact this
      obtain ⟨ad, rfl, m0, m1⟩ := ra_at HR.out H.out.lt HB.out.2.2 (i := 0) (by simp)
      simp only [List.getElem_cons_zero] at m0 m1
      rw [← hxi] at m0
      rw [← hxt] at m1
      have m0' := m0
      have m1' := m1
      rw [show ad.add (0 * 2) = ad by rw [Nat.zero_mul]; exact add_zero ad] at m0' m1'
      have hna0 : 0 < na := by omega
      have hnaI : (0 : Int) < (na : Int) := by omega
      have HE2 := Lib.hid (And.intro hxi hxt)
      by_cases hnow : now < x.2
      · have HE := Lib.hid (END.out (.inr ⟨x, t, rfl, hnow⟩))
        rw [← hxt] at hnow
        clear END hxi hxt hna1
        go_wp2_with fail
        have b9 := ((HB.out.2.1.put 0 (.slice (some ad) na ca)).put 1 (.int .i64 most))
        simp only [List.setIfInBounds_toArray, List.set_cons_zero, List.set_cons_succ] at b9
        have e0 := b9.cell 0
        have e1 := b9.cell 1
        simp only [List.getElem?_toArray, List.getElem?_cons_zero, List.getElem?_cons_succ] at e0 e1
        refine bodyPost_ret (v := .tuple #[.agg #[.slice (some ad) na ca, .int .i64 most], .slice B m d]) ?_ rfl HE.out
        clear b9 HE
        simp [results, Try.f14, go_sem, e0, e1]
      · have HNW := Lib.hid (show x.2 ≤ now by omega)
        have hml : (ids pre).length = m := by unfold ids; rw [List.length_map]; exact HL.out.2.symm
        have hm5 : m < 4096 := by
          have h1 := congrArg List.length HP.out.1
          rw [List.length_append, List.length_cons, ← HL.out.2] at h1
          have := HLN.out
          omega
        have OW := Lib.hid (show w2.ownsRow 0 3 1 (.slice B m d) m ((ids pre).map encI) from by have := HO.out.own; rw [hml] at this; exact this)
        have HML := Lib.hid hml
        have HNA := Lib.hid hna1
        rw [← hxt] at hnow
        clear END hxi hxt hna1 hml
        go_upto_region 4 with (at_builtin; go_loud (refine wp_push rfl (.tmp 20) (.tmp 26) 30 rfl 3 (.int .i64 0) 1 8 Try.underlying30 infoI rfl (by decide) (.slice B m d) m _ rfl OW.out #[.int .i64 xi] rfl rfl (one_lit rfl) (by omega) (by unfold maxLen; omega) ?_; intro g5 cap5 w5 p1 p2 p3; have P1 := Lib.hid p1; have P2 := Lib.hid p2; have P3 := Lib.hid p3; clear p1 p2 p3))
        have HX5 := Lib.hid (HB.out.1.fr P2.out (fun g => HO.out.off bx g (.inl rfl)))
        have HY5 := Lib.hid (HB.out.2.1.fr P2.out (fun g => HO.out.off br g (.inr rfl)))
        have HO5 := Lib.hid (HO.out.grow (fun k hk => by have a1 := HB.out.1.lt; have a2 := HB.out.2.1.lt; rcases hk with e | e <;> omega) HB.out.2.2.size HML.out.symm P1.out P2.out P3.out)
        have F5 := Lib.hid (HB.out.2.2.trans P2.out (fun k hk hl => absurd (HO.out.new k hk) (by omega)))
        have Xo := HX5.out
        clear x0 x1 xf0 xf1 y0 y1 yf0 yf1 m0 m1 m0' m1'
        have x0 := Xo.cell 0
        have x1 := Xo.cell 1
        have xf0 := Xo.frozen 0
        have xf1 := Xo.frozen 1
        simp only [List.getElem?_toArray, List.getElem?_cons_zero, List.getElem?_cons_succ] at x0 x1
        clear Xo
        -- the step
        have NEXT := Lib.hid (fun (Aa' : Option Addr) (ca' : Nat) (hr : RSl 2 RA w S [.slice Aa' (na - 1) ca'] t) => (show
            Hid (na - 1 = t.length ∧ m + 1 = (pre ++ [x]).length) ∧ Hid (L = (pre ++ [x]) ++ t ∧ (∀ y ∈ pre ++ [x], y.2 ≤ now)) ∧ Hid (Blk (w5.setCell ⟨bx, 0, none⟩ (.slice Aa' (na - 1) ca')) bx 37 #[.slice Aa' (na - 1) ca', .int .i64 most] ∧ Blk (w5.setCell ⟨bx, 0, none⟩ (.slice Aa' (na - 1) ca')) br 37 #[.slice none 0 0, .int .i64 0] ∧ Fr No w (w5.setCell ⟨bx, 0, none⟩ (.slice Aa' (na - 1) ca'))) ∧ Hid (RSl 2 RA w S [.slice Aa' (na - 1) ca'] t) ∧ Hid (Out w (w5.setCell ⟨bx, 0, none⟩ (.slice Aa' (na - 1) ca')) (fun k => k = bx ∨ k = br) (.slice (some ⟨g5, 0, none⟩) (m + 1) cap5) (ids (pre ++ [x]))) from by
          have f6 : Fr (fun k => k = bx) w5 (w5.setCell ⟨bx, 0, none⟩ (.slice Aa' (na - 1) ca')) := (Fr.refl (fun k => k = bx) w5).setCell (p := ⟨bx, 0, none⟩) (.inl rfl) _
          have g1 := HX5.out.put 0 (.slice Aa' (na - 1) ca')
          simp only [List.setIfInBounds_toArray, List.set_cons_zero] at g1
          refine ⟨⟨by have := HNA.out; omega, by rw [List.length_append, ← HL.out.2]; rfl⟩, ⟨by rw [HP.out.1]; simp, fun y hy => (List.mem_append.1 hy).elim (HP.out.2 y) (fun g => by rw [List.mem_singleton.1 g]; exact HNW.out)⟩, ⟨g1, HY5.out.fr f6 (fun e => hbne2 e), F5.out.trans f6 (fun k hk hl => by have hk : k = bx := hk; omega)⟩, hr, ?_⟩
          have hids : ids (pre ++ [x]) = ids pre ++ [xi] := by unfold ids; rw [List.map_append, HE2.out.1]; rfl
          rw [hids]
          exact ⟨own_fr HO5.out.own f6 (fun k hk e => HO5.out.off k hk (.inl e)), HO5.out.off, HO5.out.new⟩))
        by_cases hc1 : ca = 1
        · subst hc1
          have hna2 : na = 1 := by omega
          subst hna2
          have ht0 : t = [] := List.eq_nil_of_length_eq_zero (by have := HNA.out; omega)
          have HS := Lib.hid (NEXT.out (some ad) 0 (by rw [ht0]; exact ⟨some ad, 0, rfl, Nat.le_refl _, Nat.zero_le _, fun h => (by cases h), fun i hi => by simp at hi⟩))
          clear NEXT ht0 hnaI hna0
          go_wp2_with fail
          go_roundw
          case rel => exact ⟨pre ++ [x], t, m + 1, cap5, 0, 0, _, some ad, rfl, by omega, by omega, by omega, HS.out⟩
          case measure => simp [lenV]; omega
        · have hca2 : 1 < ca := by omega
          have hcz : ((ca : Int) == 1) = false := by simp; omega
          have HS := Lib.hid (NEXT.out (some (ad.add (1 * 2))) (ca - 1) (by have := sl_drop (k := 1) HR.out (by simp); simpa using this))
          clear NEXT
          go_wp2_with fail
          go_roundw
          case rel => exact ⟨pre ++ [x], t, m + 1, cap5, na - 1, ca - 1, _, some (ad.add (1 * 2)), rfl, by omega, by omega, by omega, HS.out⟩
          case measure => simp [lenV]; omega
end
end Tm
end Go.Proofs.Ytkmlmjglipmdcaa
