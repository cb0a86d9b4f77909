/- Reader: the reference's told: somebody is something (312). Printed by gen_rdt.py. -/
import Derived.Test.YtmmdiccpifepfaaRdU
import Derived.Test.YtmmdiccpifepfaaCalm
import Derived.Test.YtmmdiccpifepfaaStill
import Derived.Deep.CutRange
namespace Go.Proofs.Ytmmdiccpifepfaa
open Go.RowKit
set_option linter.unusedVariables false
set_option linter.unusedSimpArgs false
namespace Rd
open Ans Digit Sls Word

set_option maxRecDepth 100000 in
set_option maxHeartbeats 4000000 in
theorem told312n (s : Str) (w : World) (A : Nat → Prop) (x : X) (c : Array Value) (h : RB w A x c) (hs : s.length ≤ 900000) (hf : Fit 900000 x) (hb : (readA s).2.2 = 0 ∧ (readA s).2.1 = s.length) (hnum : (readA s).1.1 = 312) (ho : x.V = [])  :
    Calls Try.prog 20 #[.agg c, .string ⟨s.toArray⟩] w (ToldP w A (replyR x s)) := by
  rw [reply_ok hb]
  have hR := fun W => rread27_any s W hs
  obtain ⟨⟨⟨num, L⟩, n, e⟩, hr⟩ : ∃ r, r = readA s := ⟨_, rfl⟩
  rw [← hr] at hR hb hnum ⊢
  simp only at hb hnum
  subst hnum
  obtain ⟨rfl, rfl⟩ := hb
  have HE := Lib.hid (be_none (x := { x with R := x.R ++ [((312 : Int), L)] }) (r := 3) (name := lastR (312, L)) (show opn x.V = none from by rw [ho]; rfl))
  have hll : ∀ l ∈ L, l.length ≤ 900000 := fun l hl => Nat.le_trans (by have := read_le s l (by rw [← hr]; exact hl); exact this) hs
  have HLL := Lib.hid hll
  obtain ⟨B, vR, vV, rv, rfl, hp, hA, hlt⟩ := h
  have hrl := hp.lines.1
  obtain ⟨A5, k5, hu⟩ := own_form hp.rown
  subst hu
  obtain ⟨A6, k6, hu⟩ := own_form hp.vown
  subst hu
  have hfl := hf.1
  have hfv := hf.2.1
  obtain ⟨n5, hn5⟩ : ∃ n5, n5 = rv.length := ⟨_, rfl⟩
  obtain ⟨n6, hn6⟩ : ∃ n6, n6 = x.V.length := ⟨_, rfl⟩
  have hn5l : n5 ≤ 1000000 := by omega
  have hn6l : n6 ≤ 1000000 := by omega
  rw [← hn5, ← hn6] at hp hA ⊢
  have HN := Lib.hid hn5
  have HN6 := Lib.hid hn6
  have HP := Lib.hid hp
  have HA := Lib.hid hA
  have HL := Lib.hid hlt
  have HR := Lib.hid hR
  have HF := Lib.hid hf
  clear hp hA hlt hrl hfl hfv hn5 hn6 hR hf hll hr
  obtain ⟨ro, hro⟩ : ∃ ro, ro = x.role := ⟨_, rfl⟩
  obtain ⟨bd, hbd⟩ : ∃ bd, bd = x.bad := ⟨_, rfl⟩
  have HCX := Lib.hid (And.intro hro hbd)
  rw [show cellsX (.slice A5 n5 k5) (.slice A6 n6 k6) x = #[.slice A5 n5 k5, .slice A6 n6 k6, .int .i64 ro, .bool bd] from by rw [hro, hbd]; rfl]
  clear hro hbd
  have XB := (Blk.new w 31 #[.slice A5 n5 k5, .slice A6 n6 k6, .int .i64 ro, .bool bd]).alloc (.cells #[.slice none 0 0, .slice none 0 0, .int .i64 0, .bool false] 31)
  have XR := Blk.new (w.alloc (.cells #[.slice A5 n5 k5, .slice A6 n6 k6, .int .i64 ro, .bool bd] 31)) 31 #[.slice none 0 0, .slice none 0 0, .int .i64 0, .bool false]
  have FA := Lib.hid (((Fr.refl No w).alloc (.cells #[.slice A5 n5 k5, .slice A6 n6 k6, .int .i64 ro, .bool bd] 31)).alloc (.cells #[.slice none 0 0, .slice none 0 0, .int .i64 0, .bool false] 31))
  rw [size_alloc] at XR
  obtain ⟨bx, hbx⟩ : ∃ bx, w.heap.size = bx := ⟨_, rfl⟩
  obtain ⟨br, hbr⟩ : ∃ br, bx + 1 = br := ⟨_, rfl⟩
  rw [hbx] at XB XR
  rw [hbr] at XR
  go_enter Try.func20, Try.ntmps20
  go_wp2_with fail
  try rw [hbx]
  try rw [hbr]
  generalize (w.alloc (.cells #[.slice A5 n5 k5, .slice A6 n6 k6, .int .i64 ro, .bool bd] 31)).alloc (.cells #[.slice none 0 0, .slice none 0 0, .int .i64 0, .bool false] 31) = wa at XB XR FA ⊢
  have XB := Lib.hid XB
  have XR := Lib.hid XR
  have HBX := Lib.hid hbx
  have HBR := Lib.hid hbr
  have hxr : bx ≠ br := by omega
  have hrx : br ≠ bx := by omega
  clear hbx hbr
  refine (HR.out wa).mono ?_
  rintro ee w1 ⟨v, rfl, hv, hf⟩
  obtain ⟨Ar, cr, rfl, -, -⟩ := hv.slice
  have HV := Lib.hid hv
  have HF1 := Lib.hid hf
  clear hv hf
  have hb1 : ((0 : Int) != 0) = false := rfl
  have hb2 : ((s.length : Int) != (s.length : Int)) = false := by simp
  have hf2 : Fr No wa (w1.alloc (.cells #[.int .i64 312, .slice Ar L.length cr] 69)) := HF1.out.alloc _
  have XB2 := XB.out.fr hf2 (fun h => h)
  have x0 := XB2.cell 0
  simp only [List.getElem?_toArray, List.getElem?_cons_zero, List.getElem?_cons_succ] at x0
  have hro : (w1.alloc (.cells #[.int .i64 312, .slice Ar L.length cr] 69)).ownsRow 0 69 2 (.slice A5 n5 k5) n5 (rv.flatMap encR) := by have hq := (HP.out.no (FA.out.then_no hf2)).rown; rw [← HN.out] at hq; exact hq
  have HRO := Lib.hid hro
  have HX2 := Lib.hid XB2
  clear XB2 hro hf2
  go_upto_region 6 with (at_builtin; go_loud (refine wp_push rfl (.tmp 28) (.tmp 30) 28 rfl 69 (.agg #[.int .i64 0, .slice none 0 0]) 2 32 Try.underlying28 infoR rfl (by decide) (.slice A5 n5 k5) n5 _ rfl HRO.out #[.int .i64 312, .slice Ar L.length cr] (by simp [Act.eval]) rfl (by intro u hu; simp at hu; rcases hu with rfl | rfl <;> rfl) (by omega) (by unfold maxLen; omega) ?_; intro g4 cap4 wq p1 p2 p3; have x4 := HX2.out.fr p2 (fun h => (old_not HP.out (by have := HBX.out; omega)).2.2.1 h); have q0 := x4.cell 0; have q1 := x4.frozen 0; simp only [List.getElem?_toArray, List.getElem?_cons_zero, List.getElem?_cons_succ] at q0; have G := Lib.hid (got_told HP.out HA.out HN.out FA.out HBX.out HBR.out XB.out XR.out HV.out HF1.out p1 p2 p3); clear p1 p2 p3 x4))
  generalize wq.setCell ⟨bx, 0, none⟩ (.slice (some ⟨g4, 0, none⟩) (n5 + 1) cap4) = W at G ⊢
  obtain ⟨y5, hy5⟩ : ∃ y5, y5 = w1.heap.size := ⟨_, rfl⟩
  rw [← hy5] at G ⊢
  have HY5 := Lib.hid hy5
  clear x0 q0 q1 hy5
  have x0 := G.out.xb.cell 0
  have x1 := G.out.xb.cell 1
  have x2 := G.out.xb.cell 2
  have x3 := G.out.xb.cell 3
  have xf0 := G.out.xb.frozen 0
  have xf1 := G.out.xb.frozen 1
  have xf2 := G.out.xb.frozen 2
  have xf3 := G.out.xb.frozen 3
  have r0 := G.out.xr.cell 0
  have r1 := G.out.xr.cell 1
  have r2 := G.out.xr.cell 2
  have r3 := G.out.xr.cell 3
  have rf0 := G.out.xr.frozen 0
  have rf1 := G.out.xr.frozen 1
  have rf2 := G.out.xr.frozen 2
  have rf3 := G.out.xr.frozen 3
  simp only [List.getElem?_toArray, List.getElem?_cons_zero, List.getElem?_cons_succ] at x0 x1 x2 x3 r0 r1 r2 r3
  have y0 := G.out.c5.cell 0
  have y1 := G.out.c5.cell 1
  simp only [List.getElem?_toArray, List.getElem?_cons_zero, List.getElem?_cons_succ] at y0 y1
  have e6 : n6 = 0 := by rw [HN6.out, ho]; rfl
  subst e6
  have HU := Lib.hid ho
  clear ho
  go_upto_region 33 with (fail)
  go_quiet (fail)
  go_upto_region 35 with (fail)
  have G2 := Lib.hid (G.out.set2 hxr ((Fr.refl No W).drewN nq) (.int .i64 3))
  have HC5 := Lib.hid (show ¬ Of (.slice A6 0 k6) y5 from fun h => by have h1 := of_lt HP.out.vown _ h; have h2 := FA.out.size; have h3 := HF1.out.size; have h4 := HY5.out; omega)
  clear x0 x1 x2 x3 xf0 xf1 xf2 xf3 r0 r1 r2 r3 rf0 rf1 rf2 rf3 y0 y1 
  generalize (W.drewN nq).setCell ⟨bx, 2, none⟩ (.int .i64 3) = W2 at G2 ⊢
  have HK := Lib.hid (show ∀ X, Fr No W2 X → X.cell? ⟨bx, 1, none⟩ = some (.slice A6 0 k6) ∧ X.cell? ⟨y5, 0, none⟩ = some (.int .i64 312) ∧ X.cell? ⟨y5, 1, none⟩ = some (.slice Ar L.length cr) from fun X hX => ⟨(G2.out.xb.fr hX (fun h => h)).cell 1, (G2.out.c5.fr hX (fun h => h)).cell 0, (G2.out.c5.fr hX (fun h => h)).cell 1⟩)
  have HLA := Lib.hid (fun X (hX : Fr No W2 X) => (rlast_any 312 (.slice Ar L.length cr) L X _ (fun k hk => Nat.lt_of_lt_of_le (G2.out.rows.hB k hk).1 hX.size) (str_keep G2.out.ls hX (fun k hk => (G2.out.rows.hB k hk).1)) HLL.out).mono fun e' w' hh => And.intro hh.1 (hX.then_no hh.2))
  have HOV := Lib.hid (fun X (hX : Fr No W2 X) => (show X.ownsRow 0 TV 3 (.slice A6 0 k6) 0 (x.V.flatMap encV) from by have hq := (G2.out.rows.no hX).vown; rw [← HN6.out] at hq; exact hq))
  refine wp_region_T (fun X => X.cell? ⟨bx, 1, none⟩ = some (.slice A6 0 k6) ∧ X.cell? ⟨y5, 0, none⟩ = some (.int .i64 312) ∧ X.cell? ⟨y5, 1, none⟩ = some (.slice Ar L.length cr)) 8 (by kernel_rfl) ?_ ?_
  · exact ⟨by kernel_rfl, by kernel_rfl, by kernel_rfl, by decide⟩
  intro hk
  have hHeld := HK.out _ ((Fr.refl No W2).drew)
  refine wpAnyT_take (i := 0) (v := ?_) hk rfl (by kernel_rfl) (fun _ _ _ h => h) (by exact hHeld) (Or.inl ⟨by rfl, ?_⟩) ?_
  rotate_left
  · (intro w hSw; (try dsimp only at hSw); (try simp only [List.getElem_toArray, List.getElem_cons_succ, List.getElem_cons_zero]); go_simp; all_goals with_reducible rfl)
  (try simp only [Act.put, List.setIfInBounds_toArray, List.set_cons_zero, List.set_cons_succ])
  refine wpAnyT_take (i := 1) (v := ?_) hk rfl (by kernel_rfl) (fun _ _ _ h => h) (by exact hHeld) (Or.inl ⟨by rfl, ?_⟩) ?_
  rotate_left
  · (intro w hSw; (try dsimp only at hSw); (try simp only [List.getElem_toArray, List.getElem_cons_succ, List.getElem_cons_zero]); go_simp; all_goals with_reducible rfl)
  (try simp only [Act.put, List.setIfInBounds_toArray, List.set_cons_zero, List.set_cons_succ])
  refine wpAnyT_take (i := 2) (v := ?_) hk rfl (by kernel_rfl) (fun _ _ _ h => h) (by exact hHeld) (Or.inl ⟨by rfl, ?_⟩) ?_
  rotate_left
  · (intro w hSw; (try dsimp only at hSw); (try simp only [List.getElem_toArray, List.getElem_cons_succ, List.getElem_cons_zero]); go_simp; all_goals with_reducible rfl)
  (try simp only [Act.put, List.setIfInBounds_toArray, List.set_cons_zero, List.set_cons_succ])
  refine wpAnyT_all (rs := [3]) (by kernel_rfl) (by simp) ?_
  refine AllT.cons (o := ?_) ?_ (fun K hK => ?_) ?_
  rotate_left
  · (simp only [List.getElem?_toArray, List.getElem?_cons_succ, List.getElem?_cons_zero]; rfl)
  · skip
    go_simp
    (go_at_call 34; refine (HLA.out _ (by (repeat' (first | with_reducible assumption | with_reducible exact Fr.refl _ _ | with_reducible refine Fr.drew ?_ | with_reducible refine Fr.drewN ?_ _ | with_reducible refine Fr.alloc ?_ _)))).mono ?_; rintro e2 w6 ⟨rfl, f6⟩)
    try go_wp2_with fail
    refine hK.out _ _ ?_ (fun hNew => ?_)
    · (intro _; (try dsimp only); refine HK.out _ ?_; (repeat' (first | with_reducible assumption | with_reducible exact Fr.refl _ _ | with_reducible refine Fr.drew ?_ | with_reducible refine Fr.drewN ?_ _ | with_reducible refine Fr.alloc ?_ _)))
    clear hHeld hK K
    have hHeld := hNew (by decide)
    clear hNew
    (try simp only [Act.put, List.setIfInBounds_toArray, List.set_cons_zero, List.set_cons_succ])
    refine wpAnyT_all (rs := [4]) (by kernel_rfl) (by simp) ?_
    refine AllT.cons (o := ?_) ?_ (fun K hK => ?_) ?_
    rotate_left
    · (simp only [List.getElem?_toArray, List.getElem?_cons_succ, List.getElem?_cons_zero]; rfl)
    · skip
      go_simp
      refine hK.out _ _ ?_ (fun hNew => ?_)
      · (intro _; (try dsimp only); refine HK.out _ ?_; (repeat' (first | with_reducible assumption | with_reducible exact Fr.refl _ _ | with_reducible refine Fr.drew ?_ | with_reducible refine Fr.drewN ?_ _ | with_reducible refine Fr.alloc ?_ _)))
      clear hHeld hK K
      have hHeld := hNew (by decide)
      clear hNew
      (try simp only [Act.put, List.setIfInBounds_toArray, List.set_cons_zero, List.set_cons_succ])
      refine wpAnyT_all (rs := [5]) (by kernel_rfl) (by simp) ?_
      refine AllT.cons (o := ?_) ?_ (fun K hK => ?_) ?_
      rotate_left
      · (simp only [List.getElem?_toArray, List.getElem?_cons_succ, List.getElem?_cons_zero]; rfl)
      · skip
        go_simp
        refine hK.out _ _ ?_ (fun hNew => ?_)
        · (intro _; (try dsimp only); refine HK.out _ ?_; (repeat' (first | with_reducible assumption | with_reducible exact Fr.refl _ _ | with_reducible refine Fr.drew ?_ | with_reducible refine Fr.drewN ?_ _ | with_reducible refine Fr.alloc ?_ _)))
        clear hHeld hK K
        have hHeld := hNew (by decide)
        clear hNew
        (try simp only [Act.put, List.setIfInBounds_toArray, List.set_cons_zero, List.set_cons_succ])
        refine wpAnyT_all (rs := [6]) (by kernel_rfl) (by simp) ?_
        refine AllT.cons (o := ?_) ?_ (fun K hK => ?_) ?_
        rotate_left
        · (simp only [List.getElem?_toArray, List.getElem?_cons_succ, List.getElem?_cons_zero]; rfl)
        · skip
          refine step_push rfl (.tmp 146) (.tmp 150) 29 rfl TV (.agg #[.string ByteArray.empty, .string ByteArray.empty, .bool false]) 3 40 Try.underlying29 infoW rfl (by decide) (.slice A6 0 k6) 0 _ (by simp [Act.eval, Act.put]) (HOV.out _ f6) #[.string ⟨(lastR (312, L)).toArray⟩, .string ⟨#[]⟩, .bool true] (by simp [Act.eval, Act.put]) rfl (by intro u hu; simp at hu; rcases hu with rfl | rfl | rfl <;> rfl) (by omega) (by unfold maxLen; omega) ?_
          intro g7 c8 w7 q1 q2 q3
          have TW := Lib.hid (G2.out.push (u := (lastR (312, L), [], true)) (fun k hk => G2.out.hA k (.inr (.inr hk))) f6 q1 (by show _ = x.V.length + 1; rw [← HN6.out]) q2 q3)
          have X7 := (G2.out.xb.fr f6 (fun h => h)).fr q2 (fun h => (G2.out.hb bx (.inl rfl)).2.2.2 h)
          have R7 := (G2.out.xr.fr f6 (fun h => h)).fr q2 (fun h => (G2.out.hb br (.inr rfl)).2.2.2 h)
          have z5 := (G2.out.c5.fr f6 (fun h => h)).fr q2 (fun h => by have h1 := G2.out.c5.lt; exact HC5.out h)
          have HX7 := Lib.hid X7
          have HR7 := Lib.hid R7
          have k1 := X7.cell 1
          have k2 := z5.cell 0
          have k3 := z5.cell 1
          simp only [List.getElem?_toArray, List.getElem?_cons_zero, List.getElem?_cons_succ] at k1 k2 k3
          have hS7 := Lib.hid (And.intro k1 (And.intro k2 k3))
          clear q1 q2 q3 X7 R7 z5 k1 k2 k3
          refine hK.out _ _ ?_ (fun hNew => ?_)
          · (intro _; (try dsimp only); exact hS7.out)
          clear hHeld hK K
          have hHeld := hNew (by decide)
          clear hNew
          (try simp only [Act.put, List.setIfInBounds_toArray, List.set_cons_zero, List.set_cons_succ])
          refine wpAnyT_all (rs := [7]) (by kernel_rfl) (by simp) ?_
          refine AllT.cons (o := ?_) ?_ (fun K hK => ?_) ?_
          rotate_left
          · (simp only [List.getElem?_toArray, List.getElem?_cons_succ, List.getElem?_cons_zero]; rfl)
          · skip
            go_simp
            refine hK.out _ _ ?_ (fun hNew => ?_)
            · (intro _; (try dsimp only); exact hS7.out)
            clear hHeld hK K
            have hHeld := hNew (by decide)
            clear hNew
            (try simp only [Act.put, List.setIfInBounds_toArray, List.set_cons_zero, List.set_cons_succ])
            refine wpAnyT_all (rs := [8]) (by kernel_rfl) (by simp) ?_
            refine AllT.cons (o := ?_) ?_ (fun K hK => ?_) ?_
            rotate_left
            · (simp only [List.getElem?_toArray, List.getElem?_cons_succ, List.getElem?_cons_zero]; rfl)
            · skip
              have z1 := hS7.out.1
              have zf := HX7.out.frozen 1
              go_simp
              refine hK.out _ _ ?_ (fun hNew => ?_)
              · exact fun h => absurd rfl h
              clear hHeld hK K
              clear hNew
              (try simp only [Act.put, List.setIfInBounds_toArray, List.set_cons_zero, List.set_cons_succ])
              refine wpAnyT_done (by kernel_rfl) ?_
              clear z1 zf
              have x0 := HX7.out.cell 0
              have x1 := HX7.out.cell 1
              have x2 := HX7.out.cell 2
              have x3 := HX7.out.cell 3
              have xf0 := HX7.out.frozen 0
              have xf1 := HX7.out.frozen 1
              have xf2 := HX7.out.frozen 2
              have xf3 := HX7.out.frozen 3
              have r0 := HR7.out.cell 0
              have r1 := HR7.out.cell 1
              have r2 := HR7.out.cell 2
              have r3 := HR7.out.cell 3
              have rf0 := HR7.out.frozen 0
              have rf1 := HR7.out.frozen 1
              have rf2 := HR7.out.frozen 2
              have rf3 := HR7.out.frozen 3
              simp only [List.getElem?_toArray, List.getElem?_cons_zero, List.getElem?_cons_succ] at x0 x1 x2 x3 r0 r1 r2 r3
              go_wp2_with fail
              have b9 := HR7.out
              have b9 := b9.far (p := ⟨bx, 1, none⟩) hrx (.slice (some ⟨g7, 0, none⟩) 1 c8)
              have b9 := b9.put 0 (.slice (some ⟨g4, 0, none⟩) (n5 + 1) cap4)
              have b9 := b9.put 1 (.slice (some ⟨g7, 0, none⟩) 1 c8)
              have b9 := b9.put 2 (.int .i64 3)
              have b9 := b9.put 3 (.bool bd)
              simp only [List.setIfInBounds_toArray, List.set_cons_zero, List.set_cons_succ] at b9
              have e0 := b9.cell 0
              have e1 := b9.cell 1
              have e2 := b9.cell 2
              have e3 := b9.cell 3
              simp only [List.getElem?_toArray, List.getElem?_cons_zero, List.getElem?_cons_succ] at e0 e1 e2 e3
              clear b9
              refine bodyPost_ret (v := .agg #[.slice (some ⟨g4, 0, none⟩) (n5 + 1) cap4, .slice (some ⟨g7, 0, none⟩) 1 c8, .int .i64 3, .bool bd]) ?_ rfl ?_
              · simp [results, Try.f20, go_sem, e0, e1, e2, e3]
              · rw [show actR { x with R := x.R ++ [((312 : Int), L)] } (312, L) = ({ x with R := x.R ++ [((312 : Int), L)], role := 3, V := x.V ++ [(lastR (312, L), [], true)] } : X) from HE.out]; (try rw [HCX.out.1]); (try rw [HCX.out.2])
                have q := TW.out
                exact told_end (bx := bx) (br := br) (y := ({ x with R := x.R ++ [((312 : Int), L)], role := 3, V := x.V ++ [(lastR (312, L), [], true)] } : X)) q.1 (Rows.like q.2.1 rfl rfl) q.2.2.1 HL.out (by repeat (first | with_reducible exact Fr.refl _ _ | with_reducible refine Fr.setCell ?_ (.inl (by first | exact .inl rfl | exact .inr rfl)) _)) q.2.2.2
            exact AllT.nil
          exact AllT.nil
        exact AllT.nil
      exact AllT.nil
    exact AllT.nil
  exact AllT.nil

set_option maxRecDepth 100000 in
set_option maxHeartbeats 4000000 in
theorem told312h (s : Str) (w : World) (A : Nat → Prop) (x : X) (c : Array Value) (h : RB w A x c) (hs : s.length ≤ 900000) (hf : Fit 900000 x) (hb : (readA s).2.2 = 0 ∧ (readA s).2.1 = s.length) (hnum : (readA s).1.1 = 312) (U : List Vw) (n9 t9 : Str) (ho : x.V = U ++ [(n9, t9, false)])  :
    Calls Try.prog 20 #[.agg c, .string ⟨s.toArray⟩] w (ToldP w A (replyR x s)) := by
  rw [reply_ok hb]
  have hR := fun W => rread27_any s W hs
  obtain ⟨⟨⟨num, L⟩, n, e⟩, hr⟩ : ∃ r, r = readA s := ⟨_, rfl⟩
  rw [← hr] at hR hb hnum ⊢
  simp only at hb hnum
  subst hnum
  obtain ⟨rfl, rfl⟩ := hb
  have HE := Lib.hid (be_none (x := { x with R := x.R ++ [((312 : Int), L)] }) (r := 3) (name := lastR (312, L)) (show opn x.V = none from by rw [ho]; exact opn_shut _ _ _))
  have hll : ∀ l ∈ L, l.length ≤ 900000 := fun l hl => Nat.le_trans (by have := read_le s l (by rw [← hr]; exact hl); exact this) hs
  have HLL := Lib.hid hll
  obtain ⟨B, vR, vV, rv, rfl, hp, hA, hlt⟩ := h
  have hrl := hp.lines.1
  obtain ⟨A5, k5, hu⟩ := own_form hp.rown
  subst hu
  obtain ⟨A6, k6, hu⟩ := own_form hp.vown
  subst hu
  have hfl := hf.1
  have hfv := hf.2.1
  obtain ⟨n5, hn5⟩ : ∃ n5, n5 = rv.length := ⟨_, rfl⟩
  obtain ⟨n6, hn6⟩ : ∃ n6, n6 = x.V.length := ⟨_, rfl⟩
  have hn5l : n5 ≤ 1000000 := by omega
  have hn6l : n6 ≤ 1000000 := by omega
  rw [← hn5, ← hn6] at hp hA ⊢
  have HN := Lib.hid hn5
  have HN6 := Lib.hid hn6
  have HP := Lib.hid hp
  have HA := Lib.hid hA
  have HL := Lib.hid hlt
  have HR := Lib.hid hR
  have HF := Lib.hid hf
  clear hp hA hlt hrl hfl hfv hn5 hn6 hR hf hll hr
  obtain ⟨ro, hro⟩ : ∃ ro, ro = x.role := ⟨_, rfl⟩
  obtain ⟨bd, hbd⟩ : ∃ bd, bd = x.bad := ⟨_, rfl⟩
  have HCX := Lib.hid (And.intro hro hbd)
  rw [show cellsX (.slice A5 n5 k5) (.slice A6 n6 k6) x = #[.slice A5 n5 k5, .slice A6 n6 k6, .int .i64 ro, .bool bd] from by rw [hro, hbd]; rfl]
  clear hro hbd
  have XB := (Blk.new w 31 #[.slice A5 n5 k5, .slice A6 n6 k6, .int .i64 ro, .bool bd]).alloc (.cells #[.slice none 0 0, .slice none 0 0, .int .i64 0, .bool false] 31)
  have XR := Blk.new (w.alloc (.cells #[.slice A5 n5 k5, .slice A6 n6 k6, .int .i64 ro, .bool bd] 31)) 31 #[.slice none 0 0, .slice none 0 0, .int .i64 0, .bool false]
  have FA := Lib.hid (((Fr.refl No w).alloc (.cells #[.slice A5 n5 k5, .slice A6 n6 k6, .int .i64 ro, .bool bd] 31)).alloc (.cells #[.slice none 0 0, .slice none 0 0, .int .i64 0, .bool false] 31))
  rw [size_alloc] at XR
  obtain ⟨bx, hbx⟩ : ∃ bx, w.heap.size = bx := ⟨_, rfl⟩
  obtain ⟨br, hbr⟩ : ∃ br, bx + 1 = br := ⟨_, rfl⟩
  rw [hbx] at XB XR
  rw [hbr] at XR
  go_enter Try.func20, Try.ntmps20
  go_wp2_with fail
  try rw [hbx]
  try rw [hbr]
  generalize (w.alloc (.cells #[.slice A5 n5 k5, .slice A6 n6 k6, .int .i64 ro, .bool bd] 31)).alloc (.cells #[.slice none 0 0, .slice none 0 0, .int .i64 0, .bool false] 31) = wa at XB XR FA ⊢
  have XB := Lib.hid XB
  have XR := Lib.hid XR
  have HBX := Lib.hid hbx
  have HBR := Lib.hid hbr
  have hxr : bx ≠ br := by omega
  have hrx : br ≠ bx := by omega
  clear hbx hbr
  refine (HR.out wa).mono ?_
  rintro ee w1 ⟨v, rfl, hv, hf⟩
  obtain ⟨Ar, cr, rfl, -, -⟩ := hv.slice
  have HV := Lib.hid hv
  have HF1 := Lib.hid hf
  clear hv hf
  have hb1 : ((0 : Int) != 0) = false := rfl
  have hb2 : ((s.length : Int) != (s.length : Int)) = false := by simp
  have hf2 : Fr No wa (w1.alloc (.cells #[.int .i64 312, .slice Ar L.length cr] 69)) := HF1.out.alloc _
  have XB2 := XB.out.fr hf2 (fun h => h)
  have x0 := XB2.cell 0
  simp only [List.getElem?_toArray, List.getElem?_cons_zero, List.getElem?_cons_succ] at x0
  have hro : (w1.alloc (.cells #[.int .i64 312, .slice Ar L.length cr] 69)).ownsRow 0 69 2 (.slice A5 n5 k5) n5 (rv.flatMap encR) := by have hq := (HP.out.no (FA.out.then_no hf2)).rown; rw [← HN.out] at hq; exact hq
  have HRO := Lib.hid hro
  have HX2 := Lib.hid XB2
  clear XB2 hro hf2
  go_upto_region 6 with (at_builtin; go_loud (refine wp_push rfl (.tmp 28) (.tmp 30) 28 rfl 69 (.agg #[.int .i64 0, .slice none 0 0]) 2 32 Try.underlying28 infoR rfl (by decide) (.slice A5 n5 k5) n5 _ rfl HRO.out #[.int .i64 312, .slice Ar L.length cr] (by simp [Act.eval]) rfl (by intro u hu; simp at hu; rcases hu with rfl | rfl <;> rfl) (by omega) (by unfold maxLen; omega) ?_; intro g4 cap4 wq p1 p2 p3; have x4 := HX2.out.fr p2 (fun h => (old_not HP.out (by have := HBX.out; omega)).2.2.1 h); have q0 := x4.cell 0; have q1 := x4.frozen 0; simp only [List.getElem?_toArray, List.getElem?_cons_zero, List.getElem?_cons_succ] at q0; have G := Lib.hid (got_told HP.out HA.out HN.out FA.out HBX.out HBR.out XB.out XR.out HV.out HF1.out p1 p2 p3); clear p1 p2 p3 x4))
  generalize wq.setCell ⟨bx, 0, none⟩ (.slice (some ⟨g4, 0, none⟩) (n5 + 1) cap4) = W at G ⊢
  obtain ⟨y5, hy5⟩ : ∃ y5, y5 = w1.heap.size := ⟨_, rfl⟩
  rw [← hy5] at G ⊢
  have HY5 := Lib.hid hy5
  clear x0 q0 q1 hy5
  have x0 := G.out.xb.cell 0
  have x1 := G.out.xb.cell 1
  have x2 := G.out.xb.cell 2
  have x3 := G.out.xb.cell 3
  have xf0 := G.out.xb.frozen 0
  have xf1 := G.out.xb.frozen 1
  have xf2 := G.out.xb.frozen 2
  have xf3 := G.out.xb.frozen 3
  have r0 := G.out.xr.cell 0
  have r1 := G.out.xr.cell 1
  have r2 := G.out.xr.cell 2
  have r3 := G.out.xr.cell 3
  have rf0 := G.out.xr.frozen 0
  have rf1 := G.out.xr.frozen 1
  have rf2 := G.out.xr.frozen 2
  have rf3 := G.out.xr.frozen 3
  simp only [List.getElem?_toArray, List.getElem?_cons_zero, List.getElem?_cons_succ] at x0 x1 x2 x3 r0 r1 r2 r3
  have y0 := G.out.c5.cell 0
  have y1 := G.out.c5.cell 1
  simp only [List.getElem?_toArray, List.getElem?_cons_zero, List.getElem?_cons_succ] at y0 y1
  have hv6 := G.out.rows.vown
  have hl6 := HN6.out
  rw [ho] at hl6
  simp only [List.length_append, List.length_singleton] at hl6
  obtain ⟨m, hm⟩ : ∃ m, m = U.length := ⟨_, rfl⟩
  rw [← hm] at hl6
  subst hl6
  obtain ⟨gV, c9, hgV⟩ := own_pos hv6 (show 0 < x.V.length by rw [ho]; simp)
  injection hgV with hgV h92 h93
  subst hgV
  subst h93
  clear h92
  obtain ⟨v0, v1, v2⟩ := G.out.rows.at_ ho hm
  have hb0 : decide (((m + 1 : Nat) : Int) - 1 ≥ 0) = true := decide_eq_true (by omega)
  have hmc : m + 1 ≤ k6 := by
    rcases HP.out.vown.2 with ⟨h1, h2⟩ | ⟨g, cap, cur, h1, h2, h3, h4, h5, _⟩
    · cases h1
    · injection h1 with _ _ h1; rw [h1]; rw [← HN6.out] at h4; exact h4
  have hmc2 : m ≤ k6 := by omega
  have hlt9 : (m : Int) < (m : Int) + 1 := by omega
  have hxg : bx ≠ gV := fun e => (G.out.hb bx (.inl rfl)).2.2.2 (by rw [e]; rfl)
  have hgx : gV ≠ bx := fun e => hxg e.symm
  have HM := Lib.hid hm
  have HU := Lib.hid ho
  clear hv6 hm ho
  go_upto_region 33 with (fail)
  go_quiet (fail)
  go_upto_region 35 with (fail)
  have G2 := Lib.hid (G.out.set2 hxr ((Fr.refl No W).drewN nq) (.int .i64 3))
  have HC5 := Lib.hid (show ¬ Of (.slice (some ⟨gV, 0, none⟩) (m + 1) k6) y5 from fun h => by have h1 := of_lt HP.out.vown _ h; have h2 := FA.out.size; have h3 := HF1.out.size; have h4 := HY5.out; omega)
  clear x0 x1 x2 x3 xf0 xf1 xf2 xf3 r0 r1 r2 r3 rf0 rf1 rf2 rf3 y0 y1 v0 v1 v2
  generalize (W.drewN nq).setCell ⟨bx, 2, none⟩ (.int .i64 3) = W2 at G2 ⊢
  have HK := Lib.hid (show ∀ X, Fr No W2 X → X.cell? ⟨bx, 1, none⟩ = some (.slice (some ⟨gV, 0, none⟩) (m + 1) k6) ∧ X.cell? ⟨y5, 0, none⟩ = some (.int .i64 312) ∧ X.cell? ⟨y5, 1, none⟩ = some (.slice Ar L.length cr) from fun X hX => ⟨(G2.out.xb.fr hX (fun h => h)).cell 1, (G2.out.c5.fr hX (fun h => h)).cell 0, (G2.out.c5.fr hX (fun h => h)).cell 1⟩)
  have HLA := Lib.hid (fun X (hX : Fr No W2 X) => (rlast_any 312 (.slice Ar L.length cr) L X _ (fun k hk => Nat.lt_of_lt_of_le (G2.out.rows.hB k hk).1 hX.size) (str_keep G2.out.ls hX (fun k hk => (G2.out.rows.hB k hk).1)) HLL.out).mono fun e' w' hh => And.intro hh.1 (hX.then_no hh.2))
  have HOV := Lib.hid (fun X (hX : Fr No W2 X) => (show X.ownsRow 0 TV 3 (.slice (some ⟨gV, 0, none⟩) (m + 1) k6) (m + 1) (x.V.flatMap encV) from by have hq := (G2.out.rows.no hX).vown; rw [← HN6.out] at hq; exact hq))
  refine wp_region_T (fun X => X.cell? ⟨bx, 1, none⟩ = some (.slice (some ⟨gV, 0, none⟩) (m + 1) k6) ∧ X.cell? ⟨y5, 0, none⟩ = some (.int .i64 312) ∧ X.cell? ⟨y5, 1, none⟩ = some (.slice Ar L.length cr)) 8 (by kernel_rfl) ?_ ?_
  · exact ⟨by kernel_rfl, by kernel_rfl, by kernel_rfl, by decide⟩
  intro hk
  have hHeld := HK.out _ ((Fr.refl No W2).drew)
  refine wpAnyT_take (i := 0) (v := ?_) hk rfl (by kernel_rfl) (fun _ _ _ h => h) (by exact hHeld) (Or.inl ⟨by rfl, ?_⟩) ?_
  rotate_left
  · (intro w hSw; (try dsimp only at hSw); (try simp only [List.getElem_toArray, List.getElem_cons_succ, List.getElem_cons_zero]); go_simp; all_goals with_reducible rfl)
  (try simp only [Act.put, List.setIfInBounds_toArray, List.set_cons_zero, List.set_cons_succ])
  refine wpAnyT_take (i := 1) (v := ?_) hk rfl (by kernel_rfl) (fun _ _ _ h => h) (by exact hHeld) (Or.inl ⟨by rfl, ?_⟩) ?_
  rotate_left
  · (intro w hSw; (try dsimp only at hSw); (try simp only [List.getElem_toArray, List.getElem_cons_succ, List.getElem_cons_zero]); go_simp; all_goals with_reducible rfl)
  (try simp only [Act.put, List.setIfInBounds_toArray, List.set_cons_zero, List.set_cons_succ])
  refine wpAnyT_take (i := 2) (v := ?_) hk rfl (by kernel_rfl) (fun _ _ _ h => h) (by exact hHeld) (Or.inl ⟨by rfl, ?_⟩) ?_
  rotate_left
  · (intro w hSw; (try dsimp only at hSw); (try simp only [List.getElem_toArray, List.getElem_cons_succ, List.getElem_cons_zero]); go_simp; all_goals with_reducible rfl)
  (try simp only [Act.put, List.setIfInBounds_toArray, List.set_cons_zero, List.set_cons_succ])
  refine wpAnyT_all (rs := [3]) (by kernel_rfl) (by simp) ?_
  refine AllT.cons (o := ?_) ?_ (fun K hK => ?_) ?_
  rotate_left
  · (simp only [List.getElem?_toArray, List.getElem?_cons_succ, List.getElem?_cons_zero]; rfl)
  · skip
    go_simp
    (go_at_call 34; refine (HLA.out _ (by (repeat' (first | with_reducible assumption | with_reducible exact Fr.refl _ _ | with_reducible refine Fr.drew ?_ | with_reducible refine Fr.drewN ?_ _ | with_reducible refine Fr.alloc ?_ _)))).mono ?_; rintro e2 w6 ⟨rfl, f6⟩)
    try go_wp2_with fail
    refine hK.out _ _ ?_ (fun hNew => ?_)
    · (intro _; (try dsimp only); refine HK.out _ ?_; (repeat' (first | with_reducible assumption | with_reducible exact Fr.refl _ _ | with_reducible refine Fr.drew ?_ | with_reducible refine Fr.drewN ?_ _ | with_reducible refine Fr.alloc ?_ _)))
    clear hHeld hK K
    have hHeld := hNew (by decide)
    clear hNew
    (try simp only [Act.put, List.setIfInBounds_toArray, List.set_cons_zero, List.set_cons_succ])
    refine wpAnyT_all (rs := [4]) (by kernel_rfl) (by simp) ?_
    refine AllT.cons (o := ?_) ?_ (fun K hK => ?_) ?_
    rotate_left
    · (simp only [List.getElem?_toArray, List.getElem?_cons_succ, List.getElem?_cons_zero]; rfl)
    · skip
      go_simp
      refine hK.out _ _ ?_ (fun hNew => ?_)
      · (intro _; (try dsimp only); refine HK.out _ ?_; (repeat' (first | with_reducible assumption | with_reducible exact Fr.refl _ _ | with_reducible refine Fr.drew ?_ | with_reducible refine Fr.drewN ?_ _ | with_reducible refine Fr.alloc ?_ _)))
      clear hHeld hK K
      have hHeld := hNew (by decide)
      clear hNew
      (try simp only [Act.put, List.setIfInBounds_toArray, List.set_cons_zero, List.set_cons_succ])
      refine wpAnyT_all (rs := [5]) (by kernel_rfl) (by simp) ?_
      refine AllT.cons (o := ?_) ?_ (fun K hK => ?_) ?_
      rotate_left
      · (simp only [List.getElem?_toArray, List.getElem?_cons_succ, List.getElem?_cons_zero]; rfl)
      · skip
        go_simp
        refine hK.out _ _ ?_ (fun hNew => ?_)
        · (intro _; (try dsimp only); refine HK.out _ ?_; (repeat' (first | with_reducible assumption | with_reducible exact Fr.refl _ _ | with_reducible refine Fr.drew ?_ | with_reducible refine Fr.drewN ?_ _ | with_reducible refine Fr.alloc ?_ _)))
        clear hHeld hK K
        have hHeld := hNew (by decide)
        clear hNew
        (try simp only [Act.put, List.setIfInBounds_toArray, List.set_cons_zero, List.set_cons_succ])
        refine wpAnyT_all (rs := [6]) (by kernel_rfl) (by simp) ?_
        refine AllT.cons (o := ?_) ?_ (fun K hK => ?_) ?_
        rotate_left
        · (simp only [List.getElem?_toArray, List.getElem?_cons_succ, List.getElem?_cons_zero]; rfl)
        · skip
          refine step_push rfl (.tmp 146) (.tmp 150) 29 rfl TV (.agg #[.string ByteArray.empty, .string ByteArray.empty, .bool false]) 3 40 Try.underlying29 infoW rfl (by decide) (.slice (some ⟨gV, 0, none⟩) (m + 1) k6) (m + 1) _ (by simp [Act.eval, Act.put]) (HOV.out _ f6) #[.string ⟨(lastR (312, L)).toArray⟩, .string ⟨#[]⟩, .bool true] (by simp [Act.eval, Act.put]) rfl (by intro u hu; simp at hu; rcases hu with rfl | rfl | rfl <;> rfl) (by omega) (by unfold maxLen; omega) ?_
          intro g7 c8 w7 q1 q2 q3
          have TW := Lib.hid (G2.out.push (u := (lastR (312, L), [], true)) (fun k hk => G2.out.hA k (.inr (.inr hk))) f6 q1 (by show _ = x.V.length + 1; rw [← HN6.out]) q2 q3)
          have X7 := (G2.out.xb.fr f6 (fun h => h)).fr q2 (fun h => (G2.out.hb bx (.inl rfl)).2.2.2 h)
          have R7 := (G2.out.xr.fr f6 (fun h => h)).fr q2 (fun h => (G2.out.hb br (.inr rfl)).2.2.2 h)
          have z5 := (G2.out.c5.fr f6 (fun h => h)).fr q2 (fun h => by have h1 := G2.out.c5.lt; exact HC5.out h)
          have HX7 := Lib.hid X7
          have HR7 := Lib.hid R7
          have k1 := X7.cell 1
          have k2 := z5.cell 0
          have k3 := z5.cell 1
          simp only [List.getElem?_toArray, List.getElem?_cons_zero, List.getElem?_cons_succ] at k1 k2 k3
          have hS7 := Lib.hid (And.intro k1 (And.intro k2 k3))
          clear q1 q2 q3 X7 R7 z5 k1 k2 k3
          refine hK.out _ _ ?_ (fun hNew => ?_)
          · (intro _; (try dsimp only); exact hS7.out)
          clear hHeld hK K
          have hHeld := hNew (by decide)
          clear hNew
          (try simp only [Act.put, List.setIfInBounds_toArray, List.set_cons_zero, List.set_cons_succ])
          refine wpAnyT_all (rs := [7]) (by kernel_rfl) (by simp) ?_
          refine AllT.cons (o := ?_) ?_ (fun K hK => ?_) ?_
          rotate_left
          · (simp only [List.getElem?_toArray, List.getElem?_cons_succ, List.getElem?_cons_zero]; rfl)
          · skip
            go_simp
            refine hK.out _ _ ?_ (fun hNew => ?_)
            · (intro _; (try dsimp only); exact hS7.out)
            clear hHeld hK K
            have hHeld := hNew (by decide)
            clear hNew
            (try simp only [Act.put, List.setIfInBounds_toArray, List.set_cons_zero, List.set_cons_succ])
            refine wpAnyT_all (rs := [8]) (by kernel_rfl) (by simp) ?_
            refine AllT.cons (o := ?_) ?_ (fun K hK => ?_) ?_
            rotate_left
            · (simp only [List.getElem?_toArray, List.getElem?_cons_succ, List.getElem?_cons_zero]; rfl)
            · skip
              have z1 := hS7.out.1
              have zf := HX7.out.frozen 1
              go_simp
              refine hK.out _ _ ?_ (fun hNew => ?_)
              · exact fun h => absurd rfl h
              clear hHeld hK K
              clear hNew
              (try simp only [Act.put, List.setIfInBounds_toArray, List.set_cons_zero, List.set_cons_succ])
              refine wpAnyT_done (by kernel_rfl) ?_
              clear z1 zf
              have x0 := HX7.out.cell 0
              have x1 := HX7.out.cell 1
              have x2 := HX7.out.cell 2
              have x3 := HX7.out.cell 3
              have xf0 := HX7.out.frozen 0
              have xf1 := HX7.out.frozen 1
              have xf2 := HX7.out.frozen 2
              have xf3 := HX7.out.frozen 3
              have r0 := HR7.out.cell 0
              have r1 := HR7.out.cell 1
              have r2 := HR7.out.cell 2
              have r3 := HR7.out.cell 3
              have rf0 := HR7.out.frozen 0
              have rf1 := HR7.out.frozen 1
              have rf2 := HR7.out.frozen 2
              have rf3 := HR7.out.frozen 3
              simp only [List.getElem?_toArray, List.getElem?_cons_zero, List.getElem?_cons_succ] at x0 x1 x2 x3 r0 r1 r2 r3
              go_wp2_with fail
              have b9 := HR7.out
              have b9 := b9.far (p := ⟨bx, 1, none⟩) hrx (.slice (some ⟨g7, 0, none⟩) (m + 1 + 1) c8)
              have b9 := b9.put 0 (.slice (some ⟨g4, 0, none⟩) (n5 + 1) cap4)
              have b9 := b9.put 1 (.slice (some ⟨g7, 0, none⟩) (m + 1 + 1) c8)
              have b9 := b9.put 2 (.int .i64 3)
              have b9 := b9.put 3 (.bool bd)
              simp only [List.setIfInBounds_toArray, List.set_cons_zero, List.set_cons_succ] at b9
              have e0 := b9.cell 0
              have e1 := b9.cell 1
              have e2 := b9.cell 2
              have e3 := b9.cell 3
              simp only [List.getElem?_toArray, List.getElem?_cons_zero, List.getElem?_cons_succ] at e0 e1 e2 e3
              clear b9
              refine bodyPost_ret (v := .agg #[.slice (some ⟨g4, 0, none⟩) (n5 + 1) cap4, .slice (some ⟨g7, 0, none⟩) (m + 1 + 1) c8, .int .i64 3, .bool bd]) ?_ rfl ?_
              · simp [results, Try.f20, go_sem, e0, e1, e2, e3]
              · rw [show actR { x with R := x.R ++ [((312 : Int), L)] } (312, L) = ({ x with R := x.R ++ [((312 : Int), L)], role := 3, V := x.V ++ [(lastR (312, L), [], true)] } : X) from HE.out]; (try rw [HCX.out.1]); (try rw [HCX.out.2])
                have q := TW.out
                exact told_end (bx := bx) (br := br) (y := ({ x with R := x.R ++ [((312 : Int), L)], role := 3, V := x.V ++ [(lastR (312, L), [], true)] } : X)) q.1 (Rows.like q.2.1 rfl rfl) q.2.2.1 HL.out (by repeat (first | with_reducible exact Fr.refl _ _ | with_reducible refine Fr.setCell ?_ (.inl (by first | exact .inl rfl | exact .inr rfl)) _)) q.2.2.2
            exact AllT.nil
          exact AllT.nil
        exact AllT.nil
      exact AllT.nil
    exact AllT.nil
  exact AllT.nil

set_option maxRecDepth 100000 in
set_option maxHeartbeats 4000000 in
theorem told312o (s : Str) (w : World) (A : Nat → Prop) (x : X) (c : Array Value) (h : RB w A x c) (hs : s.length ≤ 900000) (hf : Fit 900000 x) (hb : (readA s).2.2 = 0 ∧ (readA s).2.1 = s.length) (hnum : (readA s).1.1 = 312) (U : List Vw) (n9 t9 : Str) (ho : x.V = U ++ [(n9, t9, true)]) (hn : n9 ≠ lastR (readA s).1) :
    Calls Try.prog 20 #[.agg c, .string ⟨s.toArray⟩] w (ToldP w A (replyR x s)) := by
  rw [reply_ok hb]
  have hR := fun W => rread27_any s W hs
  obtain ⟨⟨⟨num, L⟩, n, e⟩, hr⟩ : ∃ r, r = readA s := ⟨_, rfl⟩
  rw [← hr] at hR hb hnum hn ⊢
  simp only at hb hnum hn
  subst hnum
  obtain ⟨rfl, rfl⟩ := hb
  have HE := Lib.hid (be_other (x := { x with R := x.R ++ [((312 : Int), L)] }) (r := 3) (name := lastR (312, L)) (show opn x.V = some (n9, t9) from by rw [ho]; exact opn_snoc _ _ _) hn)
  have hs1 : (n9 == lastR (312, L)) = false := str_f hn
  have hs2 : (n9 != lastR (312, L)) = true := by rw [bne, hs1]; rfl
  clear hn
  have hll : ∀ l ∈ L, l.length ≤ 900000 := fun l hl => Nat.le_trans (by have := read_le s l (by rw [← hr]; exact hl); exact this) hs
  have HLL := Lib.hid hll
  obtain ⟨B, vR, vV, rv, rfl, hp, hA, hlt⟩ := h
  have hrl := hp.lines.1
  obtain ⟨A5, k5, hu⟩ := own_form hp.rown
  subst hu
  obtain ⟨A6, k6, hu⟩ := own_form hp.vown
  subst hu
  have hfl := hf.1
  have hfv := hf.2.1
  obtain ⟨n5, hn5⟩ : ∃ n5, n5 = rv.length := ⟨_, rfl⟩
  obtain ⟨n6, hn6⟩ : ∃ n6, n6 = x.V.length := ⟨_, rfl⟩
  have hn5l : n5 ≤ 1000000 := by omega
  have hn6l : n6 ≤ 1000000 := by omega
  rw [← hn5, ← hn6] at hp hA ⊢
  have HN := Lib.hid hn5
  have HN6 := Lib.hid hn6
  have HP := Lib.hid hp
  have HA := Lib.hid hA
  have HL := Lib.hid hlt
  have HR := Lib.hid hR
  have HF := Lib.hid hf
  clear hp hA hlt hrl hfl hfv hn5 hn6 hR hf hll hr
  obtain ⟨ro, hro⟩ : ∃ ro, ro = x.role := ⟨_, rfl⟩
  obtain ⟨bd, hbd⟩ : ∃ bd, bd = x.bad := ⟨_, rfl⟩
  have HCX := Lib.hid (And.intro hro hbd)
  rw [show cellsX (.slice A5 n5 k5) (.slice A6 n6 k6) x = #[.slice A5 n5 k5, .slice A6 n6 k6, .int .i64 ro, .bool bd] from by rw [hro, hbd]; rfl]
  clear hro hbd
  have XB := (Blk.new w 31 #[.slice A5 n5 k5, .slice A6 n6 k6, .int .i64 ro, .bool bd]).alloc (.cells #[.slice none 0 0, .slice none 0 0, .int .i64 0, .bool false] 31)
  have XR := Blk.new (w.alloc (.cells #[.slice A5 n5 k5, .slice A6 n6 k6, .int .i64 ro, .bool bd] 31)) 31 #[.slice none 0 0, .slice none 0 0, .int .i64 0, .bool false]
  have FA := Lib.hid (((Fr.refl No w).alloc (.cells #[.slice A5 n5 k5, .slice A6 n6 k6, .int .i64 ro, .bool bd] 31)).alloc (.cells #[.slice none 0 0, .slice none 0 0, .int .i64 0, .bool false] 31))
  rw [size_alloc] at XR
  obtain ⟨bx, hbx⟩ : ∃ bx, w.heap.size = bx := ⟨_, rfl⟩
  obtain ⟨br, hbr⟩ : ∃ br, bx + 1 = br := ⟨_, rfl⟩
  rw [hbx] at XB XR
  rw [hbr] at XR
  go_enter Try.func20, Try.ntmps20
  go_wp2_with fail
  try rw [hbx]
  try rw [hbr]
  generalize (w.alloc (.cells #[.slice A5 n5 k5, .slice A6 n6 k6, .int .i64 ro, .bool bd] 31)).alloc (.cells #[.slice none 0 0, .slice none 0 0, .int .i64 0, .bool false] 31) = wa at XB XR FA ⊢
  have XB := Lib.hid XB
  have XR := Lib.hid XR
  have HBX := Lib.hid hbx
  have HBR := Lib.hid hbr
  have hxr : bx ≠ br := by omega
  have hrx : br ≠ bx := by omega
  clear hbx hbr
  refine (HR.out wa).mono ?_
  rintro ee w1 ⟨v, rfl, hv, hf⟩
  obtain ⟨Ar, cr, rfl, -, -⟩ := hv.slice
  have HV := Lib.hid hv
  have HF1 := Lib.hid hf
  clear hv hf
  have hb1 : ((0 : Int) != 0) = false := rfl
  have hb2 : ((s.length : Int) != (s.length : Int)) = false := by simp
  have hf2 : Fr No wa (w1.alloc (.cells #[.int .i64 312, .slice Ar L.length cr] 69)) := HF1.out.alloc _
  have XB2 := XB.out.fr hf2 (fun h => h)
  have x0 := XB2.cell 0
  simp only [List.getElem?_toArray, List.getElem?_cons_zero, List.getElem?_cons_succ] at x0
  have hro : (w1.alloc (.cells #[.int .i64 312, .slice Ar L.length cr] 69)).ownsRow 0 69 2 (.slice A5 n5 k5) n5 (rv.flatMap encR) := by have hq := (HP.out.no (FA.out.then_no hf2)).rown; rw [← HN.out] at hq; exact hq
  have HRO := Lib.hid hro
  have HX2 := Lib.hid XB2
  clear XB2 hro hf2
  go_upto_region 6 with (at_builtin; go_loud (refine wp_push rfl (.tmp 28) (.tmp 30) 28 rfl 69 (.agg #[.int .i64 0, .slice none 0 0]) 2 32 Try.underlying28 infoR rfl (by decide) (.slice A5 n5 k5) n5 _ rfl HRO.out #[.int .i64 312, .slice Ar L.length cr] (by simp [Act.eval]) rfl (by intro u hu; simp at hu; rcases hu with rfl | rfl <;> rfl) (by omega) (by unfold maxLen; omega) ?_; intro g4 cap4 wq p1 p2 p3; have x4 := HX2.out.fr p2 (fun h => (old_not HP.out (by have := HBX.out; omega)).2.2.1 h); have q0 := x4.cell 0; have q1 := x4.frozen 0; simp only [List.getElem?_toArray, List.getElem?_cons_zero, List.getElem?_cons_succ] at q0; have G := Lib.hid (got_told HP.out HA.out HN.out FA.out HBX.out HBR.out XB.out XR.out HV.out HF1.out p1 p2 p3); clear p1 p2 p3 x4))
  generalize wq.setCell ⟨bx, 0, none⟩ (.slice (some ⟨g4, 0, none⟩) (n5 + 1) cap4) = W at G ⊢
  obtain ⟨y5, hy5⟩ : ∃ y5, y5 = w1.heap.size := ⟨_, rfl⟩
  rw [← hy5] at G ⊢
  have HY5 := Lib.hid hy5
  clear x0 q0 q1 hy5
  have x0 := G.out.xb.cell 0
  have x1 := G.out.xb.cell 1
  have x2 := G.out.xb.cell 2
  have x3 := G.out.xb.cell 3
  have xf0 := G.out.xb.frozen 0
  have xf1 := G.out.xb.frozen 1
  have xf2 := G.out.xb.frozen 2
  have xf3 := G.out.xb.frozen 3
  have r0 := G.out.xr.cell 0
  have r1 := G.out.xr.cell 1
  have r2 := G.out.xr.cell 2
  have r3 := G.out.xr.cell 3
  have rf0 := G.out.xr.frozen 0
  have rf1 := G.out.xr.frozen 1
  have rf2 := G.out.xr.frozen 2
  have rf3 := G.out.xr.frozen 3
  simp only [List.getElem?_toArray, List.getElem?_cons_zero, List.getElem?_cons_succ] at x0 x1 x2 x3 r0 r1 r2 r3
  have y0 := G.out.c5.cell 0
  have y1 := G.out.c5.cell 1
  simp only [List.getElem?_toArray, List.getElem?_cons_zero, List.getElem?_cons_succ] at y0 y1
  have hv6 := G.out.rows.vown
  have hl6 := HN6.out
  rw [ho] at hl6
  simp only [List.length_append, List.length_singleton] at hl6
  obtain ⟨m, hm⟩ : ∃ m, m = U.length := ⟨_, rfl⟩
  rw [← hm] at hl6
  subst hl6
  obtain ⟨gV, c9, hgV⟩ := own_pos hv6 (show 0 < x.V.length by rw [ho]; simp)
  injection hgV with hgV h92 h93
  subst hgV
  subst h93
  clear h92
  obtain ⟨v0, v1, v2⟩ := G.out.rows.at_ ho hm
  have hb0 : decide (((m + 1 : Nat) : Int) - 1 ≥ 0) = true := decide_eq_true (by omega)
  have hmc : m + 1 ≤ k6 := by
    rcases HP.out.vown.2 with ⟨h1, h2⟩ | ⟨g, cap, cur, h1, h2, h3, h4, h5, _⟩
    · cases h1
    · injection h1 with _ _ h1; rw [h1]; rw [← HN6.out] at h4; exact h4
  have hmc2 : m ≤ k6 := by omega
  have hlt9 : (m : Int) < (m : Int) + 1 := by omega
  have hxg : bx ≠ gV := fun e => (G.out.hb bx (.inl rfl)).2.2.2 (by rw [e]; rfl)
  have hgx : gV ≠ bx := fun e => hxg e.symm
  have HM := Lib.hid hm
  have HU := Lib.hid ho
  clear hv6 hm ho
  have HK3 := Lib.hid (show ∀ X, Fr No W X → X.cell? ⟨bx, 1, none⟩ = some (.slice (some ⟨gV, 0, none⟩) (m + 1) k6) ∧ X.cell? ⟨gV, m * 3, none⟩ = some (.string ⟨n9.toArray⟩) ∧ X.cell? ⟨y5, 0, none⟩ = some (.int .i64 312) ∧ X.cell? ⟨y5, 1, none⟩ = some (.slice Ar L.length cr) from fun X hX => ⟨(G.out.xb.fr hX (fun h => h)).cell 1, ((G.out.rows.no hX).at_ HU.out HM.out).1, (G.out.c5.fr hX (fun h => h)).cell 0, (G.out.c5.fr hX (fun h => h)).cell 1⟩)
  have HLA := Lib.hid (fun X (hX : Fr No W X) => (rlast_any 312 (.slice Ar L.length cr) L X _ (fun k hk => Nat.lt_of_lt_of_le (G.out.rows.hB k hk).1 hX.size) (str_keep G.out.ls hX (fun k hk => (G.out.rows.hB k hk).1)) HLL.out).mono fun e' w' hh => And.intro hh.1 (hX.then_no hh.2))
  go_upto_region 30 with (fail)
  clear x0 x1 x2 x3 xf0 xf1 xf2 xf3 r0 r1 r2 r3 rf0 rf1 rf2 rf3 v0 v1 v2 y0 y1
  go_region_held3 (fun X => X.cell? ⟨bx, 1, none⟩ = some (.slice (some ⟨gV, 0, none⟩) (m + 1) k6) ∧ X.cell? ⟨gV, m * 3, none⟩ = some (.string ⟨n9.toArray⟩) ∧ X.cell? ⟨y5, 0, none⟩ = some (.int .i64 312) ∧ X.cell? ⟨y5, 1, none⟩ = some (.slice Ar L.length cr)) ((refine HK3.out _ ?_; (repeat' (first | with_reducible assumption | with_reducible exact Fr.refl _ _ | with_reducible refine Fr.drew ?_ | with_reducible refine Fr.drewN ?_ _ | with_reducible refine Fr.alloc ?_ _)))) ((go_at_call 34; refine (HLA.out _ (by (repeat' (first | with_reducible assumption | with_reducible exact Fr.refl _ _ | with_reducible refine Fr.drew ?_ | with_reducible refine Fr.drewN ?_ _ | with_reducible refine Fr.alloc ?_ _)))).mono ?_; rintro e2 w6 ⟨rfl, f6⟩))
  have HX6 := Lib.hid (G.out.xb.fr f6 (fun h => h))
  have HR6 := Lib.hid (G.out.xr.fr f6 (fun h => h))
  have x0 := HX6.out.cell 0
  have x1 := HX6.out.cell 1
  have x2 := HX6.out.cell 2
  have x3 := HX6.out.cell 3
  have xf0 := HX6.out.frozen 0
  have xf1 := HX6.out.frozen 1
  have xf2 := HX6.out.frozen 2
  have xf3 := HX6.out.frozen 3
  have r0 := HR6.out.cell 0
  have r1 := HR6.out.cell 1
  have r2 := HR6.out.cell 2
  have r3 := HR6.out.cell 3
  have rf0 := HR6.out.frozen 0
  have rf1 := HR6.out.frozen 1
  have rf2 := HR6.out.frozen 2
  have rf3 := HR6.out.frozen 3
  simp only [List.getElem?_toArray, List.getElem?_cons_zero, List.getElem?_cons_succ] at x0 x1 x2 x3 r0 r1 r2 r3
  go_wp2_with fail
  have b9 := HR6.out
  have b9 := b9.far (p := ⟨bx, 3, none⟩) hrx (.bool true)
  have b9 := b9.put 0 (.slice (some ⟨g4, 0, none⟩) (n5 + 1) cap4)
  have b9 := b9.put 1 (.slice (some ⟨gV, 0, none⟩) (m + 1) k6)
  have b9 := b9.put 2 (.int .i64 ro)
  have b9 := b9.put 3 (.bool true)
  simp only [List.setIfInBounds_toArray, List.set_cons_zero, List.set_cons_succ] at b9
  have e0 := b9.cell 0
  have e1 := b9.cell 1
  have e2 := b9.cell 2
  have e3 := b9.cell 3
  simp only [List.getElem?_toArray, List.getElem?_cons_zero, List.getElem?_cons_succ] at e0 e1 e2 e3
  clear b9
  refine bodyPost_ret (v := .agg #[.slice (some ⟨g4, 0, none⟩) (n5 + 1) cap4, .slice (some ⟨gV, 0, none⟩) (m + 1) k6, .int .i64 ro, .bool true]) ?_ rfl ?_
  · simp [results, Try.f20, go_sem, e0, e1, e2, e3]
  · rw [show actR { x with R := x.R ++ [((312 : Int), L)] } (312, L) = ({ x with R := x.R ++ [((312 : Int), L)], bad := true } : X) from HE.out]; (try rw [HCX.out.1]); (try rw [HCX.out.2])
    have q := G.out.same (f6)
    exact told_end (bx := bx) (br := br) (y := ({ x with R := x.R ++ [((312 : Int), L)], bad := true } : X)) q.1 (Rows.like q.2.1 rfl rfl) q.2.2.1 HL.out (by repeat (first | with_reducible exact Fr.refl _ _ | with_reducible refine Fr.setCell ?_ (.inl (by first | exact .inl rfl | exact .inr rfl)) _)) q.2.2.2

set_option maxRecDepth 100000 in
set_option maxHeartbeats 4000000 in
theorem told312e (s : Str) (w : World) (A : Nat → Prop) (x : X) (c : Array Value) (h : RB w A x c) (hs : s.length ≤ 900000) (hf : Fit 900000 x) (hb : (readA s).2.2 = 0 ∧ (readA s).2.1 = s.length) (hnum : (readA s).1.1 = 312) (U : List Vw) (n9 t9 : Str) (ho : x.V = U ++ [(n9, t9, true)]) (hn : n9 = lastR (readA s).1) :
    Calls Try.prog 20 #[.agg c, .string ⟨s.toArray⟩] w (ToldP w A (replyR x s)) := by
  rw [reply_ok hb]
  have hR := fun W => rread27_any s W hs
  obtain ⟨⟨⟨num, L⟩, n, e⟩, hr⟩ : ∃ r, r = readA s := ⟨_, rfl⟩
  rw [← hr] at hR hb hnum hn ⊢
  simp only at hb hnum hn
  subst hnum
  obtain ⟨rfl, rfl⟩ := hb
  have HE := Lib.hid (be_same (x := { x with R := x.R ++ [((312 : Int), L)] }) (r := 3) (name := lastR (312, L)) (t := t9) (hn ▸ (show opn x.V = some (n9, t9) from by rw [ho]; exact opn_snoc _ _ _)))
  have HNN := Lib.hid hn
  have hs1 : (n9 == lastR (312, L)) = true := by rw [← hn]; exact beq_self_eq_true _
  have hs2 : (n9 != lastR (312, L)) = false := by rw [bne, hs1]; rfl
  clear hn
  have hll : ∀ l ∈ L, l.length ≤ 900000 := fun l hl => Nat.le_trans (by have := read_le s l (by rw [← hr]; exact hl); exact this) hs
  have HLL := Lib.hid hll
  obtain ⟨B, vR, vV, rv, rfl, hp, hA, hlt⟩ := h
  have hrl := hp.lines.1
  obtain ⟨A5, k5, hu⟩ := own_form hp.rown
  subst hu
  obtain ⟨A6, k6, hu⟩ := own_form hp.vown
  subst hu
  have hfl := hf.1
  have hfv := hf.2.1
  obtain ⟨n5, hn5⟩ : ∃ n5, n5 = rv.length := ⟨_, rfl⟩
  obtain ⟨n6, hn6⟩ : ∃ n6, n6 = x.V.length := ⟨_, rfl⟩
  have hn5l : n5 ≤ 1000000 := by omega
  have hn6l : n6 ≤ 1000000 := by omega
  rw [← hn5, ← hn6] at hp hA ⊢
  have HN := Lib.hid hn5
  have HN6 := Lib.hid hn6
  have HP := Lib.hid hp
  have HA := Lib.hid hA
  have HL := Lib.hid hlt
  have HR := Lib.hid hR
  have HF := Lib.hid hf
  clear hp hA hlt hrl hfl hfv hn5 hn6 hR hf hll hr
  obtain ⟨ro, hro⟩ : ∃ ro, ro = x.role := ⟨_, rfl⟩
  obtain ⟨bd, hbd⟩ : ∃ bd, bd = x.bad := ⟨_, rfl⟩
  have HCX := Lib.hid (And.intro hro hbd)
  rw [show cellsX (.slice A5 n5 k5) (.slice A6 n6 k6) x = #[.slice A5 n5 k5, .slice A6 n6 k6, .int .i64 ro, .bool bd] from by rw [hro, hbd]; rfl]
  clear hro hbd
  have XB := (Blk.new w 31 #[.slice A5 n5 k5, .slice A6 n6 k6, .int .i64 ro, .bool bd]).alloc (.cells #[.slice none 0 0, .slice none 0 0, .int .i64 0, .bool false] 31)
  have XR := Blk.new (w.alloc (.cells #[.slice A5 n5 k5, .slice A6 n6 k6, .int .i64 ro, .bool bd] 31)) 31 #[.slice none 0 0, .slice none 0 0, .int .i64 0, .bool false]
  have FA := Lib.hid (((Fr.refl No w).alloc (.cells #[.slice A5 n5 k5, .slice A6 n6 k6, .int .i64 ro, .bool bd] 31)).alloc (.cells #[.slice none 0 0, .slice none 0 0, .int .i64 0, .bool false] 31))
  rw [size_alloc] at XR
  obtain ⟨bx, hbx⟩ : ∃ bx, w.heap.size = bx := ⟨_, rfl⟩
  obtain ⟨br, hbr⟩ : ∃ br, bx + 1 = br := ⟨_, rfl⟩
  rw [hbx] at XB XR
  rw [hbr] at XR
  go_enter Try.func20, Try.ntmps20
  go_wp2_with fail
  try rw [hbx]
  try rw [hbr]
  generalize (w.alloc (.cells #[.slice A5 n5 k5, .slice A6 n6 k6, .int .i64 ro, .bool bd] 31)).alloc (.cells #[.slice none 0 0, .slice none 0 0, .int .i64 0, .bool false] 31) = wa at XB XR FA ⊢
  have XB := Lib.hid XB
  have XR := Lib.hid XR
  have HBX := Lib.hid hbx
  have HBR := Lib.hid hbr
  have hxr : bx ≠ br := by omega
  have hrx : br ≠ bx := by omega
  clear hbx hbr
  refine (HR.out wa).mono ?_
  rintro ee w1 ⟨v, rfl, hv, hf⟩
  obtain ⟨Ar, cr, rfl, -, -⟩ := hv.slice
  have HV := Lib.hid hv
  have HF1 := Lib.hid hf
  clear hv hf
  have hb1 : ((0 : Int) != 0) = false := rfl
  have hb2 : ((s.length : Int) != (s.length : Int)) = false := by simp
  have hf2 : Fr No wa (w1.alloc (.cells #[.int .i64 312, .slice Ar L.length cr] 69)) := HF1.out.alloc _
  have XB2 := XB.out.fr hf2 (fun h => h)
  have x0 := XB2.cell 0
  simp only [List.getElem?_toArray, List.getElem?_cons_zero, List.getElem?_cons_succ] at x0
  have hro : (w1.alloc (.cells #[.int .i64 312, .slice Ar L.length cr] 69)).ownsRow 0 69 2 (.slice A5 n5 k5) n5 (rv.flatMap encR) := by have hq := (HP.out.no (FA.out.then_no hf2)).rown; rw [← HN.out] at hq; exact hq
  have HRO := Lib.hid hro
  have HX2 := Lib.hid XB2
  clear XB2 hro hf2
  go_upto_region 6 with (at_builtin; go_loud (refine wp_push rfl (.tmp 28) (.tmp 30) 28 rfl 69 (.agg #[.int .i64 0, .slice none 0 0]) 2 32 Try.underlying28 infoR rfl (by decide) (.slice A5 n5 k5) n5 _ rfl HRO.out #[.int .i64 312, .slice Ar L.length cr] (by simp [Act.eval]) rfl (by intro u hu; simp at hu; rcases hu with rfl | rfl <;> rfl) (by omega) (by unfold maxLen; omega) ?_; intro g4 cap4 wq p1 p2 p3; have x4 := HX2.out.fr p2 (fun h => (old_not HP.out (by have := HBX.out; omega)).2.2.1 h); have q0 := x4.cell 0; have q1 := x4.frozen 0; simp only [List.getElem?_toArray, List.getElem?_cons_zero, List.getElem?_cons_succ] at q0; have G := Lib.hid (got_told HP.out HA.out HN.out FA.out HBX.out HBR.out XB.out XR.out HV.out HF1.out p1 p2 p3); clear p1 p2 p3 x4))
  generalize wq.setCell ⟨bx, 0, none⟩ (.slice (some ⟨g4, 0, none⟩) (n5 + 1) cap4) = W at G ⊢
  obtain ⟨y5, hy5⟩ : ∃ y5, y5 = w1.heap.size := ⟨_, rfl⟩
  rw [← hy5] at G ⊢
  have HY5 := Lib.hid hy5
  clear x0 q0 q1 hy5
  have x0 := G.out.xb.cell 0
  have x1 := G.out.xb.cell 1
  have x2 := G.out.xb.cell 2
  have x3 := G.out.xb.cell 3
  have xf0 := G.out.xb.frozen 0
  have xf1 := G.out.xb.frozen 1
  have xf2 := G.out.xb.frozen 2
  have xf3 := G.out.xb.frozen 3
  have r0 := G.out.xr.cell 0
  have r1 := G.out.xr.cell 1
  have r2 := G.out.xr.cell 2
  have r3 := G.out.xr.cell 3
  have rf0 := G.out.xr.frozen 0
  have rf1 := G.out.xr.frozen 1
  have rf2 := G.out.xr.frozen 2
  have rf3 := G.out.xr.frozen 3
  simp only [List.getElem?_toArray, List.getElem?_cons_zero, List.getElem?_cons_succ] at x0 x1 x2 x3 r0 r1 r2 r3
  have y0 := G.out.c5.cell 0
  have y1 := G.out.c5.cell 1
  simp only [List.getElem?_toArray, List.getElem?_cons_zero, List.getElem?_cons_succ] at y0 y1
  have hv6 := G.out.rows.vown
  have hl6 := HN6.out
  rw [ho] at hl6
  simp only [List.length_append, List.length_singleton] at hl6
  obtain ⟨m, hm⟩ : ∃ m, m = U.length := ⟨_, rfl⟩
  rw [← hm] at hl6
  subst hl6
  obtain ⟨gV, c9, hgV⟩ := own_pos hv6 (show 0 < x.V.length by rw [ho]; simp)
  injection hgV with hgV h92 h93
  subst hgV
  subst h93
  clear h92
  obtain ⟨v0, v1, v2⟩ := G.out.rows.at_ ho hm
  have hb0 : decide (((m + 1 : Nat) : Int) - 1 ≥ 0) = true := decide_eq_true (by omega)
  have hmc : m + 1 ≤ k6 := by
    rcases HP.out.vown.2 with ⟨h1, h2⟩ | ⟨g, cap, cur, h1, h2, h3, h4, h5, _⟩
    · cases h1
    · injection h1 with _ _ h1; rw [h1]; rw [← HN6.out] at h4; exact h4
  have hmc2 : m ≤ k6 := by omega
  have hlt9 : (m : Int) < (m : Int) + 1 := by omega
  have hxg : bx ≠ gV := fun e => (G.out.hb bx (.inl rfl)).2.2.2 (by rw [e]; rfl)
  have hgx : gV ≠ bx := fun e => hxg e.symm
  have HM := Lib.hid hm
  have HU := Lib.hid ho
  clear hv6 hm ho
  have HK3 := Lib.hid (show ∀ X, Fr No W X → X.cell? ⟨bx, 1, none⟩ = some (.slice (some ⟨gV, 0, none⟩) (m + 1) k6) ∧ X.cell? ⟨gV, m * 3, none⟩ = some (.string ⟨n9.toArray⟩) ∧ X.cell? ⟨y5, 0, none⟩ = some (.int .i64 312) ∧ X.cell? ⟨y5, 1, none⟩ = some (.slice Ar L.length cr) from fun X hX => ⟨(G.out.xb.fr hX (fun h => h)).cell 1, ((G.out.rows.no hX).at_ HU.out HM.out).1, (G.out.c5.fr hX (fun h => h)).cell 0, (G.out.c5.fr hX (fun h => h)).cell 1⟩)
  have HLA := Lib.hid (fun X (hX : Fr No W X) => (rlast_any 312 (.slice Ar L.length cr) L X _ (fun k hk => Nat.lt_of_lt_of_le (G.out.rows.hB k hk).1 hX.size) (str_keep G.out.ls hX (fun k hk => (G.out.rows.hB k hk).1)) HLL.out).mono fun e' w' hh => And.intro hh.1 (hX.then_no hh.2))
  go_upto_region 30 with (fail)
  clear x0 x1 x2 x3 xf0 xf1 xf2 xf3 r0 r1 r2 r3 rf0 rf1 rf2 rf3 v0 v1 v2 y0 y1
  go_region_held3 (fun X => X.cell? ⟨bx, 1, none⟩ = some (.slice (some ⟨gV, 0, none⟩) (m + 1) k6) ∧ X.cell? ⟨gV, m * 3, none⟩ = some (.string ⟨n9.toArray⟩) ∧ X.cell? ⟨y5, 0, none⟩ = some (.int .i64 312) ∧ X.cell? ⟨y5, 1, none⟩ = some (.slice Ar L.length cr)) ((refine HK3.out _ ?_; (repeat' (first | with_reducible assumption | with_reducible exact Fr.refl _ _ | with_reducible refine Fr.drew ?_ | with_reducible refine Fr.drewN ?_ _ | with_reducible refine Fr.alloc ?_ _)))) ((go_at_call 34; refine (HLA.out _ (by (repeat' (first | with_reducible assumption | with_reducible exact Fr.refl _ _ | with_reducible refine Fr.drew ?_ | with_reducible refine Fr.drewN ?_ _ | with_reducible refine Fr.alloc ?_ _)))).mono ?_; rintro e2 w6 ⟨rfl, f6⟩))
  have HX6 := Lib.hid (G.out.xb.fr f6 (fun h => h))
  have HR6 := Lib.hid (G.out.xr.fr f6 (fun h => h))
  have x0 := HX6.out.cell 0
  have x1 := HX6.out.cell 1
  have x2 := HX6.out.cell 2
  have x3 := HX6.out.cell 3
  have xf0 := HX6.out.frozen 0
  have xf1 := HX6.out.frozen 1
  have xf2 := HX6.out.frozen 2
  have xf3 := HX6.out.frozen 3
  have r0 := HR6.out.cell 0
  have r1 := HR6.out.cell 1
  have r2 := HR6.out.cell 2
  have r3 := HR6.out.cell 3
  have rf0 := HR6.out.frozen 0
  have rf1 := HR6.out.frozen 1
  have rf2 := HR6.out.frozen 2
  have rf3 := HR6.out.frozen 3
  simp only [List.getElem?_toArray, List.getElem?_cons_zero, List.getElem?_cons_succ] at x0 x1 x2 x3 r0 r1 r2 r3
  go_wp2_with fail
  have b9 := HR6.out
  have b9 := b9.far (p := ⟨bx, 2, none⟩) hrx (.int .i64 3)
  have b9 := b9.put 0 (.slice (some ⟨g4, 0, none⟩) (n5 + 1) cap4)
  have b9 := b9.put 1 (.slice (some ⟨gV, 0, none⟩) (m + 1) k6)
  have b9 := b9.put 2 (.int .i64 3)
  have b9 := b9.put 3 (.bool bd)
  simp only [List.setIfInBounds_toArray, List.set_cons_zero, List.set_cons_succ] at b9
  have e0 := b9.cell 0
  have e1 := b9.cell 1
  have e2 := b9.cell 2
  have e3 := b9.cell 3
  simp only [List.getElem?_toArray, List.getElem?_cons_zero, List.getElem?_cons_succ] at e0 e1 e2 e3
  clear b9
  refine bodyPost_ret (v := .agg #[.slice (some ⟨g4, 0, none⟩) (n5 + 1) cap4, .slice (some ⟨gV, 0, none⟩) (m + 1) k6, .int .i64 3, .bool bd]) ?_ rfl ?_
  · simp [results, Try.f20, go_sem, e0, e1, e2, e3]
  · rw [show actR { x with R := x.R ++ [((312 : Int), L)] } (312, L) = ({ x with R := x.R ++ [((312 : Int), L)], role := 3 } : X) from HE.out]; (try rw [HCX.out.1]); (try rw [HCX.out.2])
    have q := G.out.same (f6)
    exact told_end (bx := bx) (br := br) (y := ({ x with R := x.R ++ [((312 : Int), L)], role := 3 } : X)) q.1 (Rows.like q.2.1 rfl rfl) q.2.2.1 HL.out (by repeat (first | with_reducible exact Fr.refl _ _ | with_reducible refine Fr.setCell ?_ (.inl (by first | exact .inl rfl | exact .inr rfl)) _)) q.2.2.2

end Rd
end Go.Proofs.Ytmmdiccpifepfaa
