/- Package seat: its reference: become, next. Printed by gen_seatq.py. -/
import Derived.Test.YtepnjmgacfjhiaaSeatR
import Derived.Test.YtepnjmgacfjhiaaBytes
import Derived.BigQuiet
import Derived.Deep.CutRange
import Derived.Deep.RegionHeld3
import Derived.Outline
namespace Go.Proofs.Ytepnjmgacfjhiaa
open Go.RowKit
set_option linter.unusedVariables false
set_option linter.unusedSimpArgs false
namespace Seat
open Sls
/-- What an act of the reference answers. -/
def RTells (r : St × Sh × Int) (S : Nat → Prop) (w : World) (e : Ending) (w' : World) : Prop :=
  ∃ vL vW v, e = .returned (.tuple #[agS vL vW r.1, v, .int .i64 r.2.2]) ∧ RS w' (fun k => S k ∨ New w w' k) vL vW r.1 ∧ (w'.ownsRow 0 79 2 v r.2.1.length (r.2.1.flatMap encM) ∧ ∀ k, Of v k → New w w' k) ∧ Fr No w w'
theorem own_rm2 {w : World} {base : Nat} {e : TypeId} {v : Value} {l : Sh} {S : Nat → Prop} (h : w.ownsRow base e 2 v l.length (l.flatMap encM)) (hs : ∀ k, Of v k → S k) : RSl 2 RM w S [v] l := own_slE h (fun _ _ => rfl) (fun _ _ => rfl) hs
theorem ints_own {w : World} {base : Nat} {e : TypeId} {v : Value} {l : List Int} {S : Nat → Prop} (h : w.ownsRow base e 1 v l.length (l.map Sint.enc)) (hw : ∀ x ∈ l, (Lit.int .i64 x).wf = true) (hs : ∀ k, Of v k → S k) : RSl 1 (RInt .i64) w S [v] l :=
  ints_go (own_sl h rfl (fun x hx S => ⟨rfl, hw x hx⟩)) (Kept.refl _ _) hs
theorem q_wf {w : World} {S : Nat → Prop} {v : Value} {l : List Int} (h : RSl 1 (RInt .i64) w S [v] l) : ∀ x ∈ l, (Lit.int .i64 x).wf = true := h.wfs
section
variable {w w' : World} {S : Nat → Prop} {vL vW : Value} {s : St}
set_option maxRecDepth 100000 in
set_option maxHeartbeats 8000000 in
theorem rbecome_any (h : RS w S vL vW s) (hq : s.q.length ≤ 4096) (id : Int) : Calls Try.prog 70 #[agS vL vW s, .int .i64 id] w (RTells ((becomeR s id).1, (becomeR s id).2, 0) S w) := by
  obtain ⟨A, c, B, d, rfl, rfl, hA1, hA2, hB1, hB2⟩ := h.forms
  obtain ⟨n, hn⟩ : ∃ n, n = s.L.length := ⟨_, rfl⟩
  obtain ⟨m, hm⟩ : ∃ m, m = s.q.length := ⟨_, rfl⟩
  obtain ⟨wr, hwr⟩ : ∃ wr, wr = s.wr := ⟨_, rfl⟩
  obtain ⟨ms, hms⟩ : ∃ ms, ms = s.most := ⟨_, rfl⟩
  have ag : agS (.slice A s.L.length c) (.slice B s.q.length d) s = .agg #[.slice A n c, .int .i64 ms, .int .i64 wr, .slice B m d] := by rw [hn, hm, hwr, hms]
  rw [ag]
  have HN := Lib.hid hn
  have HM := Lib.hid hm
  have HMS := Lib.hid hms
  have HWR := Lib.hid hwr
  have H := Lib.hid h
  have HQ := Lib.hid hq
  have XB := (Blk.new w 71 #[.slice A n c, .int .i64 ms, .int .i64 wr, .slice B m d]).alloc (.cells #[.slice none 0 0, .int .i64 0, .int .i64 0, .slice none 0 0] 71)
  have XR := Blk.new (w.alloc (.cells #[.slice A n c, .int .i64 ms, .int .i64 wr, .slice B m d] 71)) 71 #[.slice none 0 0, .int .i64 0, .int .i64 0, .slice none 0 0]
  have F1 := ((Fr.refl No w).alloc (.cells #[.slice A n c, .int .i64 ms, .int .i64 wr, .slice B m d] 71)).alloc (.cells #[.slice none 0 0, .int .i64 0, .int .i64 0, .slice none 0 0] 71)
  rw [size_alloc] at XR
  obtain ⟨bx, hbx⟩ : ∃ bx, w.heap.size = bx := ⟨_, rfl⟩
  obtain ⟨br, hbr⟩ : ∃ br, bx + 1 = br := ⟨_, rfl⟩
  rw [hbx] at XB XR
  rw [hbr] at XR
  have XB := Lib.hid XB
  have XR := Lib.hid XR
  have F1 := Lib.hid F1
  have HBX := Lib.hid hbx
  have HBR := Lib.hid hbr
  have hwc : 0 ≤ wr ∧ becomeR s id = (⟨s.L, s.most, id, without s.q id⟩, [(wr, 1), (id, 2)]) ∨ wr < 0 ∧ becomeR s id = (⟨s.L, s.most, id, without s.q id⟩, [(id, 2)]) := by
    unfold becomeR
    rw [← hwr]
    by_cases g : 0 ≤ wr
    · exact .inl ⟨g, by rw [if_pos g]; rfl⟩
    · exact .inr ⟨by omega, by rw [if_neg g]; rfl⟩
  clear h hq ag hn hm hms hwr
  rcases hwc with ⟨hw0, e⟩ | ⟨hw0, e⟩
  · have HE := Lib.hid e
    clear e
    go_enter Try.func70, Try.ntmps70
    go_upto_region 2 with (fail)
    generalize (w.alloc (.cells #[.slice A n c, .int .i64 ms, .int .i64 wr, .slice B m d] 71)).alloc (.cells #[.slice none 0 0, .int .i64 0, .int .i64 0, .slice none 0 0] 71) = w1 at XB XR F1 ⊢
    clear hbx hbr
    have XBo := XB.out
    have x0 := XBo.cell 0
    have x1 := XBo.cell 1
    have x2 := XBo.cell 2
    have x3 := XBo.cell 3
    have xf0 := XBo.frozen 0
    have xf1 := XBo.frozen 1
    have xf2 := XBo.frozen 2
    have xf3 := XBo.frozen 3
    simp only [List.getElem?_toArray, List.getElem?_cons_zero, List.getElem?_cons_succ] at x0 x1 x2 x3
    clear XBo
    go_upto_region 4 with (at_builtin; go_loud (refine wp_push rfl (.tmp 11) (.tmp 15) 61 rfl 79 (.agg #[.int .i64 0, .int .i64 0]) 2 16 Try.underlying61 infoH rfl (by decide) (.slice none 0 0) _ _ rfl (World.ownsRow_nil _ _ _ _) #[.int .i64 wr, .int .i64 1] rfl rfl (by intro u hu; simp at hu; rcases hu with rfl | rfl <;> rfl) (by omega) (by unfold maxLen; omega) ?_; intro g4 cap4 w4 p1 p2 p3; have P1 := Lib.hid p1; have P2 := Lib.hid p2; have P3 := Lib.hid p3; clear p1 p2 p3))
    obtain ⟨g1, hg1⟩ : ∃ g1, g1 = g4 := ⟨_, rfl⟩
    subst hg1
    obtain ⟨cap1, hcap1⟩ : ∃ cap1, cap1 = cap4 := ⟨_, rfl⟩
    subst hcap1
    obtain ⟨w2, hw2⟩ : ∃ w2, w2 = w4 := ⟨_, rfl⟩
    subst hw2
    have F2 := Lib.hid (P2.out.mono (F' := No) (fun k hk _ => of_nil hk))
    have O2 := Lib.hid P1.out
    have N2 := Lib.hid (P3.out.elim (fun g => (of_nil g).elim) (fun g => g))
    clear P1 P2 P3 x0 x1 x2 x3 xf0 xf1 xf2 xf3
    have XB2 := Lib.hid (XB.out.fr F2.out (fun h => h))
    have XR2 := Lib.hid (XR.out.fr F2.out (fun h => h))
    have G2 := Lib.hid (F1.out.then_no F2.out)
    have XBo := XB2.out
    have x0 := XBo.cell 0
    have x1 := XBo.cell 1
    have x2 := XBo.cell 2
    have x3 := XBo.cell 3
    have xf0 := XBo.frozen 0
    have xf1 := XBo.frozen 1
    have xf2 := XBo.frozen 2
    have xf3 := XBo.frozen 3
    simp only [List.getElem?_toArray, List.getElem?_cons_zero, List.getElem?_cons_succ] at x0 x1 x2 x3
    clear XBo
    have hbl := XB2.out.lt
    have hrl := XR2.out.lt
    have HS2 := Lib.hid (H.out.no G2.out)
    have HDR := Lib.hid (Ref29.drop_any _ s.q id w2 S HS2.out.lt HS2.out.q HQ.out)
    rw [← HM.out] at HDR
    go_wp2_with fail
    refine HDR.out.mono ?_
    rintro e w3 ⟨v', rfl, ho, hf3, hn3⟩
    obtain ⟨B3, d3, rfl⟩ := own_form ho
    obtain ⟨m3, hm3⟩ : ∃ m3, m3 = (s.q.filter (· != id)).length := ⟨_, rfl⟩
    rw [← hm3] at ho hn3 ⊢
    have HM3 := Lib.hid hm3
    have HO3 := Lib.hid ho
    have HN3 := Lib.hid hn3
    have G3 := Lib.hid (G2.out.then_no hf3)
    have XB3 := Lib.hid (XB2.out.fr hf3 (fun h => h))
    have XR3 := Lib.hid (XR2.out.fr hf3 (fun h => h))
    have Z3 := Lib.hid hf3
    clear ho hn3 hf3 hm3 x0 x1 x2 x3 xf0 xf1 xf2 xf3
    have XBo := XB3.out
    have x0 := XBo.cell 0
    have x1 := XBo.cell 1
    have x2 := XBo.cell 2
    have x3 := XBo.cell 3
    have xf0 := XBo.frozen 0
    have xf1 := XBo.frozen 1
    have xf2 := XBo.frozen 2
    have xf3 := XBo.frozen 3
    simp only [List.getElem?_toArray, List.getElem?_cons_zero, List.getElem?_cons_succ] at x0 x1 x2 x3
    clear XBo
    go_upto_region 6 with (fail)
    have XB4 := ((XB3.out.put 3 (.slice B3 m3 d3)).put 2 (.int .i64 id))
    simp only [List.setIfInBounds_toArray, List.set_cons_zero, List.set_cons_succ] at XB4
    have hf4 : Fr (fun k => k = bx) w3 ((w3.setCell ⟨bx, 3, none⟩ (.slice B3 m3 d3)).setCell ⟨bx, 2, none⟩ (.int .i64 id)) := Fr.setCell (F := fun k => k = bx) (Fr.setCell (F := fun k => k = bx) (Fr.refl _ _) (p := ⟨bx, 3, none⟩) (.inl rfl) _) (p := ⟨bx, 2, none⟩) (.inl rfl) _
    clear x0 x1 x2 x3 xf0 xf1 xf2 xf3
    generalize (w3.setCell ⟨bx, 3, none⟩ (.slice B3 m3 d3)).setCell ⟨bx, 2, none⟩ (.int .i64 id) = w4 at XB4 hf4 ⊢
    have XB4 := Lib.hid XB4
    have hbr2 : br ≠ bx := by have := HBR.out; omega
    have XR4 := Lib.hid (XR3.out.fr hf4 hbr2)
    have Z4 := Lib.hid hf4
    have O4 := Lib.hid (own_fr (own_fr O2.out Z3.out (fun _ _ h => h)) hf4 (fun k hk e => by have := of_some hk; have e : k = bx := e; have := N2.out.1; have := XB.out.lt; omega))
    have XBo := XB4.out
    have x0 := XBo.cell 0
    have x1 := XBo.cell 1
    have x2 := XBo.cell 2
    have x3 := XBo.cell 3
    have xf0 := XBo.frozen 0
    have xf1 := XBo.frozen 1
    have xf2 := XBo.frozen 2
    have xf3 := XBo.frozen 3
    simp only [List.getElem?_toArray, List.getElem?_cons_zero, List.getElem?_cons_succ] at x0 x1 x2 x3
    have XRo := XR4.out
    have r0 := XRo.cell 0
    have r1 := XRo.cell 1
    have r2 := XRo.cell 2
    have r3 := XRo.cell 3
    have rf0 := XRo.frozen 0
    have rf1 := XRo.frozen 1
    have rf2 := XRo.frozen 2
    have rf3 := XRo.frozen 3
    simp only [List.getElem?_toArray, List.getElem?_cons_zero, List.getElem?_cons_succ] at r0 r1 r2 r3
    have hxl := XB4.out.lt
    have hrl4 := XR4.out.lt
    clear XBo XRo xf0 xf1 xf2 xf3
    have HKX := Lib.hid (fun (X : World) (hf : Fr (Of (.slice (some ⟨g1, 0, none⟩) 1 cap1)) w4 X) => (show X.cell? ⟨bx, 0, none⟩ = some (.slice A n c) ∧ X.cell? ⟨bx, 1, none⟩ = some (.int .i64 ms) ∧ X.cell? ⟨bx, 2, none⟩ = some (.int .i64 id) ∧ X.cell? ⟨bx, 3, none⟩ = some (.slice B3 m3 d3) from by
      have hb := XB4.out.fr hf (fun h => by have := of_some h; have := N2.out.1; have := XB.out.lt; omega)
      exact ⟨hb.cell 0, hb.cell 1, hb.cell 2, hb.cell 3⟩))
    go_region_held3 (fun X => X.cell? ⟨bx, 0, none⟩ = some (.slice A n c) ∧ X.cell? ⟨bx, 1, none⟩ = some (.int .i64 ms) ∧ X.cell? ⟨bx, 2, none⟩ = some (.int .i64 id) ∧ X.cell? ⟨bx, 3, none⟩ = some (.slice B3 m3 d3)) (go_keep) (((first | (refine step_pushD rfl (.tmp 25) (.tmp 28) 61 rfl 79 (.agg #[.int .i64 0, .int .i64 0]) 2 16 Try.underlying61 infoH rfl (by decide) (.slice (some ⟨g1, 0, none⟩) 1 cap1) 1 ([.int .i64 wr, .int .i64 1]) (by simp [Act.eval, Act.put]) O4.out #[.int .i64 id, .int .i64 2] (by simp [Act.eval, Act.put]) rfl (by intro u hu; simp at hu; rcases hu with rfl | rfl <;> rfl) (by omega) (by unfold maxLen; omega) ?_) | (refine step_push rfl (.tmp 25) (.tmp 28) 61 rfl 79 (.agg #[.int .i64 0, .int .i64 0]) 2 16 Try.underlying61 infoH rfl (by decide) (.slice (some ⟨g1, 0, none⟩) 1 cap1) 1 ([.int .i64 wr, .int .i64 1]) (by simp [Act.eval, Act.put]) O4.out #[.int .i64 id, .int .i64 2] (by simp [Act.eval, Act.put]) rfl (by intro u hu; simp at hu; rcases hu with rfl | rfl <;> rfl) (by omega) (by unfold maxLen; omega) ?_)); intro g6 cap6 w6 p1 p2 p3; have k6 := HKX.out w6 p2; obtain ⟨k60, k61, k62, k63⟩ := k6; have xr6 := XR4.out.fr p2 (fun h => by have := of_some h; have := N2.out.1; have := XR.out.lt; omega); have r60 := xr6.cell 0; have r61 := xr6.cell 1; have r62 := xr6.cell 2; have r63 := xr6.cell 3; have rf60 := xr6.frozen 0; have rf61 := xr6.frozen 1; have rf62 := xr6.frozen 2; have rf63 := xr6.frozen 3; simp only [List.getElem?_toArray, List.getElem?_cons_zero, List.getElem?_cons_succ] at r60 r61 r62 r63; have P1 := Lib.hid p1; have P2 := Lib.hid p2; have P3 := Lib.hid p3; have XR6 := Lib.hid xr6; clear p1 p2 p3 xr6))
    go_wp2_with fail
    have hw0' : w.heap.size = bx := HBX.out
    have hbr0 : bx + 1 = br := HBR.out
    have z3 := G3.out.size
    have z4 := Z4.out.size
    have z6 := P2.out.size
    have zd := Z3.out.size
    have zx := XB2.out.lt
    have zr := XR2.out.lt
    have hov : ∀ k, Of (.slice (some ⟨g1, 0, none⟩) 1 cap1) k → bx < k ∧ k < w2.heap.size ∧ k ≠ br := fun k hk => by have := of_some hk; have := N2.out.1; have := N2.out.2; have := XB.out.lt; have := XR.out.lt; omega
    have F6 : Fr No w w6 := (G3.out.trans Z4.out (fun k hk hl => by have hk : k = bx := hk; omega)).trans P2.out (fun k hk hl => by have := (hov k hk).1; omega)
    have f67 : Fr (fun k => k = br) w6 ((((w6.setCell ⟨br, 0, none⟩ (.slice A n c)).setCell ⟨br, 1, none⟩ (.int .i64 ms)).setCell ⟨br, 2, none⟩ (.int .i64 id)).setCell ⟨br, 3, none⟩ (.slice B3 m3 d3)) := Fr.setCell (F := fun k => k = br) (Fr.setCell (F := fun k => k = br) (Fr.setCell (F := fun k => k = br) (Fr.setCell (F := fun k => k = br) (Fr.refl _ _) (p := ⟨br, 0, none⟩) (.inl rfl) _) (p := ⟨br, 1, none⟩) (.inl rfl) _) (p := ⟨br, 2, none⟩) (.inl rfl) _) (p := ⟨br, 3, none⟩) (.inl rfl) _
    have F7 := F6.trans f67 (fun k hk hl => by have hk : k = br := hk; omega)
    have z7 := f67.size
    have hnv : ∀ k, Of (.slice B3 m3 d3) k → w2.heap.size ≤ k ∧ k < w3.heap.size := fun k hk => HN3.out k hk
    have o7 := own_fr (own_fr (own_fr HO3.out Z4.out (fun k hk e => by have := (hnv k hk).1; have e : k = bx := e; omega)) P2.out (fun k hk e => by have := (hnv k hk).1; have := (hov k e).2.1; omega)) f67 (fun k hk e => by have := (hnv k hk).1; have e : k = br := e; omega)
    have hg6 : w.heap.size ≤ g6 ∧ g6 < w6.heap.size ∧ g6 ≠ br := by
      rcases P3.out with g | g
      · have := hov _ g; have := own_lt O4.out _ g; omega
      · have h1 := g.1; have h2 := g.2; have := XR4.out.lt; omega
    have p7 := own_fr P1.out f67 (fun k hk e => by have := of_some hk; have e : k = br := e; omega)
    have l7 := (H.out.no F7).l
    rw [← HN.out] at l7
    have hwf := q_wf H.out.q
    have RSF : RS ((((w6.setCell ⟨br, 0, none⟩ (.slice A n c)).setCell ⟨br, 1, none⟩ (.int .i64 ms)).setCell ⟨br, 2, none⟩ (.int .i64 id)).setCell ⟨br, 3, none⟩ (.slice B3 m3 d3)) (fun k => S k ∨ New w ((((w6.setCell ⟨br, 0, none⟩ (.slice A n c)).setCell ⟨br, 1, none⟩ (.int .i64 ms)).setCell ⟨br, 2, none⟩ (.int .i64 id)).setCell ⟨br, 3, none⟩ (.slice B3 m3 d3)) k) (.slice A n c) (.slice B3 m3 d3) ⟨s.L, s.most, id, without s.q id⟩ := ⟨(RSl.stable RM.stable).go l7 (Kept.refl _ _) (fun k hk => .inl hk), ints_own (l := without s.q id) (by rw [HM3.out] at o7; rw [HM3.out]; exact o7) (fun x hx => hwf x (List.mem_filter.1 hx).1) (fun k hk => .inr ⟨by have := (hnv k hk).1; omega, by have := (hnv k hk).2; omega⟩), fun k hk => hk.elim (fun h => Nat.lt_of_lt_of_le (H.out.lt k h) F7.size) (fun h => h.2)⟩
    have rt : RTells ((becomeR s id).1, (becomeR s id).2, 0) S w (.returned (.tuple #[.agg #[.slice A n c, .int .i64 ms, .int .i64 id, .slice B3 m3 d3], .slice (some ⟨g6, 0, none⟩) (1 + 1) cap6, .int .i64 0])) ((((w6.setCell ⟨br, 0, none⟩ (.slice A n c)).setCell ⟨br, 1, none⟩ (.int .i64 ms)).setCell ⟨br, 2, none⟩ (.int .i64 id)).setCell ⟨br, 3, none⟩ (.slice B3 m3 d3)) := by
      rw [HE.out]
      refine ⟨_, _, _, ?_, RSF, ⟨p7, fun k hk => by have := of_some hk; subst this; exact ⟨hg6.1, by omega⟩⟩, F7⟩
      rw [HMS.out]
    have b9 := (((XR6.out.put 0 (.slice A n c)).put 1 (.int .i64 ms)).put 2 (.int .i64 id)).put 3 (.slice B3 m3 d3)
    simp only [List.setIfInBounds_toArray, List.set_cons_zero, List.set_cons_succ] at b9
    have e0 := b9.cell 0
    have e1 := b9.cell 1
    have e2 := b9.cell 2
    have e3 := b9.cell 3
    simp only [List.getElem?_toArray, List.getElem?_cons_zero, List.getElem?_cons_succ] at e0 e1 e2 e3
    refine bodyPost_ret (v := .tuple #[.agg #[.slice A n c, .int .i64 ms, .int .i64 id, .slice B3 m3 d3], .slice (some ⟨g6, 0, none⟩) (1 + 1) cap6, .int .i64 0]) ?_ rfl rt
    clear b9
    simp [results, Try.f70, go_sem, e0, e1, e2, e3]
  · have HE := Lib.hid e
    clear e
    go_enter Try.func70, Try.ntmps70
    go_upto_region 2 with (fail)
    generalize (w.alloc (.cells #[.slice A n c, .int .i64 ms, .int .i64 wr, .slice B m d] 71)).alloc (.cells #[.slice none 0 0, .int .i64 0, .int .i64 0, .slice none 0 0] 71) = w2 at XB XR F1 ⊢
    clear hbx hbr
    have XB2 := XB
    have XR2 := XR
    have G2 := F1
    have XBo := XB.out
    have x0 := XBo.cell 0
    have x1 := XBo.cell 1
    have x2 := XBo.cell 2
    have x3 := XBo.cell 3
    have xf0 := XBo.frozen 0
    have xf1 := XBo.frozen 1
    have xf2 := XBo.frozen 2
    have xf3 := XBo.frozen 3
    simp only [List.getElem?_toArray, List.getElem?_cons_zero, List.getElem?_cons_succ] at x0 x1 x2 x3
    clear XBo
    go_upto_region 4 with (fail)
    clear x0 x1 x2 x3 xf0 xf1 xf2 xf3
    have XBo := XB2.out
    have x0 := XBo.cell 0
    have x1 := XBo.cell 1
    have x2 := XBo.cell 2
    have x3 := XBo.cell 3
    have xf0 := XBo.frozen 0
    have xf1 := XBo.frozen 1
    have xf2 := XBo.frozen 2
    have xf3 := XBo.frozen 3
    simp only [List.getElem?_toArray, List.getElem?_cons_zero, List.getElem?_cons_succ] at x0 x1 x2 x3
    clear XBo
    have hbl := XB2.out.lt
    have hrl := XR2.out.lt
    have HS2 := Lib.hid (H.out.no G2.out)
    have HDR := Lib.hid (Ref29.drop_any _ s.q id w2 S HS2.out.lt HS2.out.q HQ.out)
    rw [← HM.out] at HDR
    go_wp2_with fail
    refine HDR.out.mono ?_
    rintro e w3 ⟨v', rfl, ho, hf3, hn3⟩
    obtain ⟨B3, d3, rfl⟩ := own_form ho
    obtain ⟨m3, hm3⟩ : ∃ m3, m3 = (s.q.filter (· != id)).length := ⟨_, rfl⟩
    rw [← hm3] at ho hn3 ⊢
    have HM3 := Lib.hid hm3
    have HO3 := Lib.hid ho
    have HN3 := Lib.hid hn3
    have G3 := Lib.hid (G2.out.then_no hf3)
    have XB3 := Lib.hid (XB2.out.fr hf3 (fun h => h))
    have XR3 := Lib.hid (XR2.out.fr hf3 (fun h => h))
    have Z3 := Lib.hid hf3
    clear ho hn3 hf3 hm3 x0 x1 x2 x3 xf0 xf1 xf2 xf3
    have XBo := XB3.out
    have x0 := XBo.cell 0
    have x1 := XBo.cell 1
    have x2 := XBo.cell 2
    have x3 := XBo.cell 3
    have xf0 := XBo.frozen 0
    have xf1 := XBo.frozen 1
    have xf2 := XBo.frozen 2
    have xf3 := XBo.frozen 3
    simp only [List.getElem?_toArray, List.getElem?_cons_zero, List.getElem?_cons_succ] at x0 x1 x2 x3
    clear XBo
    go_upto_region 6 with (fail)
    have XB4 := ((XB3.out.put 3 (.slice B3 m3 d3)).put 2 (.int .i64 id))
    simp only [List.setIfInBounds_toArray, List.set_cons_zero, List.set_cons_succ] at XB4
    have hf4 : Fr (fun k => k = bx) w3 ((w3.setCell ⟨bx, 3, none⟩ (.slice B3 m3 d3)).setCell ⟨bx, 2, none⟩ (.int .i64 id)) := Fr.setCell (F := fun k => k = bx) (Fr.setCell (F := fun k => k = bx) (Fr.refl _ _) (p := ⟨bx, 3, none⟩) (.inl rfl) _) (p := ⟨bx, 2, none⟩) (.inl rfl) _
    clear x0 x1 x2 x3 xf0 xf1 xf2 xf3
    generalize (w3.setCell ⟨bx, 3, none⟩ (.slice B3 m3 d3)).setCell ⟨bx, 2, none⟩ (.int .i64 id) = w4 at XB4 hf4 ⊢
    have XB4 := Lib.hid XB4
    have hbr2 : br ≠ bx := by have := HBR.out; omega
    have XR4 := Lib.hid (XR3.out.fr hf4 hbr2)
    have Z4 := Lib.hid hf4
    have O4 := Lib.hid (World.ownsRow_nil w4 0 79 2)
    have XBo := XB4.out
    have x0 := XBo.cell 0
    have x1 := XBo.cell 1
    have x2 := XBo.cell 2
    have x3 := XBo.cell 3
    have xf0 := XBo.frozen 0
    have xf1 := XBo.frozen 1
    have xf2 := XBo.frozen 2
    have xf3 := XBo.frozen 3
    simp only [List.getElem?_toArray, List.getElem?_cons_zero, List.getElem?_cons_succ] at x0 x1 x2 x3
    have XRo := XR4.out
    have r0 := XRo.cell 0
    have r1 := XRo.cell 1
    have r2 := XRo.cell 2
    have r3 := XRo.cell 3
    have rf0 := XRo.frozen 0
    have rf1 := XRo.frozen 1
    have rf2 := XRo.frozen 2
    have rf3 := XRo.frozen 3
    simp only [List.getElem?_toArray, List.getElem?_cons_zero, List.getElem?_cons_succ] at r0 r1 r2 r3
    have hxl := XB4.out.lt
    have hrl4 := XR4.out.lt
    clear XBo XRo xf0 xf1 xf2 xf3
    have HKX := Lib.hid (fun (X : World) (hf : Fr (Of (.slice none 0 0)) w4 X) => (show X.cell? ⟨bx, 0, none⟩ = some (.slice A n c) ∧ X.cell? ⟨bx, 1, none⟩ = some (.int .i64 ms) ∧ X.cell? ⟨bx, 2, none⟩ = some (.int .i64 id) ∧ X.cell? ⟨bx, 3, none⟩ = some (.slice B3 m3 d3) from by
      have hb := XB4.out.fr hf (fun h => of_nil h)
      exact ⟨hb.cell 0, hb.cell 1, hb.cell 2, hb.cell 3⟩))
    go_region_held3 (fun X => X.cell? ⟨bx, 0, none⟩ = some (.slice A n c) ∧ X.cell? ⟨bx, 1, none⟩ = some (.int .i64 ms) ∧ X.cell? ⟨bx, 2, none⟩ = some (.int .i64 id) ∧ X.cell? ⟨bx, 3, none⟩ = some (.slice B3 m3 d3)) (go_keep) (((first | (refine step_pushD rfl (.tmp 25) (.tmp 28) 61 rfl 79 (.agg #[.int .i64 0, .int .i64 0]) 2 16 Try.underlying61 infoH rfl (by decide) (.slice none 0 0) 0 ([]) (by simp [Act.eval, Act.put]) O4.out #[.int .i64 id, .int .i64 2] (by simp [Act.eval, Act.put]) rfl (by intro u hu; simp at hu; rcases hu with rfl | rfl <;> rfl) (by omega) (by unfold maxLen; omega) ?_) | (refine step_push rfl (.tmp 25) (.tmp 28) 61 rfl 79 (.agg #[.int .i64 0, .int .i64 0]) 2 16 Try.underlying61 infoH rfl (by decide) (.slice none 0 0) 0 ([]) (by simp [Act.eval, Act.put]) O4.out #[.int .i64 id, .int .i64 2] (by simp [Act.eval, Act.put]) rfl (by intro u hu; simp at hu; rcases hu with rfl | rfl <;> rfl) (by omega) (by unfold maxLen; omega) ?_)); intro g6 cap6 w6 p1 p2 p3; have k6 := HKX.out w6 p2; obtain ⟨k60, k61, k62, k63⟩ := k6; have xr6 := XR4.out.fr p2 (fun h => of_nil h); have r60 := xr6.cell 0; have r61 := xr6.cell 1; have r62 := xr6.cell 2; have r63 := xr6.cell 3; have rf60 := xr6.frozen 0; have rf61 := xr6.frozen 1; have rf62 := xr6.frozen 2; have rf63 := xr6.frozen 3; simp only [List.getElem?_toArray, List.getElem?_cons_zero, List.getElem?_cons_succ] at r60 r61 r62 r63; have P1 := Lib.hid p1; have P2 := Lib.hid p2; have P3 := Lib.hid p3; have XR6 := Lib.hid xr6; clear p1 p2 p3 xr6))
    go_wp2_with fail
    have hw0' : w.heap.size = bx := HBX.out
    have hbr0 : bx + 1 = br := HBR.out
    have z3 := G3.out.size
    have z4 := Z4.out.size
    have z6 := P2.out.size
    have zd := Z3.out.size
    have zx := XB2.out.lt
    have zr := XR2.out.lt
    have hov : ∀ k, Of (.slice none 0 0) k → bx < k ∧ k < w2.heap.size ∧ k ≠ br := fun k hk => (of_nil hk).elim
    have F6 : Fr No w w6 := (G3.out.trans Z4.out (fun k hk hl => by have hk : k = bx := hk; omega)).trans P2.out (fun k hk hl => by have := (hov k hk).1; omega)
    have f67 : Fr (fun k => k = br) w6 ((((w6.setCell ⟨br, 0, none⟩ (.slice A n c)).setCell ⟨br, 1, none⟩ (.int .i64 ms)).setCell ⟨br, 2, none⟩ (.int .i64 id)).setCell ⟨br, 3, none⟩ (.slice B3 m3 d3)) := Fr.setCell (F := fun k => k = br) (Fr.setCell (F := fun k => k = br) (Fr.setCell (F := fun k => k = br) (Fr.setCell (F := fun k => k = br) (Fr.refl _ _) (p := ⟨br, 0, none⟩) (.inl rfl) _) (p := ⟨br, 1, none⟩) (.inl rfl) _) (p := ⟨br, 2, none⟩) (.inl rfl) _) (p := ⟨br, 3, none⟩) (.inl rfl) _
    have F7 := F6.trans f67 (fun k hk hl => by have hk : k = br := hk; omega)
    have z7 := f67.size
    have hnv : ∀ k, Of (.slice B3 m3 d3) k → w2.heap.size ≤ k ∧ k < w3.heap.size := fun k hk => HN3.out k hk
    have o7 := own_fr (own_fr (own_fr HO3.out Z4.out (fun k hk e => by have := (hnv k hk).1; have e : k = bx := e; omega)) P2.out (fun k hk e => by have := (hnv k hk).1; have := (hov k e).2.1; omega)) f67 (fun k hk e => by have := (hnv k hk).1; have e : k = br := e; omega)
    have hg6 : w.heap.size ≤ g6 ∧ g6 < w6.heap.size ∧ g6 ≠ br := by
      rcases P3.out with g | g
      · have := hov _ g; have := own_lt O4.out _ g; omega
      · have h1 := g.1; have h2 := g.2; have := XR4.out.lt; omega
    have p7 := own_fr P1.out f67 (fun k hk e => by have := of_some hk; have e : k = br := e; omega)
    have l7 := (H.out.no F7).l
    rw [← HN.out] at l7
    have hwf := q_wf H.out.q
    have RSF : RS ((((w6.setCell ⟨br, 0, none⟩ (.slice A n c)).setCell ⟨br, 1, none⟩ (.int .i64 ms)).setCell ⟨br, 2, none⟩ (.int .i64 id)).setCell ⟨br, 3, none⟩ (.slice B3 m3 d3)) (fun k => S k ∨ New w ((((w6.setCell ⟨br, 0, none⟩ (.slice A n c)).setCell ⟨br, 1, none⟩ (.int .i64 ms)).setCell ⟨br, 2, none⟩ (.int .i64 id)).setCell ⟨br, 3, none⟩ (.slice B3 m3 d3)) k) (.slice A n c) (.slice B3 m3 d3) ⟨s.L, s.most, id, without s.q id⟩ := ⟨(RSl.stable RM.stable).go l7 (Kept.refl _ _) (fun k hk => .inl hk), ints_own (l := without s.q id) (by rw [HM3.out] at o7; rw [HM3.out]; exact o7) (fun x hx => hwf x (List.mem_filter.1 hx).1) (fun k hk => .inr ⟨by have := (hnv k hk).1; omega, by have := (hnv k hk).2; omega⟩), fun k hk => hk.elim (fun h => Nat.lt_of_lt_of_le (H.out.lt k h) F7.size) (fun h => h.2)⟩
    have rt : RTells ((becomeR s id).1, (becomeR s id).2, 0) S w (.returned (.tuple #[.agg #[.slice A n c, .int .i64 ms, .int .i64 id, .slice B3 m3 d3], .slice (some ⟨g6, 0, none⟩) (0 + 1) cap6, .int .i64 0])) ((((w6.setCell ⟨br, 0, none⟩ (.slice A n c)).setCell ⟨br, 1, none⟩ (.int .i64 ms)).setCell ⟨br, 2, none⟩ (.int .i64 id)).setCell ⟨br, 3, none⟩ (.slice B3 m3 d3)) := by
      rw [HE.out]
      refine ⟨_, _, _, ?_, RSF, ⟨p7, fun k hk => by have := of_some hk; subst this; exact ⟨hg6.1, by omega⟩⟩, F7⟩
      rw [HMS.out]
    have b9 := (((XR6.out.put 0 (.slice A n c)).put 1 (.int .i64 ms)).put 2 (.int .i64 id)).put 3 (.slice B3 m3 d3)
    simp only [List.setIfInBounds_toArray, List.set_cons_zero, List.set_cons_succ] at b9
    have e0 := b9.cell 0
    have e1 := b9.cell 1
    have e2 := b9.cell 2
    have e3 := b9.cell 3
    simp only [List.getElem?_toArray, List.getElem?_cons_zero, List.getElem?_cons_succ] at e0 e1 e2 e3
    refine bodyPost_ret (v := .tuple #[.agg #[.slice A n c, .int .i64 ms, .int .i64 id, .slice B3 m3 d3], .slice (some ⟨g6, 0, none⟩) (0 + 1) cap6, .int .i64 0]) ?_ rfl rt
    clear b9
    simp [results, Try.f70, go_sem, e0, e1, e2, e3]
end
end Seat
end Go.Proofs.Ytepnjmgacfjhiaa
