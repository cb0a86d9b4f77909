/- Package seat: its reference: next. Printed by gen_seatx.py. -/
import Derived.Test.YtepnjmgacfjhiaaSeatW
import Derived.Test.YtepnjmgacfjhiaaPush2
import Derived.Deep.Cut
import Derived.BigQuiet
import Derived.Deep.CutRange
import Derived.Deep.RegionHeld3
import Derived.Outline
namespace Go.Proofs.Ytepnjmgacfjhiaa
open Go.RowKit
set_option linter.unusedVariables false
set_option linter.unusedSimpArgs false
namespace Seat
open Sls
/-- What next of the reference answers. -/
def NTells (r : St × Sh) (l0 : Sh) (vo : Value) (S : Nat → Prop) (w : World) (e : Ending) (w' : World) : Prop :=
  ∃ vL vW v, e = .returned (.tuple #[agS vL vW r.1, v, .int .i64 0]) ∧ RS w' (fun k => S k ∨ New w w' k) vL vW r.1 ∧ (w'.ownsRow 0 79 2 v (l0 ++ r.2).length ((l0 ++ r.2).flatMap encM) ∧ ∀ k, Of v k → Of vo k ∨ New w w' k) ∧ Fr (Of vo) w w'
theorem nt_of {w W : World} {S S' : Nat → Prop} {br : Nat} {vL' vW' v vo : Value} {s' : St} {l l0 : Sh} (hF : Fr (Of vo) w W) (hbr : w.heap.size ≤ br) (hR : RS W S' vL' vW' s') (hS : ∀ k, S' k → (S k ∨ New w W k) ∧ k ≠ br) (hSl : ∀ k, S k → k < w.heap.size) (hv : W.ownsRow 0 79 2 v (l0 ++ l).length ((l0 ++ l).flatMap encM)) (hvn : ∀ k, Of v k → (Of vo k ∨ New w W k) ∧ k ≠ br) (a0 a1 a2 a3 : Value) :
    NTells (s', l) l0 vo S w (.returned (.tuple #[agS vL' vW' s', v, .int .i64 0])) ((((W.setCell ⟨br, 0, none⟩ a0).setCell ⟨br, 1, none⟩ a1).setCell ⟨br, 2, none⟩ a2).setCell ⟨br, 3, none⟩ a3) := by
  have f67 : Fr (fun k => k = br) W ((((W.setCell ⟨br, 0, none⟩ a0).setCell ⟨br, 1, none⟩ a1).setCell ⟨br, 2, none⟩ a2).setCell ⟨br, 3, none⟩ a3) := Fr.setCell (F := fun k => k = br) (Fr.setCell (F := fun k => k = br) (Fr.setCell (F := fun k => k = br) (Fr.setCell (F := fun k => k = br) (Fr.refl _ _) (p := ⟨br, 0, none⟩) (.inl rfl) _) (p := ⟨br, 1, none⟩) (.inl rfl) _) (p := ⟨br, 2, none⟩) (.inl rfl) _) (p := ⟨br, 3, none⟩) (.inl rfl) _
  have F7 := hF.trans f67 (fun k hk hl => by have hk : k = br := hk; omega)
  have hz := f67.size
  refine ⟨vL', vW', v, rfl, (hR.fr f67 (fun k hk e => (hS k hk).2 e)).more (fun k hk => (hS k hk).1.elim .inl (fun g => .inr ⟨g.1, Nat.lt_of_lt_of_le g.2 hz⟩)) ?_, ⟨own_fr hv f67 (fun k hk e => (hvn k hk).2 e), fun k hk => (hvn k hk).1.elim .inl (fun g => .inr ⟨g.1, Nat.lt_of_lt_of_le g.2 hz⟩)⟩, F7⟩
  intro k hk
  rcases hk with hk | hk
  · exact Nat.lt_of_lt_of_le (hSl k hk) F7.size
  · exact hk.2
/-- become, as next sees it. -/
def BePost (X w2 : World) (S : Nat → Prop) (st : St) (l8 : Sh) (n8 m8 k8 : Nat) (ms8 wr8 : Int) (e : Ending) (w' : World) : Prop :=
  ∃ A8 c8 B8 d8 A9 c9, e = .returned (.tuple #[.agg #[.slice A8 n8 c8, .int .i64 ms8, .int .i64 wr8, .slice B8 m8 d8], .slice A9 k8 c9, .int .i64 0]) ∧ RS w' (fun k => S k ∨ New X w' k) (.slice A8 n8 c8) (.slice B8 m8 d8) st ∧ w'.ownsRow 0 79 2 (.slice A9 k8 c9) k8 (l8.flatMap encM) ∧ (∀ k, Of (.slice A9 k8 c9) k → New X w' k) ∧ Fr No X w' ∧ Fr No w2 w' ∧ w2.heap.size ≤ X.heap.size
/-- What lies in store behind it. -/
def NxR (w2 wx : World) (S : Nat → Prop) (st : St) (l8 : Sh) (b7 n8 c8 m8 d8 k8 c9 : Nat) (A8 B8 A9 : Option Addr) (ms8 wr8 : Int) : Prop :=
  Blk wx b7 71 #[.slice A8 n8 c8, .int .i64 ms8, .int .i64 wr8, .slice B8 m8 d8] ∧ RS wx (fun k => S k ∨ New w2 wx k) (.slice A8 n8 c8) (.slice B8 m8 d8) st ∧ wx.ownsRow 0 79 2 (.slice A9 k8 c9) k8 (l8.flatMap encM) ∧ (∀ k, Of (.slice A9 k8 c9) k → New w2 wx k) ∧ Fr No w2 wx ∧ w2.heap.size ≤ b7
theorem own_fr2 {e : TypeId} {size : Nat} {w w' : World} {v : Value} {n : Nat} {xs : List Value} {base : Nat} (hf : Fr No w w') (h : w.ownsRow base e size v n xs) : w'.ownsRow base e size v n xs := own_fr h hf (fun b hb h => h)
theorem nx_after {w2 w8 X : World} {S : Nat → Prop} {st : St} {l8 : Sh} {n8 c8 m8 d8 k8 c9 : Nat} {A8 B8 A9 : Option Addr} {ms8 wr8 : Int} (hlt : ∀ k, S k → k < w2.heap.size) (hR : RS w8 (fun k => S k ∨ New X w8 k) (.slice A8 n8 c8) (.slice B8 m8 d8) st) (hv : w8.ownsRow 0 79 2 (.slice A9 k8 c9) k8 (l8.flatMap encM)) (hvn : ∀ k, Of (.slice A9 k8 c9) k → New X w8 k) (hf : Fr No w2 w8) (hX : w2.heap.size ≤ X.heap.size) :
    NxR w2 (w8.alloc (.cells #[.slice A8 n8 c8, .int .i64 ms8, .int .i64 wr8, .slice B8 m8 d8] 71)) S st l8 w8.heap.size n8 c8 m8 d8 k8 c9 A8 B8 A9 ms8 wr8 := by
  have hal : Fr No w8 (w8.alloc (.cells #[.slice A8 n8 c8, .int .i64 ms8, .int .i64 wr8, .slice B8 m8 d8] 71)) := (Fr.refl _ _).alloc _
  have hz := hal.size
  have hz2 := hf.size
  refine ⟨Blk.new w8 _ _, (hR.no hal).more (fun k hk => hk.elim .inl (fun g => .inr ⟨Nat.le_trans hX g.1, Nat.lt_of_lt_of_le g.2 hz⟩)) (fun k hk => ?_), own_fr2 hal hv, fun k hk => ⟨Nat.le_trans hX (hvn k hk).1, Nat.lt_of_lt_of_le (hvn k hk).2 hz⟩, hf.alloc _, hf.size⟩
  rcases hk with g | g
  · have := hlt k g; omega
  · exact g.2
theorem nx_before {w2 w8 X : World} {S : Nat → Prop} {st : St} {l8 : Sh} {n8 c8 m8 d8 k8 c9 : Nat} {A8 B8 A9 : Option Addr} {ms8 wr8 : Int} (hlt : ∀ k, S k → k < w2.heap.size) (hR : RS w8 (fun k => S k ∨ New X w8 k) (.slice A8 n8 c8) (.slice B8 m8 d8) st) (hv : w8.ownsRow 0 79 2 (.slice A9 k8 c9) k8 (l8.flatMap encM)) (hvn : ∀ k, Of (.slice A9 k8 c9) k → New X w8 k) (hf : Fr No w2 w8) (hX : w2.heap.size < X.heap.size) (hb : Blk w8 w2.heap.size 71 #[.slice none 0 0, .int .i64 0, .int .i64 0, .slice none 0 0]) :
    NxR w2 ((((w8.setCell ⟨w2.heap.size, 0, none⟩ (.slice A8 n8 c8)).setCell ⟨w2.heap.size, 1, none⟩ (.int .i64 ms8)).setCell ⟨w2.heap.size, 2, none⟩ (.int .i64 wr8)).setCell ⟨w2.heap.size, 3, none⟩ (.slice B8 m8 d8)) S st l8 w2.heap.size n8 c8 m8 d8 k8 c9 A8 B8 A9 ms8 wr8 := by
  have f67 : Fr (fun k => k = w2.heap.size) w8 ((((w8.setCell ⟨w2.heap.size, 0, none⟩ (.slice A8 n8 c8)).setCell ⟨w2.heap.size, 1, none⟩ (.int .i64 ms8)).setCell ⟨w2.heap.size, 2, none⟩ (.int .i64 wr8)).setCell ⟨w2.heap.size, 3, none⟩ (.slice B8 m8 d8)) := Fr.setCell (F := fun k => k = w2.heap.size) (Fr.setCell (F := fun k => k = w2.heap.size) (Fr.setCell (F := fun k => k = w2.heap.size) (Fr.setCell (F := fun k => k = w2.heap.size) (Fr.refl _ _) (p := ⟨w2.heap.size, 0, none⟩) (.inl rfl) _) (p := ⟨w2.heap.size, 1, none⟩) (.inl rfl) _) (p := ⟨w2.heap.size, 2, none⟩) (.inl rfl) _) (p := ⟨w2.heap.size, 3, none⟩) (.inl rfl) _
  have hz := f67.size
  have hz2 := hf.size
  have b9 := (((hb.put 0 (.slice A8 n8 c8)).put 1 (.int .i64 ms8)).put 2 (.int .i64 wr8)).put 3 (.slice B8 m8 d8)
  simp only [List.setIfInBounds_toArray, List.set_cons_zero, List.set_cons_succ] at b9
  refine ⟨b9, (hR.fr f67 (fun k hk e => ?_)).more (fun k hk => hk.elim .inl (fun g => .inr ⟨by have := g.1; omega, Nat.lt_of_lt_of_le g.2 hz⟩)) (fun k hk => ?_), own_fr hv f67 (fun k hk e => ?_), fun k hk => ⟨by have := (hvn k hk).1; omega, Nat.lt_of_lt_of_le (hvn k hk).2 hz⟩, hf.trans f67 (fun b hb hl => by have hb : b = w2.heap.size := hb; omega), Nat.le_refl _⟩
  · have e : k = w2.heap.size := e
    rcases hk with g | g
    · have := hlt k g; omega
    · have := g.1; omega
  · rcases hk with g | g
    · have := hlt k g; omega
    · exact g.2
  · have e : k = w2.heap.size := e
    have := (hvn k hk).1
    omega
section
variable {w w' : World} {S : Nat → Prop} {vL vW : Value} {s : St}
theorem be_post {X w2 : World} {st : St} {l8 : Sh} {n8 m8 k8 : Nat} {ms8 wr8 : Int} (h : RS X S vL vW s) (hq : s.q.length ≤ 4096) (id : Int) (hst : st = (becomeR s id).1) (hl8 : l8 = (becomeR s id).2) (hn : n8 = st.L.length) (hm : m8 = st.q.length) (hk : k8 = l8.length) (hms : ms8 = st.most) (hwr : wr8 = st.wr) (hf : Fr No w2 X) :
    Calls Try.prog 70 #[agS vL vW s, .int .i64 id] X (BePost X w2 S st l8 n8 m8 k8 ms8 wr8) := by
  refine (rbecome_any h hq id).mono ?_
  rintro e w8 ⟨vL', vW', v, rfl, hR, ⟨hv, hvn⟩, hf8⟩
  obtain ⟨A8, c8, B8, d8, rfl, rfl, -⟩ := hR.forms
  obtain ⟨A9, c9, rfl⟩ := own_form hv
  subst hn hm hk hms hwr
  rw [← hst, ← hl8] at *
  exact ⟨A8, c8, B8, d8, A9, c9, rfl, hR, hv, hvn, hf8, hf.then_no hf8, hf.size⟩
set_option maxRecDepth 100000 in
set_option maxHeartbeats 4000000 in
theorem rnext_any (h : RS w S vL vW s) (hq : s.q.length ≤ 4096) {vo : Value} {l0 : Sh} (ho : w.ownsRow 0 79 2 vo l0.length (l0.flatMap encM)) (hoS : ∀ k, Of vo k → ¬ S k) (hl0 : l0.length ≤ 2) : Calls Try.prog 72 #[agS vL vW s, vo] w (NTells (nextR s) l0 vo S w) := by
  obtain ⟨Ao, co, rfl⟩ := own_form ho
  obtain ⟨no, hno⟩ : ∃ no, no = l0.length := ⟨_, rfl⟩
  rw [← hno] at ho hl0 hoS ⊢
  have HO := Lib.hid ho
  have HNO := Lib.hid hno
  clear ho hno
  obtain ⟨A, c, B, d, rfl, rfl, hA1, hA2, hB1, hB2⟩ := h.forms
  obtain ⟨n, hn⟩ : ∃ n, n = s.L.length := ⟨_, rfl⟩
  obtain ⟨m, hm⟩ : ∃ m, m = s.q.length := ⟨_, rfl⟩
  obtain ⟨wr, hwr⟩ : ∃ wr, wr = s.wr := ⟨_, rfl⟩
  obtain ⟨ms, hms⟩ : ∃ ms, ms = s.most := ⟨_, rfl⟩
  have ag : agS (.slice A s.L.length c) (.slice B s.q.length d) s = .agg #[.slice A n c, .int .i64 ms, .int .i64 wr, .slice B m d] := by rw [hn, hm, hwr, hms]
  rw [ag]
  have AG := Lib.hid ag
  have HN := Lib.hid hn
  have HM := Lib.hid hm
  have HMS := Lib.hid hms
  have HWR := Lib.hid hwr
  have H := Lib.hid h
  have XB := (Blk.new w 71 #[.slice A n c, .int .i64 ms, .int .i64 wr, .slice B m d]).alloc (.cells #[.slice none 0 0, .int .i64 0, .int .i64 0, .slice none 0 0] 71)
  have XR := Blk.new (w.alloc (.cells #[.slice A n c, .int .i64 ms, .int .i64 wr, .slice B m d] 71)) 71 #[.slice none 0 0, .int .i64 0, .int .i64 0, .slice none 0 0]
  have F1 := ((Fr.refl No w).alloc (.cells #[.slice A n c, .int .i64 ms, .int .i64 wr, .slice B m d] 71)).alloc (.cells #[.slice none 0 0, .int .i64 0, .int .i64 0, .slice none 0 0] 71)
  rw [size_alloc] at XR
  obtain ⟨bx, hbx⟩ : ∃ bx, w.heap.size = bx := ⟨_, rfl⟩
  obtain ⟨br, hbr⟩ : ∃ br, bx + 1 = br := ⟨_, rfl⟩
  rw [hbx] at XB XR
  rw [hbr] at XR
  have XB := Lib.hid XB
  have XR := Lib.hid XR
  have F1 := Lib.hid F1
  have HBX := Lib.hid hbx
  have HBR := Lib.hid hbr
  have HBL := Lib.hid (show w.heap.size ≤ br by omega)
  by_cases h0 : s.q = []
  · have HE := Lib.hid (show nextR s = (⟨s.L, s.most, -1, s.q⟩, []) by unfold nextR; rw [h0])
    have hm0 : m = 0 := by rw [hm, h0]; rfl
    clear h hq ag hn hms hwr h0 hm
    subst hm0
    go_enter Try.func72, Try.ntmps72
    go_upto_region 1 with (fail)
    generalize (w.alloc (.cells #[.slice A n c, .int .i64 ms, .int .i64 wr, .slice B 0 d] 71)).alloc (.cells #[.slice none 0 0, .int .i64 0, .int .i64 0, .slice none 0 0] 71) = w1 at XB XR F1 ⊢
    clear hbx hbr
    have XBo := XB.out
    have x0 := XBo.cell 0
    have x1 := XBo.cell 1
    have x2 := XBo.cell 2
    have x3 := XBo.cell 3
    have xf0 := XBo.frozen 0
    have xf1 := XBo.frozen 1
    have xf2 := XBo.frozen 2
    have xf3 := XBo.frozen 3
    simp only [List.getElem?_toArray, List.getElem?_cons_zero, List.getElem?_cons_succ] at x0 x1 x2 x3
    clear XBo
    go_upto_region 2 with (fail)
    have f12 : Fr (fun k => k = bx) w1 (w1.setCell ⟨bx, 2, none⟩ (.int .i64 (-1))) := Fr.setCell (F := fun k => k = bx) (Fr.refl _ _) (p := ⟨bx, 2, none⟩) (.inl rfl) _
    have XB2 := XB.out.put 2 (.int .i64 (-1))
    simp only [List.setIfInBounds_toArray, List.set_cons_zero, List.set_cons_succ] at XB2
    have hR2 := (H.out.no F1.out).fr f12 (fun k hk e => by have e : k = bx := e; have := H.out.lt k hk; have := HBX.out; omega)
    rw [← HN.out, ← HM.out] at hR2
    have HR2 := Lib.hid (show RS (w1.setCell ⟨bx, 2, none⟩ (.int .i64 (-1))) S (.slice A n c) (.slice B 0 d) ⟨s.L, s.most, -1, s.q⟩ from ⟨hR2.l, hR2.q, hR2.lt⟩)
    have hbr3 : br ≠ bx := by have := HBR.out; omega
    have XR2 := Lib.hid (XR.out.fr f12 hbr3)
    have F2 := Lib.hid (F1.out.trans f12 (fun k hk hl => by have hk : k = bx := hk; have := HBX.out; omega))
    have XB2 := Lib.hid XB2
    clear hR2 f12 hbr3
    clear x0 x1 x2 x3 xf0 xf1 xf2 xf3
    generalize w1.setCell ⟨bx, 2, none⟩ (.int .i64 (-1)) = w2 at HR2 XR2 F2 XB2 ⊢
    have XBo := XB2.out
    have x0 := XBo.cell 0
    have x1 := XBo.cell 1
    have x2 := XBo.cell 2
    have x3 := XBo.cell 3
    have xf0 := XBo.frozen 0
    have xf1 := XBo.frozen 1
    have xf2 := XBo.frozen 2
    have xf3 := XBo.frozen 3
    simp only [List.getElem?_toArray, List.getElem?_cons_zero, List.getElem?_cons_succ] at x0 x1 x2 x3
    have XRo := XR2.out
    have r0 := XRo.cell 0
    have r1 := XRo.cell 1
    have r2 := XRo.cell 2
    have r3 := XRo.cell 3
    have rf0 := XRo.frozen 0
    have rf1 := XRo.frozen 1
    have rf2 := XRo.frozen 2
    have rf3 := XRo.frozen 3
    simp only [List.getElem?_toArray, List.getElem?_cons_zero, List.getElem?_cons_succ] at r0 r1 r2 r3
    clear XBo XRo
    go_wp2_with fail
    have hrlt := XR2.out.lt
    have nt := nt_of (S := S) (br := br) (l := []) (l0 := l0) (v := .slice Ao no co) (vo := .slice Ao no co) (F2.out.mono fun b hb _ => by cases hb) HBL.out HR2.out (fun k hk => ⟨.inl hk, fun e => by have := H.out.lt k hk; have := HBL.out; omega⟩) H.out.lt (by rw [List.append_nil, ← HNO.out]; exact own_fr2 F2.out HO.out) (fun k hk => ⟨.inl hk, by have := own_lt HO.out k hk; have := HBL.out; omega⟩) (.slice A n c) (.int .i64 ms) (.int .i64 (-1)) (.slice B 0 d)
    rw [show agS (.slice A n c) (.slice B 0 d) ⟨s.L, s.most, -1, s.q⟩ = .agg #[.slice A n c, .int .i64 ms, .int .i64 (-1), .slice B 0 d] by rw [HMS.out]] at nt
    rw [HE.out]
    have b9 := (((XR2.out.put 0 (.slice A n c)).put 1 (.int .i64 ms)).put 2 (.int .i64 (-1))).put 3 (.slice B 0 d)
    simp only [List.setIfInBounds_toArray, List.set_cons_zero, List.set_cons_succ] at b9
    have e0 := b9.cell 0
    have e1 := b9.cell 1
    have e2 := b9.cell 2
    have e3 := b9.cell 3
    simp only [List.getElem?_toArray, List.getElem?_cons_zero, List.getElem?_cons_succ] at e0 e1 e2 e3
    refine bodyPost_ret (v := .tuple #[.agg #[.slice A n c, .int .i64 ms, .int .i64 (-1), .slice B 0 d], .slice Ao no co, .int .i64 0]) ?_ rfl nt
    clear b9
    simp [results, Try.f72, go_sem, e0, e1, e2, e3]
  · obtain ⟨x, t, hx⟩ := List.exists_cons_of_ne_nil h0
    have HE := Lib.hid (show nextR s = becomeR ⟨s.L, s.most, -1, s.q⟩ x by unfold nextR; rw [hx])
    have hm1 : 1 ≤ m := by rw [hm, hx]; simp
    have hmf : ((m : Int) == 0) = false := by simp; omega
    have hmi : (0 : Int) < (m : Int) := by omega
    have hmi2 : (1 : Int) ≤ (m : Int) := by omega
    have hmn : 0 < m := hm1
    have hmne : m ≠ 0 := by omega
    have hq0 : m ≤ 4096 := by rw [hm]; exact hq
    obtain ⟨st, hst⟩ : ∃ st, st = (becomeR ⟨s.L, s.most, -1, s.q⟩ x).1 := ⟨_, rfl⟩
    obtain ⟨l8, hl8⟩ : ∃ l8, l8 = (becomeR ⟨s.L, s.most, -1, s.q⟩ x).2 := ⟨_, rfl⟩
    obtain ⟨n8, hn8⟩ : ∃ n8, n8 = st.L.length := ⟨_, rfl⟩
    obtain ⟨m8, hm8⟩ : ∃ m8, m8 = st.q.length := ⟨_, rfl⟩
    obtain ⟨k8, hk8⟩ : ∃ k8, k8 = l8.length := ⟨_, rfl⟩
    obtain ⟨ms8, hms8⟩ : ∃ ms8, ms8 = st.most := ⟨_, rfl⟩
    obtain ⟨wr8, hwr8⟩ : ∃ wr8, wr8 = st.wr := ⟨_, rfl⟩
    have hk2 : k8 ≤ 2 := by rw [hk8, hl8]; unfold becomeR; split <;> simp
    obtain ⟨A', c', hv', -, -, hel⟩ := h.q.ints
    obtain ⟨ad, had, hadS, hadc, -⟩ := hel 0 (by rw [hx]; simp)
    injection hv' with e1 e2 e3
    rw [← e1] at had
    subst had
    have had0 : ad.add 0 = ad := by cases ad; rfl
    rw [had0, show s.q[0]'(by rw [hx]; simp) = x by simp [hx]] at hadc
    clear e1 e2 e3 hel had0
    have HADL0 := Lib.hid (H.out.lt _ hadS)
    have HBE2 := Lib.hid (fun (w2 X : World) (hR : RS w2 S (.slice A n c) (.slice (some ad) m d) ⟨s.L, s.most, -1, s.q⟩) (hf : Fr No w2 X) => be_post (hR.no hf) hq x hst hl8 hn8 hm8 hk8 hms8 hwr8 hf)
    rw [show (∀ (w2 X : World) (hR : RS w2 S (.slice A n c) (.slice (some ad) m d) ⟨s.L, s.most, -1, s.q⟩) (hf : Fr No w2 X), Calls Try.prog 70 #[agS (.slice A n c) (.slice (some ad) m d) ⟨s.L, s.most, -1, s.q⟩, .int .i64 x] X (BePost X w2 S st l8 n8 m8 k8 ms8 wr8)) = (∀ (w2 X : World) (hR : RS w2 S (.slice A n c) (.slice (some ad) m d) ⟨s.L, s.most, -1, s.q⟩) (hf : Fr No w2 X), Calls Try.prog 70 #[.agg #[.slice A n c, .int .i64 ms, .int .i64 (-1), .slice (some ad) m d], .int .i64 x] X (BePost X w2 S st l8 n8 m8 k8 ms8 wr8)) by rw [hms]] at HBE2
    have HST := Lib.hid (And.intro hst (And.intro hl8 (And.intro hn8 (And.intro hm8 (And.intro hk8 (And.intro hms8 hwr8))))))
    have HADC := Lib.hid hadc
    clear h ag hn hm hms hwr h0 hx hst hl8 hn8 hm8 hk8 hms8 hwr8 hadc hadS hq
    go_enter Try.func72, Try.ntmps72
    go_upto_region 1 with (fail)
    generalize (w.alloc (.cells #[.slice A n c, .int .i64 ms, .int .i64 wr, .slice (some ad) m d] 71)).alloc (.cells #[.slice none 0 0, .int .i64 0, .int .i64 0, .slice none 0 0] 71) = w1 at XB XR F1 ⊢
    clear hbx hbr
    have XBo := XB.out
    have x0 := XBo.cell 0
    have x1 := XBo.cell 1
    have x2 := XBo.cell 2
    have x3 := XBo.cell 3
    have xf0 := XBo.frozen 0
    have xf1 := XBo.frozen 1
    have xf2 := XBo.frozen 2
    have xf3 := XBo.frozen 3
    simp only [List.getElem?_toArray, List.getElem?_cons_zero, List.getElem?_cons_succ] at x0 x1 x2 x3
    clear XBo
    go_upto_region 2 with (fail)
    have f12 : Fr (fun k => k = bx) w1 (w1.setCell ⟨bx, 2, none⟩ (.int .i64 (-1))) := Fr.setCell (F := fun k => k = bx) (Fr.refl _ _) (p := ⟨bx, 2, none⟩) (.inl rfl) _
    have XB2 := XB.out.put 2 (.int .i64 (-1))
    simp only [List.setIfInBounds_toArray, List.set_cons_zero, List.set_cons_succ] at XB2
    have hR2 := (H.out.no F1.out).fr f12 (fun k hk e => by have e : k = bx := e; have := H.out.lt k hk; have := HBX.out; omega)
    rw [← HN.out, ← HM.out] at hR2
    have HR2 := Lib.hid (show RS (w1.setCell ⟨bx, 2, none⟩ (.int .i64 (-1))) S (.slice A n c) (.slice (some ad) m d) ⟨s.L, s.most, -1, s.q⟩ from ⟨hR2.l, hR2.q, hR2.lt⟩)
    have hbr3 : br ≠ bx := by have := HBR.out; omega
    have XR2 := Lib.hid (XR.out.fr f12 hbr3)
    have F2 := Lib.hid (F1.out.trans f12 (fun k hk hl => by have hk : k = bx := hk; have := HBX.out; omega))
    have XB2 := Lib.hid XB2
    clear hR2 f12 hbr3
    clear x0 x1 x2 x3 xf0 xf1 xf2 xf3
    generalize w1.setCell ⟨bx, 2, none⟩ (.int .i64 (-1)) = w2 at HR2 XR2 F2 XB2 ⊢
    have XBo := XB2.out
    have x0 := XBo.cell 0
    have x1 := XBo.cell 1
    have x2 := XBo.cell 2
    have x3 := XBo.cell 3
    have xf0 := XBo.frozen 0
    have xf1 := XBo.frozen 1
    have xf2 := XBo.frozen 2
    have xf3 := XBo.frozen 3
    simp only [List.getElem?_toArray, List.getElem?_cons_zero, List.getElem?_cons_succ] at x0 x1 x2 x3
    clear XBo
    go_upto_region 4 with (fail)
    go_cut [7, 8] from 7 to 27 (fun p v wx => ∃ (b7 c8 d8 c9 : Nat) (A8 B8 A9 : Option Addr), p = .pointer (some ⟨b7, 0, none⟩) ∧ v = .slice A9 k8 c9 ∧ Hid (NxR w2 wx S st l8 b7 n8 c8 m8 d8 k8 c9 A8 B8 A9 ms8 wr8))
    case first =>
      have HK := Lib.hid (fun (X : World) (hf : Fr No w2 X) => (show X.cell? ⟨bx, 0, none⟩ = some (.slice A n c) ∧ X.cell? ⟨bx, 1, none⟩ = some (.int .i64 ms) ∧ X.cell? ⟨bx, 2, none⟩ = some (.int .i64 (-1)) ∧ X.cell? ⟨bx, 3, none⟩ = some (.slice (some ad) m d) ∧ X.cell? ad = some (.int .i64 x) from by
        have hb := XB2.out.fr hf (fun h => h)
        exact ⟨hb.cell 0, hb.cell 1, hb.cell 2, hb.cell 3, by rw [hf.cell (p := ad) (Nat.lt_of_lt_of_le HADL0.out F2.out.size) (fun h => h)]; rw [F2.out.cell (p := ad) HADL0.out (fun h => h)]; exact HADC.out⟩))
      obtain ⟨x0, x1, x2, x3, x4⟩ := HK.out w2 (Fr.refl _ _)
      have XBo := XB2.out
      have xf0 := XBo.frozen 0
      have xf1 := XBo.frozen 1
      have xf2 := XBo.frozen 2
      have xf3 := XBo.frozen 3
      clear XBo
      go_region_held3 (fun X => X.cell? ⟨bx, 0, none⟩ = some (.slice A n c) ∧ X.cell? ⟨bx, 1, none⟩ = some (.int .i64 ms) ∧ X.cell? ⟨bx, 2, none⟩ = some (.int .i64 (-1)) ∧ X.cell? ⟨bx, 3, none⟩ = some (.slice (some ad) m d) ∧ X.cell? ad = some (.int .i64 x)) ((refine HK.out _ ?_; repeat' (first | with_reducible assumption | with_reducible exact Fr.refl _ _ | with_reducible refine Fr.drew ?_ | with_reducible refine Fr.alloc ?_ _ | with_reducible refine Fr.setCell ?_ (.inr ?_) _ | exact Nat.le_refl _ | exact hf8.size))) (first | (go_at_call 70; refine (HBE2.out w2 _ HR2.out (by repeat' (first | with_reducible assumption | with_reducible exact Fr.refl _ _ | with_reducible refine Fr.drew ?_ | with_reducible refine Fr.alloc ?_ _))).mono ?_; rintro e w8 ⟨A8, c8, B8, d8, A9, c9, rfl, hR, hv, hvn, hfx, hf8, hX8⟩; (first | (have hb7 := (Blk.new w2 71 #[.slice none 0 0, .int .i64 0, .int .i64 0, .slice none 0 0]).fr hfx (fun h => h); have y0 := hb7.cell 0; have y1 := hb7.cell 1; have y2 := hb7.cell 2; have y3 := hb7.cell 3; have yf0 := hb7.frozen 0; have yf1 := hb7.frozen 1; have yf2 := hb7.frozen 2; have yf3 := hb7.frozen 3; simp only [List.getElem?_toArray, List.getElem?_cons_zero, List.getElem?_cons_succ] at y0 y1 y2 y3; have HB7 := Lib.hid hb7; clear hb7) | (have hb7 := Blk.fr (w := (w2.alloc (.cells #[.slice none 0 0, .int .i64 0, .int .i64 0, .slice none 0 0] 71)).drew) (show Blk ((w2.alloc (.cells #[.slice none 0 0, .int .i64 0, .int .i64 0, .slice none 0 0] 71)).drew) w2.heap.size 71 #[.slice none 0 0, .int .i64 0, .int .i64 0, .slice none 0 0] from Blk.new w2 71 #[.slice none 0 0, .int .i64 0, .int .i64 0, .slice none 0 0]) hfx (fun h => h); have y0 := hb7.cell 0; have y1 := hb7.cell 1; have y2 := hb7.cell 2; have y3 := hb7.cell 3; have yf0 := hb7.frozen 0; have yf1 := hb7.frozen 1; have yf2 := hb7.frozen 2; have yf3 := hb7.frozen 3; simp only [List.getElem?_toArray, List.getElem?_cons_zero, List.getElem?_cons_succ] at y0 y1 y2 y3; have HB7 := Lib.hid hb7; clear hb7) | skip); have HR8 := Lib.hid hR; have HV8 := Lib.hid hv; have HVN8 := Lib.hid hvn; have HFX := Lib.hid hfx; clear hR hv hvn))
      · go_wp2_with fail
        go_meet
        case rel => exact ⟨_, _, _, _, _, _, _, rfl, rfl, nx_after HR2.out.lt HR8.out HV8.out HVN8.out hf8 hX8⟩
      · go_wp2_with fail
        go_meet
        case rel => exact ⟨_, _, _, _, _, _, _, rfl, rfl, nx_before HR2.out.lt HR8.out HV8.out HVN8.out hf8 (by show w2.heap.size < (w2.alloc _).heap.size; simp) HB7.out⟩
    case rest =>
      obtain ⟨b7, c8, d8, c9, A8, B8, A9, rfl, rfl, HNX⟩ := hcut
      obtain ⟨w10, hw10⟩ : ∃ w10, w10 = wc := ⟨_, rfl⟩
      subst hw10
      have hfN := HNX.out.2.2.2.2.1
      have BC := Lib.hid HNX.out.1
      have XRC := Lib.hid (XR2.out.fr hfN (fun h => h))
      have FC := Lib.hid (F2.out.then_no hfN)
      have OC := Lib.hid (own_fr2 (F2.out.then_no hfN) HO.out)
      have HFL := Lib.hid (show (l8.flatMap encM).length = k8 * 2 by rw [fm2, HST.out.2.2.2.2.1])
      have NWC := Lib.hid (own_news HNX.out.2.2.1 (by decide))
      have HOX := Lib.hid (show ∀ k, Of (.slice Ao no co) k → ¬ (k = b7 ∨ k = br) from fun k hk => by
        have h1 := own_lt HO.out k hk
        have h2 := F2.out.size
        have h3 := HNX.out.2.2.2.2.2
        have h4 := HBL.out
        omega)
      clear hfN
      have XBo := BC.out
      have x0 := XBo.cell 0
      have x1 := XBo.cell 1
      have x2 := XBo.cell 2
      have x3 := XBo.cell 3
      have xf0 := XBo.frozen 0
      have xf1 := XBo.frozen 1
      have xf2 := XBo.frozen 2
      have xf3 := XBo.frozen 3
      simp only [List.getElem?_toArray, List.getElem?_cons_zero, List.getElem?_cons_succ] at x0 x1 x2 x3
      have XRo := XRC.out
      have r0 := XRo.cell 0
      have r1 := XRo.cell 1
      have r2 := XRo.cell 2
      have r3 := XRo.cell 3
      have rf0 := XRo.frozen 0
      have rf1 := XRo.frozen 1
      have rf2 := XRo.frozen 2
      have rf3 := XRo.frozen 3
      simp only [List.getElem?_toArray, List.getElem?_cons_zero, List.getElem?_cons_succ] at r0 r1 r2 r3
      clear XBo XRo xf0 xf1 xf2 xf3
      have hne1 : br ≠ b7 := by have := XR2.out.lt; have := HNX.out.2.2.2.2.2; omega
      have hne2 : b7 ≠ br := fun e => hne1 e.symm
      go_upto_region 5 with (fail)
      go_region_held3 (fun X => X.cell? ⟨b7, 0, none⟩ = some (.slice A8 n8 c8) ∧ X.cell? ⟨b7, 1, none⟩ = some (.int .i64 ms8) ∧ X.cell? ⟨b7, 2, none⟩ = some (.int .i64 wr8) ∧ X.cell? ⟨b7, 3, none⟩ = some (.slice B8 m8 d8)) (go_keep) (first | (refine Sls.step_app (B := A9) (m := k8) (c := c9) (news := l8.flatMap encM) rfl (.tmp 28) (.tmp 29) 61 rfl 79 (.agg #[.int .i64 0, .int .i64 0]) 2 16 Try.underlying61 infoH rfl (by decide) (.slice Ao no co) no _ (by simp [Act.eval, Act.put]) (own_fr2 (by repeat' (first | with_reducible assumption | with_reducible exact Fr.refl _ _ | with_reducible refine Fr.drew ?_ | with_reducible refine Fr.alloc ?_ _)) OC.out) (by simp [Act.eval, Act.put]) HFL.out NWC.out (encM_one _) (by omega) (by unfold maxLen; omega) ?_; intro v9 w9 p1 p2 p3; have p2 : Fr (Of (.slice Ao no co)) w10 w9 := ⟨p2.os, p2.tape, p2.output, p2.size, p2.block⟩; have b9 := BC.out.fr p2 (fun e => HOX.out _ e (.inl rfl)); have k0 := b9.cell 0; have k1 := b9.cell 1; have k2 := b9.cell 2; have k3 := b9.cell 3; simp only [List.getElem?_toArray, List.getElem?_cons_zero, List.getElem?_cons_succ] at k0 k1 k2 k3; have c9 := XRC.out.fr p2 (fun e => HOX.out _ e (.inr rfl)); have j0 := c9.cell 0; have j1 := c9.cell 1; have j2 := c9.cell 2; have j3 := c9.cell 3; simp only [List.getElem?_toArray, List.getElem?_cons_zero, List.getElem?_cons_succ] at j0 j1 j2 j3; have jf0 := c9.frozen 0; have jf1 := c9.frozen 1; have jf2 := c9.frozen 2; have jf3 := c9.frozen 3; have P1 := Lib.hid p1; have P2 := Lib.hid p2; have P3 := Lib.hid p3; have XR9 := Lib.hid c9; clear p1 p2 p3 b9 c9))
      go_wp2_with fail
      have F9 : Fr (Of (.slice Ao no co)) w w9 := (FC.out.mono (F' := Of (.slice Ao no co)) fun b hb _ => by cases hb).trans P2.out (fun b hb _ => hb)
      have z9 := P2.out.size
      have zC := FC.out.size
      have z2 := F2.out.size
      have nt := nt_of (S := S) (br := br) (l := l8) (l0 := l0) (v := v9) (vo := .slice Ao no co) F9 HBL.out (HNX.out.2.1.fr P2.out (fun k hk e => by
        rcases hk with g | g
        · exact hoS k e g
        · have := own_lt HO.out k e; have := g.1; omega)) (fun k hk => by
        have hbr' := XR2.out.lt
        have hbl := HBL.out
        rcases hk with g | g
        · exact ⟨.inl g, by have := H.out.lt k g; omega⟩
        · exact ⟨.inr ⟨by have := g.1; omega, by have := g.2; omega⟩, by have := g.1; omega⟩) H.out.lt (by rw [List.length_append, List.flatMap_append, ← HNO.out, ← HST.out.2.2.2.2.1]; exact P1.out) (fun k hk => by
        have hbr' := XR2.out.lt
        have hbl := HBL.out
        rcases P3.out k hk with g | g
        · exact ⟨.inl g, by have := own_lt HO.out k g; omega⟩
        · have g : New w10 w9 k := g
          have hc := HNX.out.2.2.2.2.1.size
          exact ⟨.inr ⟨by have := g.1; omega, by have := g.2; omega⟩, by have := g.1; omega⟩) (.slice A8 n8 c8) (.int .i64 ms8) (.int .i64 wr8) (.slice B8 m8 d8)
      obtain ⟨g1, g2, g3, g4, g5, g6, g7⟩ := HST.out
      rw [show agS (.slice A8 n8 c8) (.slice B8 m8 d8) st = .agg #[.slice A8 n8 c8, .int .i64 ms8, .int .i64 wr8, .slice B8 m8 d8] by rw [g6, g7]] at nt
      have HE9 : nextR s = (st, l8) := by rw [HE.out, g1, g2]
      rw [HE9]
      have b9 := (((XR9.out.put 0 (.slice A8 n8 c8)).put 1 (.int .i64 ms8)).put 2 (.int .i64 wr8)).put 3 (.slice B8 m8 d8)
      simp only [List.setIfInBounds_toArray, List.set_cons_zero, List.set_cons_succ] at b9
      have e0 := b9.cell 0
      have e1 := b9.cell 1
      have e2 := b9.cell 2
      have e3 := b9.cell 3
      simp only [List.getElem?_toArray, List.getElem?_cons_zero, List.getElem?_cons_succ] at e0 e1 e2 e3
      refine bodyPost_ret (v := .tuple #[.agg #[.slice A8 n8 c8, .int .i64 ms8, .int .i64 wr8, .slice B8 m8 d8], v9, .int .i64 0]) ?_ rfl nt
      clear b9
      simp [results, Try.f72, go_sem, e0, e1, e2, e3]
end
end Seat
end Go.Proofs.Ytepnjmgacfjhiaa
