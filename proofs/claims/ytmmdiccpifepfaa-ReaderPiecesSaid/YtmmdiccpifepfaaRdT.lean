/- Reader: the reference's told: what is no reply. Printed by gen_rdt.py. -/
import Derived.Test.YtmmdiccpifepfaaRdK
import Derived.Test.YtmmdiccpifepfaaCalm
import Derived.Test.YtmmdiccpifepfaaStill
import Derived.Deep.CutRange
namespace Go.Proofs.Ytmmdiccpifepfaa
open Go.RowKit
set_option linter.unusedVariables false
set_option linter.unusedSimpArgs false
namespace Rd
open Ans Digit Sls Word

theorem Rows.like {T : TypeId} {w : World} {B : Nat → Prop} {vR vV : Value} {rv : List (Int × Value)} {x y : X} (h : Rows T w B vR vV rv x) (hR : y.R = x.R) (hV : y.V = x.V) : Rows T w B vR vV rv y :=
  ⟨h.rown, by rw [hR]; exact h.lines, by rw [hV]; exact h.vown, h.hRV, h.hB⟩
theorem old_not {T : TypeId} {w : World} {B : Nat → Prop} {vR vV : Value} {rv : List (Int × Value)} {x : X} (h : Rows T w B vR vV rv x) {k : Nat} (hk : w.heap.size ≤ k) : w.heap.size ≤ k ∧ ¬ B k ∧ ¬ Of vR k ∧ ¬ Of vV k :=
  ⟨hk, fun h1 => by have := (h.hB k h1).1; omega, fun h1 => by have := of_lt h.rown k h1; omega, fun h1 => by have := of_lt h.vown k h1; omega⟩
theorem lit_then {W Wx w6 : World} {b0 n c : Nat} (hf : Fr No W Wx) (hb : W.heap.size ≤ b0) (p2 : Fr (Of (.slice (some ⟨b0, 0, none⟩) n c)) Wx w6) : Fr No W w6 := hf.trans p2 fun b hb' hl => by
  have h : some b0 = some b := hb'
  injection h with h
  omega
theorem of_at {b0 n c k : Nat} (h : Of (.slice (some ⟨b0, 0, none⟩) n c) k) : k = b0 := by
  have h : some b0 = some k := h
  injection h with h
  exact h.symm
/-- What stands behind the push of a reply. -/
structure GotT (W w : World) (A B : Nat → Prop) (vR vV : Value) (rv : List (Int × Value)) (y : X) (bx br by_ : Nat) (cx cz : Array Value) (num : Int) (v : Value) (L : List Str) : Prop where
  rows : Rows TV W B vR vV rv y
  hA : ∀ k, B k ∨ Of vR k ∨ Of vV k → A k ∨ New w W k
  fr : Fr A w W
  ls : RSl 1 RStr W B [v] L
  xb : Blk W bx 31 cx
  xr : Blk W br 31 cz
  c5 : Blk W by_ 69 #[.int .i64 num, v]
  hb : ∀ k, k = bx ∨ k = br → w.heap.size ≤ k ∧ ¬ B k ∧ ¬ Of vR k ∧ ¬ Of vV k
  ne : by_ ≠ bx ∧ by_ ≠ br
section
variable {W w w7 : World} {A B : Nat → Prop} {vR vV v : Value} {rv : List (Int × Value)} {y : X} {bx br by_ n7 g7 c7 : Nat} {cx cz : Array Value} {num : Int} {L : List Str}
theorem GotT.same (h : GotT W w A B vR vV rv y bx br by_ cx cz num v L) (hf : Fr No W w7) :
    Fr A w w7 ∧ Rows TV w7 B vR vV rv y ∧ (∀ k, B k ∨ Of vR k ∨ Of vV k → A k ∨ New w w7 k) ∧ ∀ k, k = bx ∨ k = br → w.heap.size ≤ k ∧ ¬ B k ∧ ¬ Of vR k ∧ ¬ Of vV k :=
  ⟨h.fr.then_no hf, h.rows.no hf, fun k hk => (h.hA k hk).imp id fun h => ⟨h.1, Nat.lt_of_lt_of_le h.2 hf.size⟩, h.hb⟩
theorem GotT.setV {V : List Vw} (h : GotT W w A B vR vV rv y bx br by_ cx cz num v L) (t : Laid TV W w7 g7 n7 c7 (V.flatMap encV)) (hn : n7 = V.length) :
    Fr A w w7 ∧ Rows TV w7 B vR (.slice (some ⟨g7, 0, none⟩) n7 c7) rv { y with V := V } ∧ (∀ k, B k ∨ Of vR k ∨ Of (.slice (some ⟨g7, 0, none⟩) n7 c7) k → A k ∨ New w w7 k) ∧ ∀ k, k = bx ∨ k = br → w.heap.size ≤ k ∧ ¬ B k ∧ ¬ Of vR k ∧ ¬ Of (.slice (some ⟨g7, 0, none⟩) n7 c7) k := by
  have hsz := h.fr.size
  refine ⟨h.fr.then_no t.fr, h.rows.setV t.fr t.own hn (fun k hk => (of_at hk) ▸ t.new), fun k hk => ?_, fun k hk => ⟨(h.hb k hk).1, (h.hb k hk).2.1, (h.hb k hk).2.2.1, fun hk' => ?_⟩⟩
  · rcases hk with hk | hk | hk
    · exact (h.hA k (.inl hk)).imp id fun h => ⟨h.1, Nat.lt_of_lt_of_le h.2 t.fr.size⟩
    · exact (h.hA k (.inr (.inl hk))).imp id fun h => ⟨h.1, Nat.lt_of_lt_of_le h.2 t.fr.size⟩
    · rw [of_at hk]; exact .inr ⟨Nat.le_trans hsz t.new.1, t.new.2⟩
  · have e := of_at hk'
    have h1 := t.new.1
    have h2 := h.xb.lt
    have h3 := h.xr.lt
    rcases hk with rfl | rfl <;> omega
theorem GotT.turn {W1 : World} (h : GotT W w A B vR vV rv y bx br by_ cx cz num v L) (hf : Fr No W W1) : GotT W1 w A B vR vV rv y bx br by_ cx cz num v L :=
  ⟨(h.same hf).2.1, (h.same hf).2.2.1, (h.same hf).1, str_keep h.ls hf (fun k hk => (h.rows.hB k hk).1), h.xb.fr hf (fun h => h), h.xr.fr hf (fun h => h), h.c5.fr hf (fun h => h), h.hb, h.ne⟩
theorem GotT.set2 {W1 : World} {a0 a1 a2 a3 : Value} (h : GotT W w A B vR vV rv y bx br by_ #[a0, a1, a2, a3] cz num v L) (hxr : bx ≠ br) (hf : Fr No W W1) (u : Value) : GotT (W1.setCell ⟨bx, 2, none⟩ u) w A B vR vV rv y bx br by_ #[a0, a1, u, a3] cz num v L := by
  have hfx : Fr (fun k => k = bx) W (W1.setCell ⟨bx, 2, none⟩ u) := (hf.no (fun k => k = bx)).setCell (p := ⟨bx, 2, none⟩) (.inl rfl) u
  have hn : ∀ k, k = bx → ¬ B k ∧ ¬ Of vR k ∧ ¬ Of vV k := fun k hk => (h.hb k (.inl hk)).2
  refine ⟨h.rows.fr hfx (fun k hk e => (hn k e).2.1 hk) (fun k hk e => (hn k e).2.2 hk) (fun k hk e => (hn k e).1 hk), fun k hk => (h.hA k hk).imp id fun h => ⟨h.1, Nat.lt_of_lt_of_le h.2 hfx.size⟩, h.fr.trans hfx (fun k hk hl => by have := (h.hb k (.inl hk)).1; omega), (RSl.stable RStr.stable).go h.ls (Kept.of_fr hfx (fun k hk => ⟨(h.rows.hB k hk).1, fun e => (hn k e).1 hk⟩)) (fun _ hk => hk), ?_, ((h.xr.fr hf (fun h => h)).far (p := ⟨bx, 2, none⟩) (fun e => hxr e.symm) u), ((h.c5.fr hf (fun h => h)).far (p := ⟨bx, 2, none⟩) h.ne.1 u), h.hb, h.ne⟩
  simpa using (h.xb.fr hf (fun h => h)).put 2 u
theorem GotT.push {w6 : World} {u : Vw} (h : GotT W w A B vR vV rv y bx br by_ cx cz num v L) (hA : ∀ k, Of vV k → A k ∨ New w W k) (f6 : Fr No W w6) (q1 : w7.ownsRow 0 TV 3 (.slice (some ⟨g7, 0, none⟩) n7 c7) n7 (y.V.flatMap encV ++ encV u)) (hn : n7 = y.V.length + 1) (q2 : Fr (Of vV) w6 w7) (q3 : Of vV g7 ∨ New w6 w7 g7) :
    Fr A w w7 ∧ Rows TV w7 B vR (.slice (some ⟨g7, 0, none⟩) n7 c7) rv { y with V := y.V ++ [u] } ∧ (∀ k, B k ∨ Of vR k ∨ Of (.slice (some ⟨g7, 0, none⟩) n7 c7) k → A k ∨ New w w7 k) ∧ ∀ k, k = bx ∨ k = br → w.heap.size ≤ k ∧ ¬ B k ∧ ¬ Of vR k ∧ ¬ Of (.slice (some ⟨g7, 0, none⟩) n7 c7) k := by
  have s1 := h.fr.size
  have s2 := f6.size
  have s3 := q2.size
  have hfw : Fr A w w7 := (h.fr.then_no f6).trans q2 (fun k hk hl => (hA k hk).elim id fun h => by have := h.1; omega)
  refine ⟨hfw, Rows.vpush (h.rows.no f6) q1 hn q2 q3, fun k hk => ?_, fun k hk => ⟨(h.hb k hk).1, (h.hb k hk).2.1, (h.hb k hk).2.2.1, fun hk' => ?_⟩⟩
  · rcases hk with hk | hk | hk
    · exact (h.hA k (.inl hk)).imp id fun h => ⟨h.1, by have := h.2; omega⟩
    · exact (h.hA k (.inr (.inl hk))).imp id fun h => ⟨h.1, by have := h.2; omega⟩
    · rw [of_at hk]
      rcases q3 with h3 | h3
      · exact (hA _ h3).imp id fun h => ⟨h.1, by have := h.2; omega⟩
      · exact .inr ⟨by have := h3.1; omega, h3.2⟩
  · have e := of_at hk'
    subst e
    have h2 := h.xb.lt
    have h3 := h.xr.lt
    rcases q3 with h4 | h4
    · exact (h.hb _ hk).2.2.2 h4
    · have := h4.1; rcases hk with hk | hk <;> omega
end
theorem got_told {w wa w1 w4 : World} {A B : Nat → Prop} {n5 k5 g4 cap4 cr bx br : Nat} {x : X} {num : Int} {L : List Str} {A5 Ar : Option Addr} {vV : Value} {rv : List (Int × Value)} {a1 a2 a3 : Value} {cz : Array Value}
    (hP : Rows TV w B (.slice A5 n5 k5) vV rv x) (hA : ∀ k, B k ∨ Of (.slice A5 n5 k5) k ∨ Of vV k → A k) (hn : n5 = rv.length) (fa : Fr No w wa) (hbx : w.heap.size = bx) (hbr : bx + 1 = br)
    (XB : Blk wa bx 31 #[.slice A5 n5 k5, a1, a2, a3]) (XR : Blk wa br 31 cz)
    (hv : RSl 1 RStr w1 (New wa w1) [.slice Ar L.length cr] L) (hf : Fr No wa w1)
    (p1 : w4.ownsRow 0 69 2 (.slice (some ⟨g4, 0, none⟩) (n5 + 1) cap4) (n5 + 1) (rv.flatMap encR ++ [.int .i64 num, .slice Ar L.length cr]))
    (p2 : Fr (Of (.slice A5 n5 k5)) (w1.alloc (.cells #[.int .i64 num, .slice Ar L.length cr] 69)) w4) (p3 : Of (.slice A5 n5 k5) g4 ∨ New (w1.alloc (.cells #[.int .i64 num, .slice Ar L.length cr] 69)) w4 g4) :
    GotT (w4.setCell ⟨bx, 0, none⟩ (.slice (some ⟨g4, 0, none⟩) (n5 + 1) cap4)) w A (fun k => B k ∨ New wa w1 k) (.slice (some ⟨g4, 0, none⟩) (n5 + 1) cap4) vV (rv ++ [(num, .slice Ar L.length cr)]) { x with R := x.R ++ [(num, L)] } bx br w1.heap.size #[.slice (some ⟨g4, 0, none⟩) (n5 + 1) cap4, a1, a2, a3] cz num (.slice Ar L.length cr) L := by
  have f1 : Fr No w w1 := fa.then_no hf
  have fb : Fr No w1 (w1.alloc (.cells #[.int .i64 num, .slice Ar L.length cr] 69)) := (Fr.refl No w1).alloc _
  have h1 := hP.more (G := New wa w1) f1 (fun k hk => ⟨Nat.le_trans fa.size hk.1, hk.2⟩)
  have h2 := h1.no fb
  have hl1 : RSl 1 RStr w1 (fun k => B k ∨ New wa w1 k) [.slice Ar L.length cr] L := (RSl.stable RStr.stable).go hv (Kept.refl _ _) (fun k hk => .inr hk)
  have hl2 := str_keep hl1 fb (fun k hk => (h1.hB k hk).1)
  have h4 := Rows.rpush h2 hl2 (w1 := w4) (num := num) (by exact p1) (by rw [hn]) p2 p3
  have lx := XB.lt
  have lr := XR.lt
  have s1 := hf.size
  have hbw : ∀ k, k = bx ∨ k = br → w.heap.size ≤ k ∧ ¬ (B k ∨ New wa w1 k) ∧ ¬ Of (.slice (some ⟨g4, 0, none⟩) (n5 + 1) cap4) k ∧ ¬ Of vV k := by
    intro k hk
    have hkw : w.heap.size ≤ k ∧ k < wa.heap.size := by rcases hk with rfl | rfl <;> omega
    obtain ⟨o1, o2, o3, o4⟩ := old_not hP hkw.1
    refine ⟨o1, fun h => h.elim o2 fun h => by have := h.1; omega, fun h => ?_, o4⟩
    have h : some g4 = some k := h
    injection h with h
    subst h
    rcases p3 with h3 | h3
    · exact o3 h3
    · have := h3.1; rw [size_alloc] at this; omega
  have hfx : Fr (fun k => k = bx) w4 (w4.setCell ⟨bx, 0, none⟩ (.slice (some ⟨g4, 0, none⟩) (n5 + 1) cap4)) := Fr.setCell (F := fun k => k = bx) (Fr.refl _ _) (p := ⟨bx, 0, none⟩) (.inl rfl) _
  have hrows := h4.fr hfx (fun k hk e => (hbw k (.inl e)).2.2.1 hk) (fun k hk e => (hbw k (.inl e)).2.2.2 hk) (fun k hk e => (hbw k (.inl e)).2.1 hk)
  have hfw : Fr A w w4 := ((f1.then_no fb).no A).trans p2 (fun k hk _ => hA k (.inr (.inl hk)))
  have ho5 : ∀ k, k = bx ∨ k = br → ¬ Of (.slice A5 n5 k5) k := fun k hk => (old_not hP (by rcases hk with rfl | rfl <;> omega)).2.2.1
  have fL : Fr (fun k => Of (.slice A5 n5 k5) k ∨ k = bx) (w1.alloc (.cells #[.int .i64 num, .slice Ar L.length cr] 69)) (w4.setCell ⟨bx, 0, none⟩ (.slice (some ⟨g4, 0, none⟩) (n5 + 1) cap4)) := (p2.mono (fun k hk _ => .inl hk)).trans hfx (fun k hk _ => .inr hk)
  refine ⟨hrows, fun k hk => ?_, hfw.trans hfx (fun k hk hl => by omega), (RSl.stable RStr.stable).go hl2 (Kept.of_fr fL (fun k hk => ⟨(h2.hB k hk).1, fun hh => hh.elim (h2.hB k hk).2.1 (fun e => (hbw k (.inl e)).2.1 hk)⟩)) (fun k hk => hk), ?_, ?_, ?_, hbw, by omega, by omega⟩
  · have hs4 := p2.size
    rw [size_alloc] at hs4
    rcases hk with (hk | hk) | hk | hk
    · exact .inl (hA k (.inl hk))
    · exact .inr ⟨Nat.le_trans fa.size hk.1, by rw [size_setCell]; have := hk.2; omega⟩
    · have hk : some g4 = some k := hk
      injection hk with hk
      subst hk
      rcases p3 with h3 | h3
      · exact .inl (hA _ (.inr (.inl h3)))
      · have h5 := h3.1; rw [size_alloc] at h5
        exact .inr ⟨by have := f1.size; omega, by rw [size_setCell]; exact h3.2⟩
    · exact .inl (hA k (.inr (.inr hk)))
  · simpa using ((XB.fr (hf.then_no fb) (fun h => h)).fr p2 (ho5 bx (.inl rfl))).put 0 (.slice (some ⟨g4, 0, none⟩) (n5 + 1) cap4)
  · exact ((XR.fr (hf.then_no fb) (fun h => h)).fr p2 (ho5 br (.inr rfl))).far (p := ⟨bx, 0, none⟩) (by show br ≠ bx; omega) _
  · refine ((Blk.new w1 69 #[.int .i64 num, .slice Ar L.length cr]).fr p2 (fun h => ?_)).far (p := ⟨bx, 0, none⟩) (by show w1.heap.size ≠ bx; omega) _
    have := of_lt h1.rown _ h; omega
set_option maxRecDepth 100000 in
set_option maxHeartbeats 4000000 in
theorem told_bad (s : Str) (w : World) (A : Nat → Prop) (x : X) (c : Array Value) (h : RB w A x c) (hs : s.length ≤ 900000) (hf : Fit 900000 x) (hb : ¬ ((readA s).2.2 = 0 ∧ (readA s).2.1 = s.length)) :
    Calls Try.prog 20 #[.agg c, .string ⟨s.toArray⟩] w (ToldP w A (replyR x s)) := by
  rw [reply_bad hb]
  have hR := fun W => rread27_any s W hs
  obtain ⟨⟨⟨num, L⟩, n, e⟩, hr⟩ : ∃ r, r = readA s := ⟨_, rfl⟩
  rw [← hr] at hR hb
  simp only at hb
  have hll : ∀ l ∈ L, l.length ≤ 900000 := fun l hl => Nat.le_trans (by have := read_le s l (by rw [← hr]; exact hl); exact this) hs
  have HLL := Lib.hid hll
  obtain ⟨B, vR, vV, rv, rfl, hp, hA, hlt⟩ := h
  have hrl := hp.lines.1
  obtain ⟨A5, k5, hu⟩ := own_form hp.rown
  subst hu
  obtain ⟨A6, k6, hu⟩ := own_form hp.vown
  subst hu
  have hfl := hf.1
  have hfv := hf.2.1
  obtain ⟨n5, hn5⟩ : ∃ n5, n5 = rv.length := ⟨_, rfl⟩
  obtain ⟨n6, hn6⟩ : ∃ n6, n6 = x.V.length := ⟨_, rfl⟩
  have hn5l : n5 ≤ 1000000 := by omega
  have hn6l : n6 ≤ 1000000 := by omega
  rw [← hn5, ← hn6] at hp hA ⊢
  have HN := Lib.hid hn5
  have HN6 := Lib.hid hn6
  have HP := Lib.hid hp
  have HA := Lib.hid hA
  have HL := Lib.hid hlt
  have HR := Lib.hid hR
  have HF := Lib.hid hf
  clear hp hA hlt hrl hfl hfv hn5 hn6 hR hf hll hr
  obtain ⟨ro, hro⟩ : ∃ ro, ro = x.role := ⟨_, rfl⟩
  obtain ⟨bd, hbd⟩ : ∃ bd, bd = x.bad := ⟨_, rfl⟩
  have HCX := Lib.hid (And.intro hro hbd)
  rw [show cellsX (.slice A5 n5 k5) (.slice A6 n6 k6) x = #[.slice A5 n5 k5, .slice A6 n6 k6, .int .i64 ro, .bool bd] from by rw [hro, hbd]; rfl]
  clear hro hbd
  have hpick : (e != 0) = true ∨ ((e : Int) = 0 ∧ ((n : Int) != (s.length : Int)) = true) := by
    by_cases he : e = 0
    · exact .inr ⟨he, by rw [bne_iff_ne]; intro h1; exact hb ⟨he, by omega⟩⟩
    · exact .inl (by simpa using he)
  clear hb
  have XB := (Blk.new w 31 #[.slice A5 n5 k5, .slice A6 n6 k6, .int .i64 ro, .bool bd]).alloc (.cells #[.slice none 0 0, .slice none 0 0, .int .i64 0, .bool false] 31)
  have XR := Blk.new (w.alloc (.cells #[.slice A5 n5 k5, .slice A6 n6 k6, .int .i64 ro, .bool bd] 31)) 31 #[.slice none 0 0, .slice none 0 0, .int .i64 0, .bool false]
  have FA := Lib.hid (((Fr.refl No w).alloc (.cells #[.slice A5 n5 k5, .slice A6 n6 k6, .int .i64 ro, .bool bd] 31)).alloc (.cells #[.slice none 0 0, .slice none 0 0, .int .i64 0, .bool false] 31))
  rw [size_alloc] at XR
  obtain ⟨bx, hbx⟩ : ∃ bx, w.heap.size = bx := ⟨_, rfl⟩
  obtain ⟨br, hbr⟩ : ∃ br, bx + 1 = br := ⟨_, rfl⟩
  rw [hbx] at XB XR
  rw [hbr] at XR
  go_enter Try.func20, Try.ntmps20
  go_wp2_with fail
  try rw [hbx]
  try rw [hbr]
  generalize (w.alloc (.cells #[.slice A5 n5 k5, .slice A6 n6 k6, .int .i64 ro, .bool bd] 31)).alloc (.cells #[.slice none 0 0, .slice none 0 0, .int .i64 0, .bool false] 31) = wa at XB XR FA ⊢
  have XB := Lib.hid XB
  have XR := Lib.hid XR
  have HBX := Lib.hid hbx
  have HBR := Lib.hid hbr
  have hxr : bx ≠ br := by omega
  have hrx : br ≠ bx := by omega
  clear hbx hbr
  refine (HR.out wa).mono ?_
  rintro ee w1 ⟨v, rfl, hv, hf⟩
  obtain ⟨Ar, cr, rfl, -, -⟩ := hv.slice
  have HV := Lib.hid hv
  have HF1 := Lib.hid hf
  clear hv hf
  have C5 := Blk.new w1 69 #[.int .i64 num, .slice Ar L.length cr]
  have hf2 : Fr No wa (w1.alloc (.cells #[.int .i64 num, .slice Ar L.length cr] 69)) := HF1.out.alloc _
  have XB2 := XB.out.fr hf2 (fun h => h)
  have XR2 := XR.out.fr hf2 (fun h => h)
  have F2 := Lib.hid hf2
  have x0 := XB2.cell 0
  have x1 := XB2.cell 1
  have x2 := XB2.cell 2
  have x3 := XB2.cell 3
  have xf0 := XB2.frozen 0
  have xf1 := XB2.frozen 1
  have xf2 := XB2.frozen 2
  have xf3 := XB2.frozen 3
  have r0 := XR2.cell 0
  have r1 := XR2.cell 1
  have r2 := XR2.cell 2
  have r3 := XR2.cell 3
  have rf0 := XR2.frozen 0
  have rf1 := XR2.frozen 1
  have rf2 := XR2.frozen 2
  have rf3 := XR2.frozen 3
  simp only [List.getElem?_toArray, List.getElem?_cons_zero, List.getElem?_cons_succ] at x0 x1 x2 x3 r0 r1 r2 r3
  clear hf2 C5
  rcases hpick with he | ⟨rfl, hne⟩
  all_goals
    try (have hb1 : ((0 : Int) != 0) = false := rfl)
    go_wp2
    have b9 := XR2
    have b9 := b9.far (p := ⟨bx, 3, none⟩) hrx (.bool true)
    have b9 := b9.put 0 (.slice A5 n5 k5)
    have b9 := b9.put 1 (.slice A6 n6 k6)
    have b9 := b9.put 2 (.int .i64 ro)
    have b9 := b9.put 3 (.bool true)
    simp only [List.setIfInBounds_toArray, List.set_cons_zero, List.set_cons_succ] at b9
    have e0 := b9.cell 0
    have e1 := b9.cell 1
    have e2 := b9.cell 2
    have e3 := b9.cell 3
    simp only [List.getElem?_toArray, List.getElem?_cons_zero, List.getElem?_cons_succ] at e0 e1 e2 e3
    clear b9
    refine bodyPost_ret (v := .agg #[.slice A5 n5 k5, .slice A6 n6 k6, .int .i64 ro, .bool true]) ?_ rfl ?_
    · simp [results, Try.f20, go_sem, e0, e1, e2, e3]
    · (try rw [HCX.out.1]); (try rw [HCX.out.2])
      exact told_end (bx := bx) (br := br) (y := badR x) ((FA.out.then_no F2.out).no A) (Rows.like (HP.out.no (FA.out.then_no F2.out)) rfl rfl) (fun k hk => .inl (HA.out k hk)) HL.out (by repeat (first | with_reducible exact Fr.refl _ _ | with_reducible refine Fr.setCell ?_ (.inl (by first | exact .inl rfl | exact .inr rfl)) _)) (fun k hk => old_not HP.out (by have := HBX.out; have := HBR.out; rcases hk with rfl | rfl <;> omega))


end Rd
end Go.Proofs.Ytmmdiccpifepfaa
