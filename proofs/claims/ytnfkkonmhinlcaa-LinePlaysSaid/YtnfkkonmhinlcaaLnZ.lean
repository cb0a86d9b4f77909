/- Package line: both lines side by side; the law's do at any act. -/
import Derived.Test.YtnfkkonmhinlcaaLnXa
import Derived.Test.YtnfkkonmhinlcaaLnXb
import Derived.Test.YtnfkkonmhinlcaaLnXc
import Derived.Test.YtnfkkonmhinlcaaLnW
import Derived.Test.YtnfkkonmhinlcaaLaw
namespace Go.Proofs.Ytnfkkonmhinlcaa
open Go.RowKit
set_option linter.unusedVariables false
set_option linter.unusedSimpArgs false
namespace Ln
open Run (O ROp timesR endsR dueT nextT chk chkR Fit)
abbrev LCells (vF vL : Value) (s : S) : Array Value := #[.int .i64 s.b, .int .i64 s.c, .int .i64 s.j, .int .i64 s.st, .int .i64 s.n, .int .i64 s.at_, vF, vL, .int .i64 s.start, .int .i64 s.was, .string ⟨s.held.toArray⟩]
abbrev TL : TypeId := 46
/-- An act of the law's. -/
def doS (s : S) (kd : Int) (okb : Bool) (r : Int) (t : Str) (ops : List O) (now : Int) : S :=
  if kd % 10 = 3 then (startS s).1 else if kd % 10 = 4 then (stopS s).1 else if kd % 10 = 5 then (openedS s now okb r).1 else if kd % 10 = 6 then (lostS s now r).1 else if kd % 10 = 7 ∨ kd % 10 = 8 then (sendS s t).1 else if kd % 10 = 9 then (breakS s now ops).1 else (tickS s now).1
theorem Ok.do {s : S} {k : Int} (h : Ok s k) (kd : Int) (okb : Bool) (r : Int) (t : Str) (ops : List O) (now : Int) (hl : ops.length ≤ 1000) (hw : ∀ x ∈ ops, Run.wfO x) : Ok (doS s kd okb r t ops now) (k + 1) := by
  unfold doS
  split
  · exact h.start.mono (by omega)
  · split
    · exact h.stop.mono (by omega)
    · split
      · exact h.opened okb r
      · split
        · exact h.lost r
        · split
          · exact (h.send t).mono (by omega)
          · split
            · exact (h.break_ (fun _ hc => fit_chk hc hl hw)).mono (by omega)
            · exact h.tick.mono (by omega)
section
variable {w w' W wr X w8 : World} {G G' Bk : Nat → Prop} {g bq : Nat} {vF vL : Value} {s : S}
theorem do_any {k : Int} (hl : LW w G g s) (hk : Ok s k) (hk2 : k < 1000000) (h : RL w Bk vF vL s) (hBG : ∀ z, Bk z → ¬ G z) (kd gap r now : Int) (okb : Bool) (t : Str) (vo : Value) (ops : List O) (hkd : 0 ≤ kd ∧ kd ≤ 255) (hr : -9223372036854775808 ≤ r ∧ r ≤ 9223372036854775807) (ht : t.length ≤ 100000) (ho : RSl 3 ROp w Bk [vo] ops) (hol : ops.length ≤ 1000) :
    Calls Try.prog 17 #[.pointer (some ⟨g, 0, none⟩), agL vF vL s, .agg #[.int .u8 kd, .int .u8 gap, .bool okb, .int .i64 r, .string ⟨t.toArray⟩, vo], .int .i64 now] w (DoIs w G Bk g (doS s kd okb r t ops now)) := by
  have hc : kd % 10 = 0 ∨ kd % 10 = 1 ∨ kd % 10 = 2 ∨ kd % 10 = 3 ∨ kd % 10 = 4 ∨ kd % 10 = 5 ∨ kd % 10 = 6 ∨ kd % 10 = 7 ∨ kd % 10 = 8 ∨ kd % 10 = 9 := by omega
  rcases hc with e | e | e | e | e | e | e | e | e | e
  · rw [show doS s kd okb r t ops now = (tickS s now).1 by unfold doS; simp [e]]
    exact do_tick hl hk hk2 h hBG kd gap r now okb t vo ops hkd hr ht ho hol (.inl e)
  · rw [show doS s kd okb r t ops now = (tickS s now).1 by unfold doS; simp [e]]
    exact do_tick hl hk hk2 h hBG kd gap r now okb t vo ops hkd hr ht ho hol (.inr (.inl e))
  · rw [show doS s kd okb r t ops now = (tickS s now).1 by unfold doS; simp [e]]
    exact do_tick hl hk hk2 h hBG kd gap r now okb t vo ops hkd hr ht ho hol (.inr (.inr e))
  · rw [show doS s kd okb r t ops now = (startS s).1 by unfold doS; simp [e]]
    exact do_start hl hk hk2 h hBG kd gap r now okb t vo ops hkd hr ht ho hol e
  · rw [show doS s kd okb r t ops now = (stopS s).1 by unfold doS; simp [e]]
    exact do_stop hl hk hk2 h hBG kd gap r now okb t vo ops hkd hr ht ho hol e
  · rw [show doS s kd okb r t ops now = (openedS s now okb r).1 by unfold doS; simp [e]]
    exact do_opened hl hk hk2 h hBG kd gap r now okb t vo ops hkd hr ht ho hol e
  · rw [show doS s kd okb r t ops now = (lostS s now r).1 by unfold doS; simp [e]]
    exact do_lost hl hk hk2 h hBG kd gap r now okb t vo ops hkd hr ht ho hol e
  · rw [show doS s kd okb r t ops now = (sendS s t).1 by unfold doS; simp [e]]
    exact do_send7 hl hk hk2 h hBG kd gap r now okb t vo ops hkd hr ht ho hol e
  · rw [show doS s kd okb r t ops now = (sendS s t).1 by unfold doS; simp [e]]
    exact do_send8 hl hk hk2 h hBG kd gap r now okb t vo ops hkd hr ht ho hol e
  · rw [show doS s kd okb r t ops now = (breakS s now ops).1 by unfold doS; simp [e]]
    exact do_break hl hk hk2 h hBG kd gap r now okb t vo ops hkd hr ht ho hol e
/-- Both lines, as they are. -/
structure Both (W w : World) (Bk G : Nat → Prop) (g bq : Nat) (vF vL : Value) (s : S) : Prop where
  line : LW w G g s
  ref : RL w Bk vF vL s
  box : Blk w bq TL (LCells vF vL s)
  off : ∀ z, Bk z → ¬ G z
  gn : ∀ k, G k → W.heap.size ≤ k
  bqs : W.heap.size ≤ bq ∧ ¬ G bq
  nb : ¬ Bk bq
  fr : Fr No W w
theorem Both.no (h : Both W w Bk G g bq vF vL s) (hf : Fr No w w') : Both W w' Bk G g bq vF vL s := ⟨h.line.no hf, h.ref.no hf, h.box.fr hf (fun h => h), h.off, h.gn, h.bqs, h.nb, h.fr.then_no hf⟩
/-- What do leaves, called at X. -/
structure DoQ (X w8 : World) (Bk G G' : Nat → Prop) (g : Nat) (vF vL : Value) (r : S) : Prop where
  line : LW w8 G' g r
  ref : RL w8 Bk vF vL r
  step : Step G X G' w8
theorem do_p {k : Int} (h : Both W wr Bk G g bq vF vL s) (hk : Ok s k) (hk2 : k < 1000000) (hf : Fr No wr X) (kd gap q now : Int) (okb : Bool) (t : Str) (vo : Value) (ops : List O) (hkd : 0 ≤ kd ∧ kd ≤ 255) (hr : -9223372036854775808 ≤ q ∧ q ≤ 9223372036854775807) (ht : t.length ≤ 100000) (ho : RSl 3 ROp wr Bk [vo] ops) (hol : ops.length ≤ 1000)
    (r : S) (hrr : doS s kd okb q t ops now = r) (n3 m3 : Nat) (hn3 : n3 = r.first.length) (hm3 : m3 = r.seq.length) :
    Calls Try.prog 17 #[.pointer (some ⟨g, 0, none⟩), agL vF vL s, .agg #[.int .u8 kd, .int .u8 gap, .bool okb, .int .i64 q, .string ⟨t.toArray⟩, vo], .int .i64 now] X fun e w8 => ∃ A2 g2 B2 d2 G', e = .returned (.tuple #[.agg (LCells (.slice A2 n3 g2) (.slice B2 m3 d2) r), .bool true]) ∧ DoQ X w8 Bk G G' g (.slice A2 n3 g2) (.slice B2 m3 d2) r := by
  refine (do_any (h.line.no hf) hk hk2 (h.ref.no hf) h.off kd gap q now okb t vo ops hkd hr ht (ops_go ho hf h.ref.lt) hol).mono ?_
  rintro e w8 ⟨vF', vL', G', rfl, hR, hL, hS⟩
  rw [hrr] at hR hL ⊢
  obtain ⟨A2, g2, rfl, -, -⟩ := hR.first.slice
  obtain ⟨B2, d2, rfl, -, -⟩ := hR.seq.slice
  rw [← hn3] at hR ⊢
  rw [← hm3] at hR ⊢
  exact ⟨A2, g2, B2, d2, G', rfl, hL, hR, hS⟩
/-- Behind do, and its answer's box. -/
structure DoNow (wr wx : World) (Bk G G' : Nat → Prop) (g bq bt : Nat) (vF vL vF' vL' : Value) (s r : S) : Prop where
  line : LW wx G' g r
  ref : RL wx Bk vF' vL' r
  tb : Blk wx bt TL (LCells vF' vL' r)
  box : Blk wx bq TL (LCells vF vL s)
  step : Step G wr G' wx
  bt : wr.heap.size ≤ bt ∧ ¬ G' bt
theorem do_after {vF' vL' : Value} {r : S} (h : Both W wr Bk G g bq vF vL s) (hq : DoQ X w8 Bk G G' g vF' vL' r) (hf : Fr No wr X) :
    DoNow wr (w8.alloc (.cells (LCells vF' vL' r) TL)) Bk G G' g bq w8.heap.size vF vL vF' vL' s r := by
  have hal : Fr No w8 (w8.alloc (.cells (LCells vF' vL' r) TL)) := (Fr.refl _ _).alloc _
  have z1 := hf.size
  have z2 := hq.step.1.size
  refine ⟨hq.line.no hal, hq.ref.no hal, Blk.new w8 _ _, ((h.box.fr hf (fun h => h)).fr hq.step.1 h.bqs.2).fr hal (fun h => h), ⟨((hf.no G).trans hq.step.1 (fun b hb _ => hb)).then_no hal, fun k hk => ?_⟩, by omega, fun hk => ?_⟩
  · rcases hq.step.2 k hk with e | e
    · exact .inl e
    · exact .inr ⟨by have := e.1; omega, by have := e.2; rw [size_alloc]; omega⟩
  · have := hq.line.lt _ hk
    omega
theorem do_before {vF' vL' : Value} {r : S} {w9 : World} (h : Both W wr Bk G g bq vF vL s) (hq : DoQ X w8 Bk G G' g vF' vL' r) (hf : Fr No wr X) (hX : wr.heap.size < X.heap.size)
    (h9 : Fr (fun k => k = wr.heap.size) w8 w9) (hb : Blk w9 wr.heap.size TL (LCells vF' vL' r)) : DoNow wr w9 Bk G G' g bq wr.heap.size vF vL vF' vL' s r := by
  have z1 := hf.size
  have z2 := hq.step.1.size
  have hG' : ¬ G' wr.heap.size := fun hk => by
    rcases hq.step.2 _ hk with e | e
    · have := h.line.lt _ e; omega
    · have := e.1; omega
  have hbb := h.box.lt
  refine ⟨hq.line.far h9 (fun k hk e => by rw [e] at hk; exact hG' hk), hq.ref.fr h9 (fun k hk e => by have := h.ref.lt k hk; omega), hb, ((h.box.fr hf (fun h => h)).fr hq.step.1 h.bqs.2).fr h9 (by omega), ⟨((hf.no G).trans hq.step.1 (fun b hb _ => hb)).trans h9 (fun b hb hl => absurd hb (by omega)), fun k hk => ?_⟩, Nat.le_refl _, hG'⟩
  rcases hq.step.2 k hk with e | e
  · exact .inl e
  · exact .inr ⟨by have := e.1; omega, by have := e.2; have := h9.size; omega⟩
theorem do_laid {wx wy : World} {bt : Nat} {vF' vL' : Value} {r : S} (h : Both W wr Bk G g bq vF vL s) (hn : DoNow wr wx Bk G G' g bq bt vF vL vF' vL' s r) (hy : Fr (fun k => k = bq) wx wy) (hb : Blk wy bq TL (LCells vF' vL' r)) :
    Both W wy Bk G' g bq vF' vL' r := by
  have hbb := h.box.lt
  have hG' : ¬ G' bq := fun hk => by
    rcases hn.step.2 _ hk with e | e
    · exact h.bqs.2 e
    · have := e.1; omega
  refine ⟨hn.line.far hy (fun k hk e => by rw [e] at hk; exact hG' hk), hn.ref.fr hy (fun k hk e => by rw [e] at hk; exact h.nb hk), hb, fun z hz hk => ?_, fun k hk => ?_, ⟨h.bqs.1, hG'⟩, h.nb, (h.fr.trans hn.step.1 (fun b hb hl => absurd (h.gn b hb) (by omega))).trans hy (fun b hb hl => by have := h.bqs.1; omega)⟩
  · rcases hn.step.2 z hk with e | e
    · exact absurd e (h.off z hz)
    · have := h.ref.lt z hz; have := e.1; omega
  · rcases hn.step.2 k hk with e | e
    · exact h.gn k e
    · exact Nat.le_trans h.fr.size e.1
end
abbrev X19 := Int × (Int × (Bool × (Int × (Str × List O))))
abbrev R19 : Rd X19 := RTwo 1 (RInt .u8) (RTwo 1 (RInt .u8) (RTwo 1 RBool (RTwo 1 (RInt .i64) (RTwo 1 RStr (RSl 3 (RTwo 1 (RInt .i64) (RTwo 1 RStr (RInt .i64))))))))
/-- An element of the law's list: its cells. -/
structure El (X : World) (ad : Addr) (vo : Value) (x : X19) : Prop where
  c0 : X.cell? ad = some (.int .u8 x.1)
  c1 : X.cell? ⟨ad.block, ad.off + 1, none⟩ = some (.int .u8 x.2.1)
  c2 : X.cell? ⟨ad.block, ad.off + 2, none⟩ = some (.bool x.2.2.1)
  c3 : X.cell? ⟨ad.block, ad.off + 3, none⟩ = some (.int .i64 x.2.2.2.1)
  c4 : X.cell? ⟨ad.block, ad.off + 4, none⟩ = some (.string ⟨x.2.2.2.2.1.toArray⟩)
  c5 : X.cell? ⟨ad.block, ad.off + 5, none⟩ = some vo
theorem El.fr {w X : World} {F : Nat → Prop} {ad : Addr} {vo : Value} {x : X19} (h : El w ad vo x) (hf : Fr F w X) (hb : ad.block < w.heap.size) (hn : ¬ F ad.block) : El X ad vo x :=
  ⟨(hf.cell hb hn).trans h.c0, (hf.cell (p := ⟨ad.block, ad.off + 1, none⟩) hb hn).trans h.c1, (hf.cell (p := ⟨ad.block, ad.off + 2, none⟩) hb hn).trans h.c2, (hf.cell (p := ⟨ad.block, ad.off + 3, none⟩) hb hn).trans h.c3, (hf.cell (p := ⟨ad.block, ad.off + 4, none⟩) hb hn).trans h.c4, (hf.cell (p := ⟨ad.block, ad.off + 5, none⟩) hb hn).trans h.c5⟩
theorem u8_in {n : Int} (h : (Lit.int .u8 n).wf = true) : 0 ≤ n ∧ n ≤ 255 := by simpa [Lit.wf, IntKind.min, IntKind.max, IntKind.signed, IntKind.bits] using h
theorem op19_at {W : World} {A : Option Addr} {n c : Nat} {l : List X19} (h : RSl 6 R19 W (Ahead W.heap.size) [.slice A n c] l) {k : Nat} (hk : k < l.length) :
    ∃ ad vo, A = some ad ∧ (ad.add (k * 6)).block < W.heap.size ∧ El W (ad.add (k * 6)) vo l[k] ∧ RSl 3 ROp W (Ahead W.heap.size) [vo] l[k].2.2.2.2.2 ∧ (0 ≤ l[k].1 ∧ l[k].1 ≤ 255) ∧ (0 ≤ l[k].2.1 ∧ l[k].2.1 ≤ 255) ∧ (-9223372036854775808 ≤ l[k].2.2.2.1 ∧ l[k].2.2.2.1 ≤ 9223372036854775807) ∧ l[k].2.2.2.2.1.length ≤ maxLen := by
  obtain ⟨ad, ecs, rfl, hb, hl, hc, h1, ⟨e1, w1⟩, h2, ⟨e2, w2⟩, h3, e3, h4, ⟨e4, w4⟩, h5, ⟨e5, w5⟩, h6⟩ := Sls.sl_at h hk
  have hb' : (ad.add (k * 6)).block < W.heap.size := by rw [block_add]; exact hb
  have u0 := hc 0 (by omega)
  have u1 := hc 1 (by omega)
  have u2 := hc 2 (by omega)
  have u3 := hc 3 (by omega)
  have u4 := hc 4 (by omega)
  have u5 := hc 5 (by omega)
  match ecs, hl with
  | [a, b, d, e, f, v], _ =>
    simp only [List.take_succ_cons, List.take_zero, List.drop_succ_cons, List.drop_zero] at e1 e2 e3 e4 e5 h6
    injection e1 with e1
    injection e2 with e2
    injection (show ([d] : List Value) = [.bool l[k].2.2.1] from e3) with e3
    injection e4 with e4
    injection e5 with e5
    subst e1 e2 e3 e4 e5
    rw [add_zero] at u0
    exact ⟨ad, v, rfl, hb', ⟨u0, u1, u2, u3, u4, u5⟩, h6, u8_in w1, u8_in w2, Run.wf64.1 w4, w5⟩
end Ln
end Go.Proofs.Ytnfkkonmhinlcaa
