/- Package event: Read. Printed by gen_evh.py. -/
import Derived.Test.YtohjnbkehcdoaaaDoorEvG
import Derived.Lib.MinMax
namespace Go.Proofs.YtohjnbkehcdoaaaDoor
open Go.RowKit
set_option linter.unusedVariables false
set_option linter.unusedSimpArgs false
namespace Ev
open Digit Sls
/-- Where Read stands: the result, the reader, the event, the row. -/
structure At (w W : World) (b2 b4 b8 b6 : Nat) (r : R) (q : E × St) : Prop where
  res : Blk W b2 23 #[.int .i64 0, .int .i64 0, .int .i64 0, .bool false, .string ⟨#[]⟩]
  rd : Blk W b4 58 (cS q.2)
  ev : Blk W b8 23 (cE q.1)
  row : Blk W b6 46 (cR r)
  fr : Fr No w W
  ne : b2 ≠ b4 ∧ b2 ≠ b8 ∧ b4 ≠ b8 ∧ b6 ≠ b4 ∧ b6 ≠ b8
  hw : w.heap.size ≤ b2 ∧ w.heap.size ≤ b4 ∧ w.heap.size ≤ b8
section
variable {w W W1 : World} {b2 b4 b8 b6 : Nat} {r : R} {q : E × St} {x : St} {e : E}
theorem At.no (h : At w W b2 b4 b8 b6 r q) (hf : Fr No W W1) : At w W1 b2 b4 b8 b6 r q :=
  ⟨h.res.fr hf (fun h => h), h.rd.fr hf (fun h => h), h.ev.fr hf (fun h => h), h.row.fr hf (fun h => h), h.fr.then_no hf, h.ne, h.hw⟩
/-- The reader went on. -/
theorem At.rest (h : At w W b2 b4 b8 b6 r q) (hb : Blk W1 b4 58 (cS x)) (hf : Fr (OneB b4) W W1) : At w W1 b2 b4 b8 b6 r (q.1, x) :=
  ⟨h.res.fr hf (fun e => h.ne.1 e), hb, h.ev.fr hf (fun e => h.ne.2.2.1 e.symm), h.row.fr hf (fun e => h.ne.2.2.2.1 e), h.fr.trans hf (fun k hk hl => by have e : k = b4 := hk; have := h.hw.2.1; omega), h.ne, h.hw⟩
/-- The event holds another one. -/
theorem At.put (h : At w W b2 b4 b8 b6 r q) (i : Nat) (u : Value) (hb : (cE q.1).setIfInBounds i u = cE e) : At w (W.setCell ⟨b8, i, none⟩ u) b2 b4 b8 b6 r (e, q.2) := by
  have hf : Fr (OneB b8) W (W.setCell ⟨b8, i, none⟩ u) := Fr.setCell (F := OneB b8) (Fr.refl _ _) (p := ⟨b8, i, none⟩) (.inl rfl) _
  exact ⟨h.res.fr hf (fun e => h.ne.2.1 e), h.rd.fr hf (fun e => h.ne.2.2.1 e), hb ▸ h.ev.put i u, h.row.fr hf (fun e => h.ne.2.2.2.2 e), h.fr.trans hf (fun k hk hl => by have e : k = b8 := hk; have := h.hw.2.2; omega), h.ne, h.hw⟩
theorem At.rput (h : At w W b2 b4 b8 b6 r q) (i : Nat) (u : Value) (hb : (cS q.2).setIfInBounds i u = cS x) : At w (W.setCell ⟨b4, i, none⟩ u) b2 b4 b8 b6 r (q.1, x) :=
  h.rest (hb ▸ h.rd.put i u) (Fr.setCell (F := OneB b4) (Fr.refl _ _) (p := ⟨b4, i, none⟩) (.inl rfl) _)
end
def ReadIs (q : E × Int) (w : World) (x : Ending) (w' : World) : Prop := x = .returned (.tuple #[.agg (cE q.1), .int .i64 q.2]) ∧ Fr No w w'
/-- The five cells of the result are stored. -/
theorem ret5 {w W : World} {b : Nat} {z a0 a1 a2 a3 a4 : Value} {z1 z2 z3 z4 : Value} (hX : Blk W b 23 #[z, z1, z2, z3, z4]) (hF : Fr No w W) (hle : w.heap.size ≤ b) :
    Blk (((((W.setCell ⟨b, 0, none⟩ a0).setCell ⟨b, 1, none⟩ a1).setCell ⟨b, 2, none⟩ a2).setCell ⟨b, 3, none⟩ a3).setCell ⟨b, 4, none⟩ a4) b 23 #[a0, a1, a2, a3, a4] ∧ Fr No w (((((W.setCell ⟨b, 0, none⟩ a0).setCell ⟨b, 1, none⟩ a1).setCell ⟨b, 2, none⟩ a2).setCell ⟨b, 3, none⟩ a3).setCell ⟨b, 4, none⟩ a4) := by
  refine ⟨by simpa using ((((hX.put 0 a0).put 1 a1).put 2 a2).put 3 a3).put 4 a4, ((((hF.setCell (p := ⟨b, 0, none⟩) (.inr hle) _).setCell (p := ⟨b, 1, none⟩) (.inr hle) _).setCell (p := ⟨b, 2, none⟩) (.inr hle) _).setCell (p := ⟨b, 3, none⟩) (.inr hle) _).setCell (p := ⟨b, 4, none⟩) (.inr hle) _⟩
theorem y_ok {t : Str} {b : Bool} (h : (t == [121, 101, 115]) = b) : (t == yesB) = b := h
theorem y_bad1 {t : Str} (h : (t == [121, 101, 115]) = true) : (false || (t != yesB && t != noB)) = false := by
  have h : (t == yesB) = true := h
  simp [bne, h]
theorem y_bad2 {t : Str} (h : (t == [110, 111]) = true) : (false || (t != yesB && t != noB)) = false := by
  have h : (t == noB) = true := h
  simp [bne, h]
theorem y_bad3 {t : Str} (h1 : (t == [121, 101, 115]) = false) (h2 : (t == [110, 111]) = false) : (false || (t != yesB && t != noB)) = true := by
  have h1 : (t == yesB) = false := h1
  have h2 : (t == noB) = false := h2
  simp [bne, h1, h2]
theorem number_len (x : St) : (number x).2.1.length ≤ x.1.length := (word_len x).2


set_option maxRecDepth 100000 in
set_option maxHeartbeats 8000000 in
theorem read_any (line : Str) (w : World) (hl : line.length ≤ 900000) : Calls Tryd.prog 10 #[.string ⟨line.toArray⟩] w (ReadIs (readE line) w) := by
  have hadd := fun X : World => Go.run_string_add_sum (P := Tryd.prog) (w := X) ⟨line.toArray⟩ ⟨([32] : Str).toArray⟩ (by simp [ByteArray.size]; omega)
  have HB0 := ba_app line [32]
  have HL1 := Lib.hid (show (line ++ ([32] : Str)).length ≤ 1000000 by simp; omega)
  obtain ⟨a, ha⟩ : ∃ a, a = line ++ ([32] : Str) := ⟨_, rfl⟩
  have HRE := Lib.hid (show readE line = match byW (word (a, false)).1 with
    | none => (E0, 3)
    | some r => finE (stS r (stN r (stY r (stW r ({ E0 with k := r.k }, (word (a, false)).2))))) by rw [ha]; rfl)
  have HLA := Lib.hid (show a.length ≤ 1000000 by rw [ha]; exact HL1.out)
  rw [HB0, ← ha] at hadd
  clear hl HL1 HB0 ha
  have X1 := Blk.new w 23 #[.int .i64 0, .int .i64 0, .int .i64 0, .bool false, .string ⟨#[]⟩]
  have FA := Lib.hid ((Fr.refl No w).alloc (.cells #[.int .i64 0, .int .i64 0, .int .i64 0, .bool false, .string ⟨#[]⟩] 23))
  obtain ⟨b2, hb2⟩ : ∃ b, w.heap.size = b := ⟨_, rfl⟩
  rw [hb2] at X1
  go_enter Tryd.func10, Tryd.ntmps10
  go_upto_region 1 with (fail)
  try rw [hb2]
  have hbw := hb2
  clear hb2
  generalize w.alloc (.cells #[.int .i64 0, .int .i64 0, .int .i64 0, .bool false, .string ⟨#[]⟩] 23) = wa at X1 FA ⊢
  have XX := Lib.hid X1
  clear X1
  go_upto_region 2 with (fail)
  have X4 := Blk.new wa 58 (cS (a, false))
  have X2 := XX.out.alloc (.cells (cS (a, false)) 58)
  have F4 := FA.out.alloc (.cells (cS (a, false)) 58)
  have hlt := XX.out.lt
  obtain ⟨b4, hb4⟩ : ∃ b, wa.heap.size = b := ⟨_, rfl⟩
  have n24 : b2 ≠ b4 := by omega
  have hw4 : w.heap.size ≤ b4 := by omega
  rw [hb4] at X4
  rw [show (#[Value.string ⟨a.toArray⟩, .bool false] : Array Value) = cS (a, false) from rfl]
  try rw [hb4]
  clear hb4 hlt XX FA hadd
  generalize wa.alloc (.cells (cS (a, false)) 58) = wb at X2 X4 F4 ⊢
  have HW := Lib.hid (word_any (a, false) b4 wb X4 HLA.out)
  have HWL := Lib.hid (word_len (a, false))
  obtain ⟨⟨t, x⟩, ht⟩ : ∃ q, q = word (a, false) := ⟨_, rfl⟩
  rw [← ht] at HW HWL HRE
  clear ht
  have HX2 := Lib.hid X2
  have HF4 := Lib.hid F4
  clear X2 X4 F4 wa
  go_wp2_with fail
  refine HW.out.mono ?_
  rintro e w1 ⟨rfl, hb, hf⟩
  have X2 := HX2.out.fr hf (fun e => n24 e)
  have F1 := HF4.out.trans hf (fun k hk hl => by have e : k = b4 := hk; omega)
  clear hf HX2 HF4 HW
  have X5 := Blk.new w1 9 #[.string ⟨t.toArray⟩]
  have Y2 := X2.alloc (.cells #[.string ⟨t.toArray⟩] 9)
  have Y4 := hb.alloc (.cells #[.string ⟨t.toArray⟩] 9)
  have F2 := F1.alloc (.cells #[.string ⟨t.toArray⟩] 9)
  obtain ⟨b5, hb5⟩ : ∃ b, w1.heap.size = b := ⟨_, rfl⟩
  have hl4 := hb.lt
  rw [hb5] at X5
  have HH := Lib.hid (And.intro Y2 (And.intro Y4 F2))
  clear Y2 Y4 F2 hb X2 F1
  go_upto_region 3 with (fail)
  try rw [hb5]
  clear hb5 hl4
  generalize w1.alloc (.cells #[.string ⟨t.toArray⟩] 9) = wc at X5 HH ⊢
  have HFD := Lib.hid (find_read1 wc b5 (fun r => r.word == t) (fun W hW x => read1_any W b5 t x ((X5.fr hW (fun h => h)).cell 0) ((X5.fr hW (fun h => h)).lt)))
  clear X5
  go_wp2_with fail
  refine HFD.out.mono ?_
  unfold FindIs
  rw [show rowsP.find? (fun r => r.word == t) = byW t from rfl]
  rintro e w2 ⟨rfl, hf⟩
  obtain ⟨X2, X4, F3⟩ := HH.out
  have X2 := X2.fr hf (fun h => h)
  have X4 := X4.fr hf (fun h => h)
  have F3 := F3.then_no hf
  clear hf HH HFD w1 wb
  cases hby : byW t with
  | none =>
    rw [hby] at HRE
    simp only [Option.getD_none, Option.isSome_none]
    unfold cR
    simp only [R0]
    have Y2 := X2.alloc (.cells #[.int .i64 0, .string ⟨#[]⟩, .bool false, .bool false, .bool false, .bool false] 46)
    have F4 := F3.alloc (.cells #[.int .i64 0, .string ⟨#[]⟩, .bool false, .bool false, .bool false, .bool false] 46)
    have y0 := Y2.cell 0
    have y1 := Y2.cell 1
    have y2 := Y2.cell 2
    have y3 := Y2.cell 3
    have y4 := Y2.cell 4
    simp only [List.getElem?_toArray, List.getElem?_cons_zero, List.getElem?_cons_succ] at y0 y1 y2 y3 y4
    have q0 := Y2.frozen 0
    have q1 := Y2.frozen 1
    have q2 := Y2.frozen 2
    have q3 := Y2.frozen 3
    have q4 := Y2.frozen 4
    have HR5 := Lib.hid (ret5 (a0 := .int .i64 0) (a1 := .int .i64 0) (a2 := .int .i64 0) (a3 := .bool false) (a4 := .string ⟨#[]⟩) Y2 F4 (by omega))
    clear F4 X2 X4 F3 Y2
    go_wp2_with fail
    obtain ⟨hY, hF⟩ := HR5.out
    have v0 := hY.cell 0
    have v1 := hY.cell 1
    have v2 := hY.cell 2
    have v3 := hY.cell 3
    have v4 := hY.cell 4
    simp only [List.getElem?_toArray, List.getElem?_cons_zero, List.getElem?_cons_succ] at v0 v1 v2 v3 v4
    refine bodyPost_ret (v := .tuple #[.agg (cE E0), .int .i64 3]) ?_ rfl ⟨by rw [HRE.out], hF⟩
    simp [results, Tryd.f10, go_sem, v0, v1, v2, v3, v4, cE, E0]
  | some r =>
    rw [hby] at HRE
    simp only [Option.getD_some, Option.isSome_some]
    obtain ⟨hm, -⟩ := byW_mem hby
    have hflag := flags_of (rows_ok r hm).1
    clear hby hm
    have X6 := Blk.new w2 46 (cR r)
    have Y2 := X2.alloc (.cells (cR r) 46)
    have Y4 := X4.alloc (.cells (cR r) 46)
    have F4 := F3.alloc (.cells (cR r) 46)
    obtain ⟨b6, hb6⟩ : ∃ b, w2.heap.size = b := ⟨_, rfl⟩
    have hl4 := X4.lt
    have n64 : b6 ≠ b4 := by omega
    rw [hb6] at X6
    obtain ⟨xk, xt, x2, x3, x4, x5⟩ := r
    have HRE := Lib.hid (show readE line = finE (stS ⟨xk, xt, x2, x3, x4, x5⟩ (stN ⟨xk, xt, x2, x3, x4, x5⟩ (stY ⟨xk, xt, x2, x3, x4, x5⟩ (stW ⟨xk, xt, x2, x3, x4, x5⟩ (⟨xk, 0, 0, false, []⟩, x))))) from HRE.out)
    have k0 := X6.cell 0
    simp only [cR, List.getElem?_toArray, List.getElem?_cons_zero, List.getElem?_cons_succ] at k0 X6 Y2 Y4 F4 ⊢
    simp only at hflag
    have HX6 := Lib.hid X6
    have HY := Lib.hid (And.intro Y2 (And.intro Y4 F4))
    clear X6 X2 X4 F3 Y2 Y4 F4
    go_upto_region 6 with (fail)
    try rw [hb6]
    clear hb6 hl4
    obtain ⟨R6, hR6⟩ : ∃ o : Obj, o = .cells #[.int .i64 xk, .string ⟨xt.toArray⟩, .bool x2, .bool x3, .bool x4, .bool x5] 46 := ⟨_, rfl⟩
    simp only [← hR6] at k0 HX6 HY ⊢
    generalize w2.alloc R6 = wd at k0 HX6 HY ⊢
    clear hR6
    have k0 := HX6.out.cell 0
    simp only [List.getElem?_toArray, List.getElem?_cons_zero, List.getElem?_cons_succ] at k0
    have hl6 := HX6.out.lt
    have hl4 := HY.out.2.1.lt
    have hl2 := HY.out.1.lt
    obtain ⟨b8, hb8⟩ : ∃ b, wd.heap.size = b := ⟨_, rfl⟩
    have HE := Lib.hid (show At w (wd.alloc (.cells (cE ⟨xk, 0, 0, false, []⟩) 23)) b2 b4 b8 b6 ⟨xk, xt, x2, x3, x4, x5⟩ (⟨xk, 0, 0, false, []⟩, x) from by
      obtain ⟨Y2, Y4, F4⟩ := HY.out
      have := F4.size
      exact ⟨Y2.alloc _, Y4.alloc _, by rw [← hb8]; exact Blk.new wd _ _, HX6.out.alloc _, F4.alloc _, ⟨n24, by omega, by omega, n64, by omega⟩, by omega, hw4, by omega⟩)
    clear HX6 HY hl6 hl4 hl2
    go_upto_region 7 with (fail)
    try rw [hb8]
    clear hb8 k0
    rw [show (#[Value.int .i64 xk, .int .i64 0, .int .i64 0, .bool false, .string ⟨#[]⟩] : Array Value) = cE ⟨xk, 0, 0, false, []⟩ from rfl]
    generalize wd.alloc (.cells (cE ⟨xk, 0, 0, false, []⟩) 23) = W0_ at HE ⊢
    simp only [List.mem_cons, List.not_mem_nil, or_false, Prod.mk.injEq] at hflag
    rcases hflag with ⟨rfl, rfl, rfl, rfl⟩ | ⟨rfl, rfl, rfl, rfl⟩ | ⟨rfl, rfl, rfl, rfl⟩ | ⟨rfl, rfl, rfl, rfl⟩ | ⟨rfl, rfl, rfl, rfl⟩ | ⟨rfl, rfl, rfl, rfl⟩
    · obtain ⟨q0, hq⟩ : ∃ q : E × St, q = (⟨xk, 0, 0, false, []⟩, x) := ⟨_, rfl⟩
      have HE0 := Lib.hid (show At w W0_ b2 b4 b8 b6 ⟨xk, xt, true, false, false, false⟩ q0 from by rw [hq]; exact HE.out)
      have HLQ0 := Lib.hid (show q0.2.1.length ≤ 1000000 from by rw [hq]; exact Nat.le_trans HWL.out.2 HLA.out)
      have HQ0 := Lib.hid (show readE line = finE (stW ⟨xk, xt, true, false, false, false⟩ q0) from by rw [hq, HRE.out]; rfl)
      clear hq HRE HWL HLA HE
      have g0 := HE0.out.rd.cell 0
      have g1 := HE0.out.rd.cell 1
      have gf0 := HE0.out.rd.frozen 0
      have gf1 := HE0.out.rd.frozen 1
      have e0 := HE0.out.ev.cell 0
      have e1 := HE0.out.ev.cell 1
      have e2 := HE0.out.ev.cell 2
      have e3 := HE0.out.ev.cell 3
      have e4 := HE0.out.ev.cell 4
      have ef1 := HE0.out.ev.frozen 1
      have ef2 := HE0.out.ev.frozen 2
      have ef3 := HE0.out.ev.frozen 3
      have ef4 := HE0.out.ev.frozen 4
      have z2 := HE0.out.row.cell 2
      have z3 := HE0.out.row.cell 3
      have z4 := HE0.out.row.cell 4
      have z5 := HE0.out.row.cell 5
      simp only [cE, cS, cR, List.getElem?_toArray, List.getElem?_cons_zero, List.getElem?_cons_succ] at g0 g1 e0 e1 e2 e3 e4 z2 z3 z4 z5
      have HNB := Lib.hid (number_any q0.2 b4 W0_ HE0.out.rd HLQ0.out)
      go_wp2_with fail
      refine HNB.out.mono ?_
      rintro x1 W1 ⟨rfl, hb, hf⟩
      clear g0 g1 gf0 gf1 e0 e1 e2 e3 e4 ef1 ef2 ef3 ef4 z2 z3 z4 z5
      have h1 := HE0.out.rest hb hf
      have ef := h1.ev.frozen 1
      have HL2 := Lib.hid (Nat.le_trans (number_len q0.2) HLQ0.out)
      obtain ⟨q1, hq'⟩ : ∃ q' : E × St, q' = ({ q0.1 with who := (number q0.2).1 }, (number q0.2).2) := ⟨_, rfl⟩
      have HE1 := Lib.hid (show At w (W1.setCell ⟨b8, 1, none⟩ (.int .i64 (number q0.2).1)) b2 b4 b8 b6 ⟨xk, xt, true, false, false, false⟩ q1 from by rw [hq']; exact h1.put (e := { q0.1 with who := (number q0.2).1 }) 1 (.int .i64 (number q0.2).1) rfl)
      have HLQ1 := Lib.hid (show q1.2.1.length ≤ 1000000 from by rw [hq']; exact HL2.out)
      have HQ1 := Lib.hid (show readE line = finE q1 from by rw [hq', HQ0.out]; rfl)
      have ee := h1.ev.cell 1
      simp only [cE, List.getElem?_toArray, List.getElem?_cons_zero, List.getElem?_cons_succ] at ee
      clear h1 hb hf HNB HE0 HLQ0 HQ0 hq' HL2
      go_upto_region 9 with (fail)
      clear ee ef
      generalize W1.setCell ⟨b8, 1, none⟩ (.int .i64 (number q0.2).1) = W1_ at HE1 ⊢
      generalize (number q0.2).1 = num1
      clear W1 W0_ q0
      obtain ⟨e, rest, bd⟩ := q1
      have HQ := Lib.hid (show readE line = if (bd || rest != [] || checkE e != 0) = true then (E0, 3) else (e, 0) from HQ1.out)
      clear HQ1
      cases bd with
      | true =>
        have HQ := Lib.hid (show readE line = (E0, 3) from by rw [HQ.out]; rfl)
        have g0 := HE1.out.rd.cell 0
        have g1 := HE1.out.rd.cell 1
        have gf0 := HE1.out.rd.frozen 0
        have gf1 := HE1.out.rd.frozen 1
        have e0 := HE1.out.ev.cell 0
        have e1 := HE1.out.ev.cell 1
        have e2 := HE1.out.ev.cell 2
        have e3 := HE1.out.ev.cell 3
        have e4 := HE1.out.ev.cell 4
        have ef1 := HE1.out.ev.frozen 1
        have ef2 := HE1.out.ev.frozen 2
        have ef3 := HE1.out.ev.frozen 3
        have ef4 := HE1.out.ev.frozen 4
        have z2 := HE1.out.row.cell 2
        have z3 := HE1.out.row.cell 3
        have z4 := HE1.out.row.cell 4
        have z5 := HE1.out.row.cell 5
        simp only [cE, cS, cR, List.getElem?_toArray, List.getElem?_cons_zero, List.getElem?_cons_succ] at g0 g1 e0 e1 e2 e3 e4 z2 z3 z4 z5
        have q0 := HE1.out.res.frozen 0
        have q1 := HE1.out.res.frozen 1
        have q2 := HE1.out.res.frozen 2
        have q3 := HE1.out.res.frozen 3
        have q4 := HE1.out.res.frozen 4
        have u0 := HE1.out.res.cell 0
        have u1 := HE1.out.res.cell 1
        have u2 := HE1.out.res.cell 2
        have u3 := HE1.out.res.cell 3
        have u4 := HE1.out.res.cell 4
        simp only [List.getElem?_toArray, List.getElem?_cons_zero, List.getElem?_cons_succ] at u0 u1 u2 u3 u4
        have HR5 := Lib.hid (ret5 (a0 := .int .i64 0) (a1 := .int .i64 0) (a2 := .int .i64 0) (a3 := .bool false) (a4 := .string ⟨#[]⟩) HE1.out.res HE1.out.fr HE1.out.hw.1)
        go_wp2_with fail
        obtain ⟨hY, hF⟩ := HR5.out
        have v0 := hY.cell 0
        have v1 := hY.cell 1
        have v2 := hY.cell 2
        have v3 := hY.cell 3
        have v4 := hY.cell 4
        simp only [List.getElem?_toArray, List.getElem?_cons_zero, List.getElem?_cons_succ] at v0 v1 v2 v3 v4
        refine bodyPost_ret (v := .tuple #[.agg (cE E0), .int .i64 3]) ?_ rfl ⟨by rw [HQ.out], hF⟩
        simp [results, Tryd.f10, go_sem, v0, v1, v2, v3, v4, cE, E0]
      | false =>
        cases rest with
        | cons c l =>
          have HQ := Lib.hid (show readE line = (E0, 3) from by rw [HQ.out]; rfl)
          have g0 := HE1.out.rd.cell 0
          have g1 := HE1.out.rd.cell 1
          have gf0 := HE1.out.rd.frozen 0
          have gf1 := HE1.out.rd.frozen 1
          have e0 := HE1.out.ev.cell 0
          have e1 := HE1.out.ev.cell 1
          have e2 := HE1.out.ev.cell 2
          have e3 := HE1.out.ev.cell 3
          have e4 := HE1.out.ev.cell 4
          have ef1 := HE1.out.ev.frozen 1
          have ef2 := HE1.out.ev.frozen 2
          have ef3 := HE1.out.ev.frozen 3
          have ef4 := HE1.out.ev.frozen 4
          have z2 := HE1.out.row.cell 2
          have z3 := HE1.out.row.cell 3
          have z4 := HE1.out.row.cell 4
          have z5 := HE1.out.row.cell 5
          simp only [cE, cS, cR, List.getElem?_toArray, List.getElem?_cons_zero, List.getElem?_cons_succ] at g0 g1 e0 e1 e2 e3 e4 z2 z3 z4 z5
          have q0 := HE1.out.res.frozen 0
          have q1 := HE1.out.res.frozen 1
          have q2 := HE1.out.res.frozen 2
          have q3 := HE1.out.res.frozen 3
          have q4 := HE1.out.res.frozen 4
          have u0 := HE1.out.res.cell 0
          have u1 := HE1.out.res.cell 1
          have u2 := HE1.out.res.cell 2
          have u3 := HE1.out.res.cell 3
          have u4 := HE1.out.res.cell 4
          simp only [List.getElem?_toArray, List.getElem?_cons_zero, List.getElem?_cons_succ] at u0 u1 u2 u3 u4
          have HR5 := Lib.hid (ret5 (a0 := .int .i64 0) (a1 := .int .i64 0) (a2 := .int .i64 0) (a3 := .bool false) (a4 := .string ⟨#[]⟩) HE1.out.res HE1.out.fr HE1.out.hw.1)
          have hz : ((⟨(c :: l).toArray⟩ : ByteArray) == ⟨#[]⟩) = false := by show ((c :: l).toArray == (#[] : Array UInt8)) = false; simp
          go_wp2_with fail
          obtain ⟨hY, hF⟩ := HR5.out
          have v0 := hY.cell 0
          have v1 := hY.cell 1
          have v2 := hY.cell 2
          have v3 := hY.cell 3
          have v4 := hY.cell 4
          simp only [List.getElem?_toArray, List.getElem?_cons_zero, List.getElem?_cons_succ] at v0 v1 v2 v3 v4
          refine bodyPost_ret (v := .tuple #[.agg (cE E0), .int .i64 3]) ?_ rfl ⟨by rw [HQ.out], hF⟩
          simp [results, Tryd.f10, go_sem, v0, v1, v2, v3, v4, cE, E0]
        | nil =>
          have HCK := Lib.hid (check_any e)
          have HQ := Lib.hid (show readE line = if (checkE e != 0) = true then (E0, 3) else (e, 0) from by first | exact HQ.out | (rw [HQ.out]; rfl))
          obtain ⟨cd, hcd⟩ : ∃ c, c = checkE e := ⟨_, rfl⟩
          rw [← hcd] at HCK HQ
          clear hcd
          have hev := HE1.out.ev.cell
          have g0 := HE1.out.rd.cell 0
          have g1 := HE1.out.rd.cell 1
          have gf0 := HE1.out.rd.frozen 0
          have gf1 := HE1.out.rd.frozen 1
          have e0 := HE1.out.ev.cell 0
          have e1 := HE1.out.ev.cell 1
          have e2 := HE1.out.ev.cell 2
          have e3 := HE1.out.ev.cell 3
          have e4 := HE1.out.ev.cell 4
          have ef1 := HE1.out.ev.frozen 1
          have ef2 := HE1.out.ev.frozen 2
          have ef3 := HE1.out.ev.frozen 3
          have ef4 := HE1.out.ev.frozen 4
          have z2 := HE1.out.row.cell 2
          have z3 := HE1.out.row.cell 3
          have z4 := HE1.out.row.cell 4
          have z5 := HE1.out.row.cell 5
          simp only [cE, cS, cR, List.getElem?_toArray, List.getElem?_cons_zero, List.getElem?_cons_succ] at g0 g1 e0 e1 e2 e3 e4 z2 z3 z4 z5
          obtain ⟨ek, ew, en, eo, es⟩ := e
          clear hev
          go_wp2_with fail
          refine (HCK.out _).mono ?_
          rintro x1 W9 ⟨rfl, hf⟩
          clear g0 g1 gf0 gf1 e0 e1 e2 e3 e4 ef1 ef2 ef3 ef4 z2 z3 z4 z5
          have HE9 := Lib.hid (HE1.out.no hf)
          clear hf HE1 HCK
          by_cases hcd : cd = 0
          · subst hcd
            have HQ := Lib.hid (show readE line = (⟨ek, ew, en, eo, es⟩, 0) from by rw [HQ.out]; rfl)
            have g0 := HE9.out.rd.cell 0
            have g1 := HE9.out.rd.cell 1
            have gf0 := HE9.out.rd.frozen 0
            have gf1 := HE9.out.rd.frozen 1
            have e0 := HE9.out.ev.cell 0
            have e1 := HE9.out.ev.cell 1
            have e2 := HE9.out.ev.cell 2
            have e3 := HE9.out.ev.cell 3
            have e4 := HE9.out.ev.cell 4
            have ef1 := HE9.out.ev.frozen 1
            have ef2 := HE9.out.ev.frozen 2
            have ef3 := HE9.out.ev.frozen 3
            have ef4 := HE9.out.ev.frozen 4
            have z2 := HE9.out.row.cell 2
            have z3 := HE9.out.row.cell 3
            have z4 := HE9.out.row.cell 4
            have z5 := HE9.out.row.cell 5
            simp only [cE, cS, cR, List.getElem?_toArray, List.getElem?_cons_zero, List.getElem?_cons_succ] at g0 g1 e0 e1 e2 e3 e4 z2 z3 z4 z5
            have q0 := HE9.out.res.frozen 0
            have q1 := HE9.out.res.frozen 1
            have q2 := HE9.out.res.frozen 2
            have q3 := HE9.out.res.frozen 3
            have q4 := HE9.out.res.frozen 4
            have u0 := HE9.out.res.cell 0
            have u1 := HE9.out.res.cell 1
            have u2 := HE9.out.res.cell 2
            have u3 := HE9.out.res.cell 3
            have u4 := HE9.out.res.cell 4
            simp only [List.getElem?_toArray, List.getElem?_cons_zero, List.getElem?_cons_succ] at u0 u1 u2 u3 u4
            have HR5 := Lib.hid (ret5 (a0 := .int .i64 ek) (a1 := .int .i64 ew) (a2 := .int .i64 en) (a3 := .bool eo) (a4 := .string ⟨es.toArray⟩) HE9.out.res HE9.out.fr HE9.out.hw.1)
            go_wp2_with fail
            obtain ⟨hY, hF⟩ := HR5.out
            have v0 := hY.cell 0
            have v1 := hY.cell 1
            have v2 := hY.cell 2
            have v3 := hY.cell 3
            have v4 := hY.cell 4
            simp only [List.getElem?_toArray, List.getElem?_cons_zero, List.getElem?_cons_succ] at v0 v1 v2 v3 v4
            refine bodyPost_ret (v := .tuple #[.agg (cE ⟨ek, ew, en, eo, es⟩), .int .i64 0]) ?_ rfl ⟨by rw [HQ.out], hF⟩
            simp [results, Tryd.f10, go_sem, v0, v1, v2, v3, v4, cE]
          · have hn : (cd != 0) = true := by rw [bne_iff_ne]; exact hcd
            have HQ := Lib.hid (show readE line = (E0, 3) from by rw [HQ.out, if_pos hn])
            have g0 := HE9.out.rd.cell 0
            have g1 := HE9.out.rd.cell 1
            have gf0 := HE9.out.rd.frozen 0
            have gf1 := HE9.out.rd.frozen 1
            have e0 := HE9.out.ev.cell 0
            have e1 := HE9.out.ev.cell 1
            have e2 := HE9.out.ev.cell 2
            have e3 := HE9.out.ev.cell 3
            have e4 := HE9.out.ev.cell 4
            have ef1 := HE9.out.ev.frozen 1
            have ef2 := HE9.out.ev.frozen 2
            have ef3 := HE9.out.ev.frozen 3
            have ef4 := HE9.out.ev.frozen 4
            have z2 := HE9.out.row.cell 2
            have z3 := HE9.out.row.cell 3
            have z4 := HE9.out.row.cell 4
            have z5 := HE9.out.row.cell 5
            simp only [cE, cS, cR, List.getElem?_toArray, List.getElem?_cons_zero, List.getElem?_cons_succ] at g0 g1 e0 e1 e2 e3 e4 z2 z3 z4 z5
            have q0 := HE9.out.res.frozen 0
            have q1 := HE9.out.res.frozen 1
            have q2 := HE9.out.res.frozen 2
            have q3 := HE9.out.res.frozen 3
            have q4 := HE9.out.res.frozen 4
            have u0 := HE9.out.res.cell 0
            have u1 := HE9.out.res.cell 1
            have u2 := HE9.out.res.cell 2
            have u3 := HE9.out.res.cell 3
            have u4 := HE9.out.res.cell 4
            simp only [List.getElem?_toArray, List.getElem?_cons_zero, List.getElem?_cons_succ] at u0 u1 u2 u3 u4
            have HR5 := Lib.hid (ret5 (a0 := .int .i64 0) (a1 := .int .i64 0) (a2 := .int .i64 0) (a3 := .bool false) (a4 := .string ⟨#[]⟩) HE9.out.res HE9.out.fr HE9.out.hw.1)
            go_wp2_with fail
            obtain ⟨hY, hF⟩ := HR5.out
            have v0 := hY.cell 0
            have v1 := hY.cell 1
            have v2 := hY.cell 2
            have v3 := hY.cell 3
            have v4 := hY.cell 4
            simp only [List.getElem?_toArray, List.getElem?_cons_zero, List.getElem?_cons_succ] at v0 v1 v2 v3 v4
            refine bodyPost_ret (v := .tuple #[.agg (cE E0), .int .i64 3]) ?_ rfl ⟨by rw [HQ.out], hF⟩
            simp [results, Tryd.f10, go_sem, v0, v1, v2, v3, v4, cE, E0]
    · obtain ⟨q0, hq⟩ : ∃ q : E × St, q = (⟨xk, 0, 0, false, []⟩, x) := ⟨_, rfl⟩
      have HE0 := Lib.hid (show At w W0_ b2 b4 b8 b6 ⟨xk, xt, true, false, false, true⟩ q0 from by rw [hq]; exact HE.out)
      have HLQ0 := Lib.hid (show q0.2.1.length ≤ 1000000 from by rw [hq]; exact Nat.le_trans HWL.out.2 HLA.out)
      have HQ0 := Lib.hid (show readE line = finE (stS ⟨xk, xt, true, false, false, true⟩ (stW ⟨xk, xt, true, false, false, true⟩ q0)) from by rw [hq, HRE.out]; rfl)
      clear hq HRE HWL HLA HE
      have g0 := HE0.out.rd.cell 0
      have g1 := HE0.out.rd.cell 1
      have gf0 := HE0.out.rd.frozen 0
      have gf1 := HE0.out.rd.frozen 1
      have e0 := HE0.out.ev.cell 0
      have e1 := HE0.out.ev.cell 1
      have e2 := HE0.out.ev.cell 2
      have e3 := HE0.out.ev.cell 3
      have e4 := HE0.out.ev.cell 4
      have ef1 := HE0.out.ev.frozen 1
      have ef2 := HE0.out.ev.frozen 2
      have ef3 := HE0.out.ev.frozen 3
      have ef4 := HE0.out.ev.frozen 4
      have z2 := HE0.out.row.cell 2
      have z3 := HE0.out.row.cell 3
      have z4 := HE0.out.row.cell 4
      have z5 := HE0.out.row.cell 5
      simp only [cE, cS, cR, List.getElem?_toArray, List.getElem?_cons_zero, List.getElem?_cons_succ] at g0 g1 e0 e1 e2 e3 e4 z2 z3 z4 z5
      have HNB := Lib.hid (number_any q0.2 b4 W0_ HE0.out.rd HLQ0.out)
      go_wp2_with fail
      refine HNB.out.mono ?_
      rintro x1 W1 ⟨rfl, hb, hf⟩
      clear g0 g1 gf0 gf1 e0 e1 e2 e3 e4 ef1 ef2 ef3 ef4 z2 z3 z4 z5
      have h1 := HE0.out.rest hb hf
      have ef := h1.ev.frozen 1
      have HL2 := Lib.hid (Nat.le_trans (number_len q0.2) HLQ0.out)
      obtain ⟨q1, hq'⟩ : ∃ q' : E × St, q' = ({ q0.1 with who := (number q0.2).1 }, (number q0.2).2) := ⟨_, rfl⟩
      have HE1 := Lib.hid (show At w (W1.setCell ⟨b8, 1, none⟩ (.int .i64 (number q0.2).1)) b2 b4 b8 b6 ⟨xk, xt, true, false, false, true⟩ q1 from by rw [hq']; exact h1.put (e := { q0.1 with who := (number q0.2).1 }) 1 (.int .i64 (number q0.2).1) rfl)
      have HLQ1 := Lib.hid (show q1.2.1.length ≤ 1000000 from by rw [hq']; exact HL2.out)
      have HQ1 := Lib.hid (show readE line = finE (stS ⟨xk, xt, true, false, false, true⟩ q1) from by rw [hq', HQ0.out]; rfl)
      have ee := h1.ev.cell 1
      simp only [cE, List.getElem?_toArray, List.getElem?_cons_zero, List.getElem?_cons_succ] at ee
      clear h1 hb hf HNB HE0 HLQ0 HQ0 hq' HL2
      go_upto_region 9 with (fail)
      clear ee ef
      generalize W1.setCell ⟨b8, 1, none⟩ (.int .i64 (number q0.2).1) = W1_ at HE1 ⊢
      generalize (number q0.2).1 = num1
      clear W1 W0_ q0
      obtain ⟨e, rest, bd⟩ := q1
      cases bd with
      | true =>
        have HQ := Lib.hid (show readE line = (E0, 3) from by rw [HQ1.out]; rfl)
        have g0 := HE1.out.rd.cell 0
        have g1 := HE1.out.rd.cell 1
        have gf0 := HE1.out.rd.frozen 0
        have gf1 := HE1.out.rd.frozen 1
        have e0 := HE1.out.ev.cell 0
        have e1 := HE1.out.ev.cell 1
        have e2 := HE1.out.ev.cell 2
        have e3 := HE1.out.ev.cell 3
        have e4 := HE1.out.ev.cell 4
        have ef1 := HE1.out.ev.frozen 1
        have ef2 := HE1.out.ev.frozen 2
        have ef3 := HE1.out.ev.frozen 3
        have ef4 := HE1.out.ev.frozen 4
        have z2 := HE1.out.row.cell 2
        have z3 := HE1.out.row.cell 3
        have z4 := HE1.out.row.cell 4
        have z5 := HE1.out.row.cell 5
        simp only [cE, cS, cR, List.getElem?_toArray, List.getElem?_cons_zero, List.getElem?_cons_succ] at g0 g1 e0 e1 e2 e3 e4 z2 z3 z4 z5
        have q0 := HE1.out.res.frozen 0
        have q1 := HE1.out.res.frozen 1
        have q2 := HE1.out.res.frozen 2
        have q3 := HE1.out.res.frozen 3
        have q4 := HE1.out.res.frozen 4
        have u0 := HE1.out.res.cell 0
        have u1 := HE1.out.res.cell 1
        have u2 := HE1.out.res.cell 2
        have u3 := HE1.out.res.cell 3
        have u4 := HE1.out.res.cell 4
        simp only [List.getElem?_toArray, List.getElem?_cons_zero, List.getElem?_cons_succ] at u0 u1 u2 u3 u4
        have HR5 := Lib.hid (ret5 (a0 := .int .i64 0) (a1 := .int .i64 0) (a2 := .int .i64 0) (a3 := .bool false) (a4 := .string ⟨#[]⟩) HE1.out.res HE1.out.fr HE1.out.hw.1)
        go_wp2_with fail
        obtain ⟨hY, hF⟩ := HR5.out
        have v0 := hY.cell 0
        have v1 := hY.cell 1
        have v2 := hY.cell 2
        have v3 := hY.cell 3
        have v4 := hY.cell 4
        simp only [List.getElem?_toArray, List.getElem?_cons_zero, List.getElem?_cons_succ] at v0 v1 v2 v3 v4
        refine bodyPost_ret (v := .tuple #[.agg (cE E0), .int .i64 3]) ?_ rfl ⟨by rw [HQ.out], hF⟩
        simp [results, Tryd.f10, go_sem, v0, v1, v2, v3, v4, cE, E0]
      | false =>
        have hll : rest.length ≤ 1000000 := HLQ1.out
        have HUN := Lib.hid (fun X => unshow_any (rest.take (rest.length - 1)) X (by rw [List.length_take]; omega))
        have HGC := Lib.hid (fun X (hX : Fr No W1_ X) => (show X.cell? ⟨b4, 0, none⟩ = some (.string ⟨rest.toArray⟩) ∧ X.cell? ⟨b4, 1, none⟩ = some (.bool false) from ⟨(HE1.out.no hX).rd.cell 0, (HE1.out.no hX).rd.cell 1⟩))
        have hsl := fun X : World => slice_to (P := Tryd.prog) X 9 Tryd.underlying9 rest (max 0 ((rest.length : Int) - 1)) (rest.length - 1) (by omega) (by omega)
        have hsl2 := fun X : World => slice_to (P := Tryd.prog) X 9 Tryd.underlying9 rest (max 0 (((⟨rest.toArray⟩ : ByteArray).size : Int) - 1)) (rest.length - 1) (by simp [ByteArray.size]; omega) (by omega)
        have hsl3 := fun X : World => slice_to (P := Tryd.prog) X 9 Tryd.underlying9 rest (max 0 ((rest.toArray.size : Int) - 1)) (rest.length - 1) (by simp; omega) (by omega)
        have hsl4 := fun X : World => slice_to (P := Tryd.prog) X 9 Tryd.underlying9 rest (max 0 (IntKind.i64.wrap ((rest.length : Int) - 1))) (rest.length - 1) (by simp only [IntKind.wrap, IntKind.bits, IntKind.signed]; simp; omega) (by omega)
        obtain ⟨us, cd, hus⟩ : ∃ a c, (a, c) = unsP (rest.take (rest.length - 1)) := ⟨_, _, rfl⟩
        rw [← hus] at HUN
        have hf0 : Fr No W1_ W1_ := Fr.refl _ _
        have g0 := HE1.out.rd.cell 0
        have g1 := HE1.out.rd.cell 1
        have gf0 := HE1.out.rd.frozen 0
        have gf1 := HE1.out.rd.frozen 1
        have e0 := HE1.out.ev.cell 0
        have e1 := HE1.out.ev.cell 1
        have e2 := HE1.out.ev.cell 2
        have e3 := HE1.out.ev.cell 3
        have e4 := HE1.out.ev.cell 4
        have ef1 := HE1.out.ev.frozen 1
        have ef2 := HE1.out.ev.frozen 2
        have ef3 := HE1.out.ev.frozen 3
        have ef4 := HE1.out.ev.frozen 4
        have z2 := HE1.out.row.cell 2
        have z3 := HE1.out.row.cell 3
        have z4 := HE1.out.row.cell 4
        have z5 := HE1.out.row.cell 5
        simp only [cE, cS, cR, List.getElem?_toArray, List.getElem?_cons_zero, List.getElem?_cons_succ] at g0 g1 e0 e1 e2 e3 e4 z2 z3 z4 z5
        go_upto_region 16 with (fail)
        go_region_with (go_at_call 32; refine (HUN.out _).mono ?_; rintro x6 w6 ⟨rfl, hf⟩; have hf6 : Fr No W1_ w6 := Fr.then_no (by (repeat' (first | with_reducible assumption | with_reducible exact Fr.refl _ _ | with_reducible refine Fr.drew ?_ | with_reducible refine Fr.drewN ?_ _ | with_reducible refine Fr.alloc ?_ _))) hf; obtain ⟨u0, u1⟩ := HGC.out w6 hf6; clear hf)
        all_goals
          have HF6 := Lib.hid (HE1.out.no hf6)
          clear hf6 u0 u1 hf0 hsl hsl2 hsl3 hsl4 g0 g1 gf0 gf1 e0 e1 e2 e3 e4 ef1 ef2 ef3 ef4 z2 z3 z4 z5
          have hb0 : ((rest == []) = true ∧ rest = []) ∨ ((rest == []) = false ∧ ∃ c l, rest = c :: l) := by cases rest <;> simp
          have HQ6 := Lib.hid (show readE line = finE ({ e with s := us }, ([], rest == [] || cd != 0)) from by rw [HQ1.out]; show finE ({ e with s := (unsP (rest.take (rest.length - 1))).1 }, ([], rest == [] || (unsP (rest.take (rest.length - 1))).2 != 0)) = _; rw [← hus])
          clear hus HQ1
          have g0 := HF6.out.rd.cell 0
          have g1 := HF6.out.rd.cell 1
          have gf1 := HF6.out.rd.frozen 1
          simp only [cS, List.getElem?_toArray, List.getElem?_cons_zero, List.getElem?_cons_succ] at g0 g1
          rcases hb0 with ⟨hb0, hr0⟩ | ⟨hb0, c0, l0, hr0⟩
          · subst hr0
            have HEA := Lib.hid (show At w (w6.setCell ⟨b4, 1, none⟩ (.bool true)) b2 b4 b8 b6 ⟨xk, xt, true, false, false, true⟩ (e, ([], true)) from HF6.out.rput (x := ([], true)) 1 (.bool true) rfl)
            clear HF6
            go_upto_region 18 with (fail)
            clear g0 g1 gf1
            generalize w6.setCell ⟨b4, 1, none⟩ (.bool true) = WA at HEA ⊢
            have e4 := HEA.out.ev.cell 4
            have ef4 := HEA.out.ev.frozen 4
            have g0 := HEA.out.rd.cell 0
            have gf0 := HEA.out.rd.frozen 0
            simp only [cE, cS, List.getElem?_toArray, List.getElem?_cons_zero, List.getElem?_cons_succ] at e4 g0
            obtain ⟨ev2, hev2⟩ : ∃ ev2 : E, ev2 = { e with s := us } := ⟨_, rfl⟩
            have HE7 := Lib.hid (show At w ((WA.setCell ⟨b8, 4, none⟩ (.string ⟨us.toArray⟩)).setCell ⟨b4, 0, none⟩ (.string ⟨#[]⟩)) b2 b4 b8 b6 ⟨xk, xt, true, false, false, true⟩ (ev2, ([], true)) from by rw [hev2]; exact (HEA.out.put (e := { e with s := us }) 4 (.string ⟨us.toArray⟩) rfl).rput (x := ([], true)) 0 (.string ⟨#[]⟩) rfl)
            rw [← hev2] at HQ6
            clear HEA hev2
            go_upto_region 19 with (fail)
            clear e4 ef4 g0 gf0
            generalize (WA.setCell ⟨b8, 4, none⟩ (.string ⟨us.toArray⟩)).setCell ⟨b4, 0, none⟩ (.string ⟨#[]⟩) = WB at HE7 ⊢
            have HQ := Lib.hid (show readE line = (E0, 3) from by rw [HQ6.out] <;> rfl)
            have g0 := HE7.out.rd.cell 0
            have g1 := HE7.out.rd.cell 1
            have gf0 := HE7.out.rd.frozen 0
            have gf1 := HE7.out.rd.frozen 1
            have e0 := HE7.out.ev.cell 0
            have e1 := HE7.out.ev.cell 1
            have e2 := HE7.out.ev.cell 2
            have e3 := HE7.out.ev.cell 3
            have e4 := HE7.out.ev.cell 4
            have ef1 := HE7.out.ev.frozen 1
            have ef2 := HE7.out.ev.frozen 2
            have ef3 := HE7.out.ev.frozen 3
            have ef4 := HE7.out.ev.frozen 4
            have z2 := HE7.out.row.cell 2
            have z3 := HE7.out.row.cell 3
            have z4 := HE7.out.row.cell 4
            have z5 := HE7.out.row.cell 5
            simp only [cE, cS, cR, List.getElem?_toArray, List.getElem?_cons_zero, List.getElem?_cons_succ] at g0 g1 e0 e1 e2 e3 e4 z2 z3 z4 z5
            have q0 := HE7.out.res.frozen 0
            have q1 := HE7.out.res.frozen 1
            have q2 := HE7.out.res.frozen 2
            have q3 := HE7.out.res.frozen 3
            have q4 := HE7.out.res.frozen 4
            have u0 := HE7.out.res.cell 0
            have u1 := HE7.out.res.cell 1
            have u2 := HE7.out.res.cell 2
            have u3 := HE7.out.res.cell 3
            have u4 := HE7.out.res.cell 4
            simp only [List.getElem?_toArray, List.getElem?_cons_zero, List.getElem?_cons_succ] at u0 u1 u2 u3 u4
            have HR5 := Lib.hid (ret5 (a0 := .int .i64 0) (a1 := .int .i64 0) (a2 := .int .i64 0) (a3 := .bool false) (a4 := .string ⟨#[]⟩) HE7.out.res HE7.out.fr HE7.out.hw.1)
            go_wp2_with fail
            obtain ⟨hY, hF⟩ := HR5.out
            have v0 := hY.cell 0
            have v1 := hY.cell 1
            have v2 := hY.cell 2
            have v3 := hY.cell 3
            have v4 := hY.cell 4
            simp only [List.getElem?_toArray, List.getElem?_cons_zero, List.getElem?_cons_succ] at v0 v1 v2 v3 v4
            refine bodyPost_ret (v := .tuple #[.agg (cE E0), .int .i64 3]) ?_ rfl ⟨by rw [HQ.out], hF⟩
            simp [results, Tryd.f10, go_sem, v0, v1, v2, v3, v4, cE, E0]
          · by_cases hcd : cd = 0
            · subst hcd
              subst hr0
              have HEA := Lib.hid (show At w (w6.setCell ⟨b4, 1, none⟩ (.bool false)) b2 b4 b8 b6 ⟨xk, xt, true, false, false, true⟩ (e, ((c0 :: l0), false)) from HF6.out.rput (x := ((c0 :: l0), false)) 1 (.bool false) rfl)
              clear HF6
              go_upto_region 18 with (fail)
              clear g0 g1 gf1
              generalize w6.setCell ⟨b4, 1, none⟩ (.bool false) = WA at HEA ⊢
              have e4 := HEA.out.ev.cell 4
              have ef4 := HEA.out.ev.frozen 4
              have g0 := HEA.out.rd.cell 0
              have gf0 := HEA.out.rd.frozen 0
              simp only [cE, cS, List.getElem?_toArray, List.getElem?_cons_zero, List.getElem?_cons_succ] at e4 g0
              obtain ⟨ev2, hev2⟩ : ∃ ev2 : E, ev2 = { e with s := us } := ⟨_, rfl⟩
              have HE7 := Lib.hid (show At w ((WA.setCell ⟨b8, 4, none⟩ (.string ⟨us.toArray⟩)).setCell ⟨b4, 0, none⟩ (.string ⟨#[]⟩)) b2 b4 b8 b6 ⟨xk, xt, true, false, false, true⟩ (ev2, ([], false)) from by rw [hev2]; exact (HEA.out.put (e := { e with s := us }) 4 (.string ⟨us.toArray⟩) rfl).rput (x := ([], false)) 0 (.string ⟨#[]⟩) rfl)
              rw [← hev2] at HQ6
              clear HEA hev2
              go_upto_region 19 with (fail)
              clear e4 ef4 g0 gf0
              generalize (WA.setCell ⟨b8, 4, none⟩ (.string ⟨us.toArray⟩)).setCell ⟨b4, 0, none⟩ (.string ⟨#[]⟩) = WB at HE7 ⊢
              have HQ := Lib.hid (show readE line = if (checkE ev2 != 0) = true then (E0, 3) else (ev2, 0) from by rw [HQ6.out] <;> rfl)
              clear HQ6
              have HCK := Lib.hid (check_any ev2)
              have HQ := Lib.hid (show readE line = if (checkE ev2 != 0) = true then (E0, 3) else (ev2, 0) from by first | exact HQ.out | (rw [HQ.out]; rfl))
              obtain ⟨cd, hcd⟩ : ∃ c, c = checkE ev2 := ⟨_, rfl⟩
              rw [← hcd] at HCK HQ
              clear hcd
              have hev := HE7.out.ev.cell
              have g0 := HE7.out.rd.cell 0
              have g1 := HE7.out.rd.cell 1
              have gf0 := HE7.out.rd.frozen 0
              have gf1 := HE7.out.rd.frozen 1
              have e0 := HE7.out.ev.cell 0
              have e1 := HE7.out.ev.cell 1
              have e2 := HE7.out.ev.cell 2
              have e3 := HE7.out.ev.cell 3
              have e4 := HE7.out.ev.cell 4
              have ef1 := HE7.out.ev.frozen 1
              have ef2 := HE7.out.ev.frozen 2
              have ef3 := HE7.out.ev.frozen 3
              have ef4 := HE7.out.ev.frozen 4
              have z2 := HE7.out.row.cell 2
              have z3 := HE7.out.row.cell 3
              have z4 := HE7.out.row.cell 4
              have z5 := HE7.out.row.cell 5
              simp only [cE, cS, cR, List.getElem?_toArray, List.getElem?_cons_zero, List.getElem?_cons_succ] at g0 g1 e0 e1 e2 e3 e4 z2 z3 z4 z5
              obtain ⟨ek, ew, en, eo, es⟩ := ev2
              clear hev
              go_wp2_with fail
              refine (HCK.out _).mono ?_
              rintro x1 W9 ⟨rfl, hf⟩
              clear g0 g1 gf0 gf1 e0 e1 e2 e3 e4 ef1 ef2 ef3 ef4 z2 z3 z4 z5
              have HE9 := Lib.hid (HE7.out.no hf)
              clear hf HE7 HCK
              by_cases hcd : cd = 0
              · subst hcd
                have HQ := Lib.hid (show readE line = (⟨ek, ew, en, eo, es⟩, 0) from by rw [HQ.out]; rfl)
                have g0 := HE9.out.rd.cell 0
                have g1 := HE9.out.rd.cell 1
                have gf0 := HE9.out.rd.frozen 0
                have gf1 := HE9.out.rd.frozen 1
                have e0 := HE9.out.ev.cell 0
                have e1 := HE9.out.ev.cell 1
                have e2 := HE9.out.ev.cell 2
                have e3 := HE9.out.ev.cell 3
                have e4 := HE9.out.ev.cell 4
                have ef1 := HE9.out.ev.frozen 1
                have ef2 := HE9.out.ev.frozen 2
                have ef3 := HE9.out.ev.frozen 3
                have ef4 := HE9.out.ev.frozen 4
                have z2 := HE9.out.row.cell 2
                have z3 := HE9.out.row.cell 3
                have z4 := HE9.out.row.cell 4
                have z5 := HE9.out.row.cell 5
                simp only [cE, cS, cR, List.getElem?_toArray, List.getElem?_cons_zero, List.getElem?_cons_succ] at g0 g1 e0 e1 e2 e3 e4 z2 z3 z4 z5
                have q0 := HE9.out.res.frozen 0
                have q1 := HE9.out.res.frozen 1
                have q2 := HE9.out.res.frozen 2
                have q3 := HE9.out.res.frozen 3
                have q4 := HE9.out.res.frozen 4
                have u0 := HE9.out.res.cell 0
                have u1 := HE9.out.res.cell 1
                have u2 := HE9.out.res.cell 2
                have u3 := HE9.out.res.cell 3
                have u4 := HE9.out.res.cell 4
                simp only [List.getElem?_toArray, List.getElem?_cons_zero, List.getElem?_cons_succ] at u0 u1 u2 u3 u4
                have HR5 := Lib.hid (ret5 (a0 := .int .i64 ek) (a1 := .int .i64 ew) (a2 := .int .i64 en) (a3 := .bool eo) (a4 := .string ⟨es.toArray⟩) HE9.out.res HE9.out.fr HE9.out.hw.1)
                go_wp2_with fail
                obtain ⟨hY, hF⟩ := HR5.out
                have v0 := hY.cell 0
                have v1 := hY.cell 1
                have v2 := hY.cell 2
                have v3 := hY.cell 3
                have v4 := hY.cell 4
                simp only [List.getElem?_toArray, List.getElem?_cons_zero, List.getElem?_cons_succ] at v0 v1 v2 v3 v4
                refine bodyPost_ret (v := .tuple #[.agg (cE ⟨ek, ew, en, eo, es⟩), .int .i64 0]) ?_ rfl ⟨by rw [HQ.out], hF⟩
                simp [results, Tryd.f10, go_sem, v0, v1, v2, v3, v4, cE]
              · have hn : (cd != 0) = true := by rw [bne_iff_ne]; exact hcd
                have HQ := Lib.hid (show readE line = (E0, 3) from by rw [HQ.out, if_pos hn])
                have g0 := HE9.out.rd.cell 0
                have g1 := HE9.out.rd.cell 1
                have gf0 := HE9.out.rd.frozen 0
                have gf1 := HE9.out.rd.frozen 1
                have e0 := HE9.out.ev.cell 0
                have e1 := HE9.out.ev.cell 1
                have e2 := HE9.out.ev.cell 2
                have e3 := HE9.out.ev.cell 3
                have e4 := HE9.out.ev.cell 4
                have ef1 := HE9.out.ev.frozen 1
                have ef2 := HE9.out.ev.frozen 2
                have ef3 := HE9.out.ev.frozen 3
                have ef4 := HE9.out.ev.frozen 4
                have z2 := HE9.out.row.cell 2
                have z3 := HE9.out.row.cell 3
                have z4 := HE9.out.row.cell 4
                have z5 := HE9.out.row.cell 5
                simp only [cE, cS, cR, List.getElem?_toArray, List.getElem?_cons_zero, List.getElem?_cons_succ] at g0 g1 e0 e1 e2 e3 e4 z2 z3 z4 z5
                have q0 := HE9.out.res.frozen 0
                have q1 := HE9.out.res.frozen 1
                have q2 := HE9.out.res.frozen 2
                have q3 := HE9.out.res.frozen 3
                have q4 := HE9.out.res.frozen 4
                have u0 := HE9.out.res.cell 0
                have u1 := HE9.out.res.cell 1
                have u2 := HE9.out.res.cell 2
                have u3 := HE9.out.res.cell 3
                have u4 := HE9.out.res.cell 4
                simp only [List.getElem?_toArray, List.getElem?_cons_zero, List.getElem?_cons_succ] at u0 u1 u2 u3 u4
                have HR5 := Lib.hid (ret5 (a0 := .int .i64 0) (a1 := .int .i64 0) (a2 := .int .i64 0) (a3 := .bool false) (a4 := .string ⟨#[]⟩) HE9.out.res HE9.out.fr HE9.out.hw.1)
                go_wp2_with fail
                obtain ⟨hY, hF⟩ := HR5.out
                have v0 := hY.cell 0
                have v1 := hY.cell 1
                have v2 := hY.cell 2
                have v3 := hY.cell 3
                have v4 := hY.cell 4
                simp only [List.getElem?_toArray, List.getElem?_cons_zero, List.getElem?_cons_succ] at v0 v1 v2 v3 v4
                refine bodyPost_ret (v := .tuple #[.agg (cE E0), .int .i64 3]) ?_ rfl ⟨by rw [HQ.out], hF⟩
                simp [results, Tryd.f10, go_sem, v0, v1, v2, v3, v4, cE, E0]
            · subst hr0
              have hcn : (cd != 0) = true := by rw [bne_iff_ne]; exact hcd
              have HEA := Lib.hid (show At w (w6.setCell ⟨b4, 1, none⟩ (.bool true)) b2 b4 b8 b6 ⟨xk, xt, true, false, false, true⟩ (e, ((c0 :: l0), true)) from HF6.out.rput (x := ((c0 :: l0), true)) 1 (.bool true) rfl)
              clear HF6
              go_upto_region 18 with (fail)
              clear g0 g1 gf1
              generalize w6.setCell ⟨b4, 1, none⟩ (.bool true) = WA at HEA ⊢
              have e4 := HEA.out.ev.cell 4
              have ef4 := HEA.out.ev.frozen 4
              have g0 := HEA.out.rd.cell 0
              have gf0 := HEA.out.rd.frozen 0
              simp only [cE, cS, List.getElem?_toArray, List.getElem?_cons_zero, List.getElem?_cons_succ] at e4 g0
              obtain ⟨ev2, hev2⟩ : ∃ ev2 : E, ev2 = { e with s := us } := ⟨_, rfl⟩
              have HE7 := Lib.hid (show At w ((WA.setCell ⟨b8, 4, none⟩ (.string ⟨us.toArray⟩)).setCell ⟨b4, 0, none⟩ (.string ⟨#[]⟩)) b2 b4 b8 b6 ⟨xk, xt, true, false, false, true⟩ (ev2, ([], true)) from by rw [hev2]; exact (HEA.out.put (e := { e with s := us }) 4 (.string ⟨us.toArray⟩) rfl).rput (x := ([], true)) 0 (.string ⟨#[]⟩) rfl)
              rw [← hev2] at HQ6
              clear HEA hev2
              go_upto_region 19 with (fail)
              clear e4 ef4 g0 gf0
              generalize (WA.setCell ⟨b8, 4, none⟩ (.string ⟨us.toArray⟩)).setCell ⟨b4, 0, none⟩ (.string ⟨#[]⟩) = WB at HE7 ⊢
              have HQ := Lib.hid (show readE line = (E0, 3) from by rw [HQ6.out] <;> (rw [hcn]; try rfl))
              have g0 := HE7.out.rd.cell 0
              have g1 := HE7.out.rd.cell 1
              have gf0 := HE7.out.rd.frozen 0
              have gf1 := HE7.out.rd.frozen 1
              have e0 := HE7.out.ev.cell 0
              have e1 := HE7.out.ev.cell 1
              have e2 := HE7.out.ev.cell 2
              have e3 := HE7.out.ev.cell 3
              have e4 := HE7.out.ev.cell 4
              have ef1 := HE7.out.ev.frozen 1
              have ef2 := HE7.out.ev.frozen 2
              have ef3 := HE7.out.ev.frozen 3
              have ef4 := HE7.out.ev.frozen 4
              have z2 := HE7.out.row.cell 2
              have z3 := HE7.out.row.cell 3
              have z4 := HE7.out.row.cell 4
              have z5 := HE7.out.row.cell 5
              simp only [cE, cS, cR, List.getElem?_toArray, List.getElem?_cons_zero, List.getElem?_cons_succ] at g0 g1 e0 e1 e2 e3 e4 z2 z3 z4 z5
              have q0 := HE7.out.res.frozen 0
              have q1 := HE7.out.res.frozen 1
              have q2 := HE7.out.res.frozen 2
              have q3 := HE7.out.res.frozen 3
              have q4 := HE7.out.res.frozen 4
              have u0 := HE7.out.res.cell 0
              have u1 := HE7.out.res.cell 1
              have u2 := HE7.out.res.cell 2
              have u3 := HE7.out.res.cell 3
              have u4 := HE7.out.res.cell 4
              simp only [List.getElem?_toArray, List.getElem?_cons_zero, List.getElem?_cons_succ] at u0 u1 u2 u3 u4
              have HR5 := Lib.hid (ret5 (a0 := .int .i64 0) (a1 := .int .i64 0) (a2 := .int .i64 0) (a3 := .bool false) (a4 := .string ⟨#[]⟩) HE7.out.res HE7.out.fr HE7.out.hw.1)
              go_wp2_with fail
              obtain ⟨hY, hF⟩ := HR5.out
              have v0 := hY.cell 0
              have v1 := hY.cell 1
              have v2 := hY.cell 2
              have v3 := hY.cell 3
              have v4 := hY.cell 4
              simp only [List.getElem?_toArray, List.getElem?_cons_zero, List.getElem?_cons_succ] at v0 v1 v2 v3 v4
              refine bodyPost_ret (v := .tuple #[.agg (cE E0), .int .i64 3]) ?_ rfl ⟨by rw [HQ.out], hF⟩
              simp [results, Tryd.f10, go_sem, v0, v1, v2, v3, v4, cE, E0]
    · obtain ⟨q0, hq⟩ : ∃ q : E × St, q = (⟨xk, 0, 0, false, []⟩, x) := ⟨_, rfl⟩
      have HE0 := Lib.hid (show At w W0_ b2 b4 b8 b6 ⟨xk, xt, true, false, true, false⟩ q0 from by rw [hq]; exact HE.out)
      have HLQ0 := Lib.hid (show q0.2.1.length ≤ 1000000 from by rw [hq]; exact Nat.le_trans HWL.out.2 HLA.out)
      have HQ0 := Lib.hid (show readE line = finE (stN ⟨xk, xt, true, false, true, false⟩ (stW ⟨xk, xt, true, false, true, false⟩ q0)) from by rw [hq, HRE.out]; rfl)
      clear hq HRE HWL HLA HE
      have g0 := HE0.out.rd.cell 0
      have g1 := HE0.out.rd.cell 1
      have gf0 := HE0.out.rd.frozen 0
      have gf1 := HE0.out.rd.frozen 1
      have e0 := HE0.out.ev.cell 0
      have e1 := HE0.out.ev.cell 1
      have e2 := HE0.out.ev.cell 2
      have e3 := HE0.out.ev.cell 3
      have e4 := HE0.out.ev.cell 4
      have ef1 := HE0.out.ev.frozen 1
      have ef2 := HE0.out.ev.frozen 2
      have ef3 := HE0.out.ev.frozen 3
      have ef4 := HE0.out.ev.frozen 4
      have z2 := HE0.out.row.cell 2
      have z3 := HE0.out.row.cell 3
      have z4 := HE0.out.row.cell 4
      have z5 := HE0.out.row.cell 5
      simp only [cE, cS, cR, List.getElem?_toArray, List.getElem?_cons_zero, List.getElem?_cons_succ] at g0 g1 e0 e1 e2 e3 e4 z2 z3 z4 z5
      have HNB := Lib.hid (number_any q0.2 b4 W0_ HE0.out.rd HLQ0.out)
      go_wp2_with fail
      refine HNB.out.mono ?_
      rintro x1 W1 ⟨rfl, hb, hf⟩
      clear g0 g1 gf0 gf1 e0 e1 e2 e3 e4 ef1 ef2 ef3 ef4 z2 z3 z4 z5
      have h1 := HE0.out.rest hb hf
      have ef := h1.ev.frozen 1
      have HL2 := Lib.hid (Nat.le_trans (number_len q0.2) HLQ0.out)
      obtain ⟨q1, hq'⟩ : ∃ q' : E × St, q' = ({ q0.1 with who := (number q0.2).1 }, (number q0.2).2) := ⟨_, rfl⟩
      have HE1 := Lib.hid (show At w (W1.setCell ⟨b8, 1, none⟩ (.int .i64 (number q0.2).1)) b2 b4 b8 b6 ⟨xk, xt, true, false, true, false⟩ q1 from by rw [hq']; exact h1.put (e := { q0.1 with who := (number q0.2).1 }) 1 (.int .i64 (number q0.2).1) rfl)
      have HLQ1 := Lib.hid (show q1.2.1.length ≤ 1000000 from by rw [hq']; exact HL2.out)
      have HQ1 := Lib.hid (show readE line = finE (stN ⟨xk, xt, true, false, true, false⟩ q1) from by rw [hq', HQ0.out]; rfl)
      have ee := h1.ev.cell 1
      simp only [cE, List.getElem?_toArray, List.getElem?_cons_zero, List.getElem?_cons_succ] at ee
      clear h1 hb hf HNB HE0 HLQ0 HQ0 hq' HL2
      go_upto_region 9 with (fail)
      clear ee ef
      generalize W1.setCell ⟨b8, 1, none⟩ (.int .i64 (number q0.2).1) = W1_ at HE1 ⊢
      generalize (number q0.2).1 = num1
      clear W1 W0_ q0
      have g0 := HE1.out.rd.cell 0
      have g1 := HE1.out.rd.cell 1
      have gf0 := HE1.out.rd.frozen 0
      have gf1 := HE1.out.rd.frozen 1
      have e0 := HE1.out.ev.cell 0
      have e1 := HE1.out.ev.cell 1
      have e2 := HE1.out.ev.cell 2
      have e3 := HE1.out.ev.cell 3
      have e4 := HE1.out.ev.cell 4
      have ef1 := HE1.out.ev.frozen 1
      have ef2 := HE1.out.ev.frozen 2
      have ef3 := HE1.out.ev.frozen 3
      have ef4 := HE1.out.ev.frozen 4
      have z2 := HE1.out.row.cell 2
      have z3 := HE1.out.row.cell 3
      have z4 := HE1.out.row.cell 4
      have z5 := HE1.out.row.cell 5
      simp only [cE, cS, cR, List.getElem?_toArray, List.getElem?_cons_zero, List.getElem?_cons_succ] at g0 g1 e0 e1 e2 e3 e4 z2 z3 z4 z5
      have HNB := Lib.hid (number_any q1.2 b4 W1_ HE1.out.rd HLQ1.out)
      go_wp2_with fail
      refine HNB.out.mono ?_
      rintro x1 W1 ⟨rfl, hb, hf⟩
      clear g0 g1 gf0 gf1 e0 e1 e2 e3 e4 ef1 ef2 ef3 ef4 z2 z3 z4 z5
      have h1 := HE1.out.rest hb hf
      have ef := h1.ev.frozen 2
      have HL2 := Lib.hid (Nat.le_trans (number_len q1.2) HLQ1.out)
      obtain ⟨q2, hq'⟩ : ∃ q' : E × St, q' = ({ q1.1 with n := (number q1.2).1 }, (number q1.2).2) := ⟨_, rfl⟩
      have HE2 := Lib.hid (show At w (W1.setCell ⟨b8, 2, none⟩ (.int .i64 (number q1.2).1)) b2 b4 b8 b6 ⟨xk, xt, true, false, true, false⟩ q2 from by rw [hq']; exact h1.put (e := { q1.1 with n := (number q1.2).1 }) 2 (.int .i64 (number q1.2).1) rfl)
      have HLQ2 := Lib.hid (show q2.2.1.length ≤ 1000000 from by rw [hq']; exact HL2.out)
      have HQ2 := Lib.hid (show readE line = finE q2 from by rw [hq', HQ1.out]; rfl)
      have ee := h1.ev.cell 2
      simp only [cE, List.getElem?_toArray, List.getElem?_cons_zero, List.getElem?_cons_succ] at ee
      clear h1 hb hf HNB HE1 HLQ1 HQ1 hq' HL2
      go_upto_region 15 with (fail)
      clear ee ef
      generalize W1.setCell ⟨b8, 2, none⟩ (.int .i64 (number q1.2).1) = W2_ at HE2 ⊢
      generalize (number q1.2).1 = num2
      clear W1 W1_ q1
      obtain ⟨e, rest, bd⟩ := q2
      have HQ := Lib.hid (show readE line = if (bd || rest != [] || checkE e != 0) = true then (E0, 3) else (e, 0) from HQ2.out)
      clear HQ2
      cases bd with
      | true =>
        have HQ := Lib.hid (show readE line = (E0, 3) from by rw [HQ.out]; rfl)
        have g0 := HE2.out.rd.cell 0
        have g1 := HE2.out.rd.cell 1
        have gf0 := HE2.out.rd.frozen 0
        have gf1 := HE2.out.rd.frozen 1
        have e0 := HE2.out.ev.cell 0
        have e1 := HE2.out.ev.cell 1
        have e2 := HE2.out.ev.cell 2
        have e3 := HE2.out.ev.cell 3
        have e4 := HE2.out.ev.cell 4
        have ef1 := HE2.out.ev.frozen 1
        have ef2 := HE2.out.ev.frozen 2
        have ef3 := HE2.out.ev.frozen 3
        have ef4 := HE2.out.ev.frozen 4
        have z2 := HE2.out.row.cell 2
        have z3 := HE2.out.row.cell 3
        have z4 := HE2.out.row.cell 4
        have z5 := HE2.out.row.cell 5
        simp only [cE, cS, cR, List.getElem?_toArray, List.getElem?_cons_zero, List.getElem?_cons_succ] at g0 g1 e0 e1 e2 e3 e4 z2 z3 z4 z5
        have q0 := HE2.out.res.frozen 0
        have q1 := HE2.out.res.frozen 1
        have q2 := HE2.out.res.frozen 2
        have q3 := HE2.out.res.frozen 3
        have q4 := HE2.out.res.frozen 4
        have u0 := HE2.out.res.cell 0
        have u1 := HE2.out.res.cell 1
        have u2 := HE2.out.res.cell 2
        have u3 := HE2.out.res.cell 3
        have u4 := HE2.out.res.cell 4
        simp only [List.getElem?_toArray, List.getElem?_cons_zero, List.getElem?_cons_succ] at u0 u1 u2 u3 u4
        have HR5 := Lib.hid (ret5 (a0 := .int .i64 0) (a1 := .int .i64 0) (a2 := .int .i64 0) (a3 := .bool false) (a4 := .string ⟨#[]⟩) HE2.out.res HE2.out.fr HE2.out.hw.1)
        go_wp2_with fail
        obtain ⟨hY, hF⟩ := HR5.out
        have v0 := hY.cell 0
        have v1 := hY.cell 1
        have v2 := hY.cell 2
        have v3 := hY.cell 3
        have v4 := hY.cell 4
        simp only [List.getElem?_toArray, List.getElem?_cons_zero, List.getElem?_cons_succ] at v0 v1 v2 v3 v4
        refine bodyPost_ret (v := .tuple #[.agg (cE E0), .int .i64 3]) ?_ rfl ⟨by rw [HQ.out], hF⟩
        simp [results, Tryd.f10, go_sem, v0, v1, v2, v3, v4, cE, E0]
      | false =>
        cases rest with
        | cons c l =>
          have HQ := Lib.hid (show readE line = (E0, 3) from by rw [HQ.out]; rfl)
          have g0 := HE2.out.rd.cell 0
          have g1 := HE2.out.rd.cell 1
          have gf0 := HE2.out.rd.frozen 0
          have gf1 := HE2.out.rd.frozen 1
          have e0 := HE2.out.ev.cell 0
          have e1 := HE2.out.ev.cell 1
          have e2 := HE2.out.ev.cell 2
          have e3 := HE2.out.ev.cell 3
          have e4 := HE2.out.ev.cell 4
          have ef1 := HE2.out.ev.frozen 1
          have ef2 := HE2.out.ev.frozen 2
          have ef3 := HE2.out.ev.frozen 3
          have ef4 := HE2.out.ev.frozen 4
          have z2 := HE2.out.row.cell 2
          have z3 := HE2.out.row.cell 3
          have z4 := HE2.out.row.cell 4
          have z5 := HE2.out.row.cell 5
          simp only [cE, cS, cR, List.getElem?_toArray, List.getElem?_cons_zero, List.getElem?_cons_succ] at g0 g1 e0 e1 e2 e3 e4 z2 z3 z4 z5
          have q0 := HE2.out.res.frozen 0
          have q1 := HE2.out.res.frozen 1
          have q2 := HE2.out.res.frozen 2
          have q3 := HE2.out.res.frozen 3
          have q4 := HE2.out.res.frozen 4
          have u0 := HE2.out.res.cell 0
          have u1 := HE2.out.res.cell 1
          have u2 := HE2.out.res.cell 2
          have u3 := HE2.out.res.cell 3
          have u4 := HE2.out.res.cell 4
          simp only [List.getElem?_toArray, List.getElem?_cons_zero, List.getElem?_cons_succ] at u0 u1 u2 u3 u4
          have HR5 := Lib.hid (ret5 (a0 := .int .i64 0) (a1 := .int .i64 0) (a2 := .int .i64 0) (a3 := .bool false) (a4 := .string ⟨#[]⟩) HE2.out.res HE2.out.fr HE2.out.hw.1)
          have hz : ((⟨(c :: l).toArray⟩ : ByteArray) == ⟨#[]⟩) = false := by show ((c :: l).toArray == (#[] : Array UInt8)) = false; simp
          go_wp2_with fail
          obtain ⟨hY, hF⟩ := HR5.out
          have v0 := hY.cell 0
          have v1 := hY.cell 1
          have v2 := hY.cell 2
          have v3 := hY.cell 3
          have v4 := hY.cell 4
          simp only [List.getElem?_toArray, List.getElem?_cons_zero, List.getElem?_cons_succ] at v0 v1 v2 v3 v4
          refine bodyPost_ret (v := .tuple #[.agg (cE E0), .int .i64 3]) ?_ rfl ⟨by rw [HQ.out], hF⟩
          simp [results, Tryd.f10, go_sem, v0, v1, v2, v3, v4, cE, E0]
        | nil =>
          have HCK := Lib.hid (check_any e)
          have HQ := Lib.hid (show readE line = if (checkE e != 0) = true then (E0, 3) else (e, 0) from by first | exact HQ.out | (rw [HQ.out]; rfl))
          obtain ⟨cd, hcd⟩ : ∃ c, c = checkE e := ⟨_, rfl⟩
          rw [← hcd] at HCK HQ
          clear hcd
          have hev := HE2.out.ev.cell
          have g0 := HE2.out.rd.cell 0
          have g1 := HE2.out.rd.cell 1
          have gf0 := HE2.out.rd.frozen 0
          have gf1 := HE2.out.rd.frozen 1
          have e0 := HE2.out.ev.cell 0
          have e1 := HE2.out.ev.cell 1
          have e2 := HE2.out.ev.cell 2
          have e3 := HE2.out.ev.cell 3
          have e4 := HE2.out.ev.cell 4
          have ef1 := HE2.out.ev.frozen 1
          have ef2 := HE2.out.ev.frozen 2
          have ef3 := HE2.out.ev.frozen 3
          have ef4 := HE2.out.ev.frozen 4
          have z2 := HE2.out.row.cell 2
          have z3 := HE2.out.row.cell 3
          have z4 := HE2.out.row.cell 4
          have z5 := HE2.out.row.cell 5
          simp only [cE, cS, cR, List.getElem?_toArray, List.getElem?_cons_zero, List.getElem?_cons_succ] at g0 g1 e0 e1 e2 e3 e4 z2 z3 z4 z5
          obtain ⟨ek, ew, en, eo, es⟩ := e
          clear hev
          go_wp2_with fail
          refine (HCK.out _).mono ?_
          rintro x1 W9 ⟨rfl, hf⟩
          clear g0 g1 gf0 gf1 e0 e1 e2 e3 e4 ef1 ef2 ef3 ef4 z2 z3 z4 z5
          have HE9 := Lib.hid (HE2.out.no hf)
          clear hf HE2 HCK
          by_cases hcd : cd = 0
          · subst hcd
            have HQ := Lib.hid (show readE line = (⟨ek, ew, en, eo, es⟩, 0) from by rw [HQ.out]; rfl)
            have g0 := HE9.out.rd.cell 0
            have g1 := HE9.out.rd.cell 1
            have gf0 := HE9.out.rd.frozen 0
            have gf1 := HE9.out.rd.frozen 1
            have e0 := HE9.out.ev.cell 0
            have e1 := HE9.out.ev.cell 1
            have e2 := HE9.out.ev.cell 2
            have e3 := HE9.out.ev.cell 3
            have e4 := HE9.out.ev.cell 4
            have ef1 := HE9.out.ev.frozen 1
            have ef2 := HE9.out.ev.frozen 2
            have ef3 := HE9.out.ev.frozen 3
            have ef4 := HE9.out.ev.frozen 4
            have z2 := HE9.out.row.cell 2
            have z3 := HE9.out.row.cell 3
            have z4 := HE9.out.row.cell 4
            have z5 := HE9.out.row.cell 5
            simp only [cE, cS, cR, List.getElem?_toArray, List.getElem?_cons_zero, List.getElem?_cons_succ] at g0 g1 e0 e1 e2 e3 e4 z2 z3 z4 z5
            have q0 := HE9.out.res.frozen 0
            have q1 := HE9.out.res.frozen 1
            have q2 := HE9.out.res.frozen 2
            have q3 := HE9.out.res.frozen 3
            have q4 := HE9.out.res.frozen 4
            have u0 := HE9.out.res.cell 0
            have u1 := HE9.out.res.cell 1
            have u2 := HE9.out.res.cell 2
            have u3 := HE9.out.res.cell 3
            have u4 := HE9.out.res.cell 4
            simp only [List.getElem?_toArray, List.getElem?_cons_zero, List.getElem?_cons_succ] at u0 u1 u2 u3 u4
            have HR5 := Lib.hid (ret5 (a0 := .int .i64 ek) (a1 := .int .i64 ew) (a2 := .int .i64 en) (a3 := .bool eo) (a4 := .string ⟨es.toArray⟩) HE9.out.res HE9.out.fr HE9.out.hw.1)
            go_wp2_with fail
            obtain ⟨hY, hF⟩ := HR5.out
            have v0 := hY.cell 0
            have v1 := hY.cell 1
            have v2 := hY.cell 2
            have v3 := hY.cell 3
            have v4 := hY.cell 4
            simp only [List.getElem?_toArray, List.getElem?_cons_zero, List.getElem?_cons_succ] at v0 v1 v2 v3 v4
            refine bodyPost_ret (v := .tuple #[.agg (cE ⟨ek, ew, en, eo, es⟩), .int .i64 0]) ?_ rfl ⟨by rw [HQ.out], hF⟩
            simp [results, Tryd.f10, go_sem, v0, v1, v2, v3, v4, cE]
          · have hn : (cd != 0) = true := by rw [bne_iff_ne]; exact hcd
            have HQ := Lib.hid (show readE line = (E0, 3) from by rw [HQ.out, if_pos hn])
            have g0 := HE9.out.rd.cell 0
            have g1 := HE9.out.rd.cell 1
            have gf0 := HE9.out.rd.frozen 0
            have gf1 := HE9.out.rd.frozen 1
            have e0 := HE9.out.ev.cell 0
            have e1 := HE9.out.ev.cell 1
            have e2 := HE9.out.ev.cell 2
            have e3 := HE9.out.ev.cell 3
            have e4 := HE9.out.ev.cell 4
            have ef1 := HE9.out.ev.frozen 1
            have ef2 := HE9.out.ev.frozen 2
            have ef3 := HE9.out.ev.frozen 3
            have ef4 := HE9.out.ev.frozen 4
            have z2 := HE9.out.row.cell 2
            have z3 := HE9.out.row.cell 3
            have z4 := HE9.out.row.cell 4
            have z5 := HE9.out.row.cell 5
            simp only [cE, cS, cR, List.getElem?_toArray, List.getElem?_cons_zero, List.getElem?_cons_succ] at g0 g1 e0 e1 e2 e3 e4 z2 z3 z4 z5
            have q0 := HE9.out.res.frozen 0
            have q1 := HE9.out.res.frozen 1
            have q2 := HE9.out.res.frozen 2
            have q3 := HE9.out.res.frozen 3
            have q4 := HE9.out.res.frozen 4
            have u0 := HE9.out.res.cell 0
            have u1 := HE9.out.res.cell 1
            have u2 := HE9.out.res.cell 2
            have u3 := HE9.out.res.cell 3
            have u4 := HE9.out.res.cell 4
            simp only [List.getElem?_toArray, List.getElem?_cons_zero, List.getElem?_cons_succ] at u0 u1 u2 u3 u4
            have HR5 := Lib.hid (ret5 (a0 := .int .i64 0) (a1 := .int .i64 0) (a2 := .int .i64 0) (a3 := .bool false) (a4 := .string ⟨#[]⟩) HE9.out.res HE9.out.fr HE9.out.hw.1)
            go_wp2_with fail
            obtain ⟨hY, hF⟩ := HR5.out
            have v0 := hY.cell 0
            have v1 := hY.cell 1
            have v2 := hY.cell 2
            have v3 := hY.cell 3
            have v4 := hY.cell 4
            simp only [List.getElem?_toArray, List.getElem?_cons_zero, List.getElem?_cons_succ] at v0 v1 v2 v3 v4
            refine bodyPost_ret (v := .tuple #[.agg (cE E0), .int .i64 3]) ?_ rfl ⟨by rw [HQ.out], hF⟩
            simp [results, Tryd.f10, go_sem, v0, v1, v2, v3, v4, cE, E0]
    · obtain ⟨q0, hq⟩ : ∃ q : E × St, q = (⟨xk, 0, 0, false, []⟩, x) := ⟨_, rfl⟩
      have HE0 := Lib.hid (show At w W0_ b2 b4 b8 b6 ⟨xk, xt, true, true, true, false⟩ q0 from by rw [hq]; exact HE.out)
      have HLQ0 := Lib.hid (show q0.2.1.length ≤ 1000000 from by rw [hq]; exact Nat.le_trans HWL.out.2 HLA.out)
      have HQ0 := Lib.hid (show readE line = finE (stN ⟨xk, xt, true, true, true, false⟩ (stY ⟨xk, xt, true, true, true, false⟩ (stW ⟨xk, xt, true, true, true, false⟩ q0))) from by rw [hq, HRE.out]; rfl)
      clear hq HRE HWL HLA HE
      have g0 := HE0.out.rd.cell 0
      have g1 := HE0.out.rd.cell 1
      have gf0 := HE0.out.rd.frozen 0
      have gf1 := HE0.out.rd.frozen 1
      have e0 := HE0.out.ev.cell 0
      have e1 := HE0.out.ev.cell 1
      have e2 := HE0.out.ev.cell 2
      have e3 := HE0.out.ev.cell 3
      have e4 := HE0.out.ev.cell 4
      have ef1 := HE0.out.ev.frozen 1
      have ef2 := HE0.out.ev.frozen 2
      have ef3 := HE0.out.ev.frozen 3
      have ef4 := HE0.out.ev.frozen 4
      have z2 := HE0.out.row.cell 2
      have z3 := HE0.out.row.cell 3
      have z4 := HE0.out.row.cell 4
      have z5 := HE0.out.row.cell 5
      simp only [cE, cS, cR, List.getElem?_toArray, List.getElem?_cons_zero, List.getElem?_cons_succ] at g0 g1 e0 e1 e2 e3 e4 z2 z3 z4 z5
      have HNB := Lib.hid (number_any q0.2 b4 W0_ HE0.out.rd HLQ0.out)
      go_wp2_with fail
      refine HNB.out.mono ?_
      rintro x1 W1 ⟨rfl, hb, hf⟩
      clear g0 g1 gf0 gf1 e0 e1 e2 e3 e4 ef1 ef2 ef3 ef4 z2 z3 z4 z5
      have h1 := HE0.out.rest hb hf
      have ef := h1.ev.frozen 1
      have HL2 := Lib.hid (Nat.le_trans (number_len q0.2) HLQ0.out)
      obtain ⟨q1, hq'⟩ : ∃ q' : E × St, q' = ({ q0.1 with who := (number q0.2).1 }, (number q0.2).2) := ⟨_, rfl⟩
      have HE1 := Lib.hid (show At w (W1.setCell ⟨b8, 1, none⟩ (.int .i64 (number q0.2).1)) b2 b4 b8 b6 ⟨xk, xt, true, true, true, false⟩ q1 from by rw [hq']; exact h1.put (e := { q0.1 with who := (number q0.2).1 }) 1 (.int .i64 (number q0.2).1) rfl)
      have HLQ1 := Lib.hid (show q1.2.1.length ≤ 1000000 from by rw [hq']; exact HL2.out)
      have HQ1 := Lib.hid (show readE line = finE (stN ⟨xk, xt, true, true, true, false⟩ (stY ⟨xk, xt, true, true, true, false⟩ q1)) from by rw [hq', HQ0.out]; rfl)
      have ee := h1.ev.cell 1
      simp only [cE, List.getElem?_toArray, List.getElem?_cons_zero, List.getElem?_cons_succ] at ee
      clear h1 hb hf HNB HE0 HLQ0 HQ0 hq' HL2
      go_upto_region 9 with (fail)
      clear ee ef
      generalize W1.setCell ⟨b8, 1, none⟩ (.int .i64 (number q0.2).1) = W1_ at HE1 ⊢
      generalize (number q0.2).1 = num1
      clear W1 W0_ q0
      have g0 := HE1.out.rd.cell 0
      have g1 := HE1.out.rd.cell 1
      have gf0 := HE1.out.rd.frozen 0
      have gf1 := HE1.out.rd.frozen 1
      have e0 := HE1.out.ev.cell 0
      have e1 := HE1.out.ev.cell 1
      have e2 := HE1.out.ev.cell 2
      have e3 := HE1.out.ev.cell 3
      have e4 := HE1.out.ev.cell 4
      have ef1 := HE1.out.ev.frozen 1
      have ef2 := HE1.out.ev.frozen 2
      have ef3 := HE1.out.ev.frozen 3
      have ef4 := HE1.out.ev.frozen 4
      have z2 := HE1.out.row.cell 2
      have z3 := HE1.out.row.cell 3
      have z4 := HE1.out.row.cell 4
      have z5 := HE1.out.row.cell 5
      simp only [cE, cS, cR, List.getElem?_toArray, List.getElem?_cons_zero, List.getElem?_cons_succ] at g0 g1 e0 e1 e2 e3 e4 z2 z3 z4 z5
      have HW2_ := Lib.hid (word_any q1.2 b4 W1_ HE1.out.rd HLQ1.out)
      have hwl := word_len q1.2
      go_wp2_with fail
      refine HW2_.out.mono ?_
      rintro x1 W1 ⟨rfl, hb, hf⟩
      clear g0 g1 gf0 gf1 e0 e1 e2 e3 e4 ef1 ef2 ef3 ef4 z2 z3 z4 z5
      have h1 := HE1.out.rest hb hf
      obtain ⟨⟨t1, r1, c1⟩, ht⟩ : ∃ p, p = word q1.2 := ⟨_, rfl⟩
      rw [← ht] at h1 hwl ⊢
      have HLQY := Lib.hid (show r1.length ≤ 1000000 from Nat.le_trans hwl.2 HLQ1.out)
      have HQY := Lib.hid (show readE line = finE (stN ⟨xk, xt, true, true, true, false⟩ ({ q1.1 with ok := t1 == yesB }, (r1, c1 || (t1 != yesB && t1 != noB)))) from by rw [HQ1.out]; unfold stY; rw [← ht]; rfl)
      have HEY := Lib.hid h1
      clear h1 hb hf HW2_ HE1 HLQ1 HQ1 ht hwl
      have e3 := HEY.out.ev.cell 3
      have ef3 := HEY.out.ev.frozen 3
      have g1 := HEY.out.rd.cell 1
      have gf1 := HEY.out.rd.frozen 1
      simp only [cE, cS, List.getElem?_toArray, List.getElem?_cons_zero, List.getElem?_cons_succ] at e3 g1
      cases c1 with
      | true =>
        obtain ⟨q2, hq'⟩ : ∃ q' : E × St, q' = ({ q1.1 with ok := t1 == yesB }, (r1, true)) := ⟨_, rfl⟩
        have HE2 := Lib.hid (show At w ((W1.setCell ⟨b8, 3, none⟩ (.bool (t1 == yesB))).setCell ⟨b4, 1, none⟩ (.bool true)) b2 b4 b8 b6 ⟨xk, xt, true, true, true, false⟩ q2 from by rw [hq']; exact (HEY.out.put (e := { q1.1 with ok := t1 == yesB }) 3 (.bool (t1 == yesB)) rfl).rput (x := (r1, true)) 1 (.bool true) rfl)
        have HLQ2 := Lib.hid (show q2.2.1.length ≤ 1000000 from by rw [hq']; exact HLQY.out)
        have HQ2 := Lib.hid (show readE line = finE (stN ⟨xk, xt, true, true, true, false⟩ q2) from by rw [hq', HQY.out]; rfl)
        clear hq' HEY HLQY HQY
        go_upto_region 13 with (fail)
        clear e3 ef3 g1 gf1
        try rw [show (t1 == [121, 101, 115]) = (t1 == yesB) from rfl]
        generalize (W1.setCell ⟨b8, 3, none⟩ (.bool (t1 == yesB))).setCell ⟨b4, 1, none⟩ (.bool true) = W2_ at HE2 ⊢
        have g0 := HE2.out.rd.cell 0
        have g1 := HE2.out.rd.cell 1
        have gf0 := HE2.out.rd.frozen 0
        have gf1 := HE2.out.rd.frozen 1
        have e0 := HE2.out.ev.cell 0
        have e1 := HE2.out.ev.cell 1
        have e2 := HE2.out.ev.cell 2
        have e3 := HE2.out.ev.cell 3
        have e4 := HE2.out.ev.cell 4
        have ef1 := HE2.out.ev.frozen 1
        have ef2 := HE2.out.ev.frozen 2
        have ef3 := HE2.out.ev.frozen 3
        have ef4 := HE2.out.ev.frozen 4
        have z2 := HE2.out.row.cell 2
        have z3 := HE2.out.row.cell 3
        have z4 := HE2.out.row.cell 4
        have z5 := HE2.out.row.cell 5
        simp only [cE, cS, cR, List.getElem?_toArray, List.getElem?_cons_zero, List.getElem?_cons_succ] at g0 g1 e0 e1 e2 e3 e4 z2 z3 z4 z5
        have HNB := Lib.hid (number_any q2.2 b4 W2_ HE2.out.rd HLQ2.out)
        go_wp2_with fail
        refine HNB.out.mono ?_
        rintro x1 W1 ⟨rfl, hb, hf⟩
        clear g0 g1 gf0 gf1 e0 e1 e2 e3 e4 ef1 ef2 ef3 ef4 z2 z3 z4 z5
        have h1 := HE2.out.rest hb hf
        have ef := h1.ev.frozen 2
        have HL2 := Lib.hid (Nat.le_trans (number_len q2.2) HLQ2.out)
        obtain ⟨q3, hq'⟩ : ∃ q' : E × St, q' = ({ q2.1 with n := (number q2.2).1 }, (number q2.2).2) := ⟨_, rfl⟩
        have HE3 := Lib.hid (show At w (W1.setCell ⟨b8, 2, none⟩ (.int .i64 (number q2.2).1)) b2 b4 b8 b6 ⟨xk, xt, true, true, true, false⟩ q3 from by rw [hq']; exact h1.put (e := { q2.1 with n := (number q2.2).1 }) 2 (.int .i64 (number q2.2).1) rfl)
        have HLQ3 := Lib.hid (show q3.2.1.length ≤ 1000000 from by rw [hq']; exact HL2.out)
        have HQ3 := Lib.hid (show readE line = finE q3 from by rw [hq', HQ2.out]; rfl)
        have ee := h1.ev.cell 2
        simp only [cE, List.getElem?_toArray, List.getElem?_cons_zero, List.getElem?_cons_succ] at ee
        clear h1 hb hf HNB HE2 HLQ2 HQ2 hq' HL2
        go_upto_region 15 with (fail)
        clear ee ef
        generalize W1.setCell ⟨b8, 2, none⟩ (.int .i64 (number q2.2).1) = W3_ at HE3 ⊢
        generalize (number q2.2).1 = num2
        clear W1 W2_ q2
        obtain ⟨e, rest, bd⟩ := q3
        have HQ := Lib.hid (show readE line = if (bd || rest != [] || checkE e != 0) = true then (E0, 3) else (e, 0) from HQ3.out)
        clear HQ3
        cases bd with
        | true =>
          have HQ := Lib.hid (show readE line = (E0, 3) from by rw [HQ.out]; rfl)
          have g0 := HE3.out.rd.cell 0
          have g1 := HE3.out.rd.cell 1
          have gf0 := HE3.out.rd.frozen 0
          have gf1 := HE3.out.rd.frozen 1
          have e0 := HE3.out.ev.cell 0
          have e1 := HE3.out.ev.cell 1
          have e2 := HE3.out.ev.cell 2
          have e3 := HE3.out.ev.cell 3
          have e4 := HE3.out.ev.cell 4
          have ef1 := HE3.out.ev.frozen 1
          have ef2 := HE3.out.ev.frozen 2
          have ef3 := HE3.out.ev.frozen 3
          have ef4 := HE3.out.ev.frozen 4
          have z2 := HE3.out.row.cell 2
          have z3 := HE3.out.row.cell 3
          have z4 := HE3.out.row.cell 4
          have z5 := HE3.out.row.cell 5
          simp only [cE, cS, cR, List.getElem?_toArray, List.getElem?_cons_zero, List.getElem?_cons_succ] at g0 g1 e0 e1 e2 e3 e4 z2 z3 z4 z5
          have q0 := HE3.out.res.frozen 0
          have q1 := HE3.out.res.frozen 1
          have q2 := HE3.out.res.frozen 2
          have q3 := HE3.out.res.frozen 3
          have q4 := HE3.out.res.frozen 4
          have u0 := HE3.out.res.cell 0
          have u1 := HE3.out.res.cell 1
          have u2 := HE3.out.res.cell 2
          have u3 := HE3.out.res.cell 3
          have u4 := HE3.out.res.cell 4
          simp only [List.getElem?_toArray, List.getElem?_cons_zero, List.getElem?_cons_succ] at u0 u1 u2 u3 u4
          have HR5 := Lib.hid (ret5 (a0 := .int .i64 0) (a1 := .int .i64 0) (a2 := .int .i64 0) (a3 := .bool false) (a4 := .string ⟨#[]⟩) HE3.out.res HE3.out.fr HE3.out.hw.1)
          go_wp2_with fail
          obtain ⟨hY, hF⟩ := HR5.out
          have v0 := hY.cell 0
          have v1 := hY.cell 1
          have v2 := hY.cell 2
          have v3 := hY.cell 3
          have v4 := hY.cell 4
          simp only [List.getElem?_toArray, List.getElem?_cons_zero, List.getElem?_cons_succ] at v0 v1 v2 v3 v4
          refine bodyPost_ret (v := .tuple #[.agg (cE E0), .int .i64 3]) ?_ rfl ⟨by rw [HQ.out], hF⟩
          simp [results, Tryd.f10, go_sem, v0, v1, v2, v3, v4, cE, E0]
        | false =>
          cases rest with
          | cons c l =>
            have HQ := Lib.hid (show readE line = (E0, 3) from by rw [HQ.out]; rfl)
            have g0 := HE3.out.rd.cell 0
            have g1 := HE3.out.rd.cell 1
            have gf0 := HE3.out.rd.frozen 0
            have gf1 := HE3.out.rd.frozen 1
            have e0 := HE3.out.ev.cell 0
            have e1 := HE3.out.ev.cell 1
            have e2 := HE3.out.ev.cell 2
            have e3 := HE3.out.ev.cell 3
            have e4 := HE3.out.ev.cell 4
            have ef1 := HE3.out.ev.frozen 1
            have ef2 := HE3.out.ev.frozen 2
            have ef3 := HE3.out.ev.frozen 3
            have ef4 := HE3.out.ev.frozen 4
            have z2 := HE3.out.row.cell 2
            have z3 := HE3.out.row.cell 3
            have z4 := HE3.out.row.cell 4
            have z5 := HE3.out.row.cell 5
            simp only [cE, cS, cR, List.getElem?_toArray, List.getElem?_cons_zero, List.getElem?_cons_succ] at g0 g1 e0 e1 e2 e3 e4 z2 z3 z4 z5
            have q0 := HE3.out.res.frozen 0
            have q1 := HE3.out.res.frozen 1
            have q2 := HE3.out.res.frozen 2
            have q3 := HE3.out.res.frozen 3
            have q4 := HE3.out.res.frozen 4
            have u0 := HE3.out.res.cell 0
            have u1 := HE3.out.res.cell 1
            have u2 := HE3.out.res.cell 2
            have u3 := HE3.out.res.cell 3
            have u4 := HE3.out.res.cell 4
            simp only [List.getElem?_toArray, List.getElem?_cons_zero, List.getElem?_cons_succ] at u0 u1 u2 u3 u4
            have HR5 := Lib.hid (ret5 (a0 := .int .i64 0) (a1 := .int .i64 0) (a2 := .int .i64 0) (a3 := .bool false) (a4 := .string ⟨#[]⟩) HE3.out.res HE3.out.fr HE3.out.hw.1)
            have hz : ((⟨(c :: l).toArray⟩ : ByteArray) == ⟨#[]⟩) = false := by show ((c :: l).toArray == (#[] : Array UInt8)) = false; simp
            go_wp2_with fail
            obtain ⟨hY, hF⟩ := HR5.out
            have v0 := hY.cell 0
            have v1 := hY.cell 1
            have v2 := hY.cell 2
            have v3 := hY.cell 3
            have v4 := hY.cell 4
            simp only [List.getElem?_toArray, List.getElem?_cons_zero, List.getElem?_cons_succ] at v0 v1 v2 v3 v4
            refine bodyPost_ret (v := .tuple #[.agg (cE E0), .int .i64 3]) ?_ rfl ⟨by rw [HQ.out], hF⟩
            simp [results, Tryd.f10, go_sem, v0, v1, v2, v3, v4, cE, E0]
          | nil =>
            have HCK := Lib.hid (check_any e)
            have HQ := Lib.hid (show readE line = if (checkE e != 0) = true then (E0, 3) else (e, 0) from by first | exact HQ.out | (rw [HQ.out]; rfl))
            obtain ⟨cd, hcd⟩ : ∃ c, c = checkE e := ⟨_, rfl⟩
            rw [← hcd] at HCK HQ
            clear hcd
            have hev := HE3.out.ev.cell
            have g0 := HE3.out.rd.cell 0
            have g1 := HE3.out.rd.cell 1
            have gf0 := HE3.out.rd.frozen 0
            have gf1 := HE3.out.rd.frozen 1
            have e0 := HE3.out.ev.cell 0
            have e1 := HE3.out.ev.cell 1
            have e2 := HE3.out.ev.cell 2
            have e3 := HE3.out.ev.cell 3
            have e4 := HE3.out.ev.cell 4
            have ef1 := HE3.out.ev.frozen 1
            have ef2 := HE3.out.ev.frozen 2
            have ef3 := HE3.out.ev.frozen 3
            have ef4 := HE3.out.ev.frozen 4
            have z2 := HE3.out.row.cell 2
            have z3 := HE3.out.row.cell 3
            have z4 := HE3.out.row.cell 4
            have z5 := HE3.out.row.cell 5
            simp only [cE, cS, cR, List.getElem?_toArray, List.getElem?_cons_zero, List.getElem?_cons_succ] at g0 g1 e0 e1 e2 e3 e4 z2 z3 z4 z5
            obtain ⟨ek, ew, en, eo, es⟩ := e
            clear hev
            go_wp2_with fail
            refine (HCK.out _).mono ?_
            rintro x1 W9 ⟨rfl, hf⟩
            clear g0 g1 gf0 gf1 e0 e1 e2 e3 e4 ef1 ef2 ef3 ef4 z2 z3 z4 z5
            have HE9 := Lib.hid (HE3.out.no hf)
            clear hf HE3 HCK
            by_cases hcd : cd = 0
            · subst hcd
              have HQ := Lib.hid (show readE line = (⟨ek, ew, en, eo, es⟩, 0) from by rw [HQ.out]; rfl)
              have g0 := HE9.out.rd.cell 0
              have g1 := HE9.out.rd.cell 1
              have gf0 := HE9.out.rd.frozen 0
              have gf1 := HE9.out.rd.frozen 1
              have e0 := HE9.out.ev.cell 0
              have e1 := HE9.out.ev.cell 1
              have e2 := HE9.out.ev.cell 2
              have e3 := HE9.out.ev.cell 3
              have e4 := HE9.out.ev.cell 4
              have ef1 := HE9.out.ev.frozen 1
              have ef2 := HE9.out.ev.frozen 2
              have ef3 := HE9.out.ev.frozen 3
              have ef4 := HE9.out.ev.frozen 4
              have z2 := HE9.out.row.cell 2
              have z3 := HE9.out.row.cell 3
              have z4 := HE9.out.row.cell 4
              have z5 := HE9.out.row.cell 5
              simp only [cE, cS, cR, List.getElem?_toArray, List.getElem?_cons_zero, List.getElem?_cons_succ] at g0 g1 e0 e1 e2 e3 e4 z2 z3 z4 z5
              have q0 := HE9.out.res.frozen 0
              have q1 := HE9.out.res.frozen 1
              have q2 := HE9.out.res.frozen 2
              have q3 := HE9.out.res.frozen 3
              have q4 := HE9.out.res.frozen 4
              have u0 := HE9.out.res.cell 0
              have u1 := HE9.out.res.cell 1
              have u2 := HE9.out.res.cell 2
              have u3 := HE9.out.res.cell 3
              have u4 := HE9.out.res.cell 4
              simp only [List.getElem?_toArray, List.getElem?_cons_zero, List.getElem?_cons_succ] at u0 u1 u2 u3 u4
              have HR5 := Lib.hid (ret5 (a0 := .int .i64 ek) (a1 := .int .i64 ew) (a2 := .int .i64 en) (a3 := .bool eo) (a4 := .string ⟨es.toArray⟩) HE9.out.res HE9.out.fr HE9.out.hw.1)
              go_wp2_with fail
              obtain ⟨hY, hF⟩ := HR5.out
              have v0 := hY.cell 0
              have v1 := hY.cell 1
              have v2 := hY.cell 2
              have v3 := hY.cell 3
              have v4 := hY.cell 4
              simp only [List.getElem?_toArray, List.getElem?_cons_zero, List.getElem?_cons_succ] at v0 v1 v2 v3 v4
              refine bodyPost_ret (v := .tuple #[.agg (cE ⟨ek, ew, en, eo, es⟩), .int .i64 0]) ?_ rfl ⟨by rw [HQ.out], hF⟩
              simp [results, Tryd.f10, go_sem, v0, v1, v2, v3, v4, cE]
            · have hn : (cd != 0) = true := by rw [bne_iff_ne]; exact hcd
              have HQ := Lib.hid (show readE line = (E0, 3) from by rw [HQ.out, if_pos hn])
              have g0 := HE9.out.rd.cell 0
              have g1 := HE9.out.rd.cell 1
              have gf0 := HE9.out.rd.frozen 0
              have gf1 := HE9.out.rd.frozen 1
              have e0 := HE9.out.ev.cell 0
              have e1 := HE9.out.ev.cell 1
              have e2 := HE9.out.ev.cell 2
              have e3 := HE9.out.ev.cell 3
              have e4 := HE9.out.ev.cell 4
              have ef1 := HE9.out.ev.frozen 1
              have ef2 := HE9.out.ev.frozen 2
              have ef3 := HE9.out.ev.frozen 3
              have ef4 := HE9.out.ev.frozen 4
              have z2 := HE9.out.row.cell 2
              have z3 := HE9.out.row.cell 3
              have z4 := HE9.out.row.cell 4
              have z5 := HE9.out.row.cell 5
              simp only [cE, cS, cR, List.getElem?_toArray, List.getElem?_cons_zero, List.getElem?_cons_succ] at g0 g1 e0 e1 e2 e3 e4 z2 z3 z4 z5
              have q0 := HE9.out.res.frozen 0
              have q1 := HE9.out.res.frozen 1
              have q2 := HE9.out.res.frozen 2
              have q3 := HE9.out.res.frozen 3
              have q4 := HE9.out.res.frozen 4
              have u0 := HE9.out.res.cell 0
              have u1 := HE9.out.res.cell 1
              have u2 := HE9.out.res.cell 2
              have u3 := HE9.out.res.cell 3
              have u4 := HE9.out.res.cell 4
              simp only [List.getElem?_toArray, List.getElem?_cons_zero, List.getElem?_cons_succ] at u0 u1 u2 u3 u4
              have HR5 := Lib.hid (ret5 (a0 := .int .i64 0) (a1 := .int .i64 0) (a2 := .int .i64 0) (a3 := .bool false) (a4 := .string ⟨#[]⟩) HE9.out.res HE9.out.fr HE9.out.hw.1)
              go_wp2_with fail
              obtain ⟨hY, hF⟩ := HR5.out
              have v0 := hY.cell 0
              have v1 := hY.cell 1
              have v2 := hY.cell 2
              have v3 := hY.cell 3
              have v4 := hY.cell 4
              simp only [List.getElem?_toArray, List.getElem?_cons_zero, List.getElem?_cons_succ] at v0 v1 v2 v3 v4
              refine bodyPost_ret (v := .tuple #[.agg (cE E0), .int .i64 3]) ?_ rfl ⟨by rw [HQ.out], hF⟩
              simp [results, Tryd.f10, go_sem, v0, v1, v2, v3, v4, cE, E0]
      | false =>
        cases hy : (t1 == [121, 101, 115]) with
        | true =>
          obtain ⟨q2, hq'⟩ : ∃ q' : E × St, q' = ({ q1.1 with ok := true }, (r1, false)) := ⟨_, rfl⟩
          have HE2 := Lib.hid (show At w ((W1.setCell ⟨b8, 3, none⟩ (.bool (true))).setCell ⟨b4, 1, none⟩ (.bool false)) b2 b4 b8 b6 ⟨xk, xt, true, true, true, false⟩ q2 from by rw [hq']; exact (HEY.out.put (e := { q1.1 with ok := true }) 3 (.bool (true)) rfl).rput (x := (r1, false)) 1 (.bool false) rfl)
          have HLQ2 := Lib.hid (show q2.2.1.length ≤ 1000000 from by rw [hq']; exact HLQY.out)
          have HQ2 := Lib.hid (show readE line = finE (stN ⟨xk, xt, true, true, true, false⟩ q2) from by rw [hq', HQY.out]; rw [y_bad1 hy, y_ok hy])
          clear hq' HEY HLQY HQY
          go_upto_region 13 with (fail)
          clear e3 ef3 g1 gf1
          skip
          generalize (W1.setCell ⟨b8, 3, none⟩ (.bool (true))).setCell ⟨b4, 1, none⟩ (.bool false) = W2_ at HE2 ⊢
          have g0 := HE2.out.rd.cell 0
          have g1 := HE2.out.rd.cell 1
          have gf0 := HE2.out.rd.frozen 0
          have gf1 := HE2.out.rd.frozen 1
          have e0 := HE2.out.ev.cell 0
          have e1 := HE2.out.ev.cell 1
          have e2 := HE2.out.ev.cell 2
          have e3 := HE2.out.ev.cell 3
          have e4 := HE2.out.ev.cell 4
          have ef1 := HE2.out.ev.frozen 1
          have ef2 := HE2.out.ev.frozen 2
          have ef3 := HE2.out.ev.frozen 3
          have ef4 := HE2.out.ev.frozen 4
          have z2 := HE2.out.row.cell 2
          have z3 := HE2.out.row.cell 3
          have z4 := HE2.out.row.cell 4
          have z5 := HE2.out.row.cell 5
          simp only [cE, cS, cR, List.getElem?_toArray, List.getElem?_cons_zero, List.getElem?_cons_succ] at g0 g1 e0 e1 e2 e3 e4 z2 z3 z4 z5
          have HNB := Lib.hid (number_any q2.2 b4 W2_ HE2.out.rd HLQ2.out)
          go_wp2_with fail
          refine HNB.out.mono ?_
          rintro x1 W1 ⟨rfl, hb, hf⟩
          clear g0 g1 gf0 gf1 e0 e1 e2 e3 e4 ef1 ef2 ef3 ef4 z2 z3 z4 z5
          have h1 := HE2.out.rest hb hf
          have ef := h1.ev.frozen 2
          have HL2 := Lib.hid (Nat.le_trans (number_len q2.2) HLQ2.out)
          obtain ⟨q3, hq'⟩ : ∃ q' : E × St, q' = ({ q2.1 with n := (number q2.2).1 }, (number q2.2).2) := ⟨_, rfl⟩
          have HE3 := Lib.hid (show At w (W1.setCell ⟨b8, 2, none⟩ (.int .i64 (number q2.2).1)) b2 b4 b8 b6 ⟨xk, xt, true, true, true, false⟩ q3 from by rw [hq']; exact h1.put (e := { q2.1 with n := (number q2.2).1 }) 2 (.int .i64 (number q2.2).1) rfl)
          have HLQ3 := Lib.hid (show q3.2.1.length ≤ 1000000 from by rw [hq']; exact HL2.out)
          have HQ3 := Lib.hid (show readE line = finE q3 from by rw [hq', HQ2.out]; rfl)
          have ee := h1.ev.cell 2
          simp only [cE, List.getElem?_toArray, List.getElem?_cons_zero, List.getElem?_cons_succ] at ee
          clear h1 hb hf HNB HE2 HLQ2 HQ2 hq' HL2
          go_upto_region 15 with (fail)
          clear ee ef
          generalize W1.setCell ⟨b8, 2, none⟩ (.int .i64 (number q2.2).1) = W3_ at HE3 ⊢
          generalize (number q2.2).1 = num2
          clear W1 W2_ q2
          obtain ⟨e, rest, bd⟩ := q3
          have HQ := Lib.hid (show readE line = if (bd || rest != [] || checkE e != 0) = true then (E0, 3) else (e, 0) from HQ3.out)
          clear HQ3
          cases bd with
          | true =>
            have HQ := Lib.hid (show readE line = (E0, 3) from by rw [HQ.out]; rfl)
            have g0 := HE3.out.rd.cell 0
            have g1 := HE3.out.rd.cell 1
            have gf0 := HE3.out.rd.frozen 0
            have gf1 := HE3.out.rd.frozen 1
            have e0 := HE3.out.ev.cell 0
            have e1 := HE3.out.ev.cell 1
            have e2 := HE3.out.ev.cell 2
            have e3 := HE3.out.ev.cell 3
            have e4 := HE3.out.ev.cell 4
            have ef1 := HE3.out.ev.frozen 1
            have ef2 := HE3.out.ev.frozen 2
            have ef3 := HE3.out.ev.frozen 3
            have ef4 := HE3.out.ev.frozen 4
            have z2 := HE3.out.row.cell 2
            have z3 := HE3.out.row.cell 3
            have z4 := HE3.out.row.cell 4
            have z5 := HE3.out.row.cell 5
            simp only [cE, cS, cR, List.getElem?_toArray, List.getElem?_cons_zero, List.getElem?_cons_succ] at g0 g1 e0 e1 e2 e3 e4 z2 z3 z4 z5
            have q0 := HE3.out.res.frozen 0
            have q1 := HE3.out.res.frozen 1
            have q2 := HE3.out.res.frozen 2
            have q3 := HE3.out.res.frozen 3
            have q4 := HE3.out.res.frozen 4
            have u0 := HE3.out.res.cell 0
            have u1 := HE3.out.res.cell 1
            have u2 := HE3.out.res.cell 2
            have u3 := HE3.out.res.cell 3
            have u4 := HE3.out.res.cell 4
            simp only [List.getElem?_toArray, List.getElem?_cons_zero, List.getElem?_cons_succ] at u0 u1 u2 u3 u4
            have HR5 := Lib.hid (ret5 (a0 := .int .i64 0) (a1 := .int .i64 0) (a2 := .int .i64 0) (a3 := .bool false) (a4 := .string ⟨#[]⟩) HE3.out.res HE3.out.fr HE3.out.hw.1)
            go_wp2_with fail
            obtain ⟨hY, hF⟩ := HR5.out
            have v0 := hY.cell 0
            have v1 := hY.cell 1
            have v2 := hY.cell 2
            have v3 := hY.cell 3
            have v4 := hY.cell 4
            simp only [List.getElem?_toArray, List.getElem?_cons_zero, List.getElem?_cons_succ] at v0 v1 v2 v3 v4
            refine bodyPost_ret (v := .tuple #[.agg (cE E0), .int .i64 3]) ?_ rfl ⟨by rw [HQ.out], hF⟩
            simp [results, Tryd.f10, go_sem, v0, v1, v2, v3, v4, cE, E0]
          | false =>
            cases rest with
            | cons c l =>
              have HQ := Lib.hid (show readE line = (E0, 3) from by rw [HQ.out]; rfl)
              have g0 := HE3.out.rd.cell 0
              have g1 := HE3.out.rd.cell 1
              have gf0 := HE3.out.rd.frozen 0
              have gf1 := HE3.out.rd.frozen 1
              have e0 := HE3.out.ev.cell 0
              have e1 := HE3.out.ev.cell 1
              have e2 := HE3.out.ev.cell 2
              have e3 := HE3.out.ev.cell 3
              have e4 := HE3.out.ev.cell 4
              have ef1 := HE3.out.ev.frozen 1
              have ef2 := HE3.out.ev.frozen 2
              have ef3 := HE3.out.ev.frozen 3
              have ef4 := HE3.out.ev.frozen 4
              have z2 := HE3.out.row.cell 2
              have z3 := HE3.out.row.cell 3
              have z4 := HE3.out.row.cell 4
              have z5 := HE3.out.row.cell 5
              simp only [cE, cS, cR, List.getElem?_toArray, List.getElem?_cons_zero, List.getElem?_cons_succ] at g0 g1 e0 e1 e2 e3 e4 z2 z3 z4 z5
              have q0 := HE3.out.res.frozen 0
              have q1 := HE3.out.res.frozen 1
              have q2 := HE3.out.res.frozen 2
              have q3 := HE3.out.res.frozen 3
              have q4 := HE3.out.res.frozen 4
              have u0 := HE3.out.res.cell 0
              have u1 := HE3.out.res.cell 1
              have u2 := HE3.out.res.cell 2
              have u3 := HE3.out.res.cell 3
              have u4 := HE3.out.res.cell 4
              simp only [List.getElem?_toArray, List.getElem?_cons_zero, List.getElem?_cons_succ] at u0 u1 u2 u3 u4
              have HR5 := Lib.hid (ret5 (a0 := .int .i64 0) (a1 := .int .i64 0) (a2 := .int .i64 0) (a3 := .bool false) (a4 := .string ⟨#[]⟩) HE3.out.res HE3.out.fr HE3.out.hw.1)
              have hz : ((⟨(c :: l).toArray⟩ : ByteArray) == ⟨#[]⟩) = false := by show ((c :: l).toArray == (#[] : Array UInt8)) = false; simp
              go_wp2_with fail
              obtain ⟨hY, hF⟩ := HR5.out
              have v0 := hY.cell 0
              have v1 := hY.cell 1
              have v2 := hY.cell 2
              have v3 := hY.cell 3
              have v4 := hY.cell 4
              simp only [List.getElem?_toArray, List.getElem?_cons_zero, List.getElem?_cons_succ] at v0 v1 v2 v3 v4
              refine bodyPost_ret (v := .tuple #[.agg (cE E0), .int .i64 3]) ?_ rfl ⟨by rw [HQ.out], hF⟩
              simp [results, Tryd.f10, go_sem, v0, v1, v2, v3, v4, cE, E0]
            | nil =>
              have HCK := Lib.hid (check_any e)
              have HQ := Lib.hid (show readE line = if (checkE e != 0) = true then (E0, 3) else (e, 0) from by first | exact HQ.out | (rw [HQ.out]; rfl))
              obtain ⟨cd, hcd⟩ : ∃ c, c = checkE e := ⟨_, rfl⟩
              rw [← hcd] at HCK HQ
              clear hcd
              have hev := HE3.out.ev.cell
              have g0 := HE3.out.rd.cell 0
              have g1 := HE3.out.rd.cell 1
              have gf0 := HE3.out.rd.frozen 0
              have gf1 := HE3.out.rd.frozen 1
              have e0 := HE3.out.ev.cell 0
              have e1 := HE3.out.ev.cell 1
              have e2 := HE3.out.ev.cell 2
              have e3 := HE3.out.ev.cell 3
              have e4 := HE3.out.ev.cell 4
              have ef1 := HE3.out.ev.frozen 1
              have ef2 := HE3.out.ev.frozen 2
              have ef3 := HE3.out.ev.frozen 3
              have ef4 := HE3.out.ev.frozen 4
              have z2 := HE3.out.row.cell 2
              have z3 := HE3.out.row.cell 3
              have z4 := HE3.out.row.cell 4
              have z5 := HE3.out.row.cell 5
              simp only [cE, cS, cR, List.getElem?_toArray, List.getElem?_cons_zero, List.getElem?_cons_succ] at g0 g1 e0 e1 e2 e3 e4 z2 z3 z4 z5
              obtain ⟨ek, ew, en, eo, es⟩ := e
              clear hev
              go_wp2_with fail
              refine (HCK.out _).mono ?_
              rintro x1 W9 ⟨rfl, hf⟩
              clear g0 g1 gf0 gf1 e0 e1 e2 e3 e4 ef1 ef2 ef3 ef4 z2 z3 z4 z5
              have HE9 := Lib.hid (HE3.out.no hf)
              clear hf HE3 HCK
              by_cases hcd : cd = 0
              · subst hcd
                have HQ := Lib.hid (show readE line = (⟨ek, ew, en, eo, es⟩, 0) from by rw [HQ.out]; rfl)
                have g0 := HE9.out.rd.cell 0
                have g1 := HE9.out.rd.cell 1
                have gf0 := HE9.out.rd.frozen 0
                have gf1 := HE9.out.rd.frozen 1
                have e0 := HE9.out.ev.cell 0
                have e1 := HE9.out.ev.cell 1
                have e2 := HE9.out.ev.cell 2
                have e3 := HE9.out.ev.cell 3
                have e4 := HE9.out.ev.cell 4
                have ef1 := HE9.out.ev.frozen 1
                have ef2 := HE9.out.ev.frozen 2
                have ef3 := HE9.out.ev.frozen 3
                have ef4 := HE9.out.ev.frozen 4
                have z2 := HE9.out.row.cell 2
                have z3 := HE9.out.row.cell 3
                have z4 := HE9.out.row.cell 4
                have z5 := HE9.out.row.cell 5
                simp only [cE, cS, cR, List.getElem?_toArray, List.getElem?_cons_zero, List.getElem?_cons_succ] at g0 g1 e0 e1 e2 e3 e4 z2 z3 z4 z5
                have q0 := HE9.out.res.frozen 0
                have q1 := HE9.out.res.frozen 1
                have q2 := HE9.out.res.frozen 2
                have q3 := HE9.out.res.frozen 3
                have q4 := HE9.out.res.frozen 4
                have u0 := HE9.out.res.cell 0
                have u1 := HE9.out.res.cell 1
                have u2 := HE9.out.res.cell 2
                have u3 := HE9.out.res.cell 3
                have u4 := HE9.out.res.cell 4
                simp only [List.getElem?_toArray, List.getElem?_cons_zero, List.getElem?_cons_succ] at u0 u1 u2 u3 u4
                have HR5 := Lib.hid (ret5 (a0 := .int .i64 ek) (a1 := .int .i64 ew) (a2 := .int .i64 en) (a3 := .bool eo) (a4 := .string ⟨es.toArray⟩) HE9.out.res HE9.out.fr HE9.out.hw.1)
                go_wp2_with fail
                obtain ⟨hY, hF⟩ := HR5.out
                have v0 := hY.cell 0
                have v1 := hY.cell 1
                have v2 := hY.cell 2
                have v3 := hY.cell 3
                have v4 := hY.cell 4
                simp only [List.getElem?_toArray, List.getElem?_cons_zero, List.getElem?_cons_succ] at v0 v1 v2 v3 v4
                refine bodyPost_ret (v := .tuple #[.agg (cE ⟨ek, ew, en, eo, es⟩), .int .i64 0]) ?_ rfl ⟨by rw [HQ.out], hF⟩
                simp [results, Tryd.f10, go_sem, v0, v1, v2, v3, v4, cE]
              · have hn : (cd != 0) = true := by rw [bne_iff_ne]; exact hcd
                have HQ := Lib.hid (show readE line = (E0, 3) from by rw [HQ.out, if_pos hn])
                have g0 := HE9.out.rd.cell 0
                have g1 := HE9.out.rd.cell 1
                have gf0 := HE9.out.rd.frozen 0
                have gf1 := HE9.out.rd.frozen 1
                have e0 := HE9.out.ev.cell 0
                have e1 := HE9.out.ev.cell 1
                have e2 := HE9.out.ev.cell 2
                have e3 := HE9.out.ev.cell 3
                have e4 := HE9.out.ev.cell 4
                have ef1 := HE9.out.ev.frozen 1
                have ef2 := HE9.out.ev.frozen 2
                have ef3 := HE9.out.ev.frozen 3
                have ef4 := HE9.out.ev.frozen 4
                have z2 := HE9.out.row.cell 2
                have z3 := HE9.out.row.cell 3
                have z4 := HE9.out.row.cell 4
                have z5 := HE9.out.row.cell 5
                simp only [cE, cS, cR, List.getElem?_toArray, List.getElem?_cons_zero, List.getElem?_cons_succ] at g0 g1 e0 e1 e2 e3 e4 z2 z3 z4 z5
                have q0 := HE9.out.res.frozen 0
                have q1 := HE9.out.res.frozen 1
                have q2 := HE9.out.res.frozen 2
                have q3 := HE9.out.res.frozen 3
                have q4 := HE9.out.res.frozen 4
                have u0 := HE9.out.res.cell 0
                have u1 := HE9.out.res.cell 1
                have u2 := HE9.out.res.cell 2
                have u3 := HE9.out.res.cell 3
                have u4 := HE9.out.res.cell 4
                simp only [List.getElem?_toArray, List.getElem?_cons_zero, List.getElem?_cons_succ] at u0 u1 u2 u3 u4
                have HR5 := Lib.hid (ret5 (a0 := .int .i64 0) (a1 := .int .i64 0) (a2 := .int .i64 0) (a3 := .bool false) (a4 := .string ⟨#[]⟩) HE9.out.res HE9.out.fr HE9.out.hw.1)
                go_wp2_with fail
                obtain ⟨hY, hF⟩ := HR5.out
                have v0 := hY.cell 0
                have v1 := hY.cell 1
                have v2 := hY.cell 2
                have v3 := hY.cell 3
                have v4 := hY.cell 4
                simp only [List.getElem?_toArray, List.getElem?_cons_zero, List.getElem?_cons_succ] at v0 v1 v2 v3 v4
                refine bodyPost_ret (v := .tuple #[.agg (cE E0), .int .i64 3]) ?_ rfl ⟨by rw [HQ.out], hF⟩
                simp [results, Tryd.f10, go_sem, v0, v1, v2, v3, v4, cE, E0]
        | false =>
          cases hn : (t1 == [110, 111]) with
          | true =>
            obtain ⟨q2, hq'⟩ : ∃ q' : E × St, q' = ({ q1.1 with ok := false }, (r1, false)) := ⟨_, rfl⟩
            have HE2 := Lib.hid (show At w ((W1.setCell ⟨b8, 3, none⟩ (.bool (false))).setCell ⟨b4, 1, none⟩ (.bool false)) b2 b4 b8 b6 ⟨xk, xt, true, true, true, false⟩ q2 from by rw [hq']; exact (HEY.out.put (e := { q1.1 with ok := false }) 3 (.bool (false)) rfl).rput (x := (r1, false)) 1 (.bool false) rfl)
            have HLQ2 := Lib.hid (show q2.2.1.length ≤ 1000000 from by rw [hq']; exact HLQY.out)
            have HQ2 := Lib.hid (show readE line = finE (stN ⟨xk, xt, true, true, true, false⟩ q2) from by rw [hq', HQY.out]; rw [y_bad2 hn, y_ok hy])
            clear hq' HEY HLQY HQY
            go_upto_region 13 with (fail)
            clear e3 ef3 g1 gf1
            skip
            generalize (W1.setCell ⟨b8, 3, none⟩ (.bool (false))).setCell ⟨b4, 1, none⟩ (.bool false) = W2_ at HE2 ⊢
            have g0 := HE2.out.rd.cell 0
            have g1 := HE2.out.rd.cell 1
            have gf0 := HE2.out.rd.frozen 0
            have gf1 := HE2.out.rd.frozen 1
            have e0 := HE2.out.ev.cell 0
            have e1 := HE2.out.ev.cell 1
            have e2 := HE2.out.ev.cell 2
            have e3 := HE2.out.ev.cell 3
            have e4 := HE2.out.ev.cell 4
            have ef1 := HE2.out.ev.frozen 1
            have ef2 := HE2.out.ev.frozen 2
            have ef3 := HE2.out.ev.frozen 3
            have ef4 := HE2.out.ev.frozen 4
            have z2 := HE2.out.row.cell 2
            have z3 := HE2.out.row.cell 3
            have z4 := HE2.out.row.cell 4
            have z5 := HE2.out.row.cell 5
            simp only [cE, cS, cR, List.getElem?_toArray, List.getElem?_cons_zero, List.getElem?_cons_succ] at g0 g1 e0 e1 e2 e3 e4 z2 z3 z4 z5
            have HNB := Lib.hid (number_any q2.2 b4 W2_ HE2.out.rd HLQ2.out)
            go_wp2_with fail
            refine HNB.out.mono ?_
            rintro x1 W1 ⟨rfl, hb, hf⟩
            clear g0 g1 gf0 gf1 e0 e1 e2 e3 e4 ef1 ef2 ef3 ef4 z2 z3 z4 z5
            have h1 := HE2.out.rest hb hf
            have ef := h1.ev.frozen 2
            have HL2 := Lib.hid (Nat.le_trans (number_len q2.2) HLQ2.out)
            obtain ⟨q3, hq'⟩ : ∃ q' : E × St, q' = ({ q2.1 with n := (number q2.2).1 }, (number q2.2).2) := ⟨_, rfl⟩
            have HE3 := Lib.hid (show At w (W1.setCell ⟨b8, 2, none⟩ (.int .i64 (number q2.2).1)) b2 b4 b8 b6 ⟨xk, xt, true, true, true, false⟩ q3 from by rw [hq']; exact h1.put (e := { q2.1 with n := (number q2.2).1 }) 2 (.int .i64 (number q2.2).1) rfl)
            have HLQ3 := Lib.hid (show q3.2.1.length ≤ 1000000 from by rw [hq']; exact HL2.out)
            have HQ3 := Lib.hid (show readE line = finE q3 from by rw [hq', HQ2.out]; rfl)
            have ee := h1.ev.cell 2
            simp only [cE, List.getElem?_toArray, List.getElem?_cons_zero, List.getElem?_cons_succ] at ee
            clear h1 hb hf HNB HE2 HLQ2 HQ2 hq' HL2
            go_upto_region 15 with (fail)
            clear ee ef
            generalize W1.setCell ⟨b8, 2, none⟩ (.int .i64 (number q2.2).1) = W3_ at HE3 ⊢
            generalize (number q2.2).1 = num2
            clear W1 W2_ q2
            obtain ⟨e, rest, bd⟩ := q3
            have HQ := Lib.hid (show readE line = if (bd || rest != [] || checkE e != 0) = true then (E0, 3) else (e, 0) from HQ3.out)
            clear HQ3
            cases bd with
            | true =>
              have HQ := Lib.hid (show readE line = (E0, 3) from by rw [HQ.out]; rfl)
              have g0 := HE3.out.rd.cell 0
              have g1 := HE3.out.rd.cell 1
              have gf0 := HE3.out.rd.frozen 0
              have gf1 := HE3.out.rd.frozen 1
              have e0 := HE3.out.ev.cell 0
              have e1 := HE3.out.ev.cell 1
              have e2 := HE3.out.ev.cell 2
              have e3 := HE3.out.ev.cell 3
              have e4 := HE3.out.ev.cell 4
              have ef1 := HE3.out.ev.frozen 1
              have ef2 := HE3.out.ev.frozen 2
              have ef3 := HE3.out.ev.frozen 3
              have ef4 := HE3.out.ev.frozen 4
              have z2 := HE3.out.row.cell 2
              have z3 := HE3.out.row.cell 3
              have z4 := HE3.out.row.cell 4
              have z5 := HE3.out.row.cell 5
              simp only [cE, cS, cR, List.getElem?_toArray, List.getElem?_cons_zero, List.getElem?_cons_succ] at g0 g1 e0 e1 e2 e3 e4 z2 z3 z4 z5
              have q0 := HE3.out.res.frozen 0
              have q1 := HE3.out.res.frozen 1
              have q2 := HE3.out.res.frozen 2
              have q3 := HE3.out.res.frozen 3
              have q4 := HE3.out.res.frozen 4
              have u0 := HE3.out.res.cell 0
              have u1 := HE3.out.res.cell 1
              have u2 := HE3.out.res.cell 2
              have u3 := HE3.out.res.cell 3
              have u4 := HE3.out.res.cell 4
              simp only [List.getElem?_toArray, List.getElem?_cons_zero, List.getElem?_cons_succ] at u0 u1 u2 u3 u4
              have HR5 := Lib.hid (ret5 (a0 := .int .i64 0) (a1 := .int .i64 0) (a2 := .int .i64 0) (a3 := .bool false) (a4 := .string ⟨#[]⟩) HE3.out.res HE3.out.fr HE3.out.hw.1)
              go_wp2_with fail
              obtain ⟨hY, hF⟩ := HR5.out
              have v0 := hY.cell 0
              have v1 := hY.cell 1
              have v2 := hY.cell 2
              have v3 := hY.cell 3
              have v4 := hY.cell 4
              simp only [List.getElem?_toArray, List.getElem?_cons_zero, List.getElem?_cons_succ] at v0 v1 v2 v3 v4
              refine bodyPost_ret (v := .tuple #[.agg (cE E0), .int .i64 3]) ?_ rfl ⟨by rw [HQ.out], hF⟩
              simp [results, Tryd.f10, go_sem, v0, v1, v2, v3, v4, cE, E0]
            | false =>
              cases rest with
              | cons c l =>
                have HQ := Lib.hid (show readE line = (E0, 3) from by rw [HQ.out]; rfl)
                have g0 := HE3.out.rd.cell 0
                have g1 := HE3.out.rd.cell 1
                have gf0 := HE3.out.rd.frozen 0
                have gf1 := HE3.out.rd.frozen 1
                have e0 := HE3.out.ev.cell 0
                have e1 := HE3.out.ev.cell 1
                have e2 := HE3.out.ev.cell 2
                have e3 := HE3.out.ev.cell 3
                have e4 := HE3.out.ev.cell 4
                have ef1 := HE3.out.ev.frozen 1
                have ef2 := HE3.out.ev.frozen 2
                have ef3 := HE3.out.ev.frozen 3
                have ef4 := HE3.out.ev.frozen 4
                have z2 := HE3.out.row.cell 2
                have z3 := HE3.out.row.cell 3
                have z4 := HE3.out.row.cell 4
                have z5 := HE3.out.row.cell 5
                simp only [cE, cS, cR, List.getElem?_toArray, List.getElem?_cons_zero, List.getElem?_cons_succ] at g0 g1 e0 e1 e2 e3 e4 z2 z3 z4 z5
                have q0 := HE3.out.res.frozen 0
                have q1 := HE3.out.res.frozen 1
                have q2 := HE3.out.res.frozen 2
                have q3 := HE3.out.res.frozen 3
                have q4 := HE3.out.res.frozen 4
                have u0 := HE3.out.res.cell 0
                have u1 := HE3.out.res.cell 1
                have u2 := HE3.out.res.cell 2
                have u3 := HE3.out.res.cell 3
                have u4 := HE3.out.res.cell 4
                simp only [List.getElem?_toArray, List.getElem?_cons_zero, List.getElem?_cons_succ] at u0 u1 u2 u3 u4
                have HR5 := Lib.hid (ret5 (a0 := .int .i64 0) (a1 := .int .i64 0) (a2 := .int .i64 0) (a3 := .bool false) (a4 := .string ⟨#[]⟩) HE3.out.res HE3.out.fr HE3.out.hw.1)
                have hz : ((⟨(c :: l).toArray⟩ : ByteArray) == ⟨#[]⟩) = false := by show ((c :: l).toArray == (#[] : Array UInt8)) = false; simp
                go_wp2_with fail
                obtain ⟨hY, hF⟩ := HR5.out
                have v0 := hY.cell 0
                have v1 := hY.cell 1
                have v2 := hY.cell 2
                have v3 := hY.cell 3
                have v4 := hY.cell 4
                simp only [List.getElem?_toArray, List.getElem?_cons_zero, List.getElem?_cons_succ] at v0 v1 v2 v3 v4
                refine bodyPost_ret (v := .tuple #[.agg (cE E0), .int .i64 3]) ?_ rfl ⟨by rw [HQ.out], hF⟩
                simp [results, Tryd.f10, go_sem, v0, v1, v2, v3, v4, cE, E0]
              | nil =>
                have HCK := Lib.hid (check_any e)
                have HQ := Lib.hid (show readE line = if (checkE e != 0) = true then (E0, 3) else (e, 0) from by first | exact HQ.out | (rw [HQ.out]; rfl))
                obtain ⟨cd, hcd⟩ : ∃ c, c = checkE e := ⟨_, rfl⟩
                rw [← hcd] at HCK HQ
                clear hcd
                have hev := HE3.out.ev.cell
                have g0 := HE3.out.rd.cell 0
                have g1 := HE3.out.rd.cell 1
                have gf0 := HE3.out.rd.frozen 0
                have gf1 := HE3.out.rd.frozen 1
                have e0 := HE3.out.ev.cell 0
                have e1 := HE3.out.ev.cell 1
                have e2 := HE3.out.ev.cell 2
                have e3 := HE3.out.ev.cell 3
                have e4 := HE3.out.ev.cell 4
                have ef1 := HE3.out.ev.frozen 1
                have ef2 := HE3.out.ev.frozen 2
                have ef3 := HE3.out.ev.frozen 3
                have ef4 := HE3.out.ev.frozen 4
                have z2 := HE3.out.row.cell 2
                have z3 := HE3.out.row.cell 3
                have z4 := HE3.out.row.cell 4
                have z5 := HE3.out.row.cell 5
                simp only [cE, cS, cR, List.getElem?_toArray, List.getElem?_cons_zero, List.getElem?_cons_succ] at g0 g1 e0 e1 e2 e3 e4 z2 z3 z4 z5
                obtain ⟨ek, ew, en, eo, es⟩ := e
                clear hev
                go_wp2_with fail
                refine (HCK.out _).mono ?_
                rintro x1 W9 ⟨rfl, hf⟩
                clear g0 g1 gf0 gf1 e0 e1 e2 e3 e4 ef1 ef2 ef3 ef4 z2 z3 z4 z5
                have HE9 := Lib.hid (HE3.out.no hf)
                clear hf HE3 HCK
                by_cases hcd : cd = 0
                · subst hcd
                  have HQ := Lib.hid (show readE line = (⟨ek, ew, en, eo, es⟩, 0) from by rw [HQ.out]; rfl)
                  have g0 := HE9.out.rd.cell 0
                  have g1 := HE9.out.rd.cell 1
                  have gf0 := HE9.out.rd.frozen 0
                  have gf1 := HE9.out.rd.frozen 1
                  have e0 := HE9.out.ev.cell 0
                  have e1 := HE9.out.ev.cell 1
                  have e2 := HE9.out.ev.cell 2
                  have e3 := HE9.out.ev.cell 3
                  have e4 := HE9.out.ev.cell 4
                  have ef1 := HE9.out.ev.frozen 1
                  have ef2 := HE9.out.ev.frozen 2
                  have ef3 := HE9.out.ev.frozen 3
                  have ef4 := HE9.out.ev.frozen 4
                  have z2 := HE9.out.row.cell 2
                  have z3 := HE9.out.row.cell 3
                  have z4 := HE9.out.row.cell 4
                  have z5 := HE9.out.row.cell 5
                  simp only [cE, cS, cR, List.getElem?_toArray, List.getElem?_cons_zero, List.getElem?_cons_succ] at g0 g1 e0 e1 e2 e3 e4 z2 z3 z4 z5
                  have q0 := HE9.out.res.frozen 0
                  have q1 := HE9.out.res.frozen 1
                  have q2 := HE9.out.res.frozen 2
                  have q3 := HE9.out.res.frozen 3
                  have q4 := HE9.out.res.frozen 4
                  have u0 := HE9.out.res.cell 0
                  have u1 := HE9.out.res.cell 1
                  have u2 := HE9.out.res.cell 2
                  have u3 := HE9.out.res.cell 3
                  have u4 := HE9.out.res.cell 4
                  simp only [List.getElem?_toArray, List.getElem?_cons_zero, List.getElem?_cons_succ] at u0 u1 u2 u3 u4
                  have HR5 := Lib.hid (ret5 (a0 := .int .i64 ek) (a1 := .int .i64 ew) (a2 := .int .i64 en) (a3 := .bool eo) (a4 := .string ⟨es.toArray⟩) HE9.out.res HE9.out.fr HE9.out.hw.1)
                  go_wp2_with fail
                  obtain ⟨hY, hF⟩ := HR5.out
                  have v0 := hY.cell 0
                  have v1 := hY.cell 1
                  have v2 := hY.cell 2
                  have v3 := hY.cell 3
                  have v4 := hY.cell 4
                  simp only [List.getElem?_toArray, List.getElem?_cons_zero, List.getElem?_cons_succ] at v0 v1 v2 v3 v4
                  refine bodyPost_ret (v := .tuple #[.agg (cE ⟨ek, ew, en, eo, es⟩), .int .i64 0]) ?_ rfl ⟨by rw [HQ.out], hF⟩
                  simp [results, Tryd.f10, go_sem, v0, v1, v2, v3, v4, cE]
                · have hn : (cd != 0) = true := by rw [bne_iff_ne]; exact hcd
                  have HQ := Lib.hid (show readE line = (E0, 3) from by rw [HQ.out, if_pos hn])
                  have g0 := HE9.out.rd.cell 0
                  have g1 := HE9.out.rd.cell 1
                  have gf0 := HE9.out.rd.frozen 0
                  have gf1 := HE9.out.rd.frozen 1
                  have e0 := HE9.out.ev.cell 0
                  have e1 := HE9.out.ev.cell 1
                  have e2 := HE9.out.ev.cell 2
                  have e3 := HE9.out.ev.cell 3
                  have e4 := HE9.out.ev.cell 4
                  have ef1 := HE9.out.ev.frozen 1
                  have ef2 := HE9.out.ev.frozen 2
                  have ef3 := HE9.out.ev.frozen 3
                  have ef4 := HE9.out.ev.frozen 4
                  have z2 := HE9.out.row.cell 2
                  have z3 := HE9.out.row.cell 3
                  have z4 := HE9.out.row.cell 4
                  have z5 := HE9.out.row.cell 5
                  simp only [cE, cS, cR, List.getElem?_toArray, List.getElem?_cons_zero, List.getElem?_cons_succ] at g0 g1 e0 e1 e2 e3 e4 z2 z3 z4 z5
                  have q0 := HE9.out.res.frozen 0
                  have q1 := HE9.out.res.frozen 1
                  have q2 := HE9.out.res.frozen 2
                  have q3 := HE9.out.res.frozen 3
                  have q4 := HE9.out.res.frozen 4
                  have u0 := HE9.out.res.cell 0
                  have u1 := HE9.out.res.cell 1
                  have u2 := HE9.out.res.cell 2
                  have u3 := HE9.out.res.cell 3
                  have u4 := HE9.out.res.cell 4
                  simp only [List.getElem?_toArray, List.getElem?_cons_zero, List.getElem?_cons_succ] at u0 u1 u2 u3 u4
                  have HR5 := Lib.hid (ret5 (a0 := .int .i64 0) (a1 := .int .i64 0) (a2 := .int .i64 0) (a3 := .bool false) (a4 := .string ⟨#[]⟩) HE9.out.res HE9.out.fr HE9.out.hw.1)
                  go_wp2_with fail
                  obtain ⟨hY, hF⟩ := HR5.out
                  have v0 := hY.cell 0
                  have v1 := hY.cell 1
                  have v2 := hY.cell 2
                  have v3 := hY.cell 3
                  have v4 := hY.cell 4
                  simp only [List.getElem?_toArray, List.getElem?_cons_zero, List.getElem?_cons_succ] at v0 v1 v2 v3 v4
                  refine bodyPost_ret (v := .tuple #[.agg (cE E0), .int .i64 3]) ?_ rfl ⟨by rw [HQ.out], hF⟩
                  simp [results, Tryd.f10, go_sem, v0, v1, v2, v3, v4, cE, E0]
          | false =>
            obtain ⟨q2, hq'⟩ : ∃ q' : E × St, q' = ({ q1.1 with ok := false }, (r1, true)) := ⟨_, rfl⟩
            have HE2 := Lib.hid (show At w ((W1.setCell ⟨b8, 3, none⟩ (.bool (false))).setCell ⟨b4, 1, none⟩ (.bool true)) b2 b4 b8 b6 ⟨xk, xt, true, true, true, false⟩ q2 from by rw [hq']; exact (HEY.out.put (e := { q1.1 with ok := false }) 3 (.bool (false)) rfl).rput (x := (r1, true)) 1 (.bool true) rfl)
            have HLQ2 := Lib.hid (show q2.2.1.length ≤ 1000000 from by rw [hq']; exact HLQY.out)
            have HQ2 := Lib.hid (show readE line = finE (stN ⟨xk, xt, true, true, true, false⟩ q2) from by rw [hq', HQY.out]; rw [y_bad3 hy hn, y_ok hy])
            clear hq' HEY HLQY HQY
            go_upto_region 13 with (fail)
            clear e3 ef3 g1 gf1
            skip
            generalize (W1.setCell ⟨b8, 3, none⟩ (.bool (false))).setCell ⟨b4, 1, none⟩ (.bool true) = W2_ at HE2 ⊢
            have g0 := HE2.out.rd.cell 0
            have g1 := HE2.out.rd.cell 1
            have gf0 := HE2.out.rd.frozen 0
            have gf1 := HE2.out.rd.frozen 1
            have e0 := HE2.out.ev.cell 0
            have e1 := HE2.out.ev.cell 1
            have e2 := HE2.out.ev.cell 2
            have e3 := HE2.out.ev.cell 3
            have e4 := HE2.out.ev.cell 4
            have ef1 := HE2.out.ev.frozen 1
            have ef2 := HE2.out.ev.frozen 2
            have ef3 := HE2.out.ev.frozen 3
            have ef4 := HE2.out.ev.frozen 4
            have z2 := HE2.out.row.cell 2
            have z3 := HE2.out.row.cell 3
            have z4 := HE2.out.row.cell 4
            have z5 := HE2.out.row.cell 5
            simp only [cE, cS, cR, List.getElem?_toArray, List.getElem?_cons_zero, List.getElem?_cons_succ] at g0 g1 e0 e1 e2 e3 e4 z2 z3 z4 z5
            have HNB := Lib.hid (number_any q2.2 b4 W2_ HE2.out.rd HLQ2.out)
            go_wp2_with fail
            refine HNB.out.mono ?_
            rintro x1 W1 ⟨rfl, hb, hf⟩
            clear g0 g1 gf0 gf1 e0 e1 e2 e3 e4 ef1 ef2 ef3 ef4 z2 z3 z4 z5
            have h1 := HE2.out.rest hb hf
            have ef := h1.ev.frozen 2
            have HL2 := Lib.hid (Nat.le_trans (number_len q2.2) HLQ2.out)
            obtain ⟨q3, hq'⟩ : ∃ q' : E × St, q' = ({ q2.1 with n := (number q2.2).1 }, (number q2.2).2) := ⟨_, rfl⟩
            have HE3 := Lib.hid (show At w (W1.setCell ⟨b8, 2, none⟩ (.int .i64 (number q2.2).1)) b2 b4 b8 b6 ⟨xk, xt, true, true, true, false⟩ q3 from by rw [hq']; exact h1.put (e := { q2.1 with n := (number q2.2).1 }) 2 (.int .i64 (number q2.2).1) rfl)
            have HLQ3 := Lib.hid (show q3.2.1.length ≤ 1000000 from by rw [hq']; exact HL2.out)
            have HQ3 := Lib.hid (show readE line = finE q3 from by rw [hq', HQ2.out]; rfl)
            have ee := h1.ev.cell 2
            simp only [cE, List.getElem?_toArray, List.getElem?_cons_zero, List.getElem?_cons_succ] at ee
            clear h1 hb hf HNB HE2 HLQ2 HQ2 hq' HL2
            go_upto_region 15 with (fail)
            clear ee ef
            generalize W1.setCell ⟨b8, 2, none⟩ (.int .i64 (number q2.2).1) = W3_ at HE3 ⊢
            generalize (number q2.2).1 = num2
            clear W1 W2_ q2
            obtain ⟨e, rest, bd⟩ := q3
            have HQ := Lib.hid (show readE line = if (bd || rest != [] || checkE e != 0) = true then (E0, 3) else (e, 0) from HQ3.out)
            clear HQ3
            cases bd with
            | true =>
              have HQ := Lib.hid (show readE line = (E0, 3) from by rw [HQ.out]; rfl)
              have g0 := HE3.out.rd.cell 0
              have g1 := HE3.out.rd.cell 1
              have gf0 := HE3.out.rd.frozen 0
              have gf1 := HE3.out.rd.frozen 1
              have e0 := HE3.out.ev.cell 0
              have e1 := HE3.out.ev.cell 1
              have e2 := HE3.out.ev.cell 2
              have e3 := HE3.out.ev.cell 3
              have e4 := HE3.out.ev.cell 4
              have ef1 := HE3.out.ev.frozen 1
              have ef2 := HE3.out.ev.frozen 2
              have ef3 := HE3.out.ev.frozen 3
              have ef4 := HE3.out.ev.frozen 4
              have z2 := HE3.out.row.cell 2
              have z3 := HE3.out.row.cell 3
              have z4 := HE3.out.row.cell 4
              have z5 := HE3.out.row.cell 5
              simp only [cE, cS, cR, List.getElem?_toArray, List.getElem?_cons_zero, List.getElem?_cons_succ] at g0 g1 e0 e1 e2 e3 e4 z2 z3 z4 z5
              have q0 := HE3.out.res.frozen 0
              have q1 := HE3.out.res.frozen 1
              have q2 := HE3.out.res.frozen 2
              have q3 := HE3.out.res.frozen 3
              have q4 := HE3.out.res.frozen 4
              have u0 := HE3.out.res.cell 0
              have u1 := HE3.out.res.cell 1
              have u2 := HE3.out.res.cell 2
              have u3 := HE3.out.res.cell 3
              have u4 := HE3.out.res.cell 4
              simp only [List.getElem?_toArray, List.getElem?_cons_zero, List.getElem?_cons_succ] at u0 u1 u2 u3 u4
              have HR5 := Lib.hid (ret5 (a0 := .int .i64 0) (a1 := .int .i64 0) (a2 := .int .i64 0) (a3 := .bool false) (a4 := .string ⟨#[]⟩) HE3.out.res HE3.out.fr HE3.out.hw.1)
              go_wp2_with fail
              obtain ⟨hY, hF⟩ := HR5.out
              have v0 := hY.cell 0
              have v1 := hY.cell 1
              have v2 := hY.cell 2
              have v3 := hY.cell 3
              have v4 := hY.cell 4
              simp only [List.getElem?_toArray, List.getElem?_cons_zero, List.getElem?_cons_succ] at v0 v1 v2 v3 v4
              refine bodyPost_ret (v := .tuple #[.agg (cE E0), .int .i64 3]) ?_ rfl ⟨by rw [HQ.out], hF⟩
              simp [results, Tryd.f10, go_sem, v0, v1, v2, v3, v4, cE, E0]
            | false =>
              cases rest with
              | cons c l =>
                have HQ := Lib.hid (show readE line = (E0, 3) from by rw [HQ.out]; rfl)
                have g0 := HE3.out.rd.cell 0
                have g1 := HE3.out.rd.cell 1
                have gf0 := HE3.out.rd.frozen 0
                have gf1 := HE3.out.rd.frozen 1
                have e0 := HE3.out.ev.cell 0
                have e1 := HE3.out.ev.cell 1
                have e2 := HE3.out.ev.cell 2
                have e3 := HE3.out.ev.cell 3
                have e4 := HE3.out.ev.cell 4
                have ef1 := HE3.out.ev.frozen 1
                have ef2 := HE3.out.ev.frozen 2
                have ef3 := HE3.out.ev.frozen 3
                have ef4 := HE3.out.ev.frozen 4
                have z2 := HE3.out.row.cell 2
                have z3 := HE3.out.row.cell 3
                have z4 := HE3.out.row.cell 4
                have z5 := HE3.out.row.cell 5
                simp only [cE, cS, cR, List.getElem?_toArray, List.getElem?_cons_zero, List.getElem?_cons_succ] at g0 g1 e0 e1 e2 e3 e4 z2 z3 z4 z5
                have q0 := HE3.out.res.frozen 0
                have q1 := HE3.out.res.frozen 1
                have q2 := HE3.out.res.frozen 2
                have q3 := HE3.out.res.frozen 3
                have q4 := HE3.out.res.frozen 4
                have u0 := HE3.out.res.cell 0
                have u1 := HE3.out.res.cell 1
                have u2 := HE3.out.res.cell 2
                have u3 := HE3.out.res.cell 3
                have u4 := HE3.out.res.cell 4
                simp only [List.getElem?_toArray, List.getElem?_cons_zero, List.getElem?_cons_succ] at u0 u1 u2 u3 u4
                have HR5 := Lib.hid (ret5 (a0 := .int .i64 0) (a1 := .int .i64 0) (a2 := .int .i64 0) (a3 := .bool false) (a4 := .string ⟨#[]⟩) HE3.out.res HE3.out.fr HE3.out.hw.1)
                have hz : ((⟨(c :: l).toArray⟩ : ByteArray) == ⟨#[]⟩) = false := by show ((c :: l).toArray == (#[] : Array UInt8)) = false; simp
                go_wp2_with fail
                obtain ⟨hY, hF⟩ := HR5.out
                have v0 := hY.cell 0
                have v1 := hY.cell 1
                have v2 := hY.cell 2
                have v3 := hY.cell 3
                have v4 := hY.cell 4
                simp only [List.getElem?_toArray, List.getElem?_cons_zero, List.getElem?_cons_succ] at v0 v1 v2 v3 v4
                refine bodyPost_ret (v := .tuple #[.agg (cE E0), .int .i64 3]) ?_ rfl ⟨by rw [HQ.out], hF⟩
                simp [results, Tryd.f10, go_sem, v0, v1, v2, v3, v4, cE, E0]
              | nil =>
                have HCK := Lib.hid (check_any e)
                have HQ := Lib.hid (show readE line = if (checkE e != 0) = true then (E0, 3) else (e, 0) from by first | exact HQ.out | (rw [HQ.out]; rfl))
                obtain ⟨cd, hcd⟩ : ∃ c, c = checkE e := ⟨_, rfl⟩
                rw [← hcd] at HCK HQ
                clear hcd
                have hev := HE3.out.ev.cell
                have g0 := HE3.out.rd.cell 0
                have g1 := HE3.out.rd.cell 1
                have gf0 := HE3.out.rd.frozen 0
                have gf1 := HE3.out.rd.frozen 1
                have e0 := HE3.out.ev.cell 0
                have e1 := HE3.out.ev.cell 1
                have e2 := HE3.out.ev.cell 2
                have e3 := HE3.out.ev.cell 3
                have e4 := HE3.out.ev.cell 4
                have ef1 := HE3.out.ev.frozen 1
                have ef2 := HE3.out.ev.frozen 2
                have ef3 := HE3.out.ev.frozen 3
                have ef4 := HE3.out.ev.frozen 4
                have z2 := HE3.out.row.cell 2
                have z3 := HE3.out.row.cell 3
                have z4 := HE3.out.row.cell 4
                have z5 := HE3.out.row.cell 5
                simp only [cE, cS, cR, List.getElem?_toArray, List.getElem?_cons_zero, List.getElem?_cons_succ] at g0 g1 e0 e1 e2 e3 e4 z2 z3 z4 z5
                obtain ⟨ek, ew, en, eo, es⟩ := e
                clear hev
                go_wp2_with fail
                refine (HCK.out _).mono ?_
                rintro x1 W9 ⟨rfl, hf⟩
                clear g0 g1 gf0 gf1 e0 e1 e2 e3 e4 ef1 ef2 ef3 ef4 z2 z3 z4 z5
                have HE9 := Lib.hid (HE3.out.no hf)
                clear hf HE3 HCK
                by_cases hcd : cd = 0
                · subst hcd
                  have HQ := Lib.hid (show readE line = (⟨ek, ew, en, eo, es⟩, 0) from by rw [HQ.out]; rfl)
                  have g0 := HE9.out.rd.cell 0
                  have g1 := HE9.out.rd.cell 1
                  have gf0 := HE9.out.rd.frozen 0
                  have gf1 := HE9.out.rd.frozen 1
                  have e0 := HE9.out.ev.cell 0
                  have e1 := HE9.out.ev.cell 1
                  have e2 := HE9.out.ev.cell 2
                  have e3 := HE9.out.ev.cell 3
                  have e4 := HE9.out.ev.cell 4
                  have ef1 := HE9.out.ev.frozen 1
                  have ef2 := HE9.out.ev.frozen 2
                  have ef3 := HE9.out.ev.frozen 3
                  have ef4 := HE9.out.ev.frozen 4
                  have z2 := HE9.out.row.cell 2
                  have z3 := HE9.out.row.cell 3
                  have z4 := HE9.out.row.cell 4
                  have z5 := HE9.out.row.cell 5
                  simp only [cE, cS, cR, List.getElem?_toArray, List.getElem?_cons_zero, List.getElem?_cons_succ] at g0 g1 e0 e1 e2 e3 e4 z2 z3 z4 z5
                  have q0 := HE9.out.res.frozen 0
                  have q1 := HE9.out.res.frozen 1
                  have q2 := HE9.out.res.frozen 2
                  have q3 := HE9.out.res.frozen 3
                  have q4 := HE9.out.res.frozen 4
                  have u0 := HE9.out.res.cell 0
                  have u1 := HE9.out.res.cell 1
                  have u2 := HE9.out.res.cell 2
                  have u3 := HE9.out.res.cell 3
                  have u4 := HE9.out.res.cell 4
                  simp only [List.getElem?_toArray, List.getElem?_cons_zero, List.getElem?_cons_succ] at u0 u1 u2 u3 u4
                  have HR5 := Lib.hid (ret5 (a0 := .int .i64 ek) (a1 := .int .i64 ew) (a2 := .int .i64 en) (a3 := .bool eo) (a4 := .string ⟨es.toArray⟩) HE9.out.res HE9.out.fr HE9.out.hw.1)
                  go_wp2_with fail
                  obtain ⟨hY, hF⟩ := HR5.out
                  have v0 := hY.cell 0
                  have v1 := hY.cell 1
                  have v2 := hY.cell 2
                  have v3 := hY.cell 3
                  have v4 := hY.cell 4
                  simp only [List.getElem?_toArray, List.getElem?_cons_zero, List.getElem?_cons_succ] at v0 v1 v2 v3 v4
                  refine bodyPost_ret (v := .tuple #[.agg (cE ⟨ek, ew, en, eo, es⟩), .int .i64 0]) ?_ rfl ⟨by rw [HQ.out], hF⟩
                  simp [results, Tryd.f10, go_sem, v0, v1, v2, v3, v4, cE]
                · have hn : (cd != 0) = true := by rw [bne_iff_ne]; exact hcd
                  have HQ := Lib.hid (show readE line = (E0, 3) from by rw [HQ.out, if_pos hn])
                  have g0 := HE9.out.rd.cell 0
                  have g1 := HE9.out.rd.cell 1
                  have gf0 := HE9.out.rd.frozen 0
                  have gf1 := HE9.out.rd.frozen 1
                  have e0 := HE9.out.ev.cell 0
                  have e1 := HE9.out.ev.cell 1
                  have e2 := HE9.out.ev.cell 2
                  have e3 := HE9.out.ev.cell 3
                  have e4 := HE9.out.ev.cell 4
                  have ef1 := HE9.out.ev.frozen 1
                  have ef2 := HE9.out.ev.frozen 2
                  have ef3 := HE9.out.ev.frozen 3
                  have ef4 := HE9.out.ev.frozen 4
                  have z2 := HE9.out.row.cell 2
                  have z3 := HE9.out.row.cell 3
                  have z4 := HE9.out.row.cell 4
                  have z5 := HE9.out.row.cell 5
                  simp only [cE, cS, cR, List.getElem?_toArray, List.getElem?_cons_zero, List.getElem?_cons_succ] at g0 g1 e0 e1 e2 e3 e4 z2 z3 z4 z5
                  have q0 := HE9.out.res.frozen 0
                  have q1 := HE9.out.res.frozen 1
                  have q2 := HE9.out.res.frozen 2
                  have q3 := HE9.out.res.frozen 3
                  have q4 := HE9.out.res.frozen 4
                  have u0 := HE9.out.res.cell 0
                  have u1 := HE9.out.res.cell 1
                  have u2 := HE9.out.res.cell 2
                  have u3 := HE9.out.res.cell 3
                  have u4 := HE9.out.res.cell 4
                  simp only [List.getElem?_toArray, List.getElem?_cons_zero, List.getElem?_cons_succ] at u0 u1 u2 u3 u4
                  have HR5 := Lib.hid (ret5 (a0 := .int .i64 0) (a1 := .int .i64 0) (a2 := .int .i64 0) (a3 := .bool false) (a4 := .string ⟨#[]⟩) HE9.out.res HE9.out.fr HE9.out.hw.1)
                  go_wp2_with fail
                  obtain ⟨hY, hF⟩ := HR5.out
                  have v0 := hY.cell 0
                  have v1 := hY.cell 1
                  have v2 := hY.cell 2
                  have v3 := hY.cell 3
                  have v4 := hY.cell 4
                  simp only [List.getElem?_toArray, List.getElem?_cons_zero, List.getElem?_cons_succ] at v0 v1 v2 v3 v4
                  refine bodyPost_ret (v := .tuple #[.agg (cE E0), .int .i64 3]) ?_ rfl ⟨by rw [HQ.out], hF⟩
                  simp [results, Tryd.f10, go_sem, v0, v1, v2, v3, v4, cE, E0]
    · obtain ⟨q0, hq⟩ : ∃ q : E × St, q = (⟨xk, 0, 0, false, []⟩, x) := ⟨_, rfl⟩
      have HE0 := Lib.hid (show At w W0_ b2 b4 b8 b6 ⟨xk, xt, false, false, true, false⟩ q0 from by rw [hq]; exact HE.out)
      have HLQ0 := Lib.hid (show q0.2.1.length ≤ 1000000 from by rw [hq]; exact Nat.le_trans HWL.out.2 HLA.out)
      have HQ0 := Lib.hid (show readE line = finE (stN ⟨xk, xt, false, false, true, false⟩ q0) from by rw [hq, HRE.out]; rfl)
      clear hq HRE HWL HLA HE
      have g0 := HE0.out.rd.cell 0
      have g1 := HE0.out.rd.cell 1
      have gf0 := HE0.out.rd.frozen 0
      have gf1 := HE0.out.rd.frozen 1
      have e0 := HE0.out.ev.cell 0
      have e1 := HE0.out.ev.cell 1
      have e2 := HE0.out.ev.cell 2
      have e3 := HE0.out.ev.cell 3
      have e4 := HE0.out.ev.cell 4
      have ef1 := HE0.out.ev.frozen 1
      have ef2 := HE0.out.ev.frozen 2
      have ef3 := HE0.out.ev.frozen 3
      have ef4 := HE0.out.ev.frozen 4
      have z2 := HE0.out.row.cell 2
      have z3 := HE0.out.row.cell 3
      have z4 := HE0.out.row.cell 4
      have z5 := HE0.out.row.cell 5
      simp only [cE, cS, cR, List.getElem?_toArray, List.getElem?_cons_zero, List.getElem?_cons_succ] at g0 g1 e0 e1 e2 e3 e4 z2 z3 z4 z5
      have HNB := Lib.hid (number_any q0.2 b4 W0_ HE0.out.rd HLQ0.out)
      go_wp2_with fail
      refine HNB.out.mono ?_
      rintro x1 W1 ⟨rfl, hb, hf⟩
      clear g0 g1 gf0 gf1 e0 e1 e2 e3 e4 ef1 ef2 ef3 ef4 z2 z3 z4 z5
      have h1 := HE0.out.rest hb hf
      have ef := h1.ev.frozen 2
      have HL2 := Lib.hid (Nat.le_trans (number_len q0.2) HLQ0.out)
      obtain ⟨q1, hq'⟩ : ∃ q' : E × St, q' = ({ q0.1 with n := (number q0.2).1 }, (number q0.2).2) := ⟨_, rfl⟩
      have HE1 := Lib.hid (show At w (W1.setCell ⟨b8, 2, none⟩ (.int .i64 (number q0.2).1)) b2 b4 b8 b6 ⟨xk, xt, false, false, true, false⟩ q1 from by rw [hq']; exact h1.put (e := { q0.1 with n := (number q0.2).1 }) 2 (.int .i64 (number q0.2).1) rfl)
      have HLQ1 := Lib.hid (show q1.2.1.length ≤ 1000000 from by rw [hq']; exact HL2.out)
      have HQ1 := Lib.hid (show readE line = finE q1 from by rw [hq', HQ0.out]; rfl)
      have ee := h1.ev.cell 2
      simp only [cE, List.getElem?_toArray, List.getElem?_cons_zero, List.getElem?_cons_succ] at ee
      clear h1 hb hf HNB HE0 HLQ0 HQ0 hq' HL2
      go_upto_region 15 with (fail)
      clear ee ef
      generalize W1.setCell ⟨b8, 2, none⟩ (.int .i64 (number q0.2).1) = W1_ at HE1 ⊢
      generalize (number q0.2).1 = num2
      clear W1 W0_ q0
      obtain ⟨e, rest, bd⟩ := q1
      have HQ := Lib.hid (show readE line = if (bd || rest != [] || checkE e != 0) = true then (E0, 3) else (e, 0) from HQ1.out)
      clear HQ1
      cases bd with
      | true =>
        have HQ := Lib.hid (show readE line = (E0, 3) from by rw [HQ.out]; rfl)
        have g0 := HE1.out.rd.cell 0
        have g1 := HE1.out.rd.cell 1
        have gf0 := HE1.out.rd.frozen 0
        have gf1 := HE1.out.rd.frozen 1
        have e0 := HE1.out.ev.cell 0
        have e1 := HE1.out.ev.cell 1
        have e2 := HE1.out.ev.cell 2
        have e3 := HE1.out.ev.cell 3
        have e4 := HE1.out.ev.cell 4
        have ef1 := HE1.out.ev.frozen 1
        have ef2 := HE1.out.ev.frozen 2
        have ef3 := HE1.out.ev.frozen 3
        have ef4 := HE1.out.ev.frozen 4
        have z2 := HE1.out.row.cell 2
        have z3 := HE1.out.row.cell 3
        have z4 := HE1.out.row.cell 4
        have z5 := HE1.out.row.cell 5
        simp only [cE, cS, cR, List.getElem?_toArray, List.getElem?_cons_zero, List.getElem?_cons_succ] at g0 g1 e0 e1 e2 e3 e4 z2 z3 z4 z5
        have q0 := HE1.out.res.frozen 0
        have q1 := HE1.out.res.frozen 1
        have q2 := HE1.out.res.frozen 2
        have q3 := HE1.out.res.frozen 3
        have q4 := HE1.out.res.frozen 4
        have u0 := HE1.out.res.cell 0
        have u1 := HE1.out.res.cell 1
        have u2 := HE1.out.res.cell 2
        have u3 := HE1.out.res.cell 3
        have u4 := HE1.out.res.cell 4
        simp only [List.getElem?_toArray, List.getElem?_cons_zero, List.getElem?_cons_succ] at u0 u1 u2 u3 u4
        have HR5 := Lib.hid (ret5 (a0 := .int .i64 0) (a1 := .int .i64 0) (a2 := .int .i64 0) (a3 := .bool false) (a4 := .string ⟨#[]⟩) HE1.out.res HE1.out.fr HE1.out.hw.1)
        go_wp2_with fail
        obtain ⟨hY, hF⟩ := HR5.out
        have v0 := hY.cell 0
        have v1 := hY.cell 1
        have v2 := hY.cell 2
        have v3 := hY.cell 3
        have v4 := hY.cell 4
        simp only [List.getElem?_toArray, List.getElem?_cons_zero, List.getElem?_cons_succ] at v0 v1 v2 v3 v4
        refine bodyPost_ret (v := .tuple #[.agg (cE E0), .int .i64 3]) ?_ rfl ⟨by rw [HQ.out], hF⟩
        simp [results, Tryd.f10, go_sem, v0, v1, v2, v3, v4, cE, E0]
      | false =>
        cases rest with
        | cons c l =>
          have HQ := Lib.hid (show readE line = (E0, 3) from by rw [HQ.out]; rfl)
          have g0 := HE1.out.rd.cell 0
          have g1 := HE1.out.rd.cell 1
          have gf0 := HE1.out.rd.frozen 0
          have gf1 := HE1.out.rd.frozen 1
          have e0 := HE1.out.ev.cell 0
          have e1 := HE1.out.ev.cell 1
          have e2 := HE1.out.ev.cell 2
          have e3 := HE1.out.ev.cell 3
          have e4 := HE1.out.ev.cell 4
          have ef1 := HE1.out.ev.frozen 1
          have ef2 := HE1.out.ev.frozen 2
          have ef3 := HE1.out.ev.frozen 3
          have ef4 := HE1.out.ev.frozen 4
          have z2 := HE1.out.row.cell 2
          have z3 := HE1.out.row.cell 3
          have z4 := HE1.out.row.cell 4
          have z5 := HE1.out.row.cell 5
          simp only [cE, cS, cR, List.getElem?_toArray, List.getElem?_cons_zero, List.getElem?_cons_succ] at g0 g1 e0 e1 e2 e3 e4 z2 z3 z4 z5
          have q0 := HE1.out.res.frozen 0
          have q1 := HE1.out.res.frozen 1
          have q2 := HE1.out.res.frozen 2
          have q3 := HE1.out.res.frozen 3
          have q4 := HE1.out.res.frozen 4
          have u0 := HE1.out.res.cell 0
          have u1 := HE1.out.res.cell 1
          have u2 := HE1.out.res.cell 2
          have u3 := HE1.out.res.cell 3
          have u4 := HE1.out.res.cell 4
          simp only [List.getElem?_toArray, List.getElem?_cons_zero, List.getElem?_cons_succ] at u0 u1 u2 u3 u4
          have HR5 := Lib.hid (ret5 (a0 := .int .i64 0) (a1 := .int .i64 0) (a2 := .int .i64 0) (a3 := .bool false) (a4 := .string ⟨#[]⟩) HE1.out.res HE1.out.fr HE1.out.hw.1)
          have hz : ((⟨(c :: l).toArray⟩ : ByteArray) == ⟨#[]⟩) = false := by show ((c :: l).toArray == (#[] : Array UInt8)) = false; simp
          go_wp2_with fail
          obtain ⟨hY, hF⟩ := HR5.out
          have v0 := hY.cell 0
          have v1 := hY.cell 1
          have v2 := hY.cell 2
          have v3 := hY.cell 3
          have v4 := hY.cell 4
          simp only [List.getElem?_toArray, List.getElem?_cons_zero, List.getElem?_cons_succ] at v0 v1 v2 v3 v4
          refine bodyPost_ret (v := .tuple #[.agg (cE E0), .int .i64 3]) ?_ rfl ⟨by rw [HQ.out], hF⟩
          simp [results, Tryd.f10, go_sem, v0, v1, v2, v3, v4, cE, E0]
        | nil =>
          have HCK := Lib.hid (check_any e)
          have HQ := Lib.hid (show readE line = if (checkE e != 0) = true then (E0, 3) else (e, 0) from by first | exact HQ.out | (rw [HQ.out]; rfl))
          obtain ⟨cd, hcd⟩ : ∃ c, c = checkE e := ⟨_, rfl⟩
          rw [← hcd] at HCK HQ
          clear hcd
          have hev := HE1.out.ev.cell
          have g0 := HE1.out.rd.cell 0
          have g1 := HE1.out.rd.cell 1
          have gf0 := HE1.out.rd.frozen 0
          have gf1 := HE1.out.rd.frozen 1
          have e0 := HE1.out.ev.cell 0
          have e1 := HE1.out.ev.cell 1
          have e2 := HE1.out.ev.cell 2
          have e3 := HE1.out.ev.cell 3
          have e4 := HE1.out.ev.cell 4
          have ef1 := HE1.out.ev.frozen 1
          have ef2 := HE1.out.ev.frozen 2
          have ef3 := HE1.out.ev.frozen 3
          have ef4 := HE1.out.ev.frozen 4
          have z2 := HE1.out.row.cell 2
          have z3 := HE1.out.row.cell 3
          have z4 := HE1.out.row.cell 4
          have z5 := HE1.out.row.cell 5
          simp only [cE, cS, cR, List.getElem?_toArray, List.getElem?_cons_zero, List.getElem?_cons_succ] at g0 g1 e0 e1 e2 e3 e4 z2 z3 z4 z5
          obtain ⟨ek, ew, en, eo, es⟩ := e
          clear hev
          go_wp2_with fail
          refine (HCK.out _).mono ?_
          rintro x1 W9 ⟨rfl, hf⟩
          clear g0 g1 gf0 gf1 e0 e1 e2 e3 e4 ef1 ef2 ef3 ef4 z2 z3 z4 z5
          have HE9 := Lib.hid (HE1.out.no hf)
          clear hf HE1 HCK
          by_cases hcd : cd = 0
          · subst hcd
            have HQ := Lib.hid (show readE line = (⟨ek, ew, en, eo, es⟩, 0) from by rw [HQ.out]; rfl)
            have g0 := HE9.out.rd.cell 0
            have g1 := HE9.out.rd.cell 1
            have gf0 := HE9.out.rd.frozen 0
            have gf1 := HE9.out.rd.frozen 1
            have e0 := HE9.out.ev.cell 0
            have e1 := HE9.out.ev.cell 1
            have e2 := HE9.out.ev.cell 2
            have e3 := HE9.out.ev.cell 3
            have e4 := HE9.out.ev.cell 4
            have ef1 := HE9.out.ev.frozen 1
            have ef2 := HE9.out.ev.frozen 2
            have ef3 := HE9.out.ev.frozen 3
            have ef4 := HE9.out.ev.frozen 4
            have z2 := HE9.out.row.cell 2
            have z3 := HE9.out.row.cell 3
            have z4 := HE9.out.row.cell 4
            have z5 := HE9.out.row.cell 5
            simp only [cE, cS, cR, List.getElem?_toArray, List.getElem?_cons_zero, List.getElem?_cons_succ] at g0 g1 e0 e1 e2 e3 e4 z2 z3 z4 z5
            have q0 := HE9.out.res.frozen 0
            have q1 := HE9.out.res.frozen 1
            have q2 := HE9.out.res.frozen 2
            have q3 := HE9.out.res.frozen 3
            have q4 := HE9.out.res.frozen 4
            have u0 := HE9.out.res.cell 0
            have u1 := HE9.out.res.cell 1
            have u2 := HE9.out.res.cell 2
            have u3 := HE9.out.res.cell 3
            have u4 := HE9.out.res.cell 4
            simp only [List.getElem?_toArray, List.getElem?_cons_zero, List.getElem?_cons_succ] at u0 u1 u2 u3 u4
            have HR5 := Lib.hid (ret5 (a0 := .int .i64 ek) (a1 := .int .i64 ew) (a2 := .int .i64 en) (a3 := .bool eo) (a4 := .string ⟨es.toArray⟩) HE9.out.res HE9.out.fr HE9.out.hw.1)
            go_wp2_with fail
            obtain ⟨hY, hF⟩ := HR5.out
            have v0 := hY.cell 0
            have v1 := hY.cell 1
            have v2 := hY.cell 2
            have v3 := hY.cell 3
            have v4 := hY.cell 4
            simp only [List.getElem?_toArray, List.getElem?_cons_zero, List.getElem?_cons_succ] at v0 v1 v2 v3 v4
            refine bodyPost_ret (v := .tuple #[.agg (cE ⟨ek, ew, en, eo, es⟩), .int .i64 0]) ?_ rfl ⟨by rw [HQ.out], hF⟩
            simp [results, Tryd.f10, go_sem, v0, v1, v2, v3, v4, cE]
          · have hn : (cd != 0) = true := by rw [bne_iff_ne]; exact hcd
            have HQ := Lib.hid (show readE line = (E0, 3) from by rw [HQ.out, if_pos hn])
            have g0 := HE9.out.rd.cell 0
            have g1 := HE9.out.rd.cell 1
            have gf0 := HE9.out.rd.frozen 0
            have gf1 := HE9.out.rd.frozen 1
            have e0 := HE9.out.ev.cell 0
            have e1 := HE9.out.ev.cell 1
            have e2 := HE9.out.ev.cell 2
            have e3 := HE9.out.ev.cell 3
            have e4 := HE9.out.ev.cell 4
            have ef1 := HE9.out.ev.frozen 1
            have ef2 := HE9.out.ev.frozen 2
            have ef3 := HE9.out.ev.frozen 3
            have ef4 := HE9.out.ev.frozen 4
            have z2 := HE9.out.row.cell 2
            have z3 := HE9.out.row.cell 3
            have z4 := HE9.out.row.cell 4
            have z5 := HE9.out.row.cell 5
            simp only [cE, cS, cR, List.getElem?_toArray, List.getElem?_cons_zero, List.getElem?_cons_succ] at g0 g1 e0 e1 e2 e3 e4 z2 z3 z4 z5
            have q0 := HE9.out.res.frozen 0
            have q1 := HE9.out.res.frozen 1
            have q2 := HE9.out.res.frozen 2
            have q3 := HE9.out.res.frozen 3
            have q4 := HE9.out.res.frozen 4
            have u0 := HE9.out.res.cell 0
            have u1 := HE9.out.res.cell 1
            have u2 := HE9.out.res.cell 2
            have u3 := HE9.out.res.cell 3
            have u4 := HE9.out.res.cell 4
            simp only [List.getElem?_toArray, List.getElem?_cons_zero, List.getElem?_cons_succ] at u0 u1 u2 u3 u4
            have HR5 := Lib.hid (ret5 (a0 := .int .i64 0) (a1 := .int .i64 0) (a2 := .int .i64 0) (a3 := .bool false) (a4 := .string ⟨#[]⟩) HE9.out.res HE9.out.fr HE9.out.hw.1)
            go_wp2_with fail
            obtain ⟨hY, hF⟩ := HR5.out
            have v0 := hY.cell 0
            have v1 := hY.cell 1
            have v2 := hY.cell 2
            have v3 := hY.cell 3
            have v4 := hY.cell 4
            simp only [List.getElem?_toArray, List.getElem?_cons_zero, List.getElem?_cons_succ] at v0 v1 v2 v3 v4
            refine bodyPost_ret (v := .tuple #[.agg (cE E0), .int .i64 3]) ?_ rfl ⟨by rw [HQ.out], hF⟩
            simp [results, Tryd.f10, go_sem, v0, v1, v2, v3, v4, cE, E0]
    · obtain ⟨q0, hq⟩ : ∃ q : E × St, q = (⟨xk, 0, 0, false, []⟩, x) := ⟨_, rfl⟩
      have HE0 := Lib.hid (show At w W0_ b2 b4 b8 b6 ⟨xk, xt, false, false, false, true⟩ q0 from by rw [hq]; exact HE.out)
      have HLQ0 := Lib.hid (show q0.2.1.length ≤ 1000000 from by rw [hq]; exact Nat.le_trans HWL.out.2 HLA.out)
      have HQ0 := Lib.hid (show readE line = finE (stS ⟨xk, xt, false, false, false, true⟩ q0) from by rw [hq, HRE.out]; rfl)
      clear hq HRE HWL HLA HE
      obtain ⟨e, rest, bd⟩ := q0
      cases bd with
      | true =>
        have HQ := Lib.hid (show readE line = (E0, 3) from by rw [HQ0.out]; rfl)
        have g0 := HE0.out.rd.cell 0
        have g1 := HE0.out.rd.cell 1
        have gf0 := HE0.out.rd.frozen 0
        have gf1 := HE0.out.rd.frozen 1
        have e0 := HE0.out.ev.cell 0
        have e1 := HE0.out.ev.cell 1
        have e2 := HE0.out.ev.cell 2
        have e3 := HE0.out.ev.cell 3
        have e4 := HE0.out.ev.cell 4
        have ef1 := HE0.out.ev.frozen 1
        have ef2 := HE0.out.ev.frozen 2
        have ef3 := HE0.out.ev.frozen 3
        have ef4 := HE0.out.ev.frozen 4
        have z2 := HE0.out.row.cell 2
        have z3 := HE0.out.row.cell 3
        have z4 := HE0.out.row.cell 4
        have z5 := HE0.out.row.cell 5
        simp only [cE, cS, cR, List.getElem?_toArray, List.getElem?_cons_zero, List.getElem?_cons_succ] at g0 g1 e0 e1 e2 e3 e4 z2 z3 z4 z5
        have q0 := HE0.out.res.frozen 0
        have q1 := HE0.out.res.frozen 1
        have q2 := HE0.out.res.frozen 2
        have q3 := HE0.out.res.frozen 3
        have q4 := HE0.out.res.frozen 4
        have u0 := HE0.out.res.cell 0
        have u1 := HE0.out.res.cell 1
        have u2 := HE0.out.res.cell 2
        have u3 := HE0.out.res.cell 3
        have u4 := HE0.out.res.cell 4
        simp only [List.getElem?_toArray, List.getElem?_cons_zero, List.getElem?_cons_succ] at u0 u1 u2 u3 u4
        have HR5 := Lib.hid (ret5 (a0 := .int .i64 0) (a1 := .int .i64 0) (a2 := .int .i64 0) (a3 := .bool false) (a4 := .string ⟨#[]⟩) HE0.out.res HE0.out.fr HE0.out.hw.1)
        go_wp2_with fail
        obtain ⟨hY, hF⟩ := HR5.out
        have v0 := hY.cell 0
        have v1 := hY.cell 1
        have v2 := hY.cell 2
        have v3 := hY.cell 3
        have v4 := hY.cell 4
        simp only [List.getElem?_toArray, List.getElem?_cons_zero, List.getElem?_cons_succ] at v0 v1 v2 v3 v4
        refine bodyPost_ret (v := .tuple #[.agg (cE E0), .int .i64 3]) ?_ rfl ⟨by rw [HQ.out], hF⟩
        simp [results, Tryd.f10, go_sem, v0, v1, v2, v3, v4, cE, E0]
      | false =>
        have hll : rest.length ≤ 1000000 := HLQ0.out
        have HUN := Lib.hid (fun X => unshow_any (rest.take (rest.length - 1)) X (by rw [List.length_take]; omega))
        have HGC := Lib.hid (fun X (hX : Fr No W0_ X) => (show X.cell? ⟨b4, 0, none⟩ = some (.string ⟨rest.toArray⟩) ∧ X.cell? ⟨b4, 1, none⟩ = some (.bool false) from ⟨(HE0.out.no hX).rd.cell 0, (HE0.out.no hX).rd.cell 1⟩))
        have hsl := fun X : World => slice_to (P := Tryd.prog) X 9 Tryd.underlying9 rest (max 0 ((rest.length : Int) - 1)) (rest.length - 1) (by omega) (by omega)
        have hsl2 := fun X : World => slice_to (P := Tryd.prog) X 9 Tryd.underlying9 rest (max 0 (((⟨rest.toArray⟩ : ByteArray).size : Int) - 1)) (rest.length - 1) (by simp [ByteArray.size]; omega) (by omega)
        have hsl3 := fun X : World => slice_to (P := Tryd.prog) X 9 Tryd.underlying9 rest (max 0 ((rest.toArray.size : Int) - 1)) (rest.length - 1) (by simp; omega) (by omega)
        have hsl4 := fun X : World => slice_to (P := Tryd.prog) X 9 Tryd.underlying9 rest (max 0 (IntKind.i64.wrap ((rest.length : Int) - 1))) (rest.length - 1) (by simp only [IntKind.wrap, IntKind.bits, IntKind.signed]; simp; omega) (by omega)
        obtain ⟨us, cd, hus⟩ : ∃ a c, (a, c) = unsP (rest.take (rest.length - 1)) := ⟨_, _, rfl⟩
        rw [← hus] at HUN
        have hf0 : Fr No W0_ W0_ := Fr.refl _ _
        have g0 := HE0.out.rd.cell 0
        have g1 := HE0.out.rd.cell 1
        have gf0 := HE0.out.rd.frozen 0
        have gf1 := HE0.out.rd.frozen 1
        have e0 := HE0.out.ev.cell 0
        have e1 := HE0.out.ev.cell 1
        have e2 := HE0.out.ev.cell 2
        have e3 := HE0.out.ev.cell 3
        have e4 := HE0.out.ev.cell 4
        have ef1 := HE0.out.ev.frozen 1
        have ef2 := HE0.out.ev.frozen 2
        have ef3 := HE0.out.ev.frozen 3
        have ef4 := HE0.out.ev.frozen 4
        have z2 := HE0.out.row.cell 2
        have z3 := HE0.out.row.cell 3
        have z4 := HE0.out.row.cell 4
        have z5 := HE0.out.row.cell 5
        simp only [cE, cS, cR, List.getElem?_toArray, List.getElem?_cons_zero, List.getElem?_cons_succ] at g0 g1 e0 e1 e2 e3 e4 z2 z3 z4 z5
        go_upto_region 16 with (fail)
        go_region_with (go_at_call 32; refine (HUN.out _).mono ?_; rintro x6 w6 ⟨rfl, hf⟩; have hf6 : Fr No W0_ w6 := Fr.then_no (by (repeat' (first | with_reducible assumption | with_reducible exact Fr.refl _ _ | with_reducible refine Fr.drew ?_ | with_reducible refine Fr.drewN ?_ _ | with_reducible refine Fr.alloc ?_ _))) hf; obtain ⟨u0, u1⟩ := HGC.out w6 hf6; clear hf)
        all_goals
          have HF6 := Lib.hid (HE0.out.no hf6)
          clear hf6 u0 u1 hf0 hsl hsl2 hsl3 hsl4 g0 g1 gf0 gf1 e0 e1 e2 e3 e4 ef1 ef2 ef3 ef4 z2 z3 z4 z5
          have hb0 : ((rest == []) = true ∧ rest = []) ∨ ((rest == []) = false ∧ ∃ c l, rest = c :: l) := by cases rest <;> simp
          have HQ6 := Lib.hid (show readE line = finE ({ e with s := us }, ([], rest == [] || cd != 0)) from by rw [HQ0.out]; show finE ({ e with s := (unsP (rest.take (rest.length - 1))).1 }, ([], rest == [] || (unsP (rest.take (rest.length - 1))).2 != 0)) = _; rw [← hus])
          clear hus HQ0
          have g0 := HF6.out.rd.cell 0
          have g1 := HF6.out.rd.cell 1
          have gf1 := HF6.out.rd.frozen 1
          simp only [cS, List.getElem?_toArray, List.getElem?_cons_zero, List.getElem?_cons_succ] at g0 g1
          rcases hb0 with ⟨hb0, hr0⟩ | ⟨hb0, c0, l0, hr0⟩
          · subst hr0
            have HEA := Lib.hid (show At w (w6.setCell ⟨b4, 1, none⟩ (.bool true)) b2 b4 b8 b6 ⟨xk, xt, false, false, false, true⟩ (e, ([], true)) from HF6.out.rput (x := ([], true)) 1 (.bool true) rfl)
            clear HF6
            go_upto_region 18 with (fail)
            clear g0 g1 gf1
            generalize w6.setCell ⟨b4, 1, none⟩ (.bool true) = WA at HEA ⊢
            have e4 := HEA.out.ev.cell 4
            have ef4 := HEA.out.ev.frozen 4
            have g0 := HEA.out.rd.cell 0
            have gf0 := HEA.out.rd.frozen 0
            simp only [cE, cS, List.getElem?_toArray, List.getElem?_cons_zero, List.getElem?_cons_succ] at e4 g0
            obtain ⟨ev2, hev2⟩ : ∃ ev2 : E, ev2 = { e with s := us } := ⟨_, rfl⟩
            have HE7 := Lib.hid (show At w ((WA.setCell ⟨b8, 4, none⟩ (.string ⟨us.toArray⟩)).setCell ⟨b4, 0, none⟩ (.string ⟨#[]⟩)) b2 b4 b8 b6 ⟨xk, xt, false, false, false, true⟩ (ev2, ([], true)) from by rw [hev2]; exact (HEA.out.put (e := { e with s := us }) 4 (.string ⟨us.toArray⟩) rfl).rput (x := ([], true)) 0 (.string ⟨#[]⟩) rfl)
            rw [← hev2] at HQ6
            clear HEA hev2
            go_upto_region 19 with (fail)
            clear e4 ef4 g0 gf0
            generalize (WA.setCell ⟨b8, 4, none⟩ (.string ⟨us.toArray⟩)).setCell ⟨b4, 0, none⟩ (.string ⟨#[]⟩) = WB at HE7 ⊢
            have HQ := Lib.hid (show readE line = (E0, 3) from by rw [HQ6.out] <;> rfl)
            have g0 := HE7.out.rd.cell 0
            have g1 := HE7.out.rd.cell 1
            have gf0 := HE7.out.rd.frozen 0
            have gf1 := HE7.out.rd.frozen 1
            have e0 := HE7.out.ev.cell 0
            have e1 := HE7.out.ev.cell 1
            have e2 := HE7.out.ev.cell 2
            have e3 := HE7.out.ev.cell 3
            have e4 := HE7.out.ev.cell 4
            have ef1 := HE7.out.ev.frozen 1
            have ef2 := HE7.out.ev.frozen 2
            have ef3 := HE7.out.ev.frozen 3
            have ef4 := HE7.out.ev.frozen 4
            have z2 := HE7.out.row.cell 2
            have z3 := HE7.out.row.cell 3
            have z4 := HE7.out.row.cell 4
            have z5 := HE7.out.row.cell 5
            simp only [cE, cS, cR, List.getElem?_toArray, List.getElem?_cons_zero, List.getElem?_cons_succ] at g0 g1 e0 e1 e2 e3 e4 z2 z3 z4 z5
            have q0 := HE7.out.res.frozen 0
            have q1 := HE7.out.res.frozen 1
            have q2 := HE7.out.res.frozen 2
            have q3 := HE7.out.res.frozen 3
            have q4 := HE7.out.res.frozen 4
            have u0 := HE7.out.res.cell 0
            have u1 := HE7.out.res.cell 1
            have u2 := HE7.out.res.cell 2
            have u3 := HE7.out.res.cell 3
            have u4 := HE7.out.res.cell 4
            simp only [List.getElem?_toArray, List.getElem?_cons_zero, List.getElem?_cons_succ] at u0 u1 u2 u3 u4
            have HR5 := Lib.hid (ret5 (a0 := .int .i64 0) (a1 := .int .i64 0) (a2 := .int .i64 0) (a3 := .bool false) (a4 := .string ⟨#[]⟩) HE7.out.res HE7.out.fr HE7.out.hw.1)
            go_wp2_with fail
            obtain ⟨hY, hF⟩ := HR5.out
            have v0 := hY.cell 0
            have v1 := hY.cell 1
            have v2 := hY.cell 2
            have v3 := hY.cell 3
            have v4 := hY.cell 4
            simp only [List.getElem?_toArray, List.getElem?_cons_zero, List.getElem?_cons_succ] at v0 v1 v2 v3 v4
            refine bodyPost_ret (v := .tuple #[.agg (cE E0), .int .i64 3]) ?_ rfl ⟨by rw [HQ.out], hF⟩
            simp [results, Tryd.f10, go_sem, v0, v1, v2, v3, v4, cE, E0]
          · by_cases hcd : cd = 0
            · subst hcd
              subst hr0
              have HEA := Lib.hid (show At w (w6.setCell ⟨b4, 1, none⟩ (.bool false)) b2 b4 b8 b6 ⟨xk, xt, false, false, false, true⟩ (e, ((c0 :: l0), false)) from HF6.out.rput (x := ((c0 :: l0), false)) 1 (.bool false) rfl)
              clear HF6
              go_upto_region 18 with (fail)
              clear g0 g1 gf1
              generalize w6.setCell ⟨b4, 1, none⟩ (.bool false) = WA at HEA ⊢
              have e4 := HEA.out.ev.cell 4
              have ef4 := HEA.out.ev.frozen 4
              have g0 := HEA.out.rd.cell 0
              have gf0 := HEA.out.rd.frozen 0
              simp only [cE, cS, List.getElem?_toArray, List.getElem?_cons_zero, List.getElem?_cons_succ] at e4 g0
              obtain ⟨ev2, hev2⟩ : ∃ ev2 : E, ev2 = { e with s := us } := ⟨_, rfl⟩
              have HE7 := Lib.hid (show At w ((WA.setCell ⟨b8, 4, none⟩ (.string ⟨us.toArray⟩)).setCell ⟨b4, 0, none⟩ (.string ⟨#[]⟩)) b2 b4 b8 b6 ⟨xk, xt, false, false, false, true⟩ (ev2, ([], false)) from by rw [hev2]; exact (HEA.out.put (e := { e with s := us }) 4 (.string ⟨us.toArray⟩) rfl).rput (x := ([], false)) 0 (.string ⟨#[]⟩) rfl)
              rw [← hev2] at HQ6
              clear HEA hev2
              go_upto_region 19 with (fail)
              clear e4 ef4 g0 gf0
              generalize (WA.setCell ⟨b8, 4, none⟩ (.string ⟨us.toArray⟩)).setCell ⟨b4, 0, none⟩ (.string ⟨#[]⟩) = WB at HE7 ⊢
              have HQ := Lib.hid (show readE line = if (checkE ev2 != 0) = true then (E0, 3) else (ev2, 0) from by rw [HQ6.out] <;> rfl)
              clear HQ6
              have HCK := Lib.hid (check_any ev2)
              have HQ := Lib.hid (show readE line = if (checkE ev2 != 0) = true then (E0, 3) else (ev2, 0) from by first | exact HQ.out | (rw [HQ.out]; rfl))
              obtain ⟨cd, hcd⟩ : ∃ c, c = checkE ev2 := ⟨_, rfl⟩
              rw [← hcd] at HCK HQ
              clear hcd
              have hev := HE7.out.ev.cell
              have g0 := HE7.out.rd.cell 0
              have g1 := HE7.out.rd.cell 1
              have gf0 := HE7.out.rd.frozen 0
              have gf1 := HE7.out.rd.frozen 1
              have e0 := HE7.out.ev.cell 0
              have e1 := HE7.out.ev.cell 1
              have e2 := HE7.out.ev.cell 2
              have e3 := HE7.out.ev.cell 3
              have e4 := HE7.out.ev.cell 4
              have ef1 := HE7.out.ev.frozen 1
              have ef2 := HE7.out.ev.frozen 2
              have ef3 := HE7.out.ev.frozen 3
              have ef4 := HE7.out.ev.frozen 4
              have z2 := HE7.out.row.cell 2
              have z3 := HE7.out.row.cell 3
              have z4 := HE7.out.row.cell 4
              have z5 := HE7.out.row.cell 5
              simp only [cE, cS, cR, List.getElem?_toArray, List.getElem?_cons_zero, List.getElem?_cons_succ] at g0 g1 e0 e1 e2 e3 e4 z2 z3 z4 z5
              obtain ⟨ek, ew, en, eo, es⟩ := ev2
              clear hev
              go_wp2_with fail
              refine (HCK.out _).mono ?_
              rintro x1 W9 ⟨rfl, hf⟩
              clear g0 g1 gf0 gf1 e0 e1 e2 e3 e4 ef1 ef2 ef3 ef4 z2 z3 z4 z5
              have HE9 := Lib.hid (HE7.out.no hf)
              clear hf HE7 HCK
              by_cases hcd : cd = 0
              · subst hcd
                have HQ := Lib.hid (show readE line = (⟨ek, ew, en, eo, es⟩, 0) from by rw [HQ.out]; rfl)
                have g0 := HE9.out.rd.cell 0
                have g1 := HE9.out.rd.cell 1
                have gf0 := HE9.out.rd.frozen 0
                have gf1 := HE9.out.rd.frozen 1
                have e0 := HE9.out.ev.cell 0
                have e1 := HE9.out.ev.cell 1
                have e2 := HE9.out.ev.cell 2
                have e3 := HE9.out.ev.cell 3
                have e4 := HE9.out.ev.cell 4
                have ef1 := HE9.out.ev.frozen 1
                have ef2 := HE9.out.ev.frozen 2
                have ef3 := HE9.out.ev.frozen 3
                have ef4 := HE9.out.ev.frozen 4
                have z2 := HE9.out.row.cell 2
                have z3 := HE9.out.row.cell 3
                have z4 := HE9.out.row.cell 4
                have z5 := HE9.out.row.cell 5
                simp only [cE, cS, cR, List.getElem?_toArray, List.getElem?_cons_zero, List.getElem?_cons_succ] at g0 g1 e0 e1 e2 e3 e4 z2 z3 z4 z5
                have q0 := HE9.out.res.frozen 0
                have q1 := HE9.out.res.frozen 1
                have q2 := HE9.out.res.frozen 2
                have q3 := HE9.out.res.frozen 3
                have q4 := HE9.out.res.frozen 4
                have u0 := HE9.out.res.cell 0
                have u1 := HE9.out.res.cell 1
                have u2 := HE9.out.res.cell 2
                have u3 := HE9.out.res.cell 3
                have u4 := HE9.out.res.cell 4
                simp only [List.getElem?_toArray, List.getElem?_cons_zero, List.getElem?_cons_succ] at u0 u1 u2 u3 u4
                have HR5 := Lib.hid (ret5 (a0 := .int .i64 ek) (a1 := .int .i64 ew) (a2 := .int .i64 en) (a3 := .bool eo) (a4 := .string ⟨es.toArray⟩) HE9.out.res HE9.out.fr HE9.out.hw.1)
                go_wp2_with fail
                obtain ⟨hY, hF⟩ := HR5.out
                have v0 := hY.cell 0
                have v1 := hY.cell 1
                have v2 := hY.cell 2
                have v3 := hY.cell 3
                have v4 := hY.cell 4
                simp only [List.getElem?_toArray, List.getElem?_cons_zero, List.getElem?_cons_succ] at v0 v1 v2 v3 v4
                refine bodyPost_ret (v := .tuple #[.agg (cE ⟨ek, ew, en, eo, es⟩), .int .i64 0]) ?_ rfl ⟨by rw [HQ.out], hF⟩
                simp [results, Tryd.f10, go_sem, v0, v1, v2, v3, v4, cE]
              · have hn : (cd != 0) = true := by rw [bne_iff_ne]; exact hcd
                have HQ := Lib.hid (show readE line = (E0, 3) from by rw [HQ.out, if_pos hn])
                have g0 := HE9.out.rd.cell 0
                have g1 := HE9.out.rd.cell 1
                have gf0 := HE9.out.rd.frozen 0
                have gf1 := HE9.out.rd.frozen 1
                have e0 := HE9.out.ev.cell 0
                have e1 := HE9.out.ev.cell 1
                have e2 := HE9.out.ev.cell 2
                have e3 := HE9.out.ev.cell 3
                have e4 := HE9.out.ev.cell 4
                have ef1 := HE9.out.ev.frozen 1
                have ef2 := HE9.out.ev.frozen 2
                have ef3 := HE9.out.ev.frozen 3
                have ef4 := HE9.out.ev.frozen 4
                have z2 := HE9.out.row.cell 2
                have z3 := HE9.out.row.cell 3
                have z4 := HE9.out.row.cell 4
                have z5 := HE9.out.row.cell 5
                simp only [cE, cS, cR, List.getElem?_toArray, List.getElem?_cons_zero, List.getElem?_cons_succ] at g0 g1 e0 e1 e2 e3 e4 z2 z3 z4 z5
                have q0 := HE9.out.res.frozen 0
                have q1 := HE9.out.res.frozen 1
                have q2 := HE9.out.res.frozen 2
                have q3 := HE9.out.res.frozen 3
                have q4 := HE9.out.res.frozen 4
                have u0 := HE9.out.res.cell 0
                have u1 := HE9.out.res.cell 1
                have u2 := HE9.out.res.cell 2
                have u3 := HE9.out.res.cell 3
                have u4 := HE9.out.res.cell 4
                simp only [List.getElem?_toArray, List.getElem?_cons_zero, List.getElem?_cons_succ] at u0 u1 u2 u3 u4
                have HR5 := Lib.hid (ret5 (a0 := .int .i64 0) (a1 := .int .i64 0) (a2 := .int .i64 0) (a3 := .bool false) (a4 := .string ⟨#[]⟩) HE9.out.res HE9.out.fr HE9.out.hw.1)
                go_wp2_with fail
                obtain ⟨hY, hF⟩ := HR5.out
                have v0 := hY.cell 0
                have v1 := hY.cell 1
                have v2 := hY.cell 2
                have v3 := hY.cell 3
                have v4 := hY.cell 4
                simp only [List.getElem?_toArray, List.getElem?_cons_zero, List.getElem?_cons_succ] at v0 v1 v2 v3 v4
                refine bodyPost_ret (v := .tuple #[.agg (cE E0), .int .i64 3]) ?_ rfl ⟨by rw [HQ.out], hF⟩
                simp [results, Tryd.f10, go_sem, v0, v1, v2, v3, v4, cE, E0]
            · subst hr0
              have hcn : (cd != 0) = true := by rw [bne_iff_ne]; exact hcd
              have HEA := Lib.hid (show At w (w6.setCell ⟨b4, 1, none⟩ (.bool true)) b2 b4 b8 b6 ⟨xk, xt, false, false, false, true⟩ (e, ((c0 :: l0), true)) from HF6.out.rput (x := ((c0 :: l0), true)) 1 (.bool true) rfl)
              clear HF6
              go_upto_region 18 with (fail)
              clear g0 g1 gf1
              generalize w6.setCell ⟨b4, 1, none⟩ (.bool true) = WA at HEA ⊢
              have e4 := HEA.out.ev.cell 4
              have ef4 := HEA.out.ev.frozen 4
              have g0 := HEA.out.rd.cell 0
              have gf0 := HEA.out.rd.frozen 0
              simp only [cE, cS, List.getElem?_toArray, List.getElem?_cons_zero, List.getElem?_cons_succ] at e4 g0
              obtain ⟨ev2, hev2⟩ : ∃ ev2 : E, ev2 = { e with s := us } := ⟨_, rfl⟩
              have HE7 := Lib.hid (show At w ((WA.setCell ⟨b8, 4, none⟩ (.string ⟨us.toArray⟩)).setCell ⟨b4, 0, none⟩ (.string ⟨#[]⟩)) b2 b4 b8 b6 ⟨xk, xt, false, false, false, true⟩ (ev2, ([], true)) from by rw [hev2]; exact (HEA.out.put (e := { e with s := us }) 4 (.string ⟨us.toArray⟩) rfl).rput (x := ([], true)) 0 (.string ⟨#[]⟩) rfl)
              rw [← hev2] at HQ6
              clear HEA hev2
              go_upto_region 19 with (fail)
              clear e4 ef4 g0 gf0
              generalize (WA.setCell ⟨b8, 4, none⟩ (.string ⟨us.toArray⟩)).setCell ⟨b4, 0, none⟩ (.string ⟨#[]⟩) = WB at HE7 ⊢
              have HQ := Lib.hid (show readE line = (E0, 3) from by rw [HQ6.out] <;> (rw [hcn]; try rfl))
              have g0 := HE7.out.rd.cell 0
              have g1 := HE7.out.rd.cell 1
              have gf0 := HE7.out.rd.frozen 0
              have gf1 := HE7.out.rd.frozen 1
              have e0 := HE7.out.ev.cell 0
              have e1 := HE7.out.ev.cell 1
              have e2 := HE7.out.ev.cell 2
              have e3 := HE7.out.ev.cell 3
              have e4 := HE7.out.ev.cell 4
              have ef1 := HE7.out.ev.frozen 1
              have ef2 := HE7.out.ev.frozen 2
              have ef3 := HE7.out.ev.frozen 3
              have ef4 := HE7.out.ev.frozen 4
              have z2 := HE7.out.row.cell 2
              have z3 := HE7.out.row.cell 3
              have z4 := HE7.out.row.cell 4
              have z5 := HE7.out.row.cell 5
              simp only [cE, cS, cR, List.getElem?_toArray, List.getElem?_cons_zero, List.getElem?_cons_succ] at g0 g1 e0 e1 e2 e3 e4 z2 z3 z4 z5
              have q0 := HE7.out.res.frozen 0
              have q1 := HE7.out.res.frozen 1
              have q2 := HE7.out.res.frozen 2
              have q3 := HE7.out.res.frozen 3
              have q4 := HE7.out.res.frozen 4
              have u0 := HE7.out.res.cell 0
              have u1 := HE7.out.res.cell 1
              have u2 := HE7.out.res.cell 2
              have u3 := HE7.out.res.cell 3
              have u4 := HE7.out.res.cell 4
              simp only [List.getElem?_toArray, List.getElem?_cons_zero, List.getElem?_cons_succ] at u0 u1 u2 u3 u4
              have HR5 := Lib.hid (ret5 (a0 := .int .i64 0) (a1 := .int .i64 0) (a2 := .int .i64 0) (a3 := .bool false) (a4 := .string ⟨#[]⟩) HE7.out.res HE7.out.fr HE7.out.hw.1)
              go_wp2_with fail
              obtain ⟨hY, hF⟩ := HR5.out
              have v0 := hY.cell 0
              have v1 := hY.cell 1
              have v2 := hY.cell 2
              have v3 := hY.cell 3
              have v4 := hY.cell 4
              simp only [List.getElem?_toArray, List.getElem?_cons_zero, List.getElem?_cons_succ] at v0 v1 v2 v3 v4
              refine bodyPost_ret (v := .tuple #[.agg (cE E0), .int .i64 3]) ?_ rfl ⟨by rw [HQ.out], hF⟩
              simp [results, Tryd.f10, go_sem, v0, v1, v2, v3, v4, cE, E0]
end Ev
end Go.Proofs.YtohjnbkehcdoaaaDoor
