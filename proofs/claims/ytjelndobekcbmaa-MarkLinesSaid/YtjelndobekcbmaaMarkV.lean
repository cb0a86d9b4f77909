/- Mark: all items as text, and what the console told. Printed by gen_markv.py. -/
import Derived.Test.YtjelndobekcbmaaMarkW
import Derived.Test.YtjelndobekcbmaaBytes
import Derived.BigQuiet
import Derived.Deep.RegionHeld3
namespace Go.Proofs.Ytjelndobekcbmaa
open Go.RowKit
set_option linter.unusedVariables false
set_option linter.unusedSimpArgs false
namespace Mark
open Digit Clock
theorem it_open {w : World} {S : Nat → Prop} {cs : List Value} {x : It} (h : RIt w S cs x) : ∃ (k n : Int) (s : Str), x = (k, n, s) ∧ (Lit.int .i64 k).wf = true ∧ (Lit.int .i64 n).wf = true ∧ s.length ≤ maxLen ∧ cs = [.int .i64 k, .int .i64 n, .string ⟨s.toArray⟩] := by
  obtain ⟨hl, ⟨h1, b1⟩, l2, ⟨h2, b2⟩, h3, b3⟩ := h
  exact ⟨x.1, x.2.1, x.2.2, rfl, b1, b2, b3, by rw [← List.take_append_drop 1 cs, h1, ← List.take_append_drop 1 (cs.drop 1), h2, h3]; rfl⟩
/-- The cells of an item in a row. -/
theorem it_at {w wr : World} {S : Nat → Prop} {A : Option Addr} {m c k : Nat} {l : List It} (h : RSl 3 RIt w S [.slice A m c] l) (hS : ∀ k, S k → k < w.heap.size) (hf : Fr No w wr) (hk : k < l.length) :
    ∃ (ad : Addr) (kd n : Int) (s : Str), A = some ad ∧ l[k] = (kd, n, s) ∧ wr.cell? (ad.add (k * 3)) = some (.int .i64 kd) ∧ wr.cell? ⟨(ad.add (k * 3)).block, (ad.add (k * 3)).off + 1, none⟩ = some (.int .i64 n) ∧ wr.cell? ⟨(ad.add (k * 3)).block, (ad.add (k * 3)).off + 2, none⟩ = some (.string ⟨s.toArray⟩) ∧ (Lit.int .i64 n).wf = true ∧ (Lit.int .i64 kd).wf = true := by
  obtain ⟨ad, ecs, h1, h2, h3, h4, h5⟩ := Sls.sl_at h hk
  obtain ⟨kd, n, s, e1, b1, b2, b3, rfl⟩ := it_open h5
  have hc : ∀ j, j < 3 → wr.cell? ((ad.add (k * 3)).add j) = _ := fun j hj => (hf.cell (by rw [block_add, block_add]; exact hS _ h2) (fun h => h)).trans (h4 j hj)
  refine ⟨ad, kd, n, s, h1, e1, ?_, hc 1 (by omega), hc 2 (by omega), b2, b1⟩
  have := hc 0 (by omega)
  rw [add_zero] at this
  exact this
/-- Where all items stand while they are marked. -/
structure AAt (w : World) (acc : Str) (q : Bool) (wr : World) : Prop where
  b : IsB (w.heap.size + 1) (w.heap.size + 1) (Lib.byteCells acc) wr
  m : Blk wr w.heap.size 30 #[.bool q]
  fr : Fr No w wr
section
variable {w wr w1 : World} {acc acc' : Str} {q : Bool}
theorem AAt.start (w : World) : AAt w [] false ((w.alloc (.cells #[.bool false] 30)).alloc (.cells #[.pointer none, .slice none 0 0] 62)) :=
  ⟨by have := isB_new (w.alloc (.cells #[.bool false] 30)); rw [size_alloc] at this; exact this, (Blk.new w _ _).alloc _, ((Fr.refl _ _).alloc _).alloc _⟩
theorem AAt.size (h : AAt w acc q wr) : w.heap.size + 1 < wr.heap.size := (isB_lt h.b).2
theorem AAt.no (h : AAt w acc q wr) (hf : Fr No wr w1) : AAt w acc q w1 := ⟨isB_fr h.b hf (fun _ _ _ h => h), h.m.fr hf (fun h => h), h.fr.then_no hf⟩
theorem AAt.marked (h : AAt w acc q wr) {q' : Bool} (hm : Blk w1 w.heap.size 30 #[.bool q']) (hf : Fr (One w.heap.size) wr w1) : AAt w acc q' w1 :=
  ⟨isB_fr h.b hf (fun k hk _ e => by have e : k = w.heap.size := e; omega), hm, h.fr.trans hf (fun b hb hl => by have hb : b = w.heap.size := hb; omega)⟩
theorem AAt.wrote (h : AAt w acc q wr) (hb : IsB (w.heap.size + 1) (w.heap.size + 1) (Lib.byteCells acc') w1) (hw : Below (w.heap.size + 1) wr w1) : AAt w acc' q w1 :=
  have hf := fr_below hw
  ⟨hb, h.m.fr hf (fun h => by have h : w.heap.size + 1 ≤ w.heap.size := h; omega), h.fr.trans hf (fun b hb hl => by have hb : w.heap.size + 1 ≤ b := hb; omega)⟩
end
/-- A builder of the call's own, that is all it has made. -/
structure BAt (w : World) (acc : Str) (wr : World) : Prop where
  b : IsB w.heap.size w.heap.size (Lib.byteCells acc) wr
  fr : Fr No w wr
section
variable {w wr w1 : World} {acc acc' : Str}
theorem BAt.start (w : World) : BAt w [] (w.alloc (.cells #[.pointer none, .slice none 0 0] 62)) := ⟨isB_new w, (Fr.refl _ _).alloc _⟩
theorem BAt.size (h : BAt w acc wr) : w.heap.size < wr.heap.size := (isB_lt h.b).2
theorem BAt.no (h : BAt w acc wr) (hf : Fr No wr w1) : BAt w acc w1 := ⟨isB_fr h.b hf (fun _ _ _ h => h), h.fr.then_no hf⟩
theorem BAt.wrote (h : BAt w acc wr) (hb : IsB w.heap.size w.heap.size (Lib.byteCells acc') w1) (hw : Below w.heap.size wr w1) : BAt w acc' w1 :=
  have hf := fr_below hw
  ⟨hb, h.fr.trans hf (fun b hb hl => by have hb : w.heap.size ≤ b := hb; omega)⟩
end
theorem take_snoc {α : Type} (l : List α) (k : Nat) (h : k < l.length) : l.take (k + 1) = l.take k ++ [l[k]] := List.take_succ_eq_append_getElem h
set_option maxRecDepth 100000 in
set_option maxHeartbeats 2000000 in
theorem all_any (v : Value) (l : List It) (w : World) (S : Nat → Prop) (hS : ∀ k, S k → k < w.heap.size) (h : RSl 3 RIt w S [v] l) (hl : Fewl l) :
    Calls Try.prog 13 #[v] w fun e w' => e = .returned (.string ⟨(allR l).1.toArray⟩) ∧ Fr No w w' := by
  obtain ⟨A, c, rfl, hc1, hc2⟩ := h.slice
  have H := Lib.hid h
  have HS := Lib.hid hS
  have HL := Lib.hid hl
  have A0 := Lib.hid (AAt.start w)
  have hl40 := hl.1
  unfold maxLen at hc2
  clear h hS hl
  go_enter Try.func13, Try.ntmps13
  go_wp2_with fail
  go_loopw [9] (fun i wr => ∃ k : Nat, i = .int .i64 k ∧ k ≤ l.length ∧ Hid (AAt w (allR (l.take k)).1 (allR (l.take k)).2 wr)) (fun i _ => l.length - (intOf i).toNat)
  case atStart => exact ⟨0, rfl, by omega, A0.out⟩
  case round =>
    clear A0
    obtain ⟨k, rfl, hk, D⟩ := hrel
    by_cases hlt : k < l.length
    · obtain ⟨ad, kd, n, s, rfl, hx, c0, c1, c2, -⟩ := it_at H.out HS.out D.out.fr hlt
      obtain ⟨acc, q, hq⟩ : ∃ acc q, allR (l.take k) = (acc, q) := ⟨_, _, rfl⟩
      have HN := Lib.hid (show allR (l.take (k + 1)) = (acc ++ (addR q (kd, n, s)).1, (addR q (kd, n, s)).2) by rw [take_snoc l k hlt, all_snoc, hq, hx]; rfl)
      have hal := all_max HL.out k
      have hsl : s.length ≤ 100 := by have := HL.out.2 _ (List.getElem_mem hlt); rw [hx] at this; exact this
      rw [hq] at D hal
      simp only at D hal
      have hdl := add_len q (kd, n, s)
      simp only at hdl
      have D1 := Lib.hid (D.out.no ((Fr.refl _ _).alloc (.cells #[.int .i64 kd, .int .i64 n, .string ⟨s.toArray⟩] 26)))
      clear hq hx D
      go_wp2_with fail
      refine (add_any w.heap.size q kd n s _ D1.out.m hsl).mono ?_
      unfold AddPost
      rintro e w1 ⟨rfl, hb, hf⟩
      have D2 := Lib.hid (D1.out.marked hb hf)
      clear hb hf D1 c0 c1 c2
      generalize addR q (kd, n, s) = r at HN hdl D2 ⊢
      obtain ⟨t, q'⟩ := r
      simp only at HN hdl D2 ⊢
      have hsz := D2.out.size
      go_wp2_with fail
      refine (wstr_any _ _ _ ⟨t.toArray⟩ _ D2.out.b (by rw [bc_len]; simp [ByteArray.size]; omega) (by omega)).mono ?_
      rintro e w2 ⟨rfl, hB, hw, -⟩
      rw [bc_str] at hB
      have D3 := Lib.hid (D2.out.wrote hB hw)
      clear hB hw D2 hsz
      go_wp2_with fail
      go_roundw
      case rel => exact ⟨k + 1, by go_num, by omega, by show AAt _ _ _ _; rw [HN.out]; exact D3.out⟩
      case measure => simp [intOf]; omega
    · have hkl : l.take k = l := List.take_of_length_le (by omega)
      rw [hkl] at D
      have hsz := D.out.size
      go_wp2_with fail
      refine (bstr_any _ _ _ _ D.out.b (by omega)).mono ?_
      rintro e w1 ⟨rfl, hB, hw, -⟩
      have D1 := Lib.hid (D.out.wrote hB hw)
      clear hB hw
      go_wp2
      go_ret
      exact ⟨rfl, D1.out.fr⟩
set_option maxRecDepth 100000 in
set_option maxHeartbeats 2000000 in
theorem told_any (v : Value) (l : List It) (w : World) (S : Nat → Prop) (hS : ∀ k, S k → k < w.heap.size) (h : RSl 3 RIt w S [v] l) (hl : Fewl l) :
    Calls Try.prog 17 #[v] w fun e w' => e = .returned (.string ⟨(toldR l).toArray⟩) ∧ Fr No w w' := by
  obtain ⟨A, c, rfl, hc1, hc2⟩ := h.slice
  have H := Lib.hid h
  have HS := Lib.hid hS
  have HL := Lib.hid hl
  have A0 := Lib.hid (BAt.start w)
  have hl40 := hl.1
  unfold maxLen at hc2
  clear h hS hl
  go_enter Try.func17, Try.ntmps17
  go_wp2_with fail
  go_loopw [8] (fun i wr => ∃ k : Nat, i = .int .i64 k ∧ k ≤ l.length ∧ Hid (BAt w (toldR (l.take k)) wr)) (fun i _ => l.length - (intOf i).toNat)
  case atStart => exact ⟨0, rfl, by omega, A0.out⟩
  case round =>
    clear A0
    obtain ⟨k, rfl, hk, D⟩ := hrel
    by_cases hlt : k < l.length
    · obtain ⟨ad, kd, n, s, rfl, hx, c0, c1, c2, -⟩ := it_at H.out HS.out D.out.fr hlt
      have HN := Lib.hid (show toldR (l.take (k + 1)) = toldR (l.take k) ++ if kd = 1 then s else [] by rw [take_snoc l k hlt, told_snoc, hx])
      have hal := told_len HL.out k
      have hsl : s.length ≤ 100 := by have := HL.out.2 _ (List.getElem_mem hlt); rw [hx] at this; exact this
      have D1 := Lib.hid (D.out.no ((Fr.refl _ _).alloc (.cells #[.int .i64 kd, .int .i64 n, .string ⟨s.toArray⟩] 26)))
      generalize toldR (l.take k) = acc at HN hal D1
      have hsz := D1.out.size
      clear hx D
      by_cases h1 : kd = 1
      · subst h1
        go_wp2_with fail
        refine (wstr_any _ _ _ ⟨s.toArray⟩ _ D1.out.b (by rw [bc_len]; simp [ByteArray.size]; omega) (by omega)).mono ?_
        rintro e w2 ⟨rfl, hB, hw, -⟩
        rw [bc_str] at hB
        have D3 := Lib.hid (D1.out.wrote hB hw)
        clear hB hw D1 hsz c0 c1 c2
        go_wp2_with fail
        go_roundw
        case rel => exact ⟨k + 1, by go_num, by omega, by show BAt _ _ _; rw [HN.out]; exact D3.out⟩
        case measure => simp [intOf]; omega
      · have HE := Lib.hid (show (if kd = 1 then s else []) = [] from if_neg h1)
        go_wp2_with fail
        go_roundw
        case rel => exact ⟨k + 1, by go_num, by omega, by show BAt _ _ _; rw [HN.out, HE.out, List.append_nil]; exact D1.out⟩
        case measure => simp [intOf]; omega
    · have hkl : l.take k = l := List.take_of_length_le (by omega)
      rw [hkl] at D
      have hsz := D.out.size
      go_wp2_with fail
      refine (bstr_any _ _ _ _ D.out.b (by omega)).mono ?_
      rintro e w1 ⟨rfl, hB, hw, -⟩
      have D1 := Lib.hid (D.out.wrote hB hw)
      clear hB hw
      go_wp2
      go_ret
      exact ⟨rfl, D1.out.fr⟩
set_option maxRecDepth 100000 in
set_option maxHeartbeats 2000000 in
theorem rtold_any (v : Value) (l : List It) (w : World) (S : Nat → Prop) (hS : ∀ k, S k → k < w.heap.size) (h : RSl 3 RIt w S [v] l) (hl : Fewl l) :
    Calls Try.prog 18 #[v] w fun e w' => e = .returned (.string ⟨(toldR l).toArray⟩) ∧ Fr No w w' := by
  obtain ⟨A, c, rfl, hc1, hc2⟩ := h.slice
  have H := Lib.hid h
  have HS := Lib.hid hS
  have HL := Lib.hid hl
  have hl40 := hl.1
  unfold maxLen at hc2
  clear h hS hl
  go_enter Try.func18, Try.ntmps18
  go_wp2_with fail
  go_loopw [3, 4] (fun s i wr => ∃ (k : Nat) (acc : Str), i = .int .i64 k ∧ s = .string ⟨acc.toArray⟩ ∧ k ≤ l.length ∧ Hid (acc = toldR (l.take k)) ∧ Hid (Fr No w wr)) (fun _ i _ => l.length - (intOf i).toNat)
  case atStart => exact ⟨0, [], rfl, rfl, by omega, rfl, Fr.refl _ _⟩
  case round =>
    obtain ⟨k, acc, rfl, rfl, hk, HA, D⟩ := hrel
    by_cases hlt : k < l.length
    · obtain ⟨ad, kd, n, s, rfl, hx, c0, c1, c2, -⟩ := it_at H.out HS.out D.out hlt
      have HN := Lib.hid (show toldR (l.take (k + 1)) = acc ++ if kd = 1 then s else [] by rw [take_snoc l k hlt, told_snoc, hx, ← HA.out])
      have hal : acc.length ≤ 4000 := by have := told_len HL.out k; rw [← HA.out] at this; exact this
      have hsl : s.length ≤ 100 := by have := HL.out.2 _ (List.getElem_mem hlt); rw [hx] at this; exact this
      clear hx
      by_cases h1 : kd = 1
      · subst h1
        go_wp2_with fail
        go_roundw
        case rel => exact ⟨k + 1, acc ++ s, by go_num, by first | rfl | rw [ba_append], by omega, (show acc ++ s = _ by rw [HN.out]; rfl), D.out⟩
        case measure => simp [intOf]; omega
      · have HE := Lib.hid (show (if kd = 1 then s else []) = [] from if_neg h1)
        go_wp2_with fail
        go_roundw
        case rel => exact ⟨k + 1, acc, by go_num, rfl, by omega, (show acc = _ by rw [HN.out, HE.out, List.append_nil]), D.out⟩
        case measure => simp [intOf]; omega
    · have hkl : l.take k = l := List.take_of_length_le (by omega)
      rw [hkl] at HA
      go_wp2_with fail
      go_ret
      exact ⟨by rw [HA.out]; rfl, D.out⟩
theorem data_snoc_take (n : Int) (o : Bool) (s : Str) (j : Nat) (h : j < s.length) : dataR n o (s.take (j + 1)) = dStep n (dataR n o (s.take j)) s[j] := by rw [take_snoc s j h, data_snoc]
/-- Where the reference stands, in the bytes of one item. -/
structure CAt (w : World) (bx : Nat) (kd n : Int) (s acc : Str) (q : Bool) (t : Str) (p : Bool) (wr : World) : Prop where
  x : Blk wr bx 26 #[.int .i64 kd, .int .i64 n, .string ⟨s.toArray⟩]
  fr : Fr No w wr
theorem CAt.no {w wr w1 : World} {bx : Nat} {kd n : Int} {s acc t : Str} {q p : Bool} (h : CAt w bx kd n s acc q t p wr) (hf : Fr No wr w1) : CAt w bx kd n s acc q t p w1 := ⟨h.x.fr hf (fun h => h), h.fr.then_no hf⟩
set_option maxRecDepth 100000 in
set_option maxHeartbeats 4000000 in
theorem rall_any (v : Value) (l : List It) (w : World) (S : Nat → Prop) (hS : ∀ k, S k → k < w.heap.size) (h : RSl 3 RIt w S [v] l) (hl : Fewl l) :
    Calls Try.prog 16 #[v] w fun e w' => e = .returned (.string ⟨(allR l).1.toArray⟩) ∧ Fr No w w' := by
  obtain ⟨A, c, rfl, hc1, hc2⟩ := h.slice
  have H := Lib.hid h
  have HS := Lib.hid hS
  have HL := Lib.hid hl
  have hl40 := hl.1
  unfold maxLen at hc2
  clear h hS hl
  go_enter Try.func16, Try.ntmps16
  go_wp2_with fail
  go_loopw [3, 4] (fun s i wr => ∃ (k : Nat) (acc : Str), i = .int .i64 k ∧ s = .string ⟨acc.toArray⟩ ∧ k ≤ l.length ∧ Hid (acc = (allR (l.take k)).1) ∧ Hid (Fr No w wr)) (fun _ i _ => l.length - (intOf i).toNat)
  case atStart => exact ⟨0, [], rfl, rfl, by omega, rfl, Fr.refl _ _⟩
  case round =>
    obtain ⟨k, acc, rfl, rfl, hk, HA, D⟩ := hrel
    by_cases hlt : k < l.length
    · obtain ⟨ad, kd, n, s, rfl, hx, c0, c1, c2, -⟩ := it_at H.out HS.out D.out hlt
      obtain ⟨q, hq⟩ : ∃ q, opn acc = q := ⟨_, rfl⟩
      have HN := Lib.hid (show (allR (l.take (k + 1))).1 = acc ++ (addR q (kd, n, s)).1 by rw [take_snoc l k hlt, all_snoc, hx]; unfold stepR; rw [← opn_all, ← HA.out, hq])
      have hal : acc.length ≤ 570120 := by have := all_max HL.out k; rw [← HA.out] at this; exact this
      have hsl : s.length ≤ 100 := by have := HL.out.2 _ (List.getElem_mem hlt); rw [hx] at this; exact this
      have HQ := Lib.hid hq
      have X0 := Lib.hid (Blk.new wr 26 #[.int .i64 kd, .int .i64 n, .string ⟨s.toArray⟩])
      have F0 := Lib.hid (D.out.alloc (.cells #[.int .i64 kd, .int .i64 n, .string ⟨s.toArray⟩] 26))
      clear hx hq HA D
      by_cases h1 : kd = 1
      · subst h1
        obtain ⟨W1, e1⟩ : ∃ W1, W1 = wr := ⟨_, rfl⟩
        subst e1
        obtain ⟨bx, hbx⟩ : ∃ bx, bx = W1.heap.size := ⟨_, rfl⟩
        have HE := Lib.hid (show addR q (1, n, s) = dataR n q s from rfl)
        rw [← hbx] at X0
        go_wp2_with fail
        rw [← hbx]
        clear c0 c1 c2 hbx
        go_loopw [3, 6] (fun z i wr => ∃ (j : Nat) (t : Str), i = .int .i64 j ∧ z = .string ⟨(acc ++ t).toArray⟩ ∧ j ≤ s.length ∧ Hid (t = (dataR n q (s.take j)).1) ∧ Hid (Blk wr bx 26 #[.int .i64 1, .int .i64 n, .string ⟨s.toArray⟩] ∧ Fr No w wr)) (fun _ i _ => s.length - (intOf i).toNat)
        case atStart => exact ⟨0, [], rfl, by simp, by omega, rfl, X0.out, F0.out⟩
        case round =>
          clear X0 F0
          obtain ⟨j, t, rfl, rfl, hj, HT, E⟩ := hrel
          have x1 : wr.cell? ⟨bx, 1, none⟩ = some (.int .i64 n) := E.out.1.cell 1
          have x2 : wr.cell? ⟨bx, 2, none⟩ = some (.string ⟨s.toArray⟩) := E.out.1.cell 2
          have htl : t.length ≤ 14100 := by
            have h1 := data_len n q (s.take j)
            have h2 : (s.take j).length ≤ j := List.length_take_le _ _
            rw [HT.out]; omega
          by_cases hjl : j < s.length
          · have hs1 := fun W : World => slice_one (P := Try.prog) W 9 Try.underlying9 s j (j + 1) j hjl rfl rfl
            obtain ⟨q', hq'⟩ : ∃ q', (dataR n q (s.take j)).2 = q' := ⟨_, rfl⟩
            have HB := Lib.hid (show opn (acc ++ t) = q' by rw [HT.out, opn_data n acc (s.take j) q HQ.out, hq'])
            have HM := Lib.hid (show (dataR n q (s.take (j + 1))).1 = t ++ (if q' then [] else stR n) ++ [s[j]] by rw [data_snoc_take n q s j hjl, HT.out, ← hq']; rfl)
            clear hq'
            go_wp2_with fail
            refine (begun_any (acc ++ t) _ (by unfold maxLen; simp; omega)).mono ?_
            rintro e w1 ⟨rfl, rfl⟩
            rw [HB.out]
            cases q' with
            | true =>
              go_wp2_with fail
              go_roundw
              case rel => exact ⟨j + 1, t ++ [s[j]], by go_num, by rw [ba_append, List.append_assoc], by omega, (show t ++ [s[j]] = _ by rw [HM.out]; simp), E.out⟩
              case measure => simp [intOf]; omega
            | false =>
              have hst := st_len n
              go_wp2_with fail
              refine (rstamp_m n _).mono ?_
              rintro e w1 ⟨rfl, hf⟩
              have E1 := Lib.hid (show Blk w1 bx 26 #[.int .i64 1, .int .i64 n, .string ⟨s.toArray⟩] ∧ Fr No w w1 from ⟨E.out.1.fr hf (fun h => h), E.out.2.then_no hf⟩)
              clear hf x1 x2 E
              have x2 : w1.cell? ⟨bx, 2, none⟩ = some (.string ⟨s.toArray⟩) := E1.out.1.cell 2
              obtain ⟨u, hu⟩ : ∃ u, u = stR n := ⟨_, rfl⟩
              rw [← hu] at HM hst ⊢
              clear hu
              go_wp2_with fail
              go_roundw
              case rel => exact ⟨j + 1, t ++ u ++ [s[j]], by go_num, by simp only [ba_append, List.append_assoc], by omega, (show t ++ u ++ [s[j]] = _ by rw [HM.out]; simp), E1.out⟩
              case measure => simp [intOf]; omega
          · have hkj : s.take j = s := List.take_of_length_le (by omega)
            rw [hkj] at HT
            go_wp2_with fail
            go_roundw
            case rel => exact ⟨k + 1, acc ++ t, by go_num, rfl, by omega, (show acc ++ t = _ by rw [HN.out, HE.out, ← HT.out]), E.out.2⟩
            case measure => simp [intOf]; omega
      by_cases h2 : kd = 2
      · subst h2
        have HE := Lib.hid (show (addR q (2, n, s)).1 = noteR n q (showR s) from rfl)
        have hst := st_len n
        have hsh := show_len s
        have HS2 := Lib.hid (fun w => rshow_any s w (by omega))
        have HC := Lib.hid (rstamp_m n)
        have HK := Lib.hid (fun (X : World) (hf : Fr No (wr.alloc (.cells #[.int .i64 2, .int .i64 n, .string ⟨s.toArray⟩] 26)) X) => (show X.cell? ⟨wr.heap.size, 0, none⟩ = some (.int .i64 2) ∧ X.cell? ⟨wr.heap.size, 1, none⟩ = some (.int .i64 n) ∧ X.cell? ⟨wr.heap.size, 2, none⟩ = some (.string ⟨s.toArray⟩) from ⟨(hf.cell (p := ⟨wr.heap.size, 0, none⟩) X0.out.lt (fun h => h)).trans (X0.out.cell 0), (hf.cell (p := ⟨wr.heap.size, 1, none⟩) X0.out.lt (fun h => h)).trans (X0.out.cell 1), (hf.cell (p := ⟨wr.heap.size, 2, none⟩) X0.out.lt (fun h => h)).trans (X0.out.cell 2)⟩))
        go_wp2_with fail
        refine (begun_any acc _ (by unfold maxLen; omega)).mono ?_
        rintro e w1 ⟨rfl, rfl⟩
        rw [HQ.out]
        clear c0 c1 c2
        obtain ⟨c0, c1, c2⟩ := HK.out _ (Fr.refl _ _)
        have HZ := Lib.hid (fun (p : Str) (hp : p = if q then [10] else []) => (show (⟨acc.toArray⟩ : ByteArray) ++ ⟨p.toArray⟩ ++ ⟨(stR n).toArray⟩ ++ ⟨#[45, 45, 32]⟩ ++ ⟨(showR s).toArray⟩ ++ ⟨#[32, 45, 45, 10]⟩ = ⟨(acc ++ noteR n q (showR s)).toArray⟩ by
          subst hp
          rw [show (⟨#[45, 45, 32]⟩ : ByteArray) = ⟨([45, 45, 32] : Str).toArray⟩ from rfl, show (⟨#[32, 45, 45, 10]⟩ : ByteArray) = ⟨([32, 45, 45, 10] : Str).toArray⟩ from rfl]
          simp only [ba_append]
          unfold noteR
          simp only [List.append_assoc]))
        obtain ⟨u, hu⟩ : ∃ u, u = stR n := ⟨_, rfl⟩
        obtain ⟨g, hg⟩ : ∃ g, g = showR s := ⟨_, rfl⟩
        rw [← hu] at HC hst HZ
        rw [← hg] at HS2 hsh HZ HE
        clear hu hg
        have hadd1 := fun (W : World) => Go.run_string_add_sum (P := Try.prog) (w := W) (⟨acc.toArray⟩ : ByteArray) (⟨u.toArray⟩ : ByteArray) (by (try simp only [ByteArray.size_append]); simp [ByteArray.size]; omega)
        have hadd2 := fun (W : World) => Go.run_string_add_sum (P := Try.prog) (w := W) ((⟨acc.toArray⟩ : ByteArray) ++ ⟨u.toArray⟩) (⟨#[45, 45, 32]⟩ : ByteArray) (by (try simp only [ByteArray.size_append]); simp [ByteArray.size]; omega)
        have hadd3 := fun (W : World) => Go.run_string_add_sum (P := Try.prog) (w := W) ((⟨acc.toArray⟩ : ByteArray) ++ ⟨u.toArray⟩ ++ ⟨#[45, 45, 32]⟩) (⟨g.toArray⟩ : ByteArray) (by (try simp only [ByteArray.size_append]); simp [ByteArray.size]; omega)
        have hadd4 := fun (W : World) => Go.run_string_add_sum (P := Try.prog) (w := W) ((⟨acc.toArray⟩ : ByteArray) ++ ⟨#[10]⟩) (⟨u.toArray⟩ : ByteArray) (by (try simp only [ByteArray.size_append]); simp [ByteArray.size]; omega)
        have hadd5 := fun (W : World) => Go.run_string_add_sum (P := Try.prog) (w := W) (((⟨acc.toArray⟩ : ByteArray) ++ ⟨#[10]⟩) ++ ⟨u.toArray⟩) (⟨#[45, 45, 32]⟩ : ByteArray) (by (try simp only [ByteArray.size_append]); simp [ByteArray.size]; omega)
        have hadd6 := fun (W : World) => Go.run_string_add_sum (P := Try.prog) (w := W) (((⟨acc.toArray⟩ : ByteArray) ++ ⟨#[10]⟩) ++ ⟨u.toArray⟩ ++ ⟨#[45, 45, 32]⟩) (⟨g.toArray⟩ : ByteArray) (by (try simp only [ByteArray.size_append]); simp [ByteArray.size]; omega)
        cases q
        all_goals
          go_wp2_with fail
          go_region_held3 (fun X => X.cell? ⟨wr.heap.size, 0, none⟩ = some (.int .i64 2) ∧ X.cell? ⟨wr.heap.size, 1, none⟩ = some (.int .i64 n) ∧ X.cell? ⟨wr.heap.size, 2, none⟩ = some (.string ⟨s.toArray⟩)) ((refine HK.out _ ?_; repeat' (first | with_reducible assumption | with_reducible exact Fr.refl _ _ | with_reducible refine Fr.drew ?_))) (first | (go_at_call 42; refine (HC.out _).mono ?_; rintro e w5 ⟨rfl, hf⟩; have hf5 : Fr No (wr.alloc (.cells #[.int .i64 2, .int .i64 n, .string ⟨s.toArray⟩] 26)) w5 := (Fr.then_no (by repeat' (first | with_reducible assumption | with_reducible exact Fr.refl _ _ | with_reducible refine Fr.drew ?_)) hf); clear hf) | (go_at_call 43; refine (HS2.out _).mono ?_; rintro e w6 ⟨rfl, hf⟩; have hf6 : Fr No (wr.alloc (.cells #[.int .i64 2, .int .i64 n, .string ⟨s.toArray⟩] 26)) w6 := (Fr.then_no (by repeat' (first | with_reducible assumption | with_reducible exact Fr.refl _ _ | with_reducible refine Fr.drew ?_)) hf); clear hf))
          all_goals
            obtain ⟨c0, c1, c2⟩ := HK.out _ (by assumption)
            go_wp2_with fail
            go_roundw
            case rel => exact ⟨k + 1, acc ++ noteR n _ (g), by go_num, (by first | (rw [← HZ.out [10] rfl]; try rfl) | (rw [← HZ.out [] rfl, ba_append acc [], List.append_nil]; try rfl)), by omega, (show acc ++ noteR n _ (g) = _ by rw [HN.out, HE.out]), F0.out.then_no (by assumption)⟩
            case measure => simp [intOf]; omega
      by_cases h3 : kd = 3
      · subst h3
        have HE := Lib.hid (show (addR q (3, n, s)).1 = noteR n q (showR s ++ [32, 108, 111, 115, 116]) from rfl)
        have hst := st_len n
        have hsh := show_len s
        have HS2 := Lib.hid (fun w => rshow_any s w (by omega))
        have HC := Lib.hid (rstamp_m n)
        have HK := Lib.hid (fun (X : World) (hf : Fr No (wr.alloc (.cells #[.int .i64 3, .int .i64 n, .string ⟨s.toArray⟩] 26)) X) => (show X.cell? ⟨wr.heap.size, 0, none⟩ = some (.int .i64 3) ∧ X.cell? ⟨wr.heap.size, 1, none⟩ = some (.int .i64 n) ∧ X.cell? ⟨wr.heap.size, 2, none⟩ = some (.string ⟨s.toArray⟩) from ⟨(hf.cell (p := ⟨wr.heap.size, 0, none⟩) X0.out.lt (fun h => h)).trans (X0.out.cell 0), (hf.cell (p := ⟨wr.heap.size, 1, none⟩) X0.out.lt (fun h => h)).trans (X0.out.cell 1), (hf.cell (p := ⟨wr.heap.size, 2, none⟩) X0.out.lt (fun h => h)).trans (X0.out.cell 2)⟩))
        go_wp2_with fail
        refine (begun_any acc _ (by unfold maxLen; omega)).mono ?_
        rintro e w1 ⟨rfl, rfl⟩
        rw [HQ.out]
        clear c0 c1 c2
        obtain ⟨c0, c1, c2⟩ := HK.out _ (Fr.refl _ _)
        have HZ := Lib.hid (fun (p : Str) (hp : p = if q then [10] else []) => (show (⟨acc.toArray⟩ : ByteArray) ++ ⟨p.toArray⟩ ++ ⟨(stR n).toArray⟩ ++ ⟨#[45, 45, 32]⟩ ++ ⟨(showR s).toArray⟩ ++ ⟨#[32, 108, 111, 115, 116]⟩ ++ ⟨#[32, 45, 45, 10]⟩ = ⟨(acc ++ noteR n q (showR s ++ [32, 108, 111, 115, 116])).toArray⟩ by
          subst hp
          rw [show (⟨#[32, 108, 111, 115, 116]⟩ : ByteArray) = ⟨([32, 108, 111, 115, 116] : Str).toArray⟩ from rfl, show (⟨#[45, 45, 32]⟩ : ByteArray) = ⟨([45, 45, 32] : Str).toArray⟩ from rfl, show (⟨#[32, 45, 45, 10]⟩ : ByteArray) = ⟨([32, 45, 45, 10] : Str).toArray⟩ from rfl]
          simp only [ba_append]
          unfold noteR
          simp only [List.append_assoc]))
        obtain ⟨u, hu⟩ : ∃ u, u = stR n := ⟨_, rfl⟩
        obtain ⟨g, hg⟩ : ∃ g, g = showR s := ⟨_, rfl⟩
        rw [← hu] at HC hst HZ
        rw [← hg] at HS2 hsh HZ HE
        clear hu hg
        have hadd1 := fun (W : World) => Go.run_string_add_sum (P := Try.prog) (w := W) (⟨acc.toArray⟩ : ByteArray) (⟨u.toArray⟩ : ByteArray) (by (try simp only [ByteArray.size_append]); simp [ByteArray.size]; omega)
        have hadd2 := fun (W : World) => Go.run_string_add_sum (P := Try.prog) (w := W) ((⟨acc.toArray⟩ : ByteArray) ++ ⟨u.toArray⟩) (⟨#[45, 45, 32]⟩ : ByteArray) (by (try simp only [ByteArray.size_append]); simp [ByteArray.size]; omega)
        have hadd3 := fun (W : World) => Go.run_string_add_sum (P := Try.prog) (w := W) ((⟨acc.toArray⟩ : ByteArray) ++ ⟨u.toArray⟩ ++ ⟨#[45, 45, 32]⟩) (⟨g.toArray⟩ : ByteArray) (by (try simp only [ByteArray.size_append]); simp [ByteArray.size]; omega)
        have hadd4 := fun (W : World) => Go.run_string_add_sum (P := Try.prog) (w := W) ((⟨acc.toArray⟩ : ByteArray) ++ ⟨#[10]⟩) (⟨u.toArray⟩ : ByteArray) (by (try simp only [ByteArray.size_append]); simp [ByteArray.size]; omega)
        have hadd5 := fun (W : World) => Go.run_string_add_sum (P := Try.prog) (w := W) (((⟨acc.toArray⟩ : ByteArray) ++ ⟨#[10]⟩) ++ ⟨u.toArray⟩) (⟨#[45, 45, 32]⟩ : ByteArray) (by (try simp only [ByteArray.size_append]); simp [ByteArray.size]; omega)
        have hadd6 := fun (W : World) => Go.run_string_add_sum (P := Try.prog) (w := W) (((⟨acc.toArray⟩ : ByteArray) ++ ⟨#[10]⟩) ++ ⟨u.toArray⟩ ++ ⟨#[45, 45, 32]⟩) (⟨g.toArray⟩ : ByteArray) (by (try simp only [ByteArray.size_append]); simp [ByteArray.size]; omega)
        cases q
        all_goals
          go_wp2_with fail
          go_region_held3 (fun X => X.cell? ⟨wr.heap.size, 0, none⟩ = some (.int .i64 3) ∧ X.cell? ⟨wr.heap.size, 1, none⟩ = some (.int .i64 n) ∧ X.cell? ⟨wr.heap.size, 2, none⟩ = some (.string ⟨s.toArray⟩)) ((refine HK.out _ ?_; repeat' (first | with_reducible assumption | with_reducible exact Fr.refl _ _ | with_reducible refine Fr.drew ?_))) (first | (go_at_call 42; refine (HC.out _).mono ?_; rintro e w5 ⟨rfl, hf⟩; have hf5 : Fr No (wr.alloc (.cells #[.int .i64 3, .int .i64 n, .string ⟨s.toArray⟩] 26)) w5 := (Fr.then_no (by repeat' (first | with_reducible assumption | with_reducible exact Fr.refl _ _ | with_reducible refine Fr.drew ?_)) hf); clear hf) | (go_at_call 43; refine (HS2.out _).mono ?_; rintro e w6 ⟨rfl, hf⟩; have hf6 : Fr No (wr.alloc (.cells #[.int .i64 3, .int .i64 n, .string ⟨s.toArray⟩] 26)) w6 := (Fr.then_no (by repeat' (first | with_reducible assumption | with_reducible exact Fr.refl _ _ | with_reducible refine Fr.drew ?_)) hf); clear hf))
          all_goals
            obtain ⟨c0, c1, c2⟩ := HK.out _ (by assumption)
            go_wp2_with fail
            go_roundw
            case rel => exact ⟨k + 1, acc ++ noteR n _ (g ++ [32, 108, 111, 115, 116]), by go_num, (by first | (rw [← HZ.out [10] rfl]; try rfl) | (rw [← HZ.out [] rfl, ba_append acc [], List.append_nil]; try rfl)), by omega, (show acc ++ noteR n _ (g ++ [32, 108, 111, 115, 116]) = _ by rw [HN.out, HE.out]), F0.out.then_no (by assumption)⟩
            case measure => simp [intOf]; omega
      have HE := Lib.hid (show addR q (kd, n, s) = ([], q) by unfold addR; simp only; rw [if_neg h1, if_neg h2, if_neg h3])
      have b2 : ((kd : Int) != 2) = true := by simpa using h2
      have b3 : ((kd : Int) != 3) = true := by simpa using h3
      go_wp2_with fail
      go_roundw
      case rel => exact ⟨k + 1, acc, by go_num, rfl, by omega, (show acc = _ by rw [HN.out, HE.out, List.append_nil]), F0.out⟩
      case measure => simp [intOf]; omega
    · have hkl : l.take k = l := List.take_of_length_le (by omega)
      rw [hkl] at HA
      go_wp2_with fail
      go_ret
      exact ⟨by rw [HA.out]; rfl, D.out⟩
end Mark
end Go.Proofs.Ytjelndobekcbmaa
