/- Package brk: Put. Printed by gen_brkt.py. -/
import Derived.Test.YtgfofigdejlbfaaBrkR
import Derived.BigQuiet
namespace Go.Proofs.Ytgfofigdejlbfaa
open Go.RowKit
set_option linter.unusedVariables false
set_option linter.unusedSimpArgs false
namespace Brk
open Digit Sls
/-- Put's answer, said of the rest: p is the kind of what stands ahead, f the text so far. -/
noncomputable def putQ (p : Int) (f : Str) (l : List Op) : Str × Int := by
  classical exact if Good p l then (if 255 < (f ++ cat l).length then ([], 5) else (f ++ cat l, 0)) else ([], 1)
theorem putQ_start (l : List Op) : putR l = putQ 0 [] l := by unfold putR putQ; simp
theorem putQ_nil (p : Int) (f : Str) : putQ p f [] = if 255 < f.length then ([], 5) else (f, 0) := by
  unfold putQ
  rw [if_pos (Good.nil p)]
  simp [cat]
theorem putQ_on {p : Int} {f : Str} {x : Op} {l : List Op} {t : Str} (h : textR x = some t) (hp : ¬ (p = x.1 ∧ x.1 < 3)) : putQ p f (x :: l) = putQ x.1 (f ++ t) l := by
  have hx : Fine x := (text_fine x).1 (by rw [h]; rfl)
  have hg : Good p (x :: l) ↔ Good x.1 l := ⟨fun h => by cases h with | cons _ _ h => exact h, fun h => .cons hx hp h⟩
  have hc : cat (x :: l) = t ++ cat l := by simp [cat, text_yes h]
  unfold putQ
  by_cases hl : Good x.1 l
  · rw [if_pos (hg.2 hl), if_pos hl, hc, List.append_assoc]
  · rw [if_neg (fun h => hl (hg.1 h)), if_neg hl]
theorem putQ_bad {p : Int} {f : Str} {x : Op} {l : List Op} (h : textR x = none ∨ p = x.1 ∧ x.1 < 3) : putQ p f (x :: l) = ([], 1) := by
  unfold putQ
  rw [if_neg]
  intro hg
  cases hg with
  | cons hx hp _ =>
    rcases h with h | h
    · have := (text_fine x).2 hx
      rw [h] at this
      cases this
    · exact hp h
theorem fine_kind {x : Op} {t : Str} (h : textR x = some t) : x.1 = 1 ∨ x.1 = 2 ∨ x.1 = 3 := by
  have hx : Fine x := (text_fine x).1 (by rw [h]; rfl)
  cases hx <;> simp
/-- The kind of what stands ahead of place k; 0: nothing does. -/
def ahead (l : List Op) (k : Nat) : Int := if h : k ≠ 0 ∧ k - 1 < l.length then (l[k - 1]'h.2).1 else 0
theorem ahead_zero (l : List Op) : ahead l 0 = 0 := by unfold ahead; rw [dif_neg (by simp)]
theorem ahead_succ {l : List Op} {k : Nat} (h : k < l.length) : ahead l (k + 1) = l[k].1 := by
  unfold ahead
  rw [dif_pos ⟨by omega, by simpa using h⟩]
  simp
theorem drop_at {l : List Op} {k : Nat} (h : k < l.length) : l.drop k = l[k] :: l.drop (k + 1) := List.drop_eq_getElem_cons h
theorem tx_len {x : Op} (hs : x.2.1.length ≤ 255) (hn : x.2.2 ≤ 9223372036854775807) : (tx x).length ≤ 1100 := by
  unfold tx textR
  split
  · have := show_len x.2.1; simp; omega
  · split
    · have := (wait_len x.2.2.toNat (by omega) (by omega)).2; simp; omega
    · split <;> simp
set_option maxRecDepth 100000 in
set_option maxHeartbeats 4000000 in
theorem rput_any (v : Value) (l : List Op) (hb : ∀ x ∈ l, x.2.1.length ≤ 255) (hl : l.length ≤ 255) (w : World) (S : Nat → Prop) (hS : ∀ k, S k → k < w.heap.size) (h : RSl 3 ROp w S [v] l) :
    Calls Try.prog 15 #[v] w fun e w' => e = .returned (.tuple #[.string ⟨(putR l).1.toArray⟩, .int .i64 (putR l).2]) ∧ Fr No w w' := by
  obtain ⟨A, c, rfl, hc1, hc2⟩ := h.slice
  unfold maxLen at hc2
  have H := Lib.hid h
  have HS := Lib.hid hS
  have HB := Lib.hid hb
  clear h hS hb
  go_enter Try.func15, Try.ntmps15
  go_wp2_with fail
  go_loopw [4, 5] (fun sv iv wr => ∃ (k : Nat) (f : Str), iv = .int .i64 k ∧ sv = .string ⟨f.toArray⟩ ∧ k ≤ l.length ∧ f.length ≤ 1100 * k ∧ Hid (putR l = putQ (ahead l k) f (l.drop k)) ∧ Hid (Fr No w wr)) (fun _ i _ => l.length - (intOf i).toNat)
  case atStart => exact ⟨0, [], rfl, rfl, by omega, by simp, by rw [ahead_zero]; exact putQ_start l, Fr.refl _ _⟩
  case round =>
    obtain ⟨k, f, rfl, rfl, hk, hf, HP, HF⟩ := hrel
    by_cases hlt : k < l.length
    · obtain ⟨ad, rfl, hadl, c0, c1, c2, ok⟩ := op_at H.out HS.out HF.out hlt
      have hxb := HB.out _ (List.getElem_mem hlt)
      have hwn := (wf64 ok.2.2).2
      have HTL := Lib.hid (tx_len hxb hwn)
      have HD := HP.out
      rw [drop_at hlt] at HD
      have HAS := Lib.hid (ahead_succ hlt)
      have Hc := Lib.hid (fun W => rtext_any l[k] (by omega) hwn W)
      have HD := Lib.hid HD
      have HL := Lib.hid hlt
      clear hxb hwn ok
      generalize l[k] = x at c0 c1 c2 HTL HD HAS Hc
      obtain ⟨x1, x2, x3⟩ := x
      simp only at c0 c1 c2
      cases htx : textR (x1, x2, x3) with
      | none =>
        have HR := Lib.hid (show putR l = ([], 1) from HD.out.trans (putQ_bad (.inl htx)))
        rw [text_no htx, htx] at Hc
        unfold vOp at Hc
        clear htx
        go_wp2_with fail
        refine (Hc.out _).mono ?_
        rintro e w1 ⟨rfl, hf1⟩
        have HF1 := Lib.hid (HF.out.then_no hf1)
        clear hf1 c0 c1 c2
        go_upto_region 6 with (fail)
        go_quiet (fail)
        go_wp2_with fail
        go_ret2
        rw [HR.out]
        exact ⟨rfl, HF1.out.drewN _⟩
      | some t =>
        have hkd := fine_kind htx
        simp only at hkd
        rw [text_yes htx, htx] at Hc
        unfold vOp at Hc
        have htl : t.length ≤ 1100 := by have := HTL.out; rw [text_yes htx] at this; exact this
        have HON := Lib.hid (fun hp => HD.out.trans (putQ_on htx hp))
        have HBAD := Lib.hid (fun hp => HD.out.trans (putQ_bad hp))
        clear htx
        go_wp2_with fail
        refine (Hc.out _).mono ?_
        rintro e w1 ⟨rfl, hf1⟩
        have HF1 := Lib.hid (HF.out.then_no hf1)
        have d0 := (hf1.cell (p := ad.add (k * 3)) (by rw [block_add]; exact hadl) (fun h => h)).trans c0
        clear c0 c1 c2
        go_upto_region 6 with (fail)
        by_cases hk0 : k = 0
        · subst hk0
          have HON := Lib.hid (HON.out (by rw [ahead_zero]; intro h; rcases hkd with h1 | h1 | h1 <;> rw [h1] at h <;> simp at h))
          clear hf1 hkd
          go_quiet (fail)
          go_wp2_with fail
          go_roundw
          case rel => exact ⟨1, f ++ t, by go_num, by first | rfl | (simp; done) | (rw [ba_app]; done), by omega, by simp; omega, by have h := HON.out; rw [← HAS.out] at h; exact Lib.hid h, HF1.out.drewN _⟩
          case measure => simp [intOf]; omega
        · obtain ⟨j, rfl⟩ : ∃ j, k = j + 1 := ⟨k - 1, by omega⟩
          obtain ⟨ad2, hae, -, p0, -, -, -⟩ := op_at H.out HS.out HF.out (i := j) (by omega)
          obtain rfl : ad = ad2 := by injection hae
          have HAP2 := Lib.hid (show ahead l (j + 1) = l[j].1 from ahead_succ (by omega))
          obtain ⟨pk, hpk⟩ : ∃ pk, pk = l[j].1 := ⟨_, rfl⟩
          rw [← hpk] at HAP2
          have q0 : w1.cell? (ad.add (j * 3)) = some (.int .i64 pk) := by rw [hpk]; exact (hf1.cell (p := ad.add (j * 3)) (by rw [block_add]; exact hadl) (fun h => h)).trans p0
          clear hpk p0 hf1 hae
          by_cases hb : pk = x1 ∧ x1 < 3
          · have HR := Lib.hid (show putR l = ([], 1) from HBAD.out (.inr (by rw [HAP2.out]; exact hb)))
            obtain ⟨hb1, hb2⟩ := hb
            have hb3 : (x1 == pk) = true := beq_iff_eq.2 hb1.symm
            clear hb1 hkd
            go_quiet (fail)
            go_wp2_with fail
            go_ret2
            rw [HR.out]
            exact ⟨rfl, HF1.out.drewN _⟩
          · have HON := Lib.hid (HON.out (by rw [HAP2.out]; exact hb))
            have hgd : decide (x1 < 3) = true ∧ (x1 == pk) = false ∨ decide (x1 < 3) = false := by
              by_cases h3 : x1 < 3
              · exact .inl ⟨decide_eq_true h3, beq_eq_false_iff_ne.2 fun e => hb ⟨e.symm, h3⟩⟩
              · exact .inr (decide_eq_false h3)
            clear hb hkd
            rcases hgd with ⟨h3, hne⟩ | h3
            all_goals
              go_quiet (fail)
              go_wp2_with fail
              go_roundw
              case rel => exact ⟨j + 1 + 1, f ++ t, by go_num, by first | rfl | (simp; done) | (rw [ba_app]; done), by omega, by simp; omega, by have h := HON.out; rw [← HAS.out] at h; exact Lib.hid h, HF1.out.drewN _⟩
              case measure => simp [intOf]; omega
    · have HE := Lib.hid (show putR l = if 255 < f.length then ([], 5) else (f, 0) by
        rw [HP.out, List.drop_eq_nil_of_le (by omega), putQ_nil])
      clear HP
      by_cases h255 : 255 < f.length
      · rw [if_pos h255] at HE
        go_wp2_with fail
        go_ret2
        rw [HE.out]
        exact ⟨rfl, HF.out⟩
      · rw [if_neg h255] at HE
        go_wp2_with fail
        go_ret2
        rw [HE.out]
        exact ⟨rfl, HF.out⟩
set_option maxRecDepth 100000 in
set_option maxHeartbeats 4000000 in
theorem put_any (v : Value) (l : List Op) (hb : ∀ x ∈ l, x.2.1.length ≤ 255) (hl : l.length ≤ 255) (w : World) (S : Nat → Prop) (hS : ∀ k, S k → k < w.heap.size) (h : RSl 3 ROp w S [v] l) :
    Calls Try.prog 14 #[v] w fun e w' => e = .returned (.tuple #[.string ⟨(putR l).1.toArray⟩, .int .i64 (putR l).2]) ∧ Fr No w w' := by
  obtain ⟨A, c, rfl, hc1, hc2⟩ := h.slice
  unfold maxLen at hc2
  have H := Lib.hid h
  have HS := Lib.hid hS
  have HB := Lib.hid hb
  clear h hS hb
  go_enter Try.func14, Try.ntmps14
  go_wp2_with fail
  go_loopw [4, 11] (fun sv iv wr => ∃ (k : Nat) (f g : Str), iv = .int .i64 k ∧ sv = .string ⟨g.toArray⟩ ∧ k ≤ l.length ∧ g.length ≤ 1400 ∧ Hid (g.length ≤ 255 ∧ g = f ∨ 255 < g.length ∧ 255 < f.length) ∧ Hid (putR l = putQ (ahead l k) f (l.drop k)) ∧ Hid (Fr No w wr)) (fun _ i _ => l.length - (intOf i).toNat)
  case atStart => exact ⟨0, [], [], rfl, rfl, by omega, by simp, .inl ⟨by simp, rfl⟩, by rw [ahead_zero]; exact putQ_start l, Fr.refl _ _⟩
  case round =>
    obtain ⟨k, f, g, rfl, rfl, hk, hg, HG, HP, HF⟩ := hrel
    by_cases hlt : k < l.length
    · obtain ⟨ad, rfl, hadl, c0, c1, c2, ok⟩ := op_at H.out HS.out HF.out hlt
      have hxb := HB.out _ (List.getElem_mem hlt)
      have hwn := (wf64 ok.2.2).2
      have HTL := Lib.hid (tx_len hxb hwn)
      have HD := HP.out
      rw [drop_at hlt] at HD
      have HAS := Lib.hid (ahead_succ hlt)
      have Hc := Lib.hid (fun W => text_any l[k] (by omega) hwn W)
      have HD := Lib.hid HD
      have HL := Lib.hid hlt
      clear hxb hwn ok
      generalize l[k] = x at c0 c1 c2 HTL HD HAS Hc
      obtain ⟨x1, x2, x3⟩ := x
      simp only at c0 c1 c2
      cases htx : textR (x1, x2, x3) with
      | none =>
        have HR := Lib.hid (show putR l = ([], 1) from HD.out.trans (putQ_bad (.inl htx)))
        rw [text_no htx, htx] at Hc
        unfold vOp at Hc
        clear htx
        have XB := (Blk.new wr 32 #[.int .i64 x1, .string ⟨x2.toArray⟩, .int .i64 x3])
        have HF0 := (Fr.refl No wr).alloc (.cells #[.int .i64 x1, .string ⟨x2.toArray⟩, .int .i64 x3] 32)
        obtain ⟨bx, hbx⟩ : ∃ bx, wr.heap.size = bx := ⟨_, rfl⟩
        rw [hbx] at XB
        go_wp2_with fail
        refine (Hc.out _).mono ?_
        rintro e w1 ⟨rfl, hf1⟩
        have XB1 := XB.fr hf1 (fun h => h)
        have HF2 := HF0.then_no hf1
        have HF1 := Lib.hid (HF.out.then_no HF2)
        have y0 : w1.cell? ⟨bx, 0, none⟩ = some (.int .i64 x1) := XB1.cell 0
        clear XB XB1 HF0 hbx
        clear hf1 HF2 c0 c1 c2
        go_upto_region 6 with (fail)
        go_quiet (fail)
        go_wp2_with fail
        go_ret2
        rw [HR.out]
        exact ⟨rfl, HF1.out.drewN _⟩
      | some t =>
        have hkd := fine_kind htx
        simp only at hkd
        rw [text_yes htx, htx] at Hc
        unfold vOp at Hc
        have htl : t.length ≤ 1100 := by have := HTL.out; rw [text_yes htx] at this; exact this
        have HON := Lib.hid (fun hp => HD.out.trans (putQ_on htx hp))
        have HBAD := Lib.hid (fun hp => HD.out.trans (putQ_bad hp))
        clear htx
        have XB := (Blk.new wr 32 #[.int .i64 x1, .string ⟨x2.toArray⟩, .int .i64 x3])
        have HF0 := (Fr.refl No wr).alloc (.cells #[.int .i64 x1, .string ⟨x2.toArray⟩, .int .i64 x3] 32)
        obtain ⟨bx, hbx⟩ : ∃ bx, wr.heap.size = bx := ⟨_, rfl⟩
        rw [hbx] at XB
        go_wp2_with fail
        refine (Hc.out _).mono ?_
        rintro e w1 ⟨rfl, hf1⟩
        have XB1 := XB.fr hf1 (fun h => h)
        have HF2 := HF0.then_no hf1
        have HF1 := Lib.hid (HF.out.then_no HF2)
        have y0 : w1.cell? ⟨bx, 0, none⟩ = some (.int .i64 x1) := XB1.cell 0
        clear XB XB1 HF0 hbx
        clear c0 c1 c2 hf1
        go_upto_region 6 with (fail)
        by_cases hk0 : k = 0
        · subst hk0
          have HON := Lib.hid (HON.out (by rw [ahead_zero]; intro h; rcases hkd with h1 | h1 | h1 <;> rw [h1] at h <;> simp at h))
          clear HF2 hkd
          go_quiet (fail)
          by_cases h255 : g.length ≤ 255
          · have HG2 : Hid ((g ++ t).length ≤ 255 ∧ g ++ t = f ++ t ∨ 255 < (g ++ t).length ∧ 255 < (f ++ t).length) := Lib.hid (by
              have e : g = f := HG.out.elim (fun h => h.2) (fun h => absurd h.1 (by omega))
              subst e
              by_cases h : (g ++ t).length ≤ 255
              · exact .inl ⟨h, rfl⟩
              · exact .inr ⟨by omega, by omega⟩)
            have hgt : g.length + t.length ≤ 1400 := by omega
            go_wp2_with fail
            go_roundw
            case rel => exact ⟨1, f ++ t, g ++ t, by go_num, by first | rfl | (simp; done) | (rw [ba_app]; done), by omega, by simp; omega, HG2, by have h := HON.out; rw [← HAS.out] at h; exact Lib.hid h, HF1.out.drewN _⟩
            case measure => simp [intOf]; omega
          · have HG2 : Hid (g.length ≤ 255 ∧ g = f ++ t ∨ 255 < g.length ∧ 255 < (f ++ t).length) := Lib.hid (by
              rcases HG.out with h | h
              · exact absurd h.1 h255
              · exact .inr ⟨h.1, by rw [List.length_append]; omega⟩)
            go_wp2_with fail
            go_roundw
            case rel => exact ⟨1, f ++ t, g, by go_num, rfl, by omega, hg, HG2, by have h := HON.out; rw [← HAS.out] at h; exact Lib.hid h, HF1.out.drewN _⟩
            case measure => simp [intOf]; omega
        · obtain ⟨j, rfl⟩ : ∃ j, k = j + 1 := ⟨k - 1, by omega⟩
          obtain ⟨ad2, hae, -, p0, -, -, -⟩ := op_at H.out HS.out HF.out (i := j) (by omega)
          obtain rfl : ad = ad2 := by injection hae
          have HAP2 := Lib.hid (show ahead l (j + 1) = l[j].1 from ahead_succ (by omega))
          obtain ⟨pk, hpk⟩ : ∃ pk, pk = l[j].1 := ⟨_, rfl⟩
          rw [← hpk] at HAP2
          have q0 : w1.cell? (ad.add (j * 3)) = some (.int .i64 pk) := by rw [hpk]; exact (HF2.cell (p := ad.add (j * 3)) (by rw [block_add]; exact hadl) (fun h => h)).trans p0
          clear hpk p0 HF2 hae
          by_cases hb : pk = x1 ∧ x1 < 3
          · have HR := Lib.hid (show putR l = ([], 1) from HBAD.out (.inr (by rw [HAP2.out]; exact hb)))
            obtain ⟨hb1, hb2⟩ := hb
            have hb3 : (x1 == pk) = true := beq_iff_eq.2 hb1.symm
            have hb4 : (x1 != 3) = true := by simp; omega
            clear hb1 hkd
            go_quiet (fail)
            go_wp2_with fail
            go_ret2
            rw [HR.out]
            exact ⟨rfl, HF1.out.drewN _⟩
          · have HON := Lib.hid (HON.out (by rw [HAP2.out]; exact hb))
            have hgd : (x1 != 3) = true ∧ (x1 == pk) = false ∨ (x1 != 3) = false := by
              rcases hkd with h1 | h1 | h1
              · exact .inl ⟨by rw [h1]; rfl, beq_eq_false_iff_ne.2 fun e => hb ⟨e.symm, by omega⟩⟩
              · exact .inl ⟨by rw [h1]; rfl, beq_eq_false_iff_ne.2 fun e => hb ⟨e.symm, by omega⟩⟩
              · exact .inr (by rw [h1]; rfl)
            clear hb hkd
            rcases hgd with ⟨h3, hne⟩ | h3
            all_goals
              go_quiet (fail)
              by_cases h255 : g.length ≤ 255
              · have HG2 : Hid ((g ++ t).length ≤ 255 ∧ g ++ t = f ++ t ∨ 255 < (g ++ t).length ∧ 255 < (f ++ t).length) := Lib.hid (by
                  have e : g = f := HG.out.elim (fun h => h.2) (fun h => absurd h.1 (by omega))
                  subst e
                  by_cases h : (g ++ t).length ≤ 255
                  · exact .inl ⟨h, rfl⟩
                  · exact .inr ⟨by omega, by omega⟩)
                have hgt : g.length + t.length ≤ 1400 := by omega
                go_wp2_with fail
                go_roundw
                case rel => exact ⟨j + 1 + 1, f ++ t, g ++ t, by go_num, by first | rfl | (simp; done) | (rw [ba_app]; done), by omega, by simp; omega, HG2, by have h := HON.out; rw [← HAS.out] at h; exact Lib.hid h, HF1.out.drewN _⟩
                case measure => simp [intOf]; omega
              · have HG2 : Hid (g.length ≤ 255 ∧ g = f ++ t ∨ 255 < g.length ∧ 255 < (f ++ t).length) := Lib.hid (by
                  rcases HG.out with h | h
                  · exact absurd h.1 h255
                  · exact .inr ⟨h.1, by rw [List.length_append]; omega⟩)
                go_wp2_with fail
                go_roundw
                case rel => exact ⟨j + 1 + 1, f ++ t, g, by go_num, rfl, by omega, hg, HG2, by have h := HON.out; rw [← HAS.out] at h; exact Lib.hid h, HF1.out.drewN _⟩
                case measure => simp [intOf]; omega
    · have HE := Lib.hid (show putR l = if 255 < f.length then ([], 5) else (f, 0) by
        rw [HP.out, List.drop_eq_nil_of_le (by omega), putQ_nil])
      clear HP
      by_cases h255 : 255 < g.length
      · have h2 : 255 < f.length := HG.out.elim (fun h => absurd h.1 (by omega)) (fun h => h.2)
        rw [if_pos h2] at HE
        go_wp2_with fail
        go_ret2
        rw [HE.out]
        exact ⟨rfl, HF.out⟩
      · have e : g = f := HG.out.elim (fun h => h.2) (fun h => absurd h.1 h255)
        rw [if_neg (by rw [← e]; exact h255), ← e] at HE
        clear e
        go_wp2_with fail
        go_ret2
        rw [HE.out]
        exact ⟨rfl, HF.out⟩
end Brk
end Go.Proofs.Ytgfofigdejlbfaa
