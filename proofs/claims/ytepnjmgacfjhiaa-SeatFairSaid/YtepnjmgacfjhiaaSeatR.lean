/- Package seat: its reference: there, Level, wants. Printed by gen_seatr.py. -/
import Derived.Test.YtepnjmgacfjhiaaSeatB
import Derived.BigQuiet
import Derived.Deep.CutRange
import Derived.Deep.RegionHeld3
import Derived.Outline
namespace Go.Proofs.Ytepnjmgacfjhiaa
open Go.RowKit
set_option linter.unusedVariables false
set_option linter.unusedSimpArgs false
namespace Seat
open Sls
abbrev agS (vL vW : Value) (s : St) : Value := .agg #[vL, .int .i64 s.most, .int .i64 s.wr, vW]
/-- The reference's seat reads in the blocks S. -/
structure RS (w : World) (S : Nat → Prop) (vL vW : Value) (s : St) : Prop where
  l : RSl 2 RM w S [vL] s.L
  q : RSl 1 (RInt .i64) w S [vW] s.q
  lt : ∀ k, S k → k < w.heap.size
section
variable {w w' : World} {S : Nat → Prop} {vL vW : Value} {s : St}
theorem RS.fr {H : Nat → Prop} (h : RS w S vL vW s) (hf : Fr H w w') (hn : ∀ k, S k → ¬ H k) : RS w' S vL vW s :=
  ⟨(RSl.stable RM.stable).go h.l (Kept.of_fr hf (fun k hk => ⟨h.lt k hk, hn k hk⟩)) (fun _ h => h), ints_go h.q (Kept.of_fr hf (fun k hk => ⟨h.lt k hk, hn k hk⟩)) (fun _ h => h), fun k hk => Nat.lt_of_lt_of_le (h.lt k hk) hf.size⟩
theorem RS.no (h : RS w S vL vW s) (hf : Fr No w w') : RS w' S vL vW s := h.fr hf (fun _ _ h => h)
theorem RS.more {S' : Nat → Prop} (h : RS w S vL vW s) (hs : ∀ k, S k → S' k) (hl : ∀ k, S' k → k < w.heap.size) : RS w S' vL vW s :=
  ⟨(RSl.stable RM.stable).go h.l (Kept.refl _ _) hs, ints_go h.q (Kept.refl _ _) hs, hl⟩
theorem RS.forms (h : RS w S vL vW s) : ∃ A c B d, vL = .slice A s.L.length c ∧ vW = .slice B s.q.length d ∧ s.L.length ≤ c ∧ c ≤ 9223372036854775807 ∧ s.q.length ≤ d ∧ d ≤ 9223372036854775807 := by
  obtain ⟨A, c, e1, e2, e3⟩ := h.l.slice
  obtain ⟨B, d, e4, e5, e6⟩ := h.q.slice
  exact ⟨A, c, B, d, e1, e4, e2, e3, e5, e6⟩
theorem there_no {L : Sh} {id : Int} (h : ∀ j (hj : j < L.length), (L[j].1 == id) = false) : thereB L id = false := by
  rcases placeM_cases L id with ⟨_, g, _⟩ | ⟨k, hk, _, _, g, _⟩
  · exact g
  · have := h k hk; rw [g] at this; simp at this
theorem there_yes {L : Sh} {id : Int} {k : Nat} (hk : k < L.length) (h : (L[k].1 == id) = true) : thereB L id = true := by
  rw [there_iff]
  exact List.mem_map.2 ⟨_, List.getElem_mem hk, by simpa using h⟩
theorem level_no {L : Sh} {id : Int} (h : thereB L id = false) : levelR L id = -1 := by
  unfold levelR
  have : L.find? (fun m => m.1 == id) = none := by
    rw [List.find?_eq_none]
    intro x hx
    have := there_not.1 h
    simp
    rintro rfl
    exact this (List.mem_map.2 ⟨x, hx, rfl⟩)
  rw [this]
theorem level_yes {L : Sh} {id : Int} {k : Nat} (hk : k < L.length) (h : (L[k].1 == id) = true) (hn : ∀ j (hj : j < L.length), j < k → (L[j].1 == id) = false) : levelR L id = L[k].2 := by
  have e := placeM_at hk h hn
  rcases placeM_cases L id with ⟨g, _⟩ | ⟨j, hj, g, _, _, g2, _⟩
  · omega
  · have : j = k := by omega
    subst this
    exact g2
set_option maxRecDepth 100000 in
set_option maxHeartbeats 2000000 in
theorem rthere_any (h : RS w S vL vW s) (id : Int) : Calls Try.prog 64 #[agS vL vW s, .int .i64 id] w fun e w' => e = .returned (.bool (thereB s.L id)) ∧ Fr No w w' := by
  obtain ⟨A, c, B, d, rfl, rfl, hA1, hA2, hB1, hB2⟩ := h.forms
  have hf := (Fr.refl No w).alloc (.cells #[.slice A s.L.length c, .int .i64 s.most, .int .i64 s.wr, .slice B s.q.length d] 71)
  have X := Blk.new w 71 #[.slice A s.L.length c, .int .i64 s.most, .int .i64 s.wr, .slice B s.q.length d]
  have H := Lib.hid h
  have HF := Lib.hid hf
  obtain ⟨bx, hbx⟩ : ∃ bx, w.heap.size = bx := ⟨_, rfl⟩
  rw [hbx] at X
  clear h
  go_enter Try.func64, Try.ntmps64
  go_wp2_with fail
  generalize w.alloc (.cells #[.slice A s.L.length c, .int .i64 s.most, .int .i64 s.wr, .slice B s.q.length d] 71) = w1 at X HF hf ⊢
  have x0 : w1.cell? ⟨bx, 0, none⟩ = some (.slice A s.L.length c) := X.cell 0
  clear X hf hbx
  go_loop [5] (fun i => ∃ k : Nat, i = .int .i64 k ∧ k ≤ s.L.length ∧ Hid (∀ j (h : j < s.L.length), j < k → (s.L[j].1 == id) = false)) (fun i => s.L.length - (intOf i).toNat)
  case atStart => exact ⟨0, rfl, by omega, Lib.hid (fun j h hj => absurd hj (by omega))⟩
  case round =>
    obtain ⟨k, rfl, hk, HB⟩ := hrel
    by_cases hlt : k < s.L.length
    · obtain ⟨ad, rfl, -, m0, m1⟩ := mem_at (fun _ _ _ _ h => h) H.out.l H.out.lt HF.out hlt
      cases hx : s.L[k].1 == id
      · have HN : Hid (∀ j (h : j < s.L.length), j < k + 1 → (s.L[j].1 == id) = false) := Lib.hid (fun j h hj => by
          by_cases e : j = k
          · subst e; exact hx
          · exact HB.out j h (by omega))
        obtain ⟨x, hx2⟩ : ∃ x, x = s.L[k].1 := ⟨_, rfl⟩
        rw [← hx2] at m0 hx
        clear hx2 m1
        go_wp2_with fail
        go_round
        case rel => exact ⟨k + 1, by go_num, by omega, HN⟩
        case measure => simp [intOf]; omega
      · have HY := Lib.hid (there_yes hlt hx)
        obtain ⟨x, hx2⟩ : ∃ x, x = s.L[k].1 := ⟨_, rfl⟩
        rw [← hx2] at m0 hx
        clear m1
        clear hx2
        go_wp2_with fail
        go_ret
        rw [HY.out]
        exact ⟨rfl, HF.out⟩
    · have HE := Lib.hid (there_no fun j hj => HB.out j hj (by omega))
      go_wp2_with fail
      go_ret
      rw [HE.out]
      exact ⟨rfl, HF.out⟩
set_option maxRecDepth 100000 in
set_option maxHeartbeats 2000000 in
theorem rlevel_any (h : RS w S vL vW s) (id : Int) : Calls Try.prog 40 #[agS vL vW s, .int .i64 id] w fun e w' => e = .returned (.int .i64 (levelR s.L id)) ∧ Fr No w w' := by
  obtain ⟨A, c, B, d, rfl, rfl, hA1, hA2, hB1, hB2⟩ := h.forms
  have hf := (Fr.refl No w).alloc (.cells #[.slice A s.L.length c, .int .i64 s.most, .int .i64 s.wr, .slice B s.q.length d] 71)
  have X := Blk.new w 71 #[.slice A s.L.length c, .int .i64 s.most, .int .i64 s.wr, .slice B s.q.length d]
  have H := Lib.hid h
  have HF := Lib.hid hf
  obtain ⟨bx, hbx⟩ : ∃ bx, w.heap.size = bx := ⟨_, rfl⟩
  rw [hbx] at X
  clear h
  go_enter Try.func40, Try.ntmps40
  go_wp2_with fail
  generalize w.alloc (.cells #[.slice A s.L.length c, .int .i64 s.most, .int .i64 s.wr, .slice B s.q.length d] 71) = w1 at X HF hf ⊢
  have x0 : w1.cell? ⟨bx, 0, none⟩ = some (.slice A s.L.length c) := X.cell 0
  clear X hf hbx
  go_loop [5] (fun i => ∃ k : Nat, i = .int .i64 k ∧ k ≤ s.L.length ∧ Hid (∀ j (h : j < s.L.length), j < k → (s.L[j].1 == id) = false)) (fun i => s.L.length - (intOf i).toNat)
  case atStart => exact ⟨0, rfl, by omega, Lib.hid (fun j h hj => absurd hj (by omega))⟩
  case round =>
    obtain ⟨k, rfl, hk, HB⟩ := hrel
    by_cases hlt : k < s.L.length
    · obtain ⟨ad, rfl, -, m0, m1⟩ := mem_at (fun _ _ _ _ h => h) H.out.l H.out.lt HF.out hlt
      cases hx : s.L[k].1 == id
      · have HN : Hid (∀ j (h : j < s.L.length), j < k + 1 → (s.L[j].1 == id) = false) := Lib.hid (fun j h hj => by
          by_cases e : j = k
          · subst e; exact hx
          · exact HB.out j h (by omega))
        obtain ⟨x, hx2⟩ : ∃ x, x = s.L[k].1 := ⟨_, rfl⟩
        rw [← hx2] at m0 hx
        clear hx2 m1
        go_wp2_with fail
        go_round
        case rel => exact ⟨k + 1, by go_num, by omega, HN⟩
        case measure => simp [intOf]; omega
      · have HY := Lib.hid (level_yes hlt hx HB.out)
        obtain ⟨x, hx2⟩ : ∃ x, x = s.L[k].1 := ⟨_, rfl⟩
        rw [← hx2] at m0 hx
        obtain ⟨y, hy2⟩ : ∃ y, y = s.L[k].2 := ⟨_, rfl⟩
        rw [← hy2] at m1 HY
        clear hy2
        clear hx2
        go_wp2_with fail
        go_ret
        rw [HY.out]
        exact ⟨rfl, HF.out⟩
    · have HE := Lib.hid (level_no (there_no fun j hj => HB.out j hj (by omega)))
      go_wp2_with fail
      go_ret
      rw [HE.out]
      exact ⟨rfl, HF.out⟩
set_option maxRecDepth 100000 in
set_option maxHeartbeats 2000000 in
theorem rwants_any (h : RS w S vL vW s) (id : Int) : Calls Try.prog 69 #[agS vL vW s, .int .i64 id] w fun e w' => e = .returned (.int .i64 (wantsR s id)) ∧ Fr No w w' := by
  have hf := (Fr.refl No w).alloc (.cells #[vL, .int .i64 s.most, .int .i64 s.wr, vW] 71)
  have X := Blk.new w 71 #[vL, .int .i64 s.most, .int .i64 s.wr, vW]
  obtain ⟨A, c, B, d, rfl, rfl, -⟩ := h.forms
  have HT := Lib.hid (rthere_any (h.no hf) id)
  have H := Lib.hid (h.no hf)
  have HF := Lib.hid hf
  obtain ⟨bx, hbx⟩ : ∃ bx, w.heap.size = bx := ⟨_, rfl⟩
  rw [hbx] at X
  obtain ⟨n, hn⟩ : ∃ n, n = s.L.length := ⟨_, rfl⟩
  obtain ⟨m, hm⟩ : ∃ m, m = s.q.length := ⟨_, rfl⟩
  obtain ⟨wr, hwr⟩ : ∃ wr, wr = s.wr := ⟨_, rfl⟩
  obtain ⟨ms, hms⟩ : ∃ ms, ms = s.most := ⟨_, rfl⟩
  rw [← hn, ← hm, ← hwr, ← hms] at X HF
  have HN := Lib.hid (And.intro hn (And.intro hm (And.intro hwr hms)))
  have ag : agS (.slice A s.L.length c) (.slice B s.q.length d) s = .agg #[.slice A n c, .int .i64 ms, .int .i64 wr, .slice B m d] := by rw [hn, hm, hwr, hms]
  rw [ag]
  rw [ag, ← hn, ← hm, ← hwr, ← hms] at HT
  by_cases h1 : thereB s.L id = false
  · have e : wantsR s id = 7 := by unfold wantsR; rw [if_pos h1]
    rw [e]
    rw [h1] at HT
    clear h h1 e hf ag hn hm hwr hms
    go_enter Try.func69, Try.ntmps69
    go_wp2_with fail
    refine HT.out.mono ?_
    rintro e w2 ⟨rfl, hf⟩
    have HF2 := Lib.hid (HF.out.then_no hf)
    clear hf
    go_wp2_with fail
    go_ret
    exact ⟨rfl, HF2.out⟩
  · have h1' : thereB s.L id = true := by simpa using h1
    rw [h1'] at HT
    by_cases h2 : s.wr = id
    · have e : wantsR s id = 9 := by unfold wantsR; rw [if_neg h1, if_pos h2]
      rw [e]
      have hwe : (wr == id) = true := by rw [hwr]; simpa using h2
      clear h h1 h1' h2 e hf ag hn hm hwr hms
      go_enter Try.func69, Try.ntmps69
      go_wp2_with fail
      refine HT.out.mono ?_
      rintro e w2 ⟨rfl, hf⟩
      have HF2 := Lib.hid (HF.out.then_no hf)
      have x2 : w2.cell? ⟨bx, 2, none⟩ = some (.int .i64 wr) := (X.fr hf (fun h => h)).cell 2
      clear hf X
      go_wp2_with fail
      go_ret
      exact ⟨rfl, HF2.out⟩
    · have hwe : (wr == id) = false := by rw [hwr]; simpa using h2
      obtain ⟨lv, hlv⟩ : ∃ lv, lv = levelR s.L id := ⟨_, rfl⟩
      have hcs : (lv < 2 ∧ wantsR s id = 10) ∨ (2 ≤ lv ∧ wantsR s id = 0) := by
        unfold wantsR
        rw [if_neg h1, if_neg h2, ← hlv]
        by_cases g : lv < 2
        · exact .inl ⟨g, if_pos g⟩
        · exact .inr ⟨by omega, if_neg g⟩
      have HLV := Lib.hid hlv
      have AG := Lib.hid ag
      clear h h1 h1' h2 hf ag hn hm hwr hms hlv
      rcases hcs with ⟨hcmp, e⟩ | ⟨hcmp, e⟩
      all_goals
        rw [e]
        clear e
        go_enter Try.func69, Try.ntmps69
        go_wp2_with fail
        refine HT.out.mono ?_
        rintro e w2 ⟨rfl, hf⟩
        have HF2 := Lib.hid (HF.out.then_no hf)
        have X2 := X.fr hf (fun h => h)
        have x0 : w2.cell? ⟨bx, 0, none⟩ = some (.slice A n c) := X2.cell 0
        have x1 : w2.cell? ⟨bx, 1, none⟩ = some (.int .i64 ms) := X2.cell 1
        have x2 : w2.cell? ⟨bx, 2, none⟩ = some (.int .i64 wr) := X2.cell 2
        have x3 : w2.cell? ⟨bx, 3, none⟩ = some (.slice B m d) := X2.cell 3
        have HL := Lib.hid (rlevel_any (H.out.no (by have hn := HN.out.1; have hm := HN.out.2.1; have hwr := HN.out.2.2.1; have hms := HN.out.2.2.2; rw [← hn, ← hm, ← hwr, ← hms]; exact hf)) id)
        rw [AG.out, ← HLV.out] at HL
        clear hf X2
        go_wp2_with fail
        refine HL.out.mono ?_
        rintro e w3 ⟨rfl, hf⟩
        have HF3 := Lib.hid (HF2.out.then_no hf)
        clear hf
        go_wp2_with fail
        go_ret
        exact ⟨rfl, HF3.out⟩
end
end Seat
end Go.Proofs.Ytepnjmgacfjhiaa
