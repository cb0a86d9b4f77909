/- Mark: the lines of a text, as the reference cuts them. -/
import Derived.Test.YtjelndobekcbmaaMarkQ
import Derived.Test.YtjelndobekcbmaaMarkT
namespace Go.Proofs.Ytjelndobekcbmaa
open Go.RowKit
set_option linter.unusedVariables false
set_option linter.unusedSimpArgs false
namespace Mark
open Digit Clock Sls
def encL (s : Str) : List Value := [.string ⟨s.toArray⟩]
theorem infoStr : (Try.prog.info? 9).map (fun i => (i.zero, i.size, i.bytes)) = some (some (.string ByteArray.empty), 1, 16) := by kernel_rfl
theorem ln_le (s : Str) : (lnF ([], []) s).1.length ≤ s.length ∧ (lnF ([], []) s).2.length ≤ s.length ∧ ∀ z ∈ (lnF ([], []) s).1, z.length ≤ s.length := by
  induction s using snoc_ind with
  | nil => exact ⟨Nat.le_refl _, Nat.le_refl _, fun z hz => by cases hz⟩
  | append_singleton s c ih =>
    obtain ⟨h1, h2, h3⟩ := ih
    rw [ln_app, ln_one]
    unfold lnStep
    split
    · refine ⟨by simp; omega, by simp, fun z hz => ?_⟩
      rcases List.mem_append.1 hz with hz | hz
      · have := h3 z hz; simp; omega
      · rw [List.mem_singleton.1 hz]; simp; omega
    · refine ⟨by simp; omega, by simp; omega, fun z hz => ?_⟩
      have := h3 z hz; simp; omega
/-- What the cutter answers. -/
def LinesPost (w : World) (L : List Str) (e : Ending) (w' : World) : Prop := ∃ v, e = .returned v ∧ RSl 1 RStr w' (New w w') [v] L ∧ Fr No w w'
set_option maxRecDepth 100000 in
set_option maxHeartbeats 2000000 in
theorem rlines_any (s : Str) (w : World) (hs : s.length ≤ 600000) : Calls Try.prog 19 #[.string ⟨s.toArray⟩] w (LinesPost w (linesR s)) := by
  go_enter Try.func19, Try.ntmps19
  go_wp2_with fail
  go_loopw [3, 4, 5] (fun u z i wr => ∃ (k : Nat) (cur : Str) (L : List Str) (j : Nat), i = .int .i64 k ∧ z = .string ⟨cur.toArray⟩ ∧ k ≤ s.length ∧ cur.length ≤ k ∧ j ≤ k ∧ Hid (j = L.length) ∧ Hid (lnF ([], []) (s.take k) = (L, cur)) ∧ Hid (Grow w wr 9 1 encL u L)) (fun _ _ i _ => s.length - (intOf i).toNat)
  case atStart => exact ⟨0, [], [], 0, rfl, rfl, by omega, by simp, by omega, rfl, rfl, Grow.start _ _ _ _⟩
  case round =>
    obtain ⟨k, cur, L, j, rfl, rfl, hk, hc, hj, HJ, HL, G⟩ := hrel
    obtain ⟨B, d, hu⟩ := G.out.form
    rw [← HJ.out] at hu
    subst hu
    have G1 := Lib.hid (show wr.ownsRow 0 9 1 (.slice B j d) j (L.flatMap encL) from by have := G.out.own; rw [← HJ.out] at this; exact this)
    by_cases hlt : k < s.length
    · have hix : (⟨s.toArray⟩ : ByteArray)[k]'(by simpa [ByteArray.size] using hlt) = s[k] := rfl
      have hs1 := fun W : World => slice_one (P := Try.prog) W 9 Try.underlying9 s k (k + 1) k hlt rfl rfl
      obtain ⟨z, hz⟩ : ∃ z, cur ++ [s[k]] = z := ⟨_, rfl⟩
      have hba : (⟨cur.toArray⟩ : ByteArray) ++ ⟨[s[k]].toArray⟩ = ⟨z.toArray⟩ := by rw [ba_append, hz]
      have hzl : z.length ≤ k + 1 := by rw [← hz]; simp; omega
      have HN := Lib.hid (show lnF ([], []) (s.take (k + 1)) = if s[k] = 10 then (L ++ [z], []) else (L, z) by rw [take_snoc s k hlt, ln_app, HL.out, ln_one]; unfold lnStep; simp only [hz])
      clear hz
      by_cases h10 : s[k] = 10
      · have HE := Lib.hid (show (if s[k] = 10 then (L ++ [z], ([] : Str)) else (L, z)) = (L ++ [z], []) from if_pos h10)
        have hc1 : ((s[k].toNat : Int) == 10) = true := by rw [h10]; rfl
        clear h10
        go_wp2_with (at_builtin; go_loud (refine wp_push rfl (.tmp 23) (.tmp 25) 33 rfl 9 (.string ByteArray.empty) 1 16 Try.underlying33 infoStr rfl (by decide) (.slice B j d) _ _ rfl G1.out #[.string ⟨z.toArray⟩] rfl rfl (one_lit rfl) (by omega) (by unfold maxLen; omega) ?_; intro g4 cap4 w4 p1 p2 p3; have P1 := Lib.hid p1; have P2 := Lib.hid p2; have P3 := Lib.hid p3; clear p1 p2 p3))
        go_roundw
        case rel => exact ⟨k + 1, [], L ++ [z], j + 1, by go_num, rfl, by omega, by simp, by omega, (show j + 1 = _ by rw [HJ.out]; simp), (show lnF _ _ = _ by rw [HN.out, HE.out]), (by
          have e := HJ.out
          have g := G.out
          have p1 := P1.out
          have p2 := P2.out
          have p3 := P3.out
          subst e
          exact g.push (x := z) p1 p2 p3)⟩
        case measure => simp [intOf]; omega
      · have HE := Lib.hid (show (if s[k] = 10 then (L ++ [z], ([] : Str)) else (L, z)) = (L, z) from if_neg h10)
        have hc1 : ((s[k].toNat : Int) == 10) = false := by
          rw [beq_eq_false_iff_ne]; intro e; exact h10 (UInt8.toNat_inj.1 (by show s[k].toNat = 10; omega))
        clear h10
        go_wp2_with fail
        go_roundw
        case rel => exact ⟨k + 1, z, L, j, by go_num, rfl, by omega, hzl, by omega, HJ.out, (show lnF _ _ = _ by rw [HN.out, HE.out]), G.out⟩
        case measure => simp [intOf]; omega
    · have hks : s.take k = s := List.take_of_length_le (by omega)
      rw [hks] at HL
      have hle := ln_le s
      by_cases hcu : cur = []
      · subst hcu
        have HR := Lib.hid (show linesR s = L by unfold linesR; rw [HL.out]; simp)
        go_wp2_with fail
        go_ret
        exact ⟨_, rfl, (by rw [HR.out]; exact G.out.sl (fun _ _ => rfl) (fun x hx w S => ⟨rfl, by have := hle.2.2 x (by rw [HL.out]; exact hx); unfold maxLen; omega⟩)), G.out.fr⟩
      · have hne : cur.isEmpty = false := by cases cur; exact absurd rfl hcu; rfl
        have hne2 : (!cur.isEmpty) = true := by rw [hne]; rfl
        have HR := Lib.hid (show linesR s = L ++ [cur] by unfold linesR; rw [HL.out]; simp [hcu])
        clear hcu
        go_wp2_with (at_builtin; go_loud (refine wp_push rfl (.tmp 29) (.tmp 31) 33 rfl 9 (.string ByteArray.empty) 1 16 Try.underlying33 infoStr rfl (by decide) (.slice B j d) _ _ rfl G1.out #[.string ⟨cur.toArray⟩] rfl rfl (one_lit rfl) (by omega) (by unfold maxLen; omega) ?_; intro g4 cap4 w4 p1 p2 p3; have P1 := Lib.hid p1; have P2 := Lib.hid p2; have P3 := Lib.hid p3; clear p1 p2 p3))
        have G2 : Hid (Grow w w4 9 1 encL (.slice (some ⟨g4, 0, none⟩) (j + 1) cap4) (L ++ [cur])) := by
          have e := HJ.out
          have g := G.out
          have p1 := P1.out
          have p2 := P2.out
          have p3 := P3.out
          subst e
          exact g.push (x := cur) p1 p2 p3
        go_ret
        exact ⟨_, rfl, (by rw [HR.out]; exact G2.out.sl (fun _ _ => rfl) (fun x hx w S => ⟨rfl, by
          rcases List.mem_append.1 hx with hx | hx
          · have := hle.2.2 x (by rw [HL.out]; exact hx)
            unfold maxLen; omega
          · rw [List.mem_singleton.1 hx]; unfold maxLen; omega⟩)), G2.out.fr⟩
end Mark
end Go.Proofs.Ytjelndobekcbmaa
