/- Mark: few items, and the example. -/
import Derived.Test.YtjelndobekcbmaaMarkV
import Derived.Test.YtjelndobekcbmaaClockQ
namespace Go.Proofs.Ytjelndobekcbmaa
open Go.RowKit
set_option linter.unusedVariables false
set_option linter.unusedSimpArgs false
namespace Mark
open Digit Clock Sls
def encIt (x : It) : List Value := [.int .i64 x.1, .int .i64 x.2.1, .string ⟨x.2.2.toArray⟩]
theorem infoIt : (Try.prog.info? 26).map (fun i => (i.zero, i.size, i.bytes)) = some (some (.agg #[.int .i64 0, .int .i64 0, .string ByteArray.empty]), 3, 32) := by kernel_rfl
def ItOk (x : It) : Prop := (Lit.int .i64 x.1).wf = true ∧ (Lit.int .i64 x.2.1).wf = true ∧ x.2.2.length ≤ 80
theorem it_rd {x : It} (h : ItOk x) (w : World) (S : Nat → Prop) : RIt w S (encIt x) x := ⟨by simp [encIt], ⟨rfl, h.1⟩, by simp [encIt], ⟨rfl, h.2.1⟩, rfl, by have := h.2.2; unfold maxLen; omega⟩
theorem enc_of {w : World} {S : Nat → Prop} {cs : List Value} {x : It} (h : RIt w S cs x) : cs = encIt x := by
  obtain ⟨k, n, s, rfl, -, -, -, h⟩ := it_open h
  exact h
abbrev GrIt (w wr : World) (v : Value) (l : List It) : Prop := Grow w wr 26 3 encIt v l
theorem gr_sl {w wr : World} {v : Value} {l : List It} (h : GrIt w wr v l) (hl : ∀ x ∈ l, ItOk x) : RSl 3 RIt wr (New w wr) [v] l := h.sl (fun _ _ => rfl) (fun x hx => it_rd (hl x hx))
/-- What Few answers. -/
def FewPost (w : World) (e : Ending) (w' : World) : Prop := ∃ v l, e = .returned v ∧ RSl 3 RIt w' (New w w') [v] l ∧ l.length ≤ 16 ∧ (∀ x ∈ l, ItOk x) ∧ Fr No w w'
set_option maxRecDepth 100000 in
set_option maxHeartbeats 2000000 in
theorem few_any (v : Value) (l : List It) (w : World) (S : Nat → Prop) (hS : ∀ k, S k → k < w.heap.size) (h : RSl 3 RIt w S [v] l) :
    Calls Try.prog 11 #[v] w (FewPost w) := by
  obtain ⟨A, c, rfl, hc1, hc2⟩ := h.slice
  have H := Lib.hid h
  have HS := Lib.hid hS
  unfold maxLen at hc2
  clear h hS
  go_enter Try.func11, Try.ntmps11
  go_wp2_with fail
  go_loopw [3, 4] (fun u i wr => ∃ (k : Nat) (m : List It) (j : Nat), i = .int .i64 k ∧ k ≤ 16 ∧ k ≤ l.length ∧ j ≤ k ∧ Hid (j = m.length) ∧ Hid (GrIt w wr u m) ∧ Hid (∀ x ∈ m, ItOk x)) (fun _ i _ => 16 - (intOf i).toNat)
  case atStart => exact ⟨0, [], 0, rfl, by omega, by omega, by omega, rfl, Grow.start _ _ _ _, fun x hx => by cases hx⟩
  case round =>
    obtain ⟨k, m, j, rfl, hk, hkl, hj, HJ, G, HO⟩ := hrel
    by_cases hlt : k < l.length ∧ k < 16
    · obtain ⟨hlt, h16⟩ := hlt
      obtain ⟨B, d, rfl⟩ := G.out.form
      rw [← HJ.out]
      obtain ⟨ad, kd, n, s, rfl, hx, c0, c1, c2, hw, hwk⟩ := it_at H.out HS.out G.out.fr hlt
      by_cases h80 : s.length ≤ 80
      · have HI := Lib.hid (show ItOk (kd, n, s) from ⟨hwk, hw, h80⟩)
        clear hx hw hwk
        have G1 := Lib.hid (show wr.ownsRow 0 26 3 (.slice B j d) j (m.flatMap encIt) from by rw [HJ.out]; exact G.out.own)
        go_wp2_with (at_builtin; go_loud (refine wp_push rfl (.tmp 22) (.tmp 27) 22 rfl 26 (.agg #[.int .i64 0, .int .i64 0, .string ByteArray.empty]) 3 32 Try.underlying22 infoIt rfl (by decide) (.slice B j d) _ _ rfl G1.out #[.int .i64 kd, .int .i64 n, .string ⟨s.toArray⟩] rfl rfl (by intro u hu; simp at hu; rcases hu with rfl | rfl | rfl <;> rfl) (by omega) (by unfold maxLen; omega) ?_; intro g4 cap4 w4 p1 p2 p3; have P1 := Lib.hid p1; have P2 := Lib.hid p2; have P3 := Lib.hid p3; clear p1 p2 p3))
        go_wp2_with fail
        go_roundw
        case rel => exact ⟨k + 1, m ++ [(kd, n, s)], j + 1, by go_num, by omega, by omega, by omega, (show j + 1 = _ by rw [HJ.out]; simp), (by
          have e := HJ.out
          have g := G.out
          have p1 := P1.out
          have p2 := P2.out
          have p3 := P3.out
          subst e
          exact g.push (x := (kd, n, s)) p1 p2 p3), (show ∀ x ∈ m ++ [(kd, n, s)], ItOk x from fun x hx => (List.mem_append.1 hx).elim (HO.out x) (fun h => by rw [List.mem_singleton.1 h]; exact HI.out))⟩
        case measure => simp [intOf]; omega
      · go_wp2_with fail
        go_roundw
        case rel => exact ⟨k + 1, m, j, by go_num, by omega, by omega, by omega, HJ.out, by show GrIt _ _ _ _; rw [HJ.out]; exact G.out, HO.out⟩
        case measure => simp [intOf]; omega
    · have h16 : m.length ≤ 16 := by have := HJ.out; omega
      go_wp2_with fail
      all_goals
        go_ret
        exact ⟨_, m, rfl, gr_sl G.out HO.out, h16, HO.out, G.out.fr⟩
end Mark
end Go.Proofs.Ytjelndobekcbmaa
