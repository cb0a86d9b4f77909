/- Package event: word, number. Printed by gen_eve.py. -/
import Derived.Test.YtohjnbkehcdoaaaDoorEvD
namespace Go.Proofs.YtohjnbkehcdoaaaDoor
open Go.RowKit
set_option linter.unusedVariables false
set_option linter.unusedSimpArgs false
namespace Ev
open Digit Sls
def cS (x : St) : Array Value := #[.string ⟨x.1.toArray⟩, .bool x.2]
def OneB (b : Nat) : Nat → Prop := fun k => k = b
theorem take_nb {s : Str} {j : Nat} (h : ∀ c ∈ s.take j, c ≠ 32) (hlt : j < s.length) (h32 : s[j] = 32) (bd : Bool) : word (s, bd) = (s.take j, (s.drop (j + 1), bd)) := by
  have e : s = s.take j ++ 32 :: s.drop (j + 1) := by rw [← h32, ← List.drop_eq_getElem_cons hlt]; exact (List.take_append_drop j s).symm
  conv => lhs; rw [e]
  exact word_app h _ _
theorem word_none {s : Str} (h : ∀ c ∈ s, c ≠ 32) (bd : Bool) : word (s, bd) = ([], (s, true)) := by
  unfold word
  simp only
  cases hc : cutB s with
  | none => rfl
  | some p => exact absurd rfl (h 32 (by rw [(cutB_some (a := p.1) (b := p.2) hc).1]; simp))
set_option maxRecDepth 100000 in
theorem word_any (x : St) (b : Nat) (w : World) (hx : Blk w b 58 (cS x)) (hl : x.1.length ≤ 1000000) : Calls Tryd.prog 29 #[.pointer (some ⟨b, 0, none⟩)] w fun e w' => e = .returned (.string ⟨(word x).1.toArray⟩) ∧ Blk w' b 58 (cS (word x).2) ∧ Fr (OneB b) w w' := by
  obtain ⟨s, bd⟩ := x
  unfold cS at hx
  simp only at hx hl
  have x0 := hx.cell 0
  have x1 := hx.cell 1
  have f0 := hx.frozen 0
  have f1 := hx.frozen 1
  simp only [List.getElem?_toArray, List.getElem?_cons_zero, List.getElem?_cons_succ] at x0 x1
  have HX := Lib.hid hx
  clear hx
  go_enter Tryd.func29, Tryd.ntmps29
  go_wp2_with fail
  go_loopw [10] (fun i wr => ∃ j : Nat, i = .int .i64 j ∧ j ≤ s.length ∧ wr = w ∧ Hid (∀ c ∈ s.take j, c ≠ 32)) (fun i _ => s.length - (intOf i).toNat)
  case atStart => exact ⟨0, rfl, Nat.zero_le _, rfl, fun c hc => by simp at hc⟩
  case round =>
    obtain ⟨j, rfl, hj, rfl, hd⟩ := hrel
    by_cases hlt : j < s.length
    · have hix : (⟨s.toArray⟩ : ByteArray)[j]'(by simpa [ByteArray.size] using hlt) = s[j] := rfl
      by_cases h32 : s[j] = 32
      · have hsl1 := fun W : World => slice_to (P := Tryd.prog) W 9 Tryd.underlying9 s (j : Int) j rfl (by omega)
        have hsl2 := fun W : World => slice_from (P := Tryd.prog) W 9 Tryd.underlying9 s ((j : Int) + 1) (j + 1) (by omega) (by omega)
        have hb : ((s[j].toNat : Int) == 32) = true := by rw [h32]; rfl
        have HE := Lib.hid (take_nb hd.out hlt h32 bd)
        obtain ⟨a, ha⟩ : ∃ a, a = s.take j := ⟨_, rfl⟩
        obtain ⟨c, hc⟩ : ∃ c, c = s.drop (j + 1) := ⟨_, rfl⟩
        rw [← ha] at hsl1 HE
        rw [← hc] at hsl2 HE
        clear ha hc h32 hd
        go_wp2_with fail
        go_ret
        rw [HE.out]
        exact ⟨rfl, by simpa [cS] using HX.out.put 0 (.string ⟨c.toArray⟩), Fr.setCell (F := OneB b) (Fr.refl _ _) (p := ⟨b, 0, none⟩) (.inl rfl) _⟩
      · have hb : ((s[j].toNat : Int) == 32) = false := by
          rw [beq_eq_false_iff_ne]; intro e; exact h32 (UInt8.toNat_inj.1 (by show s[j].toNat = 32; omega))
        have HE := Lib.hid (show ∀ c ∈ s.take (j + 1), c ≠ 32 by
          intro c hc
          rw [List.take_succ_eq_append_getElem hlt] at hc
          rcases List.mem_append.1 hc with hc | hc
          · exact hd.out c hc
          · rw [List.mem_singleton.1 hc]; exact h32)
        clear h32 hd
        go_wp2_with fail
        go_roundw
        case rel => exact ⟨j + 1, by go_num, by omega, by first | trivial | rfl, HE.out⟩
        case measure => simp [intOf]; omega
    · have HE := Lib.hid (word_none (s := s) (by have h0 := hd.out; rw [List.take_of_length_le (by omega)] at h0; exact h0) bd)
      clear hd
      go_wp2_with fail
      go_ret
      rw [HE.out]
      exact ⟨rfl, by simpa [cS] using HX.out.put 1 (.bool true), Fr.setCell (F := OneB b) (Fr.refl _ _) (p := ⟨b, 1, none⟩) (.inl rfl) _⟩
theorem word_len (x : St) : (word x).1.length ≤ x.1.length ∧ (word x).2.1.length ≤ x.1.length := by
  unfold word
  cases hc : cutB x.1 with
  | none => simp
  | some p =>
    have h := (cutB_some (a := p.1) (b := p.2) hc).1
    have h2 := congrArg List.length h
    simp at h2
    simp only
    omega
set_option maxRecDepth 100000 in
theorem number_any (x : St) (b : Nat) (w : World) (hx : Blk w b 58 (cS x)) (hl : x.1.length ≤ 1000000) : Calls Tryd.prog 31 #[.pointer (some ⟨b, 0, none⟩)] w fun e w' => e = .returned (.int .i64 (number x).1) ∧ Blk w' b 58 (cS (number x).2) ∧ Fr (OneB b) w w' := by
  have hw := word_any x b w hx hl
  have hwl := word_len x
  unfold number
  obtain ⟨⟨t, x1⟩, ht⟩ : ∃ q, q = word x := ⟨_, rfl⟩
  rw [← ht] at hw hwl ⊢
  simp only at hw hwl ⊢
  have hr := fun W => read_any t (by unfold maxLen; omega) W
  obtain ⟨⟨n, c⟩, hc⟩ : ∃ q, q = readR t := ⟨_, rfl⟩
  rw [← hc] at hr ⊢
  simp only at hr ⊢
  have HW := Lib.hid hw
  have HR := Lib.hid hr
  clear hx hw hr hc ht hl hwl
  obtain ⟨s1, b1⟩ := x1
  go_enter Tryd.func31, Tryd.ntmps31
  go_wp2_with fail
  refine HW.out.mono ?_
  rintro e w1 ⟨rfl, hb, hf⟩
  unfold cS at hb
  simp only at hb
  have HB := Lib.hid hb
  have F1 := Lib.hid hf
  clear hb hf
  go_wp2_with fail
  refine (HR.out _).mono ?_
  rintro e w2 ⟨rfl, hw⟩
  subst hw
  have y0 := HB.out.cell 0
  have y1 := HB.out.cell 1
  have g1 := HB.out.frozen 1
  simp only [List.getElem?_toArray, List.getElem?_cons_zero, List.getElem?_cons_succ] at y0 y1
  cases b1 with
  | true =>
    go_wp2_with fail
    go_ret
    exact ⟨rfl, by simpa [cS] using HB.out.put 1 (.bool true), F1.out.trans (Fr.setCell (F := OneB b) (Fr.refl _ _) (p := ⟨b, 1, none⟩) (.inl rfl) _) (fun q hq _ => hq)⟩
  | false =>
    go_wp2_with fail
    go_ret
    exact ⟨rfl, by simpa [cS] using HB.out.put 1 (.bool (c != 0)), F1.out.trans (Fr.setCell (F := OneB b) (Fr.refl _ _) (p := ⟨b, 1, none⟩) (.inl rfl) _) (fun q hq _ => hq)⟩
end Ev
end Go.Proofs.YtohjnbkehcdoaaaDoor
