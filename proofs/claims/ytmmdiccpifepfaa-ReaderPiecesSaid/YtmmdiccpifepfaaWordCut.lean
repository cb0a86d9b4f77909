/- Package word: the words of a text. -/
import Derived.Test.YtmmdiccpifepfaaWordB
import Derived.Test.YtmmdiccpifepfaaRows
import Derived.WalkKit
import Derived.Outline
import Derived.BigQuiet
import Derived.Deep.QuietTactic
import Derived.Deep.RegionLaw
import Derived.Deep.DeepMust
import Derived.Lib.AppendStr
namespace Go.Proofs.Ytmmdiccpifepfaa
open Go.RowKit
set_option linter.unusedVariables false
set_option linter.unusedSimpArgs false
namespace Word
def isB (c : UInt8) : Bool := c == 32 || c == 9
/-- The words of s, of which w was begun. -/
def cutG : Str → Str → List Str
  | w, [] => if w.isEmpty then [] else [w]
  | w, c :: s => if isB c then (if w.isEmpty then cutG [] s else w :: cutG [] s) else cutG (w ++ [c]) s
def cutR (s : Str) : List Str := cutG [] s
theorem cut_drop {s : Str} {k : Nat} (h : k < s.length) (w : Str) : cutG w (s.drop k) = if isB s[k] then (if w.isEmpty then cutG [] (s.drop (k + 1)) else w :: cutG [] (s.drop (k + 1))) else cutG (w ++ [s[k]]) (s.drop (k + 1)) := by
  rw [List.drop_eq_getElem_cons h]; rfl
theorem cut_end {s : Str} {k : Nat} (h : s.length ≤ k) (w : Str) : cutG w (s.drop k) = if w.isEmpty then [] else [w] := by
  rw [List.drop_of_length_le h]; rfl
theorem isB_iff (c : UInt8) : (isB c = true ↔ c = 32 ∨ c = 9) := by simp [isB]
theorem cutG_len (s w : Str) : ((cutG w s).map List.length).sum + (cutG w s).length ≤ w.length + s.length + 1 := by
  induction s generalizing w with
  | nil =>
    unfold cutG
    split <;> simp_all
  | cons c s ih =>
    unfold cutG
    split
    · split
      · have := ih []; simp at this ⊢; omega
      · have := ih []; simp at this ⊢; omega
    · have := ih (w ++ [c]); simp at this ⊢; omega
theorem cutR_len (s : Str) : (cutR s).length ≤ s.length + 1 := by have := cutG_len s []; simp at this; unfold cutR; omega
theorem mem_sum {l : List Str} {x : Str} (h : x ∈ l) : x.length ≤ (l.map List.length).sum := by
  induction l with
  | nil => cases h
  | cons a l ih =>
    rcases List.mem_cons.1 h with rfl | h
    · simp
    · have := ih h; simp; omega
theorem cutR_mem {s x : Str} (h : x ∈ cutR s) : x.length ≤ s.length := by
  have h1 := cutG_len s []
  have h2 := mem_sum h
  have h3 : 0 < (cutR s).length := List.length_pos_of_mem h
  unfold cutR at h2 h3
  simp at h1; omega
set_option maxRecDepth 100000 in
set_option maxHeartbeats 2000000 in
theorem cut_any (s : Str) (w : World) (hs : s.length ≤ 1000000) : Calls Try.prog 41 #[.string ⟨s.toArray⟩] w fun e w' => ∃ v, e = .returned v ∧ w'.ownsRow 0 9 1 v (cutR s).length ((cutR s).map encS) ∧ Step No w (Of v) w' := by
  go_enter Try.func41, Try.ntmps41
  go_wp2
  go_loopw [3, 4, 5] (fun o fv iv wr => ∃ (k m : Nat) (f : Int) (out : List Str) (x : Str), iv = .int .i64 k ∧ fv = .int .i64 f ∧ k ≤ s.length + 1 ∧ m ≤ k ∧ ((f = -1 ∧ x.isEmpty = true) ∨ (k ≤ s.length ∧ x.isEmpty = false ∧ ∃ a : Nat, f = a ∧ a < k ∧ Hid (x = (s.drop a).take (k - a)))) ∧ Hid (m = out.length ∧ (k ≤ s.length → cutR s = out ++ cutG x (s.drop k)) ∧ (k = s.length + 1 → cutR s = out)) ∧ Hid (wr.ownsRow 0 9 1 o m (out.map encS) ∧ Step No w (Of o) wr)) (fun _ _ i _ => s.length + 1 - (intOf i).toNat)
  case atStart => exact ⟨0, 0, -1, [], [], rfl, rfl, by omega, by omega, .inl ⟨rfl, rfl⟩, ⟨rfl, fun _ => rfl, fun h => by omega⟩, World.ownsRow_nil _ _ _ _, Fr.refl _ _, fun k hk => by cases hk⟩
  case round =>
    obtain ⟨k, m, f, out, x, rfl, rfl, hk, hm, hf, Hd, Hw⟩ := hrel
    obtain ⟨A1, c1, hu⟩ := own_form Hw.out.1
    subst hu
    by_cases hend : k = s.length + 1
    · obtain ⟨h1, _, h3⟩ := Hd.out
      have HE := Lib.hid (h3 hend)
      have HM := Lib.hid h1
      clear h1 h3 hf Hd
      go_wp2
      go_ret
      refine ⟨_, rfl, ?_, Hw.out.2⟩
      rw [HE.out, ← HM.out]
      exact Hw.out.1
    by_cases hlt : k < s.length
    · have hix : (⟨s.toArray⟩ : ByteArray)[k]'(by simpa [ByteArray.size] using hlt) = s[k] := rfl
      have e0 : ((k : Int) == (s.length : Int)) = false := beq_eq_false_iff_ne.2 (by omega)
      have hst := cut_drop hlt
      have hsn : ∀ a, a ≤ k → (s.drop a).take (k + 1 - a) = (s.drop a).take (k - a) ++ [s[k]] := fun a ha => by
        rw [show k + 1 - a = (k - a) + 1 by omega, List.take_succ_eq_append_getElem (by simp; omega), List.getElem_drop]
        congr 3; omega
      have Hst := Lib.hid hst
      have Hsn := Lib.hid hsn
      clear hst hsn
      cases hb : isB s[k]
      · have hb1 : ¬ s[k] = 32 := fun e => by rw [e] at hb; cases hb
        have hb2 : ¬ s[k] = 9 := fun e => by rw [e] at hb; cases hb
        have e1 := (u8_f (n := 32) (d := 32) rfl hb1).1
        have e2 := (u8_f (n := 9) (d := 9) rfl hb2).1
        have Hb := Lib.hid hb
        clear hb hb1 hb2
        rcases hf with ⟨rfl, hx⟩ | ⟨_, hx, a, rfl, ha, Hx⟩
        · have Hx := Lib.hid hx
          clear hx
          go_wp2
          go_roundw
          case rel =>
            refine ⟨k + 1, m, k, out, [s[k]], by go_num, rfl, by omega, by omega, .inr ⟨by omega, rfl, k, rfl, by omega, ?_⟩, ⟨Hd.out.1, fun _ => ?_, fun h => by omega⟩, Hw.out⟩
            · show [s[k]] = _
              rw [Hsn.out k (Nat.le_refl _)]; simp
            · have := Hd.out.2.1 (by omega)
              rw [this, Hst.out x, Hb.out]
              have : x = [] := by simpa using Hx.out
              rw [this]; rfl
          case measure => simp [intOf]; omega
        · have Hx2 := Lib.hid hx
          clear hx
          go_wp2
          go_roundw
          case rel =>
            refine ⟨k + 1, m, a, out, x ++ [s[k]], by go_num, rfl, by omega, by omega, .inr ⟨by omega, by simp, a, rfl, by omega, ?_⟩, ⟨Hd.out.1, fun _ => ?_, fun h => by omega⟩, Hw.out⟩
            · show x ++ [s[k]] = _
              rw [Hsn.out a (by omega), ← Hx.out]
            · have := Hd.out.2.1 (by omega)
              rw [this, Hst.out x, Hb.out]; rfl
          case measure => simp [intOf]; omega
      · have hbb : (((s[k].toNat : Int) == 32) = true) ∨ (((s[k].toNat : Int) == 32) = false ∧ ((s[k].toNat : Int) == 9) = true) := by
          rcases (isB_iff _).1 hb with e | e
          · exact .inl (u8_t (n := 32) rfl e).1
          · exact .inr ⟨(u8_f (n := 32) (d := 32) rfl (by rw [e]; decide)).1, (u8_t (n := 9) rfl e).1⟩
        have Hb := Lib.hid hb
        clear hb
        rcases hf with ⟨rfl, hx⟩ | ⟨_, hx, a, rfl, ha, Hx⟩
        · have Hx := Lib.hid hx
          clear hx
          rcases hbb with e1 | ⟨e1, e2⟩
          all_goals
            go_wp2
            go_roundw
            case rel =>
              refine ⟨k + 1, m, -1, out, x, by go_num, rfl, by omega, by omega, .inl ⟨rfl, Hx.out⟩, ⟨Hd.out.1, fun _ => ?_, fun h => by omega⟩, Hw.out⟩
              have := Hd.out.2.1 (by omega)
              rw [this, Hst.out x, Hb.out, if_pos rfl, if_pos Hx.out]
              have : x = [] := by simpa using Hx.out
              rw [this]
            case measure => simp [intOf]; omega
        · have Hx2 := Lib.hid hx
          clear hx
          have hsl := fun W : World => slice_str (P := Try.prog) W 9 Try.underlying9 s (a : Int) (k : Int) a k rfl rfl (by omega) (by omega)
          rw [← Hx.out] at hsl
          rcases hbb with e1 | ⟨e1, e2⟩
          all_goals
            go_wp2_with (at_builtin; go_loud (refine wp_push rfl (.tmp 43) (.tmp 48) 22 rfl 9 (.string ByteArray.empty) 1 16 Try.underlying22 infoS rfl (by decide) _ _ _ rfl Hw.out.1 #[.string ⟨x.toArray⟩] rfl rfl (one_lit rfl) (by omega) (by unfold maxLen; omega) ?_; intro g2 cap2 w2 h1 h2 h3; have P2 := Lib.hid h1; have F2 := Lib.hid (Hw.out.2.trans (Step.of (n := m + 1) (c := cap2) h2 h3)); clear h1 h2 h3))
            go_roundw
            case rel =>
              refine ⟨k + 1, m + 1, -1, out ++ [x], [], by go_num, rfl, by omega, by omega, .inl ⟨rfl, rfl⟩, ⟨by rw [List.length_append, ← Hd.out.1]; rfl, fun _ => ?_, fun h => by omega⟩, ?_, F2.out⟩
              · have := Hd.out.2.1 (by omega)
                rw [this, Hst.out x, Hb.out, if_pos rfl, if_neg (by rw [Hx2.out]; decide)]
                simp
              · rw [List.map_append]; exact P2.out
            case measure => simp [intOf]; omega
    · have hkl : k = s.length := by omega
      have e0 : ((k : Int) == (s.length : Int)) = true := beq_iff_eq.2 (by omega)
      have hst := cut_end (s := s) (k := k) (by omega)
      have Hst := Lib.hid hst
      clear hst
      rcases hf with ⟨rfl, hx⟩ | ⟨_, hx, a, rfl, ha, Hx⟩
      · have Hx := Lib.hid hx
        clear hx
        go_wp2
        go_roundw
        case rel =>
          refine ⟨k + 1, m, -1, out, x, by go_num, rfl, by omega, by omega, .inl ⟨rfl, Hx.out⟩, ⟨Hd.out.1, fun h => by omega, fun _ => ?_⟩, Hw.out⟩
          have := Hd.out.2.1 (by omega)
          rw [this, Hst.out x, if_pos Hx.out, List.append_nil]
        case measure => simp [intOf]; omega
      · have Hx2 := Lib.hid hx
        clear hx
        have hsl := fun W : World => slice_str (P := Try.prog) W 9 Try.underlying9 s (a : Int) (k : Int) a k rfl rfl (by omega) (by omega)
        rw [← Hx.out] at hsl
        have hsl2 := fun W : World => slice_str (P := Try.prog) W 9 Try.underlying9 s (a : Int) (s.length : Int) a k rfl (by omega) (by omega) (by omega)
        rw [← Hx.out] at hsl2
        go_wp2_with (at_builtin; go_loud (refine wp_push rfl (.tmp 43) (.tmp 48) 22 rfl 9 (.string ByteArray.empty) 1 16 Try.underlying22 infoS rfl (by decide) _ _ _ rfl Hw.out.1 #[.string ⟨x.toArray⟩] rfl rfl (one_lit rfl) (by omega) (by unfold maxLen; omega) ?_; intro g2 cap2 w2 h1 h2 h3; have P2 := Lib.hid h1; have F2 := Lib.hid (Hw.out.2.trans (Step.of (n := m + 1) (c := cap2) h2 h3)); clear h1 h2 h3))
        go_roundw
        case rel =>
          refine ⟨k + 1, m + 1, -1, out ++ [x], [], by go_num, rfl, by omega, by omega, .inl ⟨rfl, rfl⟩, ⟨by rw [List.length_append, ← Hd.out.1]; rfl, fun h => by omega, fun _ => ?_⟩, ?_, F2.out⟩
          · have := Hd.out.2.1 (by omega)
            rw [this, Hst.out x, if_neg (by rw [Hx2.out]; decide)]
          · rw [List.map_append]; exact P2.out
        case measure => simp [intOf]; omega
end Word
end Go.Proofs.Ytmmdiccpifepfaa
