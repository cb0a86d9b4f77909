/- Package event: the reference's has, Words, piece; word, number. Printed by gen_evc.py. -/
import Derived.Test.YtohjnbkehcdoaaaDoorEvB
import Derived.Test.YtohjnbkehcdoaaaDoorBytes
import Derived.Test.YtohjnbkehcdoaaaDoorPush
import Derived.BigQuiet
namespace Go.Proofs.YtohjnbkehcdoaaaDoor
open Go.RowKit
set_option linter.unusedVariables false
set_option linter.unusedSimpArgs false
namespace Ev
open Digit Sls
def fsP : List Str := [[], [119], [119], [119, 115], [119, 110], [119, 121, 110], [119, 110], [119, 115], [110], [110], [115]]
def encS (s : Str) : Value := .string ⟨s.toArray⟩
theorem fs_len : ∀ t ∈ fsP, t.length ≤ 3 := by decide
theorem strs_at (w : World) (l : List Str) (k : Nat) (h : k < l.length) : (w.alloc (.cells (l.map encS).toArray 9)).cell? ⟨w.heap.size, k, none⟩ = some (.string ⟨l[k].toArray⟩) := by
  rw [(Blk.new w 9 (l.map encS).toArray).cell k]
  simp [h, encS]
set_option maxRecDepth 100000 in
theorem has_any (k : Nat) (hk : k < 11) (c : UInt8) (w : World) : Calls Tryd.prog 24 #[.int .i64 k, .string ⟨[c].toArray⟩] w fun e w' => e = .returned (.bool ((fsP[k]'hk).contains c)) ∧ Fr No w w' := by
  have hc := strs_at w fsP k hk
  have ht := fs_len _ (List.getElem_mem (l := fsP) hk)
  obtain ⟨t, he⟩ : ∃ t, t = fsP[k]'hk := ⟨_, rfl⟩
  rw [← he] at hc ht ⊢
  have FA := Lib.hid ((Fr.refl No w).alloc (.cells (fsP.map encS).toArray 9))
  have e : (fsP.map encS).toArray = #[.string ⟨#[]⟩, .string ⟨#[119]⟩, .string ⟨#[119]⟩, .string ⟨#[119, 115]⟩, .string ⟨#[119, 110]⟩, .string ⟨#[119, 121, 110]⟩, .string ⟨#[119, 110]⟩, .string ⟨#[119, 115]⟩, .string ⟨#[110]⟩, .string ⟨#[110]⟩, .string ⟨#[115]⟩] := rfl
  rw [e] at hc FA
  clear he e
  obtain ⟨g, hg⟩ : ∃ g, w.heap.size = g := ⟨_, rfl⟩
  rw [hg] at hc
  go_enter Tryd.func24, Tryd.ntmps24
  go_upto_region 2 with (fail)
  try rw [hg]
  clear hg
  generalize w.alloc (.cells #[.string ⟨#[]⟩, .string ⟨#[119]⟩, .string ⟨#[119]⟩, .string ⟨#[119, 115]⟩, .string ⟨#[119, 110]⟩, .string ⟨#[119, 121, 110]⟩, .string ⟨#[119, 110]⟩, .string ⟨#[119, 115]⟩, .string ⟨#[110]⟩, .string ⟨#[110]⟩, .string ⟨#[115]⟩] 9) = W at hc FA ⊢
  go_wp2_with fail
  go_loopw [6] (fun i wr => ∃ j : Nat, i = .int .i64 j ∧ j ≤ t.length ∧ wr = W ∧ Hid (t.contains c = (t.drop j).contains c)) (fun i _ => t.length - (intOf i).toNat)
  case atStart => exact ⟨0, rfl, Nat.zero_le _, rfl, rfl⟩
  case round =>
    obtain ⟨j, rfl, hj, rfl, hd⟩ := hrel
    by_cases hlt : j < t.length
    · have hs1 := fun W : World => slice_one (P := Tryd.prog) W 9 Tryd.underlying9 t j (j + 1) j hlt rfl rfl
      have hcn : (t.drop j).contains c = (c == t[j] || (t.drop (j + 1)).contains c) := by rw [List.drop_eq_getElem_cons hlt, List.contains_cons]
      obtain ⟨d, hd2⟩ : ∃ d, d = t[j] := ⟨_, rfl⟩
      rw [← hd2] at hs1 hcn
      clear hd2
      by_cases hdc : d = c
      · have HE := Lib.hid (show t.contains c = true by rw [hd.out, hcn, hdc]; simp)
        have hb : (([d] : Str) == [c]) = true := by rw [hdc]; exact beq_self_eq_true _
        clear hcn hd hdc
        go_wp2_with fail
        go_ret
        rw [HE.out]
        exact ⟨rfl, FA.out⟩
      · have HE := Lib.hid (show t.contains c = (t.drop (j + 1)).contains c by rw [hd.out, hcn, beq_eq_false_iff_ne.2 (fun e => hdc e.symm), Bool.false_or])
        have hb : (([d] : Str) == [c]) = false := by rw [beq_eq_false_iff_ne]; intro e; injection e with e _; exact hdc e
        clear hcn hd hdc
        go_wp2_with fail
        go_roundw
        case rel => exact ⟨j + 1, by go_num, by omega, by first | trivial | rfl, HE.out⟩
        case measure => simp [intOf]; omega
    · have HE := Lib.hid (show t.contains c = false by rw [hd.out, List.drop_of_length_le (by omega)]; rfl)
      clear hd
      go_wp2_with fail
      go_ret
      rw [HE.out]
      exact ⟨rfl, FA.out⟩
theorem words_any (w : World) : Calls Tryd.prog 23 #[] w fun e w' => ∃ g, e = .returned (.slice (some ⟨g, 0, none⟩) 11 11) ∧ (∀ k (h : k < rowsP.length), w'.cell? ⟨g, k + 1, none⟩ = some (.string ⟨rowsP[k].word.toArray⟩)) ∧ Fr No w w' := by
  go_enter Tryd.func23, Tryd.ntmps23
  go_wp2
  go_ret
  refine ⟨w.heap.size, rfl, fun k hk => ?_, (Fr.refl No w).alloc _⟩
  show (w.alloc (.cells ((([] : Str) :: rowsP.map R.word).map encS).toArray 9)).cell? _ = _
  rw [strs_at w _ (k + 1) (by simp; exact hk)]
  simp
set_option maxRecDepth 100000 in
theorem piece_any (s : Str) (w : World) (hs : s.length ≤ 1000000) : Calls Tryd.prog 33 #[.string ⟨s.toArray⟩] w fun e w' => ∃ b, e = .returned (.tuple #[.string ⟨(piece s).1.toArray⟩, .string ⟨(piece s).2.toArray⟩, .bool b]) ∧ Fr No w w' := by
  go_enter Tryd.func33, Tryd.ntmps33
  go_wp2_with fail
  go_loopw [5] (fun i wr => ∃ j : Nat, i = .int .i64 j ∧ j ≤ s.length ∧ Hid (∀ c ∈ s.take j, c ≠ 32) ∧ Hid (Fr No w wr)) (fun i _ => s.length - (intOf i).toNat)
  case atStart => exact ⟨0, rfl, Nat.zero_le _, (fun c hc => by simp at hc), Fr.refl _ _⟩
  case round =>
    obtain ⟨j, rfl, hj, hd, hf⟩ := hrel
    by_cases hlt : j < s.length
    · have hix : (⟨s.toArray⟩ : ByteArray)[j]'(by simpa [ByteArray.size] using hlt) = s[j] := rfl
      by_cases h32 : s[j] = 32
      · have hsl1 := fun W : World => slice_to (P := Tryd.prog) W 9 Tryd.underlying9 s (j : Int) j rfl (by omega)
        have hsl2 := fun W : World => slice_from (P := Tryd.prog) W 9 Tryd.underlying9 s ((j : Int) + 1) (j + 1) (by omega) (by omega)
        have hb : ((s[j].toNat : Int) == 32) = true := by rw [h32]; rfl
        have HE := Lib.hid (show piece s = (s.take j, s.drop (j + 1)) by
          unfold piece
          have e : s = s.take j ++ 32 :: s.drop (j + 1) := by rw [← h32, ← List.drop_eq_getElem_cons hlt]; exact (List.take_append_drop j s).symm
          have e2 : cutB s = some (s.take j, s.drop (j + 1)) := by
            conv => lhs; rw [e]
            exact cutB_app hd.out _
          rw [e2])
        obtain ⟨a, ha⟩ : ∃ a, a = s.take j := ⟨_, rfl⟩
        obtain ⟨b, hb2⟩ : ∃ b, b = s.drop (j + 1) := ⟨_, rfl⟩
        rw [← ha] at hsl1 HE
        rw [← hb2] at hsl2 HE
        clear ha hb2 h32 hd
        go_wp2_with fail
        go_quiet (fail)
        have HF := Lib.hid (hf.out.then_no ((Fr.refl No wr).drewN nq))
        go_wp2_with fail
        refine bodyPost_ret (v := .tuple #[.string ⟨a.toArray⟩, .string ⟨b.toArray⟩, .bool true]) ?_ rfl ⟨true, by rw [HE.out], HF.out⟩
        simp [results, Tryd.f33, go_sem]
      · have hb : ((s[j].toNat : Int) == 32) = false := by
          rw [beq_eq_false_iff_ne]; intro e; exact h32 (UInt8.toNat_inj.1 (by show s[j].toNat = 32; omega))
        have HE := Lib.hid (show ∀ c ∈ s.take (j + 1), c ≠ 32 by
          intro c hc
          rw [List.take_succ_eq_append_getElem hlt] at hc
          rcases List.mem_append.1 hc with hc | hc
          · exact hd.out c hc
          · rw [List.mem_singleton.1 hc]; exact h32)
        clear h32 hd
        go_wp2_with fail
        go_roundw
        case rel => exact ⟨j + 1, by go_num, by omega, HE.out, hf.out⟩
        case measure => simp [intOf]; omega
    · have HE := Lib.hid (show piece s = (s, []) by
        unfold piece
        have h0 := hd.out
        rw [List.take_of_length_le (by omega)] at h0
        cases hc : cutB s with
        | none => rfl
        | some p => exact absurd rfl (h0 32 (by rw [(cutB_some (a := p.1) (b := p.2) hc).1]; simp)))
      clear hd
      go_wp2_with fail
      refine bodyPost_ret (v := .tuple #[.string ⟨s.toArray⟩, .string ⟨#[]⟩, .bool false]) ?_ rfl ⟨false, by rw [HE.out], hf.out⟩
      simp [results, Tryd.f33, go_sem]
end Ev
end Go.Proofs.YtohjnbkehcdoaaaDoor
