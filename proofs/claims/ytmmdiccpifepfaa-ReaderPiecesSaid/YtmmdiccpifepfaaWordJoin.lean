/- Package word: the reference's words; words put together. -/
import Derived.Test.YtmmdiccpifepfaaWordCut
namespace Go.Proofs.Ytmmdiccpifepfaa
open Go.RowKit
set_option linter.unusedVariables false
set_option linter.unusedSimpArgs false
theorem strCells_list (m : Str) : Lib.strCells ⟨m.toArray⟩ = m.map encB := by simp [Lib.strCells, encB]
namespace Word
set_option maxRecDepth 100000 in
set_option maxHeartbeats 2000000 in
theorem rcut_any (s : Str) (w : World) (hs : s.length ≤ 1000000) : Calls Try.prog 45 #[.string ⟨s.toArray⟩] w fun e w' => ∃ v, e = .returned v ∧ w'.ownsRow 0 9 1 v (cutR s).length ((cutR s).map encS) ∧ Step No w (Of v) w' := by
  go_enter Try.func45, Try.ntmps45
  go_wp2
  go_loopw [3, 4, 5] (fun o xv iv wr => ∃ (k m : Nat) (out : List Str) (x : Str), iv = .int .i64 k ∧ xv = .string ⟨x.toArray⟩ ∧ k ≤ s.length ∧ m ≤ k ∧ x.length ≤ k ∧ Hid (m = out.length ∧ cutR s = out ++ cutG x (s.drop k)) ∧ Hid (wr.ownsRow 0 9 1 o m (out.map encS) ∧ Step No w (Of o) wr)) (fun _ _ i _ => s.length - (intOf i).toNat)
  case atStart => exact ⟨0, 0, [], [], rfl, rfl, by omega, by omega, by simp, ⟨rfl, rfl⟩, World.ownsRow_nil _ _ _ _, Fr.refl _ _, fun k hk => by cases hk⟩
  case round =>
    obtain ⟨k, m, out, x, rfl, rfl, hk, hm, hxl, Hd, Hw⟩ := hrel
    obtain ⟨A1, c1, hu⟩ := own_form Hw.out.1
    subst hu
    by_cases hlt : k < s.length
    · have hix : (⟨s.toArray⟩ : ByteArray)[k]'(by simpa [ByteArray.size] using hlt) = s[k] := rfl
      have hst := cut_drop hlt x
      rw [← List.nil_append (cutG x _)] at hst
      cases hb : isB s[k]
      · have hb1 : ¬ s[k] = 32 := fun e => by rw [e] at hb; cases hb
        have hb2 : ¬ s[k] = 9 := fun e => by rw [e] at hb; cases hb
        have e1 := (u8_f (n := 32) (d := 32) rfl hb1).2
        have e2 := (u8_f (n := 9) (d := 9) rfl hb2).2
        rw [hb, if_neg (by decide), List.nil_append] at hst
        have Hst := Lib.hid hst
        clear hb hb1 hb2 hst
        have hsl := fun W : World => slice_one (P := Try.prog) W 9 Try.underlying9 s k (k + 1) k hlt rfl (by omega)
        go_wp2
        go_roundw
        case rel => exact ⟨k + 1, m, out, x ++ [s[k]], by go_num, rfl, by omega, by omega, by simp; omega, ⟨Hd.out.1, by rw [Hd.out.2, Hst.out]⟩, Hw.out⟩
        case measure => simp [intOf]; omega
      · have hbb : (((s[k].toNat : Int) != 32) = false) ∨ (((s[k].toNat : Int) != 32) = true ∧ ((s[k].toNat : Int) != 9) = false) := by
          rcases (isB_iff _).1 hb with e | e
          · exact .inl (u8_t (n := 32) rfl e).2
          · exact .inr ⟨(u8_f (n := 32) (d := 32) rfl (by rw [e]; decide)).2, (u8_t (n := 9) rfl e).2⟩
        rw [hb, if_pos rfl, List.nil_append] at hst
        have Hst := Lib.hid hst
        clear hb hst
        cases hx : x.isEmpty
        · have Hx := Lib.hid hx
          rcases hbb with e1 | ⟨e1, e2⟩
          all_goals
            go_wp2_with (at_builtin; go_loud (refine wp_push rfl (.tmp 31) (.tmp 33) 22 rfl 9 (.string ByteArray.empty) 1 16 Try.underlying22 infoS rfl (by decide) _ _ _ rfl Hw.out.1 #[.string ⟨x.toArray⟩] rfl rfl (one_lit rfl) (by omega) (by unfold maxLen; omega) ?_; intro g2 cap2 w2 h1 h2 h3; have P2 := Lib.hid h1; have F2 := Lib.hid (Hw.out.2.trans (Step.of (n := m + 1) (c := cap2) h2 h3)); clear h1 h2 h3))
            go_roundw
            case rel =>
              refine ⟨k + 1, m + 1, out ++ [x], [], by go_num, rfl, by omega, by omega, by simp, ⟨by rw [List.length_append, ← Hd.out.1]; rfl, by rw [Hd.out.2, Hst.out, if_neg (by rw [Hx.out]; decide)]; simp⟩, ?_, F2.out⟩
              rw [List.map_append]; exact P2.out
            case measure => simp [intOf]; omega
        · have hx0 : x = [] := by simpa using hx
          subst hx0
          rcases hbb with e1 | ⟨e1, e2⟩
          all_goals
            go_wp2
            go_roundw
            case rel => exact ⟨k + 1, m, out, [], by go_num, rfl, by omega, by omega, by simp, ⟨Hd.out.1, by rw [Hd.out.2, Hst.out]; rfl⟩, Hw.out⟩
            case measure => simp [intOf]; omega
    · have hst := cut_end (s := s) (k := k) (by omega) x
      cases hx : x.isEmpty
      · rw [hx] at hst
        have HE := Lib.hid (show cutR s = out ++ [x] by rw [Hd.out.2, hst]; rfl)
        have HM := Lib.hid Hd.out.1
        clear hst Hd
        go_wp2_with (at_builtin; go_loud (refine wp_push rfl (.tmp 37) (.tmp 39) 22 rfl 9 (.string ByteArray.empty) 1 16 Try.underlying22 infoS rfl (by decide) _ _ _ rfl Hw.out.1 #[.string ⟨x.toArray⟩] rfl rfl (one_lit rfl) (by omega) (by unfold maxLen; omega) ?_; intro g2 cap2 w2 h1 h2 h3; have P2 := Lib.hid h1; have F2 := Lib.hid (Hw.out.2.trans (Step.of (n := m + 1) (c := cap2) h2 h3)); clear h1 h2 h3))
        go_ret
        refine ⟨_, rfl, ?_, F2.out⟩
        rw [HE.out, List.length_append, List.map_append, ← HM.out]
        exact P2.out
      · rw [hx] at hst
        have HE := Lib.hid (show cutR s = out by rw [Hd.out.2, hst]; simp)
        have HM := Lib.hid Hd.out.1
        clear hst Hd
        go_wp2
        go_ret
        refine ⟨_, rfl, ?_, Hw.out.2⟩
        rw [HE.out, ← HM.out]
        exact Hw.out.1
def joinR : List Str → Str
  | [] => []
  | [a] => a
  | a :: b :: l => a ++ 32 :: joinR (b :: l)
theorem join_snoc (l : List Str) (x : Str) : joinR (l ++ [x]) = if l.isEmpty then x else joinR l ++ 32 :: x := by
  induction l with
  | nil => rfl
  | cons a l ih =>
    cases l with
    | nil => rfl
    | cons b l =>
      have e : (a :: b :: l) ++ [x] = a :: b :: (l ++ [x]) := rfl
      rw [e]
      show a ++ 32 :: joinR ((b :: l) ++ [x]) = _
      rw [ih]
      simp [joinR]
def tot (l : List Str) : Nat := (l.map List.length).sum + l.length
theorem join_len (l : List Str) : (joinR l).length ≤ tot l := by
  induction l with
  | nil => simp [joinR, tot]
  | cons a l ih =>
    cases l with
    | nil => simp [joinR, tot]
    | cons b l =>
      have e : joinR (a :: b :: l) = a ++ 32 :: joinR (b :: l) := rfl
      rw [e]
      simp only [tot, List.map_cons, List.sum_cons, List.length_cons, List.length_append] at ih ⊢
      omega
theorem tot_take {l : List Str} {k : Nat} (h : k < l.length) : tot (l.take (k + 1)) = tot (l.take k) + l[k].length + 1 := by
  rw [List.take_succ_eq_append_getElem h]
  simp only [tot, List.map_append, List.sum_append, List.length_append, List.map_cons, List.map_nil, List.sum_cons, List.sum_nil, List.length_cons, List.length_nil]
  omega
theorem tot_le (l : List Str) (k : Nat) : tot (l.take k) ≤ tot l := by
  induction l generalizing k with
  | nil => simp
  | cons a l ih =>
    cases k with
    | zero => simp [tot]
    | succ k => have := ih k; simp only [tot, List.take_succ_cons, List.map_cons, List.sum_cons, List.length_cons] at this ⊢; omega
theorem join_take {l : List Str} {k : Nat} (h : k < l.length) : joinR (l.take (k + 1)) = if k = 0 then l[k] else joinR (l.take k) ++ 32 :: l[k] := by
  rw [List.take_succ_eq_append_getElem h, join_snoc]
  by_cases hk : k = 0
  · subst hk; rfl
  · rw [if_neg hk, if_neg]
    cases l with
    | nil => simp at h
    | cons a l => cases k with
      | zero => exact absurd rfl hk
      | succ k => simp
theorem infoB : (Try.prog.info? 5).map (fun i => (i.zero, i.size, i.bytes)) = some (some (.int .u8 0), 1, 1) := by kernel_rfl
end Word
end Go.Proofs.Ytmmdiccpifepfaa
