/- The reference's Same; words that are put together. -/
import Derived.Test.YtlckohihlggjbaaWordJoin
import Derived.Test.YtlckohihlggjbaaCuts
namespace Go.Proofs.Ytlckohihlggjbaa
open Go.RowKit
set_option linter.unusedVariables false
set_option linter.unusedSimpArgs false
namespace Word
def Solid (x : Str) : Prop := x ≠ [] ∧ ∀ c ∈ x, isB c = false
theorem cut_solid (w x s : Str) (h : ∀ c ∈ x, isB c = false) : cutG w (x ++ s) = cutG (w ++ x) s := by
  induction x generalizing w with
  | nil => simp
  | cons c x ih =>
    show cutG w (c :: (x ++ s)) = _
    rw [show cutG w (c :: (x ++ s)) = cutG (w ++ [c]) (x ++ s) by
      conv => lhs; unfold cutG
      rw [h c (by simp)]; rfl]
    rw [ih _ (fun c hc => h c (by simp [hc]))]
    simp
theorem cut_blank (w s : Str) (c : UInt8) (h : isB c = true) : cutG w (c :: s) = (if w.isEmpty then [] else [w]) ++ cutG [] s := by
  conv => lhs; unfold cutG
  rw [h]
  cases w <;> rfl
theorem cut_join (L : List Str) (s : Str) (h : ∀ x ∈ L, Solid x) (hs : s = [] ∨ ∃ c t, s = c :: t ∧ isB c = true) : cutG [] (joinR L ++ s) = L ++ cutG [] s := by
  induction L with
  | nil => rfl
  | cons a l ih =>
    have ha := h a (by simp)
    have hne : a.isEmpty = false := by cases a with
      | nil => exact absurd rfl ha.1
      | cons _ _ => rfl
    cases l with
    | nil =>
      show cutG [] (a ++ s) = _
      rw [cut_solid [] a s ha.2, List.nil_append]
      rcases hs with rfl | ⟨c, t, rfl, hc⟩
      · unfold cutG; rw [hne]; rfl
      · rw [cut_blank _ _ _ hc, cut_blank _ _ _ hc, hne]; rfl
    | cons b l =>
      show cutG [] ((a ++ 32 :: joinR (b :: l)) ++ s) = _
      rw [List.append_assoc, cut_solid [] a _ ha.2, List.nil_append, List.cons_append, cut_blank _ _ _ (by decide), hne, ih (fun x hx => h x (by simp [hx]))]
      rfl
theorem cut_all (s w : Str) (hw : ∀ c ∈ w, isB c = false) : ∀ x ∈ cutG w s, Solid x := by
  induction s generalizing w with
  | nil =>
    intro x hx
    unfold cutG at hx
    split at hx
    · cases hx
    · rename_i he
      rw [List.mem_singleton.1 hx]
      exact ⟨fun e => he (by rw [e]; rfl), hw⟩
  | cons c s ih =>
    intro x hx
    cases hb : isB c
    · rw [show cutG w (c :: s) = cutG (w ++ [c]) s by
        conv => lhs; unfold cutG
        rw [hb]; rfl] at hx
      refine ih _ (fun d hd => ?_) x hx
      rcases List.mem_append.1 hd with hd | hd
      · exact hw d hd
      · rw [List.mem_singleton.1 hd]; exact hb
    · rw [cut_blank _ _ _ hb] at hx
      rcases List.mem_append.1 hx with hx | hx
      · split at hx
        · cases hx
        · rename_i he
          rw [List.mem_singleton.1 hx]
          exact ⟨fun e => he (by rw [e]; rfl), hw⟩
      · exact ih [] (fun c hc => by cases hc) x hx
theorem cut_back (s : Str) : cutR (joinR (cutR s)) = cutR s := by
  have h := cut_join (cutR s) [] (cut_all s [] (fun c hc => by cases hc)) (.inl rfl)
  rw [List.append_nil] at h
  show cutG [] (joinR (cutR s)) = cutR s
  rw [h]
  simp [cutG]
theorem same_len {a b : List Str} (h : a.length ≠ b.length) : decide (a = b) = false := decide_eq_false fun e => h (by rw [e])
theorem take_eq_step {a b : List Str} {i : Nat} (h : a.take i = b.take i) (ha : i < a.length) (hb : i < b.length) (he : a[i] = b[i]) : a.take (i + 1) = b.take (i + 1) := by
  rw [List.take_succ_eq_append_getElem ha, List.take_succ_eq_append_getElem hb, h, he]
set_option maxRecDepth 100000 in
theorem same_any (u v : Value) (a b : List Str) (w : World) (S S' : Nat → Prop) (ha : RSl 1 RStr w S [u] a) (hb : RSl 1 RStr w S' [v] b) : Calls Try.prog 50 #[u, v] w fun e w' => e = .returned (.bool (decide (a = b))) ∧ ∃ n, w' = w.drewN n := by
  obtain ⟨A, cap, rfl, hc1, hc2, hel⟩ := ha.strs
  obtain ⟨B, cap2, rfl, hd1, hd2, hel2⟩ := hb.strs
  have HA := Lib.hid hel
  have HB := Lib.hid hel2
  clear ha hb hel hel2
  unfold maxLen at hc2 hd2
  by_cases hl : a.length = b.length
  case neg =>
    have hr := same_len hl
    rw [hr]
    have q : ((a.length : Int) != (b.length : Int)) = true := by simp; omega
    clear hr
    go_enter Try.func50, Try.ntmps50
    go_wp2_with fail
    go_ret
    exact ⟨rfl, 0, rfl⟩
  have q : ((a.length : Int) != (b.length : Int)) = false := by rw [hl]; simp
  obtain ⟨n, hn⟩ : ∃ n, b.length = n := ⟨_, rfl⟩
  have HL := Lib.hid (And.intro hl hn)
  rw [hn] at hd1
  rw [hl, hn] at hc1
  rw [hl, hn] at q
  rw [hl, hn]
  clear hl hn
  go_enter Try.func50, Try.ntmps50
  go_wp2_with fail
  go_loopw [5] (fun iv wr => ∃ i : Nat, iv = .int .i64 i ∧ i ≤ n ∧ Hid (a.take i = b.take i) ∧ Hid (∃ m, wr = w.drewN m)) (fun iv _ => n - (intOf iv).toNat)
  case atStart => exact ⟨0, rfl, by omega, Lib.hid rfl, Lib.hid ⟨0, rfl⟩⟩
  case round =>
    obtain ⟨i, rfl, hi, HT, HM⟩ := hrel
    by_cases hlt : i < n
    · have h1 : i < a.length := by have := HL.out; omega
      have h2 : i < b.length := by have := HL.out; omega
      obtain ⟨ad, rfl, -, y1, -⟩ := HA.out i h1
      obtain ⟨ad2, rfl, -, y2, -⟩ := HB.out i h2
      obtain ⟨m, rfl⟩ := HM.out
      by_cases he : a[i] = b[i]
      · have q1 : (a[i] == b[i]) = true := beq_iff_eq.2 he
        have q2 : (a[i] != b[i]) = false := by rw [bne, q1]; rfl
        have HT2 := Lib.hid (take_eq_step HT.out h1 h2 he)
        obtain ⟨p, hp⟩ : ∃ p, a[i] = p := ⟨_, rfl⟩
        obtain ⟨r, hr⟩ : ∃ r, b[i] = r := ⟨_, rfl⟩
        rw [hp] at y1 q1 q2
        rw [hr] at y2 q1 q2
        clear he hp hr
        go_wp2_with fail
        go_quiet (fail)
        go_wp2_with fail
        go_roundw
        case rel => exact ⟨i + 1, by go_num, by omega, HT2, Lib.hid ⟨m + nq, rfl⟩⟩
        case measure => simp [intOf]; omega
      · have q1 : (a[i] == b[i]) = false := beq_eq_false_iff_ne.2 he
        have q2 : (a[i] != b[i]) = true := by rw [bne, q1]; rfl
        have HR := Lib.hid (show decide (a = b) = false from decide_eq_false fun e => he (by subst e; rfl))
        obtain ⟨p, hp⟩ : ∃ p, a[i] = p := ⟨_, rfl⟩
        obtain ⟨r, hr⟩ : ∃ r, b[i] = r := ⟨_, rfl⟩
        rw [hp] at y1 q1 q2
        rw [hr] at y2 q1 q2
        clear he hp hr
        go_wp2_with fail
        go_quiet (fail)
        go_wp2_with fail
        go_ret
        exact ⟨by rw [HR.out]; rfl, m + nq, by first | rfl | rw [World.drewN_drewN]⟩
    · have HR := Lib.hid (show decide (a = b) = true from decide_eq_true (by
        have h := HT.out
        rw [List.take_of_length_le (by have := HL.out; omega), List.take_of_length_le (by have := HL.out; omega)] at h
        exact h))
      go_wp2_with fail
      go_ret
      exact ⟨by rw [HR.out]; rfl, HM.out⟩
end Word
end Go.Proofs.Ytlckohihlggjbaa
