/- Package word: the reference's words; words put together. -/
import Derived.Test.YtlckohihlggjbaaWordCut
namespace Go.Proofs.Ytlckohihlggjbaa
open Go.RowKit
set_option linter.unusedVariables false
set_option linter.unusedSimpArgs false
theorem strCells_list (m : Str) : Lib.strCells ⟨m.toArray⟩ = m.map encB := by simp [Lib.strCells, encB]
/-- A row of the call's own, behind block 'base': it grows; nothing ahead of 'base' turns. -/
theorem own_grown {B : Nat} {W w w' : World} {e : TypeId} {size n : Nat} {v : Value} {xs : List Value} (hB : W.heap.size = B) (h : w.ownsRow B e size v n xs) (hf : Fr No W w) (hg : w.grownBy w' v.ownBlock) : Fr No W w' :=
  hf.grown hg fun k hk => .inr (by rw [hB]; exact (h.lt k hk).1)
section
variable {P : Program} {W : World} {ops : Array Oper} {rest : List Oper} {o : Oper} {a : Act} {Q : Exit → Act → World → Prop}
/-- 'out = append(out, x)', out a slice of the call's own, behind block B. -/
theorem wp_pushB (hgd : o.guard = none) (s x : Operand) (t : TypeId) (ho : o.op = .call { callee := .builtin .append, args := #[s, x], argTypes := #[t, t] }) (B : Nat) (hB : B ≤ W.heap.size)
    (e : TypeId) (z : Value) (size bytes : Nat) (ht : P.underlying t = some (.slice e)) (hinfo : (P.info? e).map (fun i => (i.zero, i.size, i.bytes)) = some (some z, size, bytes)) (hzs : z.cells.size = size) (hsz : 0 < size)
    (v : Value) (n : Nat) (xs : List Value) (hs : a.eval s = v) (hown : W.ownsRow B e size v n xs)
    (cs : Array Value) (hx : a.eval x = .slice (some ⟨W.heap.size, 0, none⟩) 1 1) (hcs : cs.size = size) (h1 : ∀ u ∈ cs.toList, u.oneCell' = true)
    (hn : (n + 1) * bytes ≤ 140737488355328) (hn2 : n + 1 ≤ maxLen)
    (h : ∀ g cap w', w'.ownsRow B e size (.slice (some ⟨g, 0, none⟩) (n + 1) cap) (n + 1) (xs ++ cs.toList) → (W.alloc (.cells cs e)).grownBy w' v.ownBlock →
      wpList P ops Q rest (a.put o.dst (.slice (some ⟨g, 0, none⟩) (n + 1) cap)) w') : wpList P ops Q (o :: rest) a (W.alloc (.cells cs e)) := by
  obtain ⟨i0, hi, hz0, hz1, hz2⟩ := info_parts hinfo
  refine wpList_append_lies _ hgd s x t ho B e i0 z size bytes ht hi hz0 hz1 hz2 hzs hsz v n xs hs (hown.alloc _) ⟨W.heap.size, 0, none⟩ 1 1 cs.toList hx (by simpa using hcs) (cell_lit W cs e) h1 (by decide) hn2 hn (by simp; omega) _ rfl ?_
  intro g cap w' h2 h3 h4 h5
  exact h g cap w' h2 h3
end
namespace Word
set_option maxRecDepth 100000 in
set_option maxHeartbeats 2000000 in
theorem rcut_any (s : Str) (w : World) (hs : s.length ≤ 1000000) : Calls Try.prog 51 #[.string ⟨s.toArray⟩] w fun e w' => ∃ v, e = .returned v ∧ w'.ownsRow 0 9 1 v (cutR s).length ((cutR s).map encS) ∧ Step No w (Of v) w' := by
  go_enter Try.func51, Try.ntmps51
  go_wp2
  go_loopw [3, 4, 5] (fun o xv iv wr => ∃ (k m : Nat) (out : List Str) (x : Str), iv = .int .i64 k ∧ xv = .string ⟨x.toArray⟩ ∧ k ≤ s.length ∧ m ≤ k ∧ x.length ≤ k ∧ Hid (m = out.length ∧ cutR s = out ++ cutG x (s.drop k)) ∧ Hid (wr.ownsRow 0 9 1 o m (out.map encS) ∧ Step No w (Of o) wr)) (fun _ _ i _ => s.length - (intOf i).toNat)
  case atStart => exact ⟨0, 0, [], [], rfl, rfl, by omega, by omega, by simp, ⟨rfl, rfl⟩, World.ownsRow_nil _ _ _ _, Fr.refl _ _, fun k hk => by cases hk⟩
  case round =>
    obtain ⟨k, m, out, x, rfl, rfl, hk, hm, hxl, Hd, Hw⟩ := hrel
    obtain ⟨A1, c1, hu⟩ := own_form Hw.out.1
    subst hu
    by_cases hlt : k < s.length
    · have hix : (⟨s.toArray⟩ : ByteArray)[k]'(by simpa [ByteArray.size] using hlt) = s[k] := rfl
      have hst := cut_drop hlt x
      rw [← List.nil_append (cutG x _)] at hst
      cases hb : isB s[k]
      · have hb1 : ¬ s[k] = 32 := fun e => by rw [e] at hb; cases hb
        have hb2 : ¬ s[k] = 9 := fun e => by rw [e] at hb; cases hb
        have e1 := (u8_f (n := 32) (d := 32) rfl hb1).2
        have e2 := (u8_f (n := 9) (d := 9) rfl hb2).2
        rw [hb, if_neg (by decide), List.nil_append] at hst
        have Hst := Lib.hid hst
        clear hb hb1 hb2 hst
        have hsl := fun W : World => slice_one (P := Try.prog) W 9 Try.underlying9 s k (k + 1) k hlt rfl (by omega)
        go_wp2
        go_roundw
        case rel => exact ⟨k + 1, m, out, x ++ [s[k]], by go_num, rfl, by omega, by omega, by simp; omega, ⟨Hd.out.1, by rw [Hd.out.2, Hst.out]⟩, Hw.out⟩
        case measure => simp [intOf]; omega
      · have hbb : (((s[k].toNat : Int) != 32) = false) ∨ (((s[k].toNat : Int) != 32) = true ∧ ((s[k].toNat : Int) != 9) = false) := by
          rcases (isB_iff _).1 hb with e | e
          · exact .inl (u8_t (n := 32) rfl e).2
          · exact .inr ⟨(u8_f (n := 32) (d := 32) rfl (by rw [e]; decide)).2, (u8_t (n := 9) rfl e).2⟩
        rw [hb, if_pos rfl, List.nil_append] at hst
        have Hst := Lib.hid hst
        clear hb hst
        cases hx : x.isEmpty
        · have Hx := Lib.hid hx
          rcases hbb with e1 | ⟨e1, e2⟩
          all_goals
            go_wp2_with (at_builtin; go_loud (refine wp_push rfl (.tmp 31) (.tmp 33) 67 rfl 9 (.string ByteArray.empty) 1 16 Try.underlying67 infoS rfl (by decide) _ _ _ rfl Hw.out.1 #[.string ⟨x.toArray⟩] rfl rfl (one_lit rfl) (by omega) (by unfold maxLen; omega) ?_; intro g2 cap2 w2 h1 h2 h3; have P2 := Lib.hid h1; have F2 := Lib.hid (Hw.out.2.trans (Step.of (n := m + 1) (c := cap2) h2 h3)); clear h1 h2 h3))
            go_roundw
            case rel =>
              refine ⟨k + 1, m + 1, out ++ [x], [], by go_num, rfl, by omega, by omega, by simp, ⟨by rw [List.length_append, ← Hd.out.1]; rfl, by rw [Hd.out.2, Hst.out, if_neg (by rw [Hx.out]; decide)]; simp⟩, ?_, F2.out⟩
              rw [List.map_append]; exact P2.out
            case measure => simp [intOf]; omega
        · have hx0 : x = [] := by simpa using hx
          subst hx0
          rcases hbb with e1 | ⟨e1, e2⟩
          all_goals
            go_wp2
            go_roundw
            case rel => exact ⟨k + 1, m, out, [], by go_num, rfl, by omega, by omega, by simp, ⟨Hd.out.1, by rw [Hd.out.2, Hst.out]; rfl⟩, Hw.out⟩
            case measure => simp [intOf]; omega
    · have hst := cut_end (s := s) (k := k) (by omega) x
      cases hx : x.isEmpty
      · rw [hx] at hst
        have HE := Lib.hid (show cutR s = out ++ [x] by rw [Hd.out.2, hst]; rfl)
        have HM := Lib.hid Hd.out.1
        clear hst Hd
        go_wp2_with (at_builtin; go_loud (refine wp_push rfl (.tmp 37) (.tmp 39) 67 rfl 9 (.string ByteArray.empty) 1 16 Try.underlying67 infoS rfl (by decide) _ _ _ rfl Hw.out.1 #[.string ⟨x.toArray⟩] rfl rfl (one_lit rfl) (by omega) (by unfold maxLen; omega) ?_; intro g2 cap2 w2 h1 h2 h3; have P2 := Lib.hid h1; have F2 := Lib.hid (Hw.out.2.trans (Step.of (n := m + 1) (c := cap2) h2 h3)); clear h1 h2 h3))
        go_ret
        refine ⟨_, rfl, ?_, F2.out⟩
        rw [HE.out, List.length_append, List.map_append, ← HM.out]
        exact P2.out
      · rw [hx] at hst
        have HE := Lib.hid (show cutR s = out by rw [Hd.out.2, hst]; simp)
        have HM := Lib.hid Hd.out.1
        clear hst Hd
        go_wp2
        go_ret
        refine ⟨_, rfl, ?_, Hw.out.2⟩
        rw [HE.out, ← HM.out]
        exact Hw.out.1
def joinR : List Str → Str
  | [] => []
  | [a] => a
  | a :: b :: l => a ++ 32 :: joinR (b :: l)
theorem join_snoc (l : List Str) (x : Str) : joinR (l ++ [x]) = if l.isEmpty then x else joinR l ++ 32 :: x := by
  induction l with
  | nil => rfl
  | cons a l ih =>
    cases l with
    | nil => rfl
    | cons b l =>
      have e : (a :: b :: l) ++ [x] = a :: b :: (l ++ [x]) := rfl
      rw [e]
      show a ++ 32 :: joinR ((b :: l) ++ [x]) = _
      rw [ih]
      simp [joinR]
def tot (l : List Str) : Nat := (l.map List.length).sum + l.length
theorem join_len (l : List Str) : (joinR l).length ≤ tot l := by
  induction l with
  | nil => simp [joinR, tot]
  | cons a l ih =>
    cases l with
    | nil => simp [joinR, tot]
    | cons b l =>
      have e : joinR (a :: b :: l) = a ++ 32 :: joinR (b :: l) := rfl
      rw [e]
      simp only [tot, List.map_cons, List.sum_cons, List.length_cons, List.length_append] at ih ⊢
      omega
theorem tot_take {l : List Str} {k : Nat} (h : k < l.length) : tot (l.take (k + 1)) = tot (l.take k) + l[k].length + 1 := by
  rw [List.take_succ_eq_append_getElem h]
  simp only [tot, List.map_append, List.sum_append, List.length_append, List.map_cons, List.map_nil, List.sum_cons, List.sum_nil, List.length_cons, List.length_nil]
  omega
theorem tot_le (l : List Str) (k : Nat) : tot (l.take k) ≤ tot l := by
  induction l generalizing k with
  | nil => simp
  | cons a l ih =>
    cases k with
    | zero => simp [tot]
    | succ k => have := ih k; simp only [tot, List.take_succ_cons, List.map_cons, List.sum_cons, List.length_cons] at this ⊢; omega
theorem join_take {l : List Str} {k : Nat} (h : k < l.length) : joinR (l.take (k + 1)) = if k = 0 then l[k] else joinR (l.take k) ++ 32 :: l[k] := by
  rw [List.take_succ_eq_append_getElem h, join_snoc]
  by_cases hk : k = 0
  · subst hk; rfl
  · rw [if_neg hk, if_neg]
    cases l with
    | nil => simp at h
    | cons a l => cases k with
      | zero => exact absurd rfl hk
      | succ k => simp
set_option maxHeartbeats 2000000 in
theorem rjoin_any (v : Value) (l : List Str) (w : World) (S : Nat → Prop) (hv : RSl 1 RStr w S [v] l) (hl : tot l ≤ 1000000) : Calls Try.prog 53 #[v] w fun e w' => e = .returned (.string ⟨(joinR l).toArray⟩) ∧ ∃ n, w' = w.drewN n := by
  obtain ⟨A, cap, rfl, hc1, hc2, hel⟩ := hv.strs
  unfold maxLen at hc2
  have Hel := Lib.hid hel
  clear hel hv
  go_enter Try.func53, Try.ntmps53
  go_wp2
  go_loopw [3, 4] (fun o i wr => ∃ (k : Nat) (t : Str), i = .int .i64 k ∧ o = .string ⟨t.toArray⟩ ∧ k ≤ l.length ∧ t.length ≤ tot (l.take k) ∧ Hid (t = joinR (l.take k)) ∧ Hid (∃ n, wr = w.drewN n)) (fun _ i _ => l.length - (intOf i).toNat)
  case atStart => exact ⟨0, [], rfl, rfl, by omega, by simp, rfl, 0, rfl⟩
  case round =>
    obtain ⟨k, t, rfl, rfl, hk, ht, Ht, Hd⟩ := hrel
    obtain ⟨n, hn⟩ := Hd.out
    subst hn
    by_cases hlt : k < l.length
    · obtain ⟨ad, rfl, hSa, q1, q2⟩ := Hel.out k hlt
      have hst := join_take hlt
      have htt := tot_take hlt
      have htl := tot_le l (k + 1)
      have htk := tot_le l k
      obtain ⟨x, hx⟩ : ∃ x, x = l[k] := ⟨_, rfl⟩
      rw [← hx] at q1 q2 hst htt
      obtain ⟨T, hT⟩ : ∃ T, T = tot (l.take k) := ⟨_, rfl⟩
      rw [← hT] at ht htt htk
      rw [htt] at htl
      have HT := Lib.hid hT
      have Htt := Lib.hid htt
      clear hx hT htt
      by_cases h0 : k = 0
      · rw [if_pos h0] at hst
        have Hst := Lib.hid hst
        clear hst
        have ht0 := Lib.hid (show t = [] by rw [Ht.out, h0]; rfl)
        have q1' : w.cell? ad = some (.string ⟨x.toArray⟩) := by have := q1; rw [h0, add_zero] at this; exact this
        go_wp2
        go_roundw
        case rel => exact ⟨k + 1, t ++ x, by go_num, rfl, by omega, by rw [Htt.out]; simp; omega, by show t ++ x = _; rw [Hst.out, ht0.out]; rfl, _, rfl⟩
        case measure => simp [intOf]; omega
      · rw [if_neg h0] at hst
        have Hst := Lib.hid hst
        clear hst
        have h0' : 0 < k := by omega
        have hap : (⟨t.toArray⟩ : ByteArray) ++ ⟨#[32]⟩ ++ ⟨x.toArray⟩ = ⟨(t ++ 32 :: x).toArray⟩ := by rw [show t ++ 32 :: x = (t ++ [32]) ++ x by simp]; rfl
        have Hap := Lib.hid hap
        clear hap
        go_wp2
        go_roundw
        case rel => exact ⟨k + 1, t ++ 32 :: x, by go_num, congrArg Value.string Hap.out, by omega, by rw [Htt.out]; simp; omega, by show t ++ 32 :: x = _; rw [Hst.out, Ht.out], _, rfl⟩
        case measure => simp [intOf]; omega
    · have HQ := Lib.hid (show t = joinR l by rw [Ht.out, List.take_of_length_le (by omega)])
      go_wp2
      go_ret
      rw [← HQ.out]
      exact ⟨rfl, n, rfl⟩
theorem infoB : (Try.prog.info? 5).map (fun i => (i.zero, i.size, i.bytes)) = some (some (.int .u8 0), 1, 1) := by kernel_rfl
set_option maxRecDepth 100000 in
set_option maxHeartbeats 2000000 in
theorem join_any (v : Value) (l : List Str) (w : World) (S : Nat → Prop) (hS : ∀ k, S k → k < w.heap.size) (hv : RSl 1 RStr w S [v] l) (hl : tot l ≤ 1000000) : Calls Try.prog 52 #[v] w fun e w' => e = .returned (.string ⟨(joinR l).toArray⟩) ∧ Fr No w w' := by
  obtain ⟨A, cap, rfl, hc1, hc2, hel⟩ := hv.strs
  unfold maxLen at hc2
  have Hel := Lib.hid hel
  have HS := Lib.hid hS
  clear hel hv hS
  go_enter Try.func52, Try.ntmps52
  go_wp2
  go_loopw [3, 8] (fun o i wr => ∃ (k m : Nat), i = .int .i64 k ∧ k ≤ l.length ∧ m ≤ tot (l.take k) ∧ Hid (m = (joinR (l.take k)).length) ∧ Hid (wr.ownsRow w.heap.size 5 1 o m ((joinR (l.take k)).map encB) ∧ Fr No w wr)) (fun _ i _ => l.length - (intOf i).toNat)
  case atStart => exact ⟨0, 0, rfl, by omega, by omega, rfl, World.ownsRow_nil _ _ _ _, Fr.refl _ _⟩
  case round =>
    obtain ⟨k, m, rfl, hk, hm, Hm, Hd⟩ := hrel
    by_cases hlt : k < l.length
    · obtain ⟨ad, rfl, hSa, q1, q2⟩ := Hel.out k hlt
      have hst := join_take hlt
      have htt := tot_take hlt
      have htl := tot_le l (k + 1)
      have htk := tot_le l k
      obtain ⟨x, hx⟩ : ∃ x, x = l[k] := ⟨_, rfl⟩
      rw [← hx] at q1 q2 hst htt
      obtain ⟨T, hT⟩ : ∃ T, T = tot (l.take k) := ⟨_, rfl⟩
      rw [← hT] at hm htt htk
      rw [htt] at htl
      have Htt := Lib.hid htt
      clear hx hT htt
      have hb := HS.out _ hSa
      have q3 : wr.cell? (ad.add k) = some (.string ⟨x.toArray⟩) := (Hd.out.2.cell (by rw [block_add]; exact hb) (fun h => h)).trans q1
      clear q1
      obtain ⟨A, c, hu⟩ := own_form Hd.out.1
      subst hu
      obtain ⟨i0, hi, hz0, hz1, hz2⟩ := info_parts infoB
      have hi := Lib.hid hi
      by_cases h0 : k = 0
      · rw [if_pos h0] at hst
        have Hst := Lib.hid hst
        clear hst
        have hm0 := Lib.hid (show joinR (l.take k) = [] by rw [h0]; rfl)
        have q1' : wr.cell? ad = some (.string ⟨x.toArray⟩) := by have := q3; rw [h0, add_zero] at this; exact this
        go_wp2_with (at_builtin; go_loud (refine Lib.wpList_append_own_string _ rfl (.tmp 18) (.tmp 19) 104 9 rfl w.heap.size 5 i0 Try.underlying104 Try.underlying9 hi.out hz0 hz1 hz2 _ m _ rfl Hd.out.1 ⟨x.toArray⟩ rfl (by show m + x.toArray.size ≤ maxLen; unfold maxLen; simp; omega) (by show m + x.toArray.size ≤ _; simp; omega) Hd.out.2.size ?_; intro v' w2 h1 h2 _; have P1 := Lib.hid h1; have P2 := Lib.hid (own_grown rfl Hd.out.1 Hd.out.2 h2); clear h1 h2))
        go_roundw
        case rel =>
          have hm2 : m + (⟨x.toArray⟩ : ByteArray).size = m + x.length := by simp [ByteArray.size]
          have hmz : m = 0 := by rw [Hm.out, hm0.out]; rfl
          refine ⟨k + 1, m + x.length, by go_num, by omega, by rw [Htt.out]; omega, (show m + x.length = _ by rw [Hst.out, hmz]; simp), ?_, P2.out⟩
          have := P1.out
          rw [hm2, strCells_list, hm0.out] at this
          rw [Hst.out]
          simpa using this
        case measure => simp [intOf]; omega
      · rw [if_neg h0] at hst
        have Hst := Lib.hid hst
        clear hst
        have h0' : 0 < k := by omega
        go_wp2_with (first
          | (at_builtin; (refine wp_pushB rfl (.tmp 15) (.tmp 16) 104 rfl w.heap.size Hd.out.2.size 5 (.int .u8 0) 1 1 Try.underlying104 infoB rfl (by decide) (.slice A m c) m ((joinR (l.take k)).map encB) rfl Hd.out.1 #[.int .u8 32] rfl rfl (one_lit rfl) (by omega) (by unfold maxLen; omega) ?_; intro g1 cap1 w1 h1 h2; have P1 := Lib.hid h1; have P2 := Lib.hid (own_grown rfl (Hd.out.1.alloc _) (Hd.out.2.alloc _) h2); clear h1 h2))
          | (at_builtin; go_loud (refine Lib.wpList_append_own_string _ rfl (.tmp 18) (.tmp 19) 104 9 rfl w.heap.size 5 i0 Try.underlying104 Try.underlying9 hi.out hz0 hz1 hz2 (.slice (some ⟨g1, 0, none⟩) (m + 1) cap1) (m + 1) _ rfl P1.out ⟨x.toArray⟩ rfl (by show m + 1 + x.toArray.size ≤ maxLen; unfold maxLen; simp; omega) (by show m + 1 + x.toArray.size ≤ _; simp; omega) P2.out.size ?_; intro v' w2 h1 h2 _; have P3 := Lib.hid h1; have P4 := Lib.hid (own_grown rfl P1.out P2.out h2); clear h1 h2)))
        go_roundw
        case rel =>
          have hm2 : m + 1 + (⟨x.toArray⟩ : ByteArray).size = m + 1 + x.length := by simp [ByteArray.size]
          refine ⟨k + 1, m + 1 + x.length, by go_num, by omega, by rw [Htt.out]; omega, (show m + 1 + x.length = _ by rw [Hst.out, List.length_append, ← Hm.out]; simp; omega), ?_, P4.out⟩
          have := P3.out
          rw [hm2, strCells_list] at this
          rw [Hst.out]
          simpa [encB] using this
        case measure => simp [intOf]; omega
    · have hkl : l.take k = l := List.take_of_length_le (by omega)
      obtain ⟨d1, d2⟩ := Hd.out
      rw [hkl] at d1
      have hmm : m = (joinR l).length := by rw [Hm.out, hkl]
      obtain ⟨A, c, hu⟩ := own_form d1
      subst hu
      have d1' : wr.ownsRow w.heap.size 5 1 (.slice A m c) (joinR l).length ((joinR l).map encB) := by rw [← hmm]; exact d1
      have hcv := conv_bytes (P := Try.prog) (w := wr) 104 9 5 Try.underlying104 Try.underlying5 Try.underlying9 (own_bytes d1')
      have D2 := Lib.hid d2
      obtain ⟨q, hq⟩ : ∃ q, q = joinR l := ⟨_, rfl⟩
      rw [← hq] at hcv
      have HQ := Lib.hid hq
      clear d1 d1' d2 hkl hmm hq Hd Hm
      go_wp2
      go_ret
      rw [← HQ.out]
      exact ⟨rfl, D2.out⟩
end Word
end Go.Proofs.Ytlckohihlggjbaa
