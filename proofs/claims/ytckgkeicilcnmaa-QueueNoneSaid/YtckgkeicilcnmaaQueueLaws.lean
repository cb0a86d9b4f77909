/- The reference of package queue, and the walks of its three laws. -/
import Derived.Test.YtckgkeicilcnmaaQueue
namespace Go.Proofs.Ytckgkeicilcnmaa
open Go.RowKit
set_option linter.unusedVariables false
set_option linter.unusedSimpArgs false
namespace Ref29
open Sint
theorem place_any (v : Value) (l : List Int) (x : Int) (w : World) (S : Nat → Prop) (hv : RSl 1 (RInt .i64) w S [v] l) : Calls Try.prog 31 #[v, .int .i64 x] w fun e w' => e = .returned (.int .i64 (place l x)) ∧ w = w' := by
  obtain ⟨A, cap, rfl, hc1, hc2, hel⟩ := hv.ints
  clear hv
  unfold maxLen at hc2
  have Hel := Lib.hid hel
  clear hel
  go_enter Try.func31, Try.ntmps31
  go_wp2
  go_loop [5] (fun i => ∃ k : Nat, i = .int .i64 k ∧ k ≤ l.length ∧ Hid (∀ j (h : j < l.length), j < k → (l[j] == x) = false)) (fun i => l.length - (intOf i).toNat)
  case atStart => exact ⟨0, rfl, by omega, fun j _ h => absurd h (by omega)⟩
  case round =>
    obtain ⟨k, rfl, hk, hd⟩ := hrel
    by_cases hlt : k < l.length
    · obtain ⟨ad, rfl, _, hcell, _⟩ := Hel.out k hlt
      cases hx : l[k] == x
      · have hn : Hid (∀ j (h : j < l.length), j < k + 1 → (l[j] == x) = false) := by
          intro j h hj
          by_cases e : j = k
          · subst e; exact hx
          · exact hd.out j h (by omega)
        clear hd
        go_wp2
        go_round
        case rel => exact ⟨k + 1, by go_num, by omega, hn⟩
        case measure => simp [intOf]; omega
      · have hf : Hid (place l x = (k : Int)) := place_at hlt hx hd.out
        clear hd
        go_wp2
        go_ret
        exact ⟨ret_int hf.out.symm, rfl⟩
    · have hf : Hid (place l x = -1) := place_none fun j h => hd.out j h (by omega)
      clear hd
      go_wp2
      go_ret
      exact ⟨ret_int hf.out.symm, rfl⟩
theorem drop_any (v : Value) (l : List Int) (x : Int) (w : World) (S : Nat → Prop) (hS : ∀ k, S k → k < w.heap.size) (hv : RSl 1 (RInt .i64) w S [v] l) (hlen : l.length ≤ 4096) : Calls Try.prog 42 #[v, .int .i64 x] w fun e w' => ∃ v', e = .returned v' ∧ w'.ownsRow 0 3 1 v' (l.filter (· != x)).length ((l.filter (· != x)).map enc) ∧ Fr No w w' ∧ (∀ k, Of v' k → New w w' k) := by
  have Hv := Lib.hid hv
  obtain ⟨A, cap, rfl, hc1, hc2, hel⟩ := hv.ints
  clear hv
  unfold maxLen at hc2
  have Hel := Lib.hid hel
  have HS := Lib.hid hS
  clear hel hS
  go_enter Try.func42, Try.ntmps42
  go_wp2
  go_loopw [5, 6] (fun o i wr => ∃ k : Nat, i = .int .i64 k ∧ k ≤ l.length ∧ wr.ownsRow 0 3 1 o ((l.take k).filter (· != x)).length (((l.take k).filter (· != x)).map enc) ∧ Hid (Fr No w wr ∧ (∀ k, Of o k → New w wr k))) (fun _ i _ => l.length - (intOf i).toNat)
  case atStart => exact ⟨0, rfl, by omega, World.ownsRow_nil _ _ _ _, Fr.refl _ _, fun k hk => by cases hk⟩
  case round =>
    obtain ⟨k, rfl, hk, hown, hd⟩ := hrel
    have Hown := Lib.hid hown
    clear hown
    by_cases hlt : k < l.length
    · obtain ⟨ad, rfl, hSa, hcell, _⟩ := Hel.out k hlt
      have hcell' : wr.cell? (ad.add k) = some (.int .i64 l[k]) := by rw [hd.out.1.cell (by rw [block_add]; exact HS.out _ hSa) (fun h => h)]; exact hcell
      have hll : ((l.take k).filter (· != x)).length ≤ k := Nat.le_trans (List.length_filter_le _ _) (by simp; omega)
      cases hx : l[k] != x
      · have hn := Lib.hid (show (l.take (k + 1)).filter (· != x) = (l.take k).filter (· != x) by rw [List.take_succ_eq_append_getElem hlt, List.filter_append]; simp [hx])
        clear hcell hll
        go_wp2
        go_roundw
        case rel => exact ⟨k + 1, by go_num, by omega, by rw [hn.out]; exact Hown.out, hd⟩
        case measure => simp [intOf]; omega
      · have hn := Lib.hid (show (l.take (k + 1)).filter (· != x) = (l.take k).filter (· != x) ++ [l[k]] by rw [List.take_succ_eq_append_getElem hlt, List.filter_append]; simp [hx])
        clear hcell
        go_wp2_with (at_builtin; go_loud (refine wp_push rfl _ _ 32 rfl 3 (.int .i64 0) 1 8 Try.underlying32 infoE rfl (by decide) _ _ _ rfl Hown.out #[.int .i64 l[k]] rfl rfl (one_lit rfl) (by omega) (by unfold maxLen; omega) ?_; intro g cap' w1 h1 h2 h3; have H1 := Lib.hid h1; have H2 := Lib.hid h2; have H3 := Lib.hid h3; clear h1 h2 h3))
        go_roundw
        case rel =>
          refine ⟨k + 1, by go_num, by omega, ?_, hd.out.1.trans H2.out (fun b hb hl => ?_), fun j hj => ?_⟩
          · rw [hn.out]
            have := H1.out
            simpa [enc] using this
          · have := (hd.out.2 b hb).1; omega
          · have hj' : some g = some j := hj
            injection hj' with hj'
            subst hj'
            rcases H3.out with h | h
            · exact ⟨(hd.out.2 _ h).1, Nat.lt_of_lt_of_le (hd.out.2 _ h).2 H2.out.size⟩
            · exact ⟨Nat.le_trans hd.out.1.size h.1, h.2⟩
        case measure => simp [intOf]; omega
    · go_wp2
      go_ret
      have hn : l.take k = l := List.take_of_length_le (by omega)
      have h1 := Hown.out
      rw [hn] at h1
      exact ⟨_, rfl, h1, hd.out.1, hd.out.2⟩
theorem rint_enc : ∀ (x : Int) (S : Nat → Prop) (w : World) (cs : List Value), RInt .i64 w S cs x → cs = [enc x] := fun x S w cs h => h.1
def putS (l : List Int) (most x : Int) : List Int := (Qint.putR l most x).1
theorem put_any (v : Value) (l : List Int) (most x : Int) (w : World) (S : Nat → Prop) (hS : ∀ k, S k → k < w.heap.size) (hv : RSl 1 (RInt .i64) w S [v] l) (hx : (Lit.int .i64 x).wf = true) (hlen : l.length ≤ 4096) :
    Calls Try.prog 44 #[v, .int .i64 most, .int .i64 x] w fun e w' => ∃ v', e = .returned (.tuple #[v', .int .i64 (Qint.putR l most x).2]) ∧ RSl 1 (RInt .i64) w' (fun k => S k ∨ New w w' k) [v'] (Qint.putR l most x).1 ∧ Fr No w w' := by
  have Hv := Lib.hid hv
  obtain ⟨A, cap, rfl, hc1, hc2⟩ := hv.slice
  have hnews := Lib.hid (sl_news hv rint_enc)
  clear hv
  unfold maxLen at hc2
  have HS := Lib.hid hS
  clear hS
  by_cases hp : 0 ≤ place l x
  · have hr := Lib.hid (show Qint.putR l most x = (l, 8) by simp [Qint.putR, hp])
    go_enter Try.func44, Try.ntmps44
    go_wp2_with (go_at_call 31; refine (place_any _ l x _ _ Hv.out).mono ?_; rintro e w' ⟨rfl, rfl⟩)
    go_ret2
    rw [hr.out]
    exact ⟨_, rfl, ints_go Hv.out (Kept.refl _ _) (fun k h => .inl h), Fr.refl _ _⟩
  · by_cases hm : most ≤ l.length
    · have hr := Lib.hid (show Qint.putR l most x = (l, 6) by simp [Qint.putR, hp, hm])
      go_enter Try.func44, Try.ntmps44
      go_wp2_with (go_at_call 31; refine (place_any _ l x _ _ Hv.out).mono ?_; rintro e w' ⟨rfl, rfl⟩)
      go_ret2
      rw [hr.out]
      exact ⟨_, rfl, ints_go Hv.out (Kept.refl _ _) (fun k h => .inl h), Fr.refl _ _⟩
    · have hr := Lib.hid (show Qint.putR l most x = (l ++ [x], 0) by simp [Qint.putR, hp, hm])
      go_enter Try.func44, Try.ntmps44
      go_wp2_with (first
        | (go_at_call 31; refine (place_any _ l x _ _ Hv.out).mono ?_; rintro e w' ⟨rfl, rfl⟩)
        | (at_builtin; refine wp_app rfl (.tmp 19) (.tmp 20) 32 rfl 3 (.int .i64 0) 1 8 Try.underlying32 infoE rfl (by decide) _ 0 [] rfl (World.ownsRow_nil _ _ _ _) (m := l.length) (news := l.map enc) rfl (by simp) hnews.out (enc_one l) (by omega) (by unfold maxLen; omega) ?_; intro v1 w1 h1 h2 h3; simp only [Nat.zero_add, List.nil_append] at h1; obtain ⟨A1, c1, rfl⟩ := own_form h1; have H1 := Lib.hid h1; have H2 := Lib.hid h2; have H3 := Lib.hid h3; clear h1 h2 h3)
        | (at_builtin; refine wp_push rfl (.tmp 22) (.tmp 24) 32 rfl 3 (.int .i64 0) 1 8 Try.underlying32 infoE rfl (by decide) _ _ _ rfl H1.out #[.int .i64 x] rfl rfl (one_lit rfl) (by omega) (by unfold maxLen; omega) ?_; intro g cap' w2 h1 h2 h3; have K1 := Lib.hid h1; have K2 := Lib.hid h2; have K3 := Lib.hid h3; clear h1 h2 h3))
      go_ret2
      rw [hr.out]
      have e1 : Fr No w w1 := H2.out.mono fun b hb _ => by cases hb
      have e2 : ∀ g, Of (Value.slice A1 l.length c1) g → New w w1 g := fun g hg => (H3.out g hg).elim (fun h => by cases h) (fun h => h)
      refine ⟨_, rfl, ?_, e1.trans K2.out (fun b hb hl => by have := (e2 b hb).1; omega)⟩
      have hk1 : w2.ownsRow 0 3 1 (.slice (some ⟨g, 0, none⟩) (l.length + 1) cap') (l ++ [x]).length ((l ++ [x]).map enc) := by simpa [enc] using K1.out
      have := own_sl (R := RInt .i64) (enc := enc) (l := l ++ [x]) (v := .slice (some ⟨g, 0, none⟩) (l.length + 1) cap') hk1 rfl (fun y hy S => ⟨rfl, by
        rw [List.mem_append] at hy
        rcases hy with hy | hy
        · exact (RSl.wfs Hv.out y hy)
        · rw [List.mem_singleton.1 hy]; exact hx⟩)
      refine ints_go this (Kept.refl _ _) fun k hk => .inr ?_
      have hk' : some g = some k := hk
      injection hk' with hk'
      subst hk'
      rcases K3.out with h | h
      · exact ⟨(e2 _ h).1, Nat.lt_of_lt_of_le (e2 _ h).2 K2.out.size⟩
      · exact ⟨Nat.le_trans e1.size h.1, h.2⟩
theorem same_any (v u : Value) (l m : List Int) (w : World) (S T : Nat → Prop) (hv : RSl 1 (RInt .i64) w S [v] l) (hu : RSl 1 (RInt .i64) w T [u] m) :
    Calls Try.prog 45 #[v, u] w fun e w' => e = .returned (.bool (decide (l = m))) ∧ ∃ n, w' = w.drewN n := by
  obtain ⟨A, cap, rfl, hc1, hc2, hel⟩ := hv.ints
  obtain ⟨B, cap', rfl, hd1, hd2, hem⟩ := hu.ints
  clear hv hu
  unfold maxLen at hc2 hd2
  have Hel := Lib.hid hel
  have Hem := Lib.hid hem
  clear hel hem
  by_cases hlen : l.length = m.length
  · have Hlen := Lib.hid hlen
    have hb : ((l.length : Int) != (m.length : Int)) = false := by simp [hlen]
    have hlm : l.length ≤ m.length := by omega
    clear hlen
    go_enter Try.func45, Try.ntmps45
    go_wp2
    go_loopw [5] (fun i wr => ∃ k : Nat, i = .int .i64 k ∧ k ≤ l.length ∧ Hid (∃ n, wr = w.drewN n) ∧ Hid (∀ j (h : j < l.length) (h' : j < m.length), j < k → l[j] = m[j])) (fun i _ => l.length - (intOf i).toNat)
    case atStart => exact ⟨0, rfl, by omega, ⟨0, rfl⟩, fun j _ _ h => absurd h (by omega)⟩
    case round =>
      obtain ⟨k, rfl, hk, hw, hd⟩ := hrel
      obtain ⟨n, hn⟩ := hw.out
      subst hn
      by_cases hlt : k < l.length
      · have hlt' : k < m.length := by omega
        obtain ⟨ad, rfl, _, hcell, _⟩ := Hel.out k hlt
        obtain ⟨bd, rfl, _, hcell', _⟩ := Hem.out k hlt'
        by_cases hx : l[k] = m[k]
        · have hx' : (l[k] != m[k]) = false := by simp [hx]
          have hn : Hid (∀ j (h : j < l.length) (h' : j < m.length), j < k + 1 → l[j] = m[j]) := by
            intro j h h' hj
            by_cases e : j = k
            · subst e; exact hx
            · exact hd.out j h h' (by omega)
          clear hd hx
          go_wp2
          go_quiet (fail)
          go_wp2
          go_roundw
          case rel => exact ⟨k + 1, by go_num, by omega, ⟨_, rfl⟩, hn⟩
          case measure => simp [intOf]; omega
        · have hx' : (l[k] != m[k]) = true := by simp [hx]
          have hne : decide (l = m) = false := by
            rw [decide_eq_false_iff_not]
            intro e; subst e; exact hx rfl
          have Hne := Lib.hid hne
          clear hd hx hne
          go_wp2
          go_quiet (fail)
          go_wp2
          go_ret
          exact ⟨ret_bool Hne.out.symm, _, World.drewN_drewN _ _ _⟩
      · have he : Hid (decide (l = m) = true) := by
          show decide (l = m) = true
          rw [decide_eq_true_iff]
          exact List.ext_getElem Hlen.out fun j h h' => hd.out j h h' (by omega)
        clear hd
        go_wp2
        go_ret
        exact ⟨ret_bool he.out.symm, n, rfl⟩
  · have hb : ((l.length : Int) != (m.length : Int)) = true := by simp; omega
    have hne : decide (l = m) = false := by
      rw [decide_eq_false_iff_not]
      intro e; subst e; exact hlen rfl
    have Hne := Lib.hid hne
    clear hlen hne
    go_enter Try.func45, Try.ntmps45
    go_wp2
    go_ret
    exact ⟨ret_bool Hne.out.symm, 0, rfl⟩
end Ref29
namespace Law29
open Qstr in
theorem p1 : putR [] 2 [120] = ([[120]], 0) := by decide +kernel
open Qstr in
theorem p2 : putR [[120]] 2 [121] = ([[120], [121]], 0) := by decide +kernel
open Qstr in
theorem p3 : putR [[120], [121]] 2 [120] = ([[120], [121]], 8) := by decide +kernel
open Qstr in
theorem p4 : putR [[120], [121]] 2 [122] = ([[120], [121]], 6) := by decide +kernel
theorem p5 : place ([[120], [121]] : List Str) [121] = 1 := by decide +kernel
theorem p6 : place ([[121]] : List Str) [121] = 0 := by decide +kernel
theorem p7 : place ([] : List Str) [121] = -1 := by decide +kernel
theorem e1 : ([[121]] : List Str).erase [121] = [] := by decide +kernel
set_option maxHeartbeats 1000000 in
theorem works_any (w : World) : Calls Try.prog 27 #[] w fun e w' => e = .returned (.bool true) ∧ Fr No w w' := by
  go_enter Try.func27, Try.ntmps27
  go_wp2_with fail
  refine (Qstr.new_yes 2 _ (by decide) (by decide)).mono ?_
  rintro e w1 ⟨b, rfl, hq, hf⟩
  have Q0 := Lib.hid hq; have F0 := Lib.hid hf; clear hq hf
  go_wp2_with fail
  refine (Qint.new_no 0 _ (.inl (by decide))).mono ?_
  rintro e w2 ⟨rfl, rfl⟩
  go_wp2_with fail
  refine (Qstr.put_any [120] (by unfold Qstr.Wf maxLen; decide) Q0.out).mono ?_
  rintro e w2 ⟨G1, rfl, hq, hs⟩
  rw [p1] at hq ⊢
  have Q1 := Lib.hid hq; have S1 := Lib.hid hs; clear hq hs
  go_wp2_with fail
  refine (Qstr.put_any [121] (by unfold Qstr.Wf maxLen; decide) Q1.out).mono ?_
  rintro e w3 ⟨G2, rfl, hq, hs⟩
  rw [p2] at hq ⊢
  have Q2 := Lib.hid hq; have S2 := Lib.hid hs; clear hq hs
  go_wp2_with fail
  refine (Qstr.put_any [120] (by unfold Qstr.Wf maxLen; decide) Q2.out).mono ?_
  rintro e w4 ⟨G3, rfl, hq, hs⟩
  rw [p3] at hq ⊢
  have Q3 := Lib.hid hq; have S3 := Lib.hid hs; clear hq hs
  go_wp2_with fail
  refine (Qstr.put_any [122] (by unfold Qstr.Wf maxLen; decide) Q3.out).mono ?_
  rintro e w5 ⟨G4, rfl, hq, hs⟩
  rw [p4] at hq ⊢
  have Q4 := Lib.hid hq; have S4 := Lib.hid hs; clear hq hs
  go_wp2_with fail
  refine (Qstr.place_q [121] Q4.out).mono ?_
  rintro e w6 ⟨rfl, rfl⟩
  rw [p5]
  go_wp2_with fail
  refine (Qstr.take_yes [120] [[121]] Q4.out).mono ?_
  rintro e w6 ⟨rfl, hq, hs⟩
  have Q5 := Lib.hid hq; have S5 := Lib.hid hs; clear hq hs
  go_wp2_with fail
  refine (Qstr.drop_any [121] Q5.out).mono ?_
  rintro e w7 ⟨rfl, hq, hs⟩
  rw [p6, e1] at *
  have Q6 := Lib.hid hq; have S6 := Lib.hid hs; clear hq hs
  go_wp2_with fail
  refine (Qstr.drop_any [121] Q6.out).mono ?_
  rintro e w8 ⟨rfl, hq, hs⟩
  rw [p7] at *
  have Q7 := Lib.hid hq; have S7 := Lib.hid hs; clear hq hs
  go_wp2_with fail
  refine (Qstr.len_any Q7.out).mono ?_
  rintro e w9 ⟨rfl, rfl⟩
  go_wp2_with fail
  go_ret
  refine ⟨rfl, F0.out.trans ((((((S1.out.trans S2.out).trans S3.out).trans S4.out).trans S5.out).trans S6.out).trans S7.out).1 fun k hk hl => ?_⟩
  have := hk.1
  omega
theorem none_any (x : Int) (w : World) : Calls Try.prog 11 #[.int .i64 x] w fun e w' => e = .returned (.bool true) ∧ Fr No w w' := by
  go_enter Try.func11, Try.ntmps11
  go_wp2_with (first
    | (go_at_call 30; refine (Qint.nil_take _).mono ?_; rintro e w' ⟨rfl, rfl⟩)
    | (go_at_call 29; refine (Qint.nil_put _ _).mono ?_; rintro e w' ⟨rfl, rfl⟩)
    | (go_at_call 43; refine (Qint.nil_drop _ _).mono ?_; rintro e w' ⟨rfl, rfl⟩)
    | (go_at_call 47; refine (Qint.nil_len _).mono ?_; rintro e w' ⟨rfl, rfl⟩)
    | (go_at_call 46; refine (Qint.nil_all _).mono ?_; rintro e w' ⟨rfl, rfl⟩)
    | (go_at_call 48; refine (Qint.nil_place _ _).mono ?_; rintro e w' ⟨rfl, rfl⟩)
    | (go_at_call 27; refine (works_any _).mono ?_; rintro e w' ⟨rfl, hf⟩; have Hf := Lib.hid hf; clear hf))
  go_ret
  exact ⟨rfl, Hf.out⟩
theorem place_new {l : List Int} {x : Int} (h : ¬ 0 ≤ place l x) : x ∉ l := by
  rcases place_cases l x with ⟨_, h2⟩ | ⟨k, _, h1, _⟩
  · intro hm
    obtain ⟨j, hj, rfl⟩ := List.getElem_of_mem hm
    have := h2 j hj
    simp at this
  · omega
theorem place_of_not {l : List Int} {x : Int} (h : x ∉ l) : place l x = -1 := place_none fun j hj => by
  rw [beq_eq_false_iff_ne]
  intro e
  exact h (e ▸ List.getElem_mem hj)
set_option maxHeartbeats 1000000 in
theorem order_any (v : Value) (l : List Int) (w : World) (hv : RSl 1 (RInt .i64) w (Ahead w.heap.size) [v] l) : Calls Try.prog 7 #[v] w fun e w' => e = .returned (.bool true) ∧ Fr No w w' := by
  have wfs := Lib.hid hv.wfs
  obtain ⟨A, cap, rfl, hc1, hc2, hel⟩ := hv.ints
  clear hv
  unfold maxLen at hc2
  have Hel := Lib.hid hel
  clear hel
  by_cases hbig : 80 < l.length
  · go_enter Try.func7, Try.ntmps7
    go_wp2_with (go_at_call 27; refine (works_any _).mono ?_; rintro e w' ⟨rfl, hf⟩; have Hf := Lib.hid hf; clear hf)
    go_ret
    exact ⟨rfl, Hf.out⟩
  · go_enter Try.func7, Try.ntmps7
    go_wp2_with (go_at_call 28; refine (Qint.new_yes 100 _ (by decide) (by decide)).mono ?_; rintro e w0 ⟨b, rfl, hq, hf⟩; have Q0 := Lib.hid hq; have F0 := Lib.hid hf; clear hq hf)
    go_loopw [5, 6] (fun o i wr => ∃ (k : Nat) (q : List Int) (F : Nat → Prop), i = .int .i64 k ∧ k ≤ l.length ∧ q.length ≤ k ∧ Hid (Qint.QAt wr F b q 100 ∧ (∀ k, F k → w.heap.size ≤ k) ∧ q.Nodup ∧ wr.ownsRow 0 3 1 o q.length (q.map Sint.enc) ∧ Fr No w wr ∧ (∀ k, Of o k → ¬ F k ∧ w.heap.size ≤ k))) (fun _ i _ => l.length - (intOf i).toNat)
    case atStart => exact ⟨0, [], New w w0, rfl, by omega, by simp, Q0.out, fun k hk => hk.1, List.nodup_nil, World.ownsRow_nil _ _ _ _, F0.out, fun k hk => by cases hk⟩
    case round =>
      obtain ⟨k, q, F, rfl, hk, hqk, hd⟩ := hrel
      by_cases hlt : k < l.length
      · obtain ⟨ad, rfl, hSa, hcell, hwf⟩ := Hel.out k hlt
        have hcell' : wr.cell? (ad.add k) = some (.int .i64 l[k]) := by rw [hd.out.2.2.2.2.1.cell (by rw [block_add]; exact hSa) (fun h => h)]; exact hcell
        have Hwf := Lib.hid hwf
        clear hcell hwf
        by_cases hp : 0 ≤ place q l[k]
        · have hr := Lib.hid (show Qint.putR q 100 l[k] = (q, 8) by simp [Qint.putR, hp])
          go_wp2_with (go_at_call 29; refine (Qint.put_any _ Hwf.out hd.out.1).mono ?_; rintro e w1 ⟨F1, rfl, hq1, hs1⟩; rw [hr.out] at hq1 ⊢; have Q1 := Lib.hid hq1; have S1 := Lib.hid hs1; clear hq1 hs1)
          go_roundw
          case rel =>
            obtain ⟨d1, d2, d3, d4, d5, d6⟩ := hd.out
            refine ⟨k + 1, q, F1, by go_num, by omega, by omega, Q1.out, fun j hj => ?_, d3, own_fr d4 S1.out.1 (fun j hj => (d6 j hj).1), d5.trans S1.out.1 (fun j hj hl => absurd (d2 j hj) (by omega)), fun j hj => ⟨fun h => ?_, (d6 j hj).2⟩⟩
            · rcases S1.out.2 j hj with h | h
              · exact d2 j h
              · exact Nat.le_trans d5.size h.1
            · rcases S1.out.2 j h with h | h
              · exact (d6 j hj).1 h
              · have := (d4.lt j hj).2; have := h.1; omega
          case measure => simp [intOf]; omega
        · have hr := Lib.hid (show Qint.putR q 100 l[k] = (q ++ [l[k]], 0) by simp [Qint.putR, hp]; omega)
          have hn := Lib.hid (place_new hp)
          go_wp2_with (first
            | (go_at_call 29; refine (Qint.put_any _ Hwf.out hd.out.1).mono ?_; rintro e w1 ⟨F1, rfl, hq1, hs1⟩; rw [hr.out] at hq1 ⊢; have hown := own_fr hd.out.2.2.2.1 hs1.1 (fun j hj => (hd.out.2.2.2.2.2 j hj).1); have hcell'' : w1.cell? (ad.add k) = some (.int .i64 l[k]) := (hs1.1.cell (by rw [block_add]; have := hd.out.2.2.2.2.1.size; simp only [Ahead] at hSa; omega) (by rw [block_add]; intro h; have := hd.out.2.1 _ h; simp only [Ahead] at hSa; omega)).trans hcell'; have Hown := Lib.hid hown; have Q1 := Lib.hid hq1; have S1 := Lib.hid hs1; clear hq1 hs1 hown)
            | (at_builtin; refine wp_push rfl _ _ 32 rfl 3 (.int .i64 0) 1 8 Try.underlying32 Sint.infoE rfl (by decide) _ _ _ rfl Hown.out #[.int .i64 l[k]] rfl rfl (one_lit rfl) (by omega) (by unfold maxLen; omega) ?_; intro g cap' w2 h1 h2 h3; have H1 := Lib.hid h1; have H2 := Lib.hid h2; have H3 := Lib.hid h3; clear h1 h2 h3))
          go_roundw
          case rel =>
            obtain ⟨d1, d2, d3, d4, d5, d6⟩ := hd.out
            have hOF : ∀ j, F1 j → ¬ Of u5 j := fun j hj ho => by
              rcases S1.out.2 j hj with h | h
              · exact (d6 j ho).1 h
              · have := (d4.lt j ho).2; have := h.1; omega
            have f1 : Fr No w w1 := d5.trans S1.out.1 (fun j hj hl => absurd (d2 j hj) (by omega))
            refine ⟨k + 1, q ++ [l[k]], F1, by go_num, by omega, by simp; omega, Q1.out.fr H2.out hOF, fun j hj => ?_, ?_, ?_, f1.trans H2.out (fun j hj hl => absurd (d6 j hj).2 (by omega)), fun j hj => ?_⟩
            · rcases S1.out.2 j hj with h | h
              · exact d2 j h
              · exact Nat.le_trans d5.size h.1
            · rw [List.nodup_append]
              exact ⟨d3, by simp, fun a ha b hb => by rw [List.mem_singleton.1 hb]; exact fun e => hn.out (e ▸ ha)⟩
            · simpa [Sint.enc] using H1.out
            · have hj' : some g = some j := hj
              injection hj' with hj'
              subst hj'
              rcases H3.out with h | h
              · exact ⟨fun hh => hOF _ hh h, (d6 _ h).2⟩
              · obtain ⟨_, _, _, _, _, h5, _⟩ := Q1.out
                exact ⟨fun hh => by have := h5 _ hh; have := h.1; omega, Nat.le_trans f1.size h.1⟩
          case measure => simp [intOf]; omega
      · have hq80 : q.length ≤ 80 := by omega
        clear hk
        have hwfq : Hid (∀ y ∈ q, Qint.Wf y) := by obtain ⟨_, _, _, _, _, _, h6, _⟩ := hd.out.1; exact h6
        obtain ⟨A', c', hu⟩ := own_form hd.out.2.2.2.1
        subst hu
        obtain ⟨d1, d2, d3, d4, d5, d6⟩ := hd.out
        have hc' : c' ≤ 9223372036854775807 ∧ q.length ≤ c' := by
          rcases d4.2 with ⟨h, h0⟩ | ⟨_, _, _, h, _, _, h1, h2, _⟩
          · injection h with _ h1 h2; omega
          · injection h with _ _ h3; subst h3; unfold maxLen at h2; omega
        obtain ⟨hc'1, hc'2⟩ := hc'
        have D0 : Hid (Qint.QAt wr F b q 100) := d1
        have D2 := Lib.hid d2; have D3 := Lib.hid d3; have D4 := Lib.hid d4; have D5 := Lib.hid d5; have D6 := Lib.hid d6
        clear hd d1 d2 d3 d4 d5 d6
        obtain ⟨wo, rfl⟩ : ∃ wo : World, wo = wr := ⟨_, rfl⟩
        go_wp2_with fail
        go_loopw [7, 8, 9] (fun i _ _ wr => ∃ (j : Nat), i = .int .i64 j ∧ j ≤ q.length ∧ Hid (Qint.QAt wr F b (q.drop j) 100 ∧ Fr F wo wr)) (fun i _ _ _ => q.length - (intOf i).toNat)
        case atStart => exact ⟨0, rfl, by omega, D0.out, Fr.refl _ _⟩
        case round =>
          obtain ⟨j, rfl, hj, hd⟩ := hrel
          by_cases hlt : j < q.length
          · have hcons := Lib.hid (List.drop_eq_getElem_cons hlt)
            have H4 := Lib.hid (own_sl (R := RInt .i64) (enc := Sint.enc) D4.out rfl (fun y hy S => ⟨rfl, hwfq.out y hy⟩))
            have Hcell := Lib.hid (H4.out.ints)
            obtain ⟨A2, c2, hA2, _, _, hel2⟩ := Hcell.out
            injection hA2 with hA2 _ hc2'
            subst hA2 hc2'
            obtain ⟨bd, rfl, hSb, hcb, _⟩ := hel2 j hlt
            have hpl : Hid (place (q.take j) q[j] = -1) := place_of_not fun hm => by
              have := D3.out
              rw [← List.take_append_drop j q, List.nodup_append] at this
              exact this.2.2 _ hm _ (by rw [List.drop_eq_getElem_cons hlt]; exact List.mem_cons_self) rfl
            have hdis : Hid (∀ g, Of (Value.slice (some bd) q.length c') g → ¬ F g) := fun g hg => (D6.out g hg).1
            clear hel2 Hcell
            have hrun : Hid (Qint.QAt wr F b (q[j] :: q.drop (j + 1)) 100) := by
              have := hd.out.1; rwa [hcons.out] at this
            have hjl : j ≤ c' := by omega
            go_wp2_with (first
              | (go_at_call 30; refine (Qint.take_yes q[j] (q.drop (j + 1)) hrun.out).mono ?_; rintro e w1 ⟨rfl, hq1, hs1⟩; have hF := hd.out.2.trans hs1.1 (fun _ h _ => h); have hkp := Kept.of_fr hF (fun k hk => ⟨(D4.out.lt k hk).2, hdis.out k hk⟩); have hcb1 : w1.cell? (bd.add j) = some (.int .i64 q[j]) := (hkp _ (by rw [block_add]; exact hSb)).trans hcb; have Hr := Lib.hid ((ints_go H4.out hkp (fun _ h => h)).cut (k := j) hj); have Q1 := Lib.hid hq1; have HF := Lib.hid hF; clear hq1 hs1 hF hkp)
              | (go_at_call 31; refine (Ref29.place_any _ (q.take j) q[j] _ _ Hr.out).mono ?_; rintro e w' ⟨rfl, rfl⟩; rw [hpl.out]))
            go_roundw
            case rel => exact ⟨j + 1, by go_num, by omega, Q1.out, HF.out⟩
            case measure => simp [intOf]; omega
          · have hrun : Hid (Qint.QAt wr F b [] 100) := by
              have := hd.out.1; rwa [List.drop_of_length_le (by omega)] at this
            go_wp2_with (first
              | (go_at_call 30; refine (Qint.take_no hrun.out).mono ?_; rintro e w1 ⟨rfl, rfl⟩)
              | (go_at_call 27; refine (works_any _).mono ?_; rintro e w' ⟨rfl, hf⟩; have Hf := Lib.hid hf; clear hf))
            go_ret
            exact ⟨rfl, (D5.out.trans hd.out.2 (fun b hb hl => absurd (D2.out b hb) (by omega))).then_no Hf.out⟩
/-- What holds in the middle of a play: the queue has q, the reference has r, in the slice o. -/
def Inv (B : World) (b : Nat) (most : Int) (w : World) (q r : List Int) (o : Value) : Prop :=
  ∃ F S, Qint.QAt w F b q most ∧ (∀ k, F k → B.heap.size ≤ k) ∧ RSl 1 (RInt .i64) w S [o] r ∧ Fr No B w ∧ (∀ k, S k → ¬ F k ∧ B.heap.size ≤ k ∧ k < w.heap.size)
section
variable {B : World} {b : Nat} {most : Int} {w w' : World} {q r : List Int} {o : Value}
theorem Inv.no (h : Inv B b most w q r o) (hf : Fr No w w') : Inv B b most w' q r o := by
  obtain ⟨F, S, h1, h2, h3, h4, h5⟩ := h
  exact ⟨F, S, h1.fr hf (fun _ _ h => h), h2, ints_go h3 (Kept.of_no hf fun k hk => (h5 k hk).2.2) (fun _ h => h), h4.then_no hf, fun k hk => ⟨(h5 k hk).1, (h5 k hk).2.1, Nat.lt_of_lt_of_le (h5 k hk).2.2 hf.size⟩⟩
theorem Inv.form (h : Inv B b most w q r o) : ∃ A c, o = .slice A r.length c ∧ r.length ≤ c ∧ c ≤ maxLen := by
  obtain ⟨F, S, _, _, h3, _⟩ := h
  exact h3.slice
theorem Inv.fr (h : Inv B b most w q r o) : Fr No B w := by obtain ⟨F, S, _, _, _, h4, _⟩ := h; exact h4
theorem Inv.all (h : Inv B b most w q r o) : Calls Try.prog 46 #[.pointer (some ⟨b, 0, none⟩)] w fun e w' => ∃ v' T, e = .returned v' ∧ RSl 1 (RInt .i64) w' T [v'] q ∧ Inv B b most w' q r o := by
  have h0 := h
  obtain ⟨F, S, h1, h2, h3, h4, h5⟩ := h
  refine (Qint.all_any h1).mono ?_
  rintro e w' ⟨v', rfl, hown, hf⟩
  obtain ⟨_, _, _, _, _, _, h6, _⟩ := h1
  exact ⟨v', _, rfl, own_sl hown rfl (fun y hy S => ⟨rfl, h6 y hy⟩), h0.no hf⟩
theorem Inv.same (h : Inv B b most w q r o) {v' : Value} {T : Nat → Prop} {l : List Int} (hv : RSl 1 (RInt .i64) w T [v'] l) (he : l = r) : Calls Try.prog 45 #[v', o] w fun e w' => e = .returned (.bool true) ∧ Inv B b most w' q r o := by
  have h0 := h
  obtain ⟨F, S, h1, h2, h3, h4, h5⟩ := h
  refine (Ref29.same_any _ _ _ _ _ _ _ hv h3).mono ?_
  rintro e w' ⟨rfl, n, rfl⟩
  exact ⟨ret_bool (by simpa using he), h0.no ((Fr.refl _ _).drewN n)⟩
theorem Inv.len (h : Inv B b most w q r o) : Calls Try.prog 47 #[.pointer (some ⟨b, 0, none⟩)] w fun e w' => e = .returned (.int .i64 q.length) ∧ w = w' := by
  obtain ⟨F, S, h1, _⟩ := h
  exact Qint.len_any h1
theorem Inv.place (h : Inv B b most w q r o) (x : Int) : Calls Try.prog 48 #[.pointer (some ⟨b, 0, none⟩), .int .i64 x] w fun e w' => e = .returned (.int .i64 (place q x)) ∧ w = w' := by
  obtain ⟨F, S, h1, _⟩ := h
  exact Qint.place_q x h1
theorem Inv.rplace (h : Inv B b most w q r o) (x : Int) : Calls Try.prog 31 #[o, .int .i64 x] w fun e w' => e = .returned (.int .i64 (Go.Proofs.Ytckgkeicilcnmaa.place r x)) ∧ w = w' := by
  obtain ⟨F, S, _, _, h3, _⟩ := h
  exact Ref29.place_any _ _ _ _ _ h3
theorem Inv.rdrop (h : Inv B b most w q r o) (x : Int) (hl : r.length ≤ 4096) : Calls Try.prog 42 #[o, .int .i64 x] w fun e w' => ∃ A c, e = .returned (.slice A (r.filter (· != x)).length c) ∧ Inv B b most w' q (r.filter (· != x)) (.slice A (r.filter (· != x)).length c) := by
  obtain ⟨F, S, h1, h2, h3, h4, h5⟩ := h
  refine (Ref29.drop_any _ r x _ S (fun k hk => (h5 k hk).2.2) h3 hl).mono ?_
  rintro e w' ⟨v', rfl, hown, hf, hn⟩
  obtain ⟨A, c, rfl⟩ := own_form hown
  refine ⟨A, c, rfl, F, Of _, h1.fr hf (fun _ _ h => h), h2, own_sl hown rfl (fun y hy S => ⟨rfl, h3.wfs y (List.mem_filter.1 hy).1⟩), h4.then_no hf, fun k hk => ⟨fun hF => ?_, ?_, (hn k hk).2⟩⟩
  · obtain ⟨_, _, _, _, _, h6, _⟩ := h1
    have := h6 k hF
    have := (hn k hk).1
    omega
  · exact Nat.le_trans h4.size (hn k hk).1
theorem Inv.rput (h : Inv B b most w q r o) (x : Int) (hx : (Lit.int .i64 x).wf = true) (hl : r.length ≤ 4096) : Calls Try.prog 44 #[o, .int .i64 most, .int .i64 x] w fun e w' => ∃ A c, e = .returned (.tuple #[.slice A (Qint.putR r most x).1.length c, .int .i64 (Qint.putR r most x).2]) ∧ Inv B b most w' q (Qint.putR r most x).1 (.slice A (Qint.putR r most x).1.length c) := by
  obtain ⟨F, S, h1, h2, h3, h4, h5⟩ := h
  refine (Ref29.put_any _ r most x _ S (fun k hk => (h5 k hk).2.2) h3 hx hl).mono ?_
  rintro e w' ⟨v', rfl, hr, hf⟩
  obtain ⟨A, c, rfl, _⟩ := hr.slice
  refine ⟨A, c, rfl, F, _, h1.fr hf (fun _ _ h => h), h2, hr, h4.then_no hf, fun k hk => ?_⟩
  rcases hk with hk | hk
  · exact ⟨(h5 k hk).1, (h5 k hk).2.1, Nat.lt_of_lt_of_le (h5 k hk).2.2 hf.size⟩
  · refine ⟨fun hF => ?_, Nat.le_trans h4.size hk.1, hk.2⟩
    obtain ⟨_, _, _, _, _, h6, _⟩ := h1
    have := h6 k hF
    have := hk.1
    omega
theorem Inv.step {F F' : Nat → Prop} {S : Nat → Prop} {q' : List Int} (h2 : ∀ k, F k → B.heap.size ≤ k) (h3 : RSl 1 (RInt .i64) w S [o] r) (h4 : Fr No B w) (h5 : ∀ k, S k → ¬ F k ∧ B.heap.size ≤ k ∧ k < w.heap.size)
    (hq : Qint.QAt w' F' b q' most) (hs : Step F w F' w') : Inv B b most w' q' r o := by
  refine ⟨F', S, hq, fun k hk => ?_, ints_go h3 (Kept.of_fr hs.1 fun k hk => ⟨(h5 k hk).2.2, (h5 k hk).1⟩) (fun _ h => h), h4.trans hs.1 (fun k hk hl => absurd (h2 k hk) (by omega)), fun k hk => ⟨fun hF => ?_, (h5 k hk).2.1, Nat.lt_of_lt_of_le (h5 k hk).2.2 hs.1.size⟩⟩
  · rcases hs.2 k hk with h | h
    · exact h2 k h
    · exact Nat.le_trans h4.size h.1
  · rcases hs.2 k hF with h | h
    · exact (h5 k hk).1 h
    · have := (h5 k hk).2.2; have := h.1; omega
theorem Inv.drop (h : Inv B b most w q r o) (x : Int) : Calls Try.prog 43 #[.pointer (some ⟨b, 0, none⟩), .int .i64 x] w fun e w' => e = .returned (.bool (decide (0 ≤ Go.Proofs.Ytckgkeicilcnmaa.place q x))) ∧ Inv B b most w' (q.erase x) r o := by
  obtain ⟨F, S, h1, h2, h3, h4, h5⟩ := h
  refine (Qint.drop_any x h1).mono ?_
  rintro e w' ⟨rfl, hq, hs⟩
  exact ⟨rfl, Inv.step h2 h3 h4 h5 hq hs⟩
theorem Inv.put (h : Inv B b most w q r o) (x : Int) (hx : (Lit.int .i64 x).wf = true) : Calls Try.prog 29 #[.pointer (some ⟨b, 0, none⟩), .int .i64 x] w fun e w' => e = .returned (.int .i64 (Qint.putR q most x).2) ∧ Inv B b most w' (Qint.putR q most x).1 r o := by
  obtain ⟨F, S, h1, h2, h3, h4, h5⟩ := h
  refine (Qint.put_any x hx h1).mono ?_
  rintro e w' ⟨F', rfl, hq, hs⟩
  exact ⟨rfl, Inv.step h2 h3 h4 h5 hq hs⟩
theorem Inv.take_no (h : Inv B b most w [] r o) : Calls Try.prog 30 #[.pointer (some ⟨b, 0, none⟩)] w fun e w' => e = .returned (.tuple #[.int .i64 0, .bool false]) ∧ w = w' := by
  obtain ⟨F, S, h1, _⟩ := h
  exact Qint.take_no h1
theorem Inv.take_yes {x : Int} {t : List Int} (h : Inv B b most w (x :: t) r o) : Calls Try.prog 30 #[.pointer (some ⟨b, 0, none⟩)] w fun e w' => e = .returned (.tuple #[.int .i64 x, .bool true]) ∧ Inv B b most w' t r o := by
  obtain ⟨F, S, h1, h2, h3, h4, h5⟩ := h
  refine (Qint.take_yes x t h1).mono ?_
  rintro e w' ⟨rfl, hq, hs⟩
  exact ⟨rfl, Inv.step h2 h3 h4 h5 hq hs⟩
end
end Law29
end Go.Proofs.Ytckgkeicilcnmaa
