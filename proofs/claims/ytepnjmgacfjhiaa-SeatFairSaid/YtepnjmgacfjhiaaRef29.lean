/- The reference of package queue, and the walks of its three laws. -/
import Derived.Test.YtepnjmgacfjhiaaQueueI
namespace Go.Proofs.Ytepnjmgacfjhiaa
open Go.RowKit
set_option linter.unusedVariables false
set_option linter.unusedSimpArgs false
namespace Ref29
open Sint
set_option maxRecDepth 100000 in
theorem place_any (v : Value) (l : List Int) (x : Int) (w : World) (S : Nat → Prop) (hv : RSl 1 (RInt .i64) w S [v] l) : Calls Try.prog 28 #[v, .int .i64 x] w fun e w' => e = .returned (.int .i64 (place l x)) ∧ w = w' := by
  obtain ⟨A, cap, rfl, hc1, hc2, hel⟩ := hv.ints
  clear hv
  unfold maxLen at hc2
  have Hel := Lib.hid hel
  clear hel
  go_enter Try.func28, Try.ntmps28
  go_wp2
  go_loop [5] (fun i => ∃ k : Nat, i = .int .i64 k ∧ k ≤ l.length ∧ Hid (∀ j (h : j < l.length), j < k → (l[j] == x) = false)) (fun i => l.length - (intOf i).toNat)
  case atStart => exact ⟨0, rfl, by omega, fun j _ h => absurd h (by omega)⟩
  case round =>
    obtain ⟨k, rfl, hk, hd⟩ := hrel
    by_cases hlt : k < l.length
    · obtain ⟨ad, rfl, _, hcell, _⟩ := Hel.out k hlt
      cases hx : l[k] == x
      · have hn : Hid (∀ j (h : j < l.length), j < k + 1 → (l[j] == x) = false) := by
          intro j h hj
          by_cases e : j = k
          · subst e; exact hx
          · exact hd.out j h (by omega)
        clear hd
        go_wp2
        go_round
        case rel => exact ⟨k + 1, by go_num, by omega, hn⟩
        case measure => simp [intOf]; omega
      · have hf : Hid (place l x = (k : Int)) := place_at hlt hx hd.out
        clear hd
        go_wp2
        go_ret
        exact ⟨ret_int hf.out.symm, rfl⟩
    · have hf : Hid (place l x = -1) := place_none fun j h => hd.out j h (by omega)
      clear hd
      go_wp2
      go_ret
      exact ⟨ret_int hf.out.symm, rfl⟩
set_option maxRecDepth 100000 in
theorem drop_any (v : Value) (l : List Int) (x : Int) (w : World) (S : Nat → Prop) (hS : ∀ k, S k → k < w.heap.size) (hv : RSl 1 (RInt .i64) w S [v] l) (hlen : l.length ≤ 4096) : Calls Try.prog 73 #[v, .int .i64 x] w fun e w' => ∃ v', e = .returned v' ∧ w'.ownsRow 0 3 1 v' (l.filter (· != x)).length ((l.filter (· != x)).map enc) ∧ Fr No w w' ∧ (∀ k, Of v' k → New w w' k) := by
  have Hv := Lib.hid hv
  obtain ⟨A, cap, rfl, hc1, hc2, hel⟩ := hv.ints
  clear hv
  unfold maxLen at hc2
  have Hel := Lib.hid hel
  have HS := Lib.hid hS
  clear hel hS
  go_enter Try.func73, Try.ntmps73
  go_wp2
  go_loopw [5, 6] (fun o i wr => ∃ k : Nat, i = .int .i64 k ∧ k ≤ l.length ∧ wr.ownsRow 0 3 1 o ((l.take k).filter (· != x)).length (((l.take k).filter (· != x)).map enc) ∧ Hid (Fr No w wr ∧ (∀ k, Of o k → New w wr k))) (fun _ i _ => l.length - (intOf i).toNat)
  case atStart => exact ⟨0, rfl, by omega, World.ownsRow_nil _ _ _ _, Fr.refl _ _, fun k hk => by cases hk⟩
  case round =>
    obtain ⟨k, rfl, hk, hown, hd⟩ := hrel
    have Hown := Lib.hid hown
    clear hown
    by_cases hlt : k < l.length
    · obtain ⟨ad, rfl, hSa, hcell, _⟩ := Hel.out k hlt
      have hcell' : wr.cell? (ad.add k) = some (.int .i64 l[k]) := by rw [hd.out.1.cell (by rw [block_add]; exact HS.out _ hSa) (fun h => h)]; exact hcell
      have hll : ((l.take k).filter (· != x)).length ≤ k := Nat.le_trans (List.length_filter_le _ _) (by simp; omega)
      cases hx : l[k] != x
      · have hn := Lib.hid (show (l.take (k + 1)).filter (· != x) = (l.take k).filter (· != x) by rw [List.take_succ_eq_append_getElem hlt, List.filter_append]; simp [hx])
        clear hcell hll
        go_wp2
        go_roundw
        case rel => exact ⟨k + 1, by go_num, by omega, by rw [hn.out]; exact Hown.out, hd⟩
        case measure => simp [intOf]; omega
      · have hn := Lib.hid (show (l.take (k + 1)).filter (· != x) = (l.take k).filter (· != x) ++ [l[k]] by rw [List.take_succ_eq_append_getElem hlt, List.filter_append]; simp [hx])
        clear hcell
        go_wp2_with (at_builtin; go_loud (refine wp_push rfl _ _ 30 rfl 3 (.int .i64 0) 1 8 Try.underlying30 infoE rfl (by decide) _ _ _ rfl Hown.out #[.int .i64 l[k]] rfl rfl (one_lit rfl) (by omega) (by unfold maxLen; omega) ?_; intro g cap' w1 h1 h2 h3; have H1 := Lib.hid h1; have H2 := Lib.hid h2; have H3 := Lib.hid h3; clear h1 h2 h3))
        go_roundw
        case rel =>
          refine ⟨k + 1, by go_num, by omega, ?_, hd.out.1.trans H2.out (fun b hb hl => ?_), fun j hj => ?_⟩
          · rw [hn.out]
            have := H1.out
            simpa [enc] using this
          · have := (hd.out.2 b hb).1; omega
          · have hj' : some g = some j := hj
            injection hj' with hj'
            subst hj'
            rcases H3.out with h | h
            · exact ⟨(hd.out.2 _ h).1, Nat.lt_of_lt_of_le (hd.out.2 _ h).2 H2.out.size⟩
            · exact ⟨Nat.le_trans hd.out.1.size h.1, h.2⟩
        case measure => simp [intOf]; omega
    · go_wp2
      go_ret
      have hn : l.take k = l := List.take_of_length_le (by omega)
      have h1 := Hown.out
      rw [hn] at h1
      exact ⟨_, rfl, h1, hd.out.1, hd.out.2⟩
theorem rint_enc : ∀ (x : Int) (S : Nat → Prop) (w : World) (cs : List Value), RInt .i64 w S cs x → cs = [enc x] := fun x S w cs h => h.1
def putS (l : List Int) (most x : Int) : List Int := (Qint.putR l most x).1
set_option maxRecDepth 100000 in
theorem put_any (v : Value) (l : List Int) (most x : Int) (w : World) (S : Nat → Prop) (hS : ∀ k, S k → k < w.heap.size) (hv : RSl 1 (RInt .i64) w S [v] l) (hx : (Lit.int .i64 x).wf = true) (hlen : l.length ≤ 4096) :
    Calls Try.prog 71 #[v, .int .i64 most, .int .i64 x] w fun e w' => ∃ v', e = .returned (.tuple #[v', .int .i64 (Qint.putR l most x).2]) ∧ RSl 1 (RInt .i64) w' (fun k => S k ∨ New w w' k) [v'] (Qint.putR l most x).1 ∧ Fr No w w' := by
  have Hv := Lib.hid hv
  obtain ⟨A, cap, rfl, hc1, hc2⟩ := hv.slice
  have hnews := Lib.hid (sl_news hv rint_enc)
  clear hv
  unfold maxLen at hc2
  have HS := Lib.hid hS
  clear hS
  by_cases hp : 0 ≤ place l x
  · have hr := Lib.hid (show Qint.putR l most x = (l, 8) by simp [Qint.putR, hp])
    go_enter Try.func71, Try.ntmps71
    go_wp2_with (go_at_call 28; refine (place_any _ l x _ _ Hv.out).mono ?_; rintro e w' ⟨rfl, rfl⟩)
    go_ret2
    rw [hr.out]
    exact ⟨_, rfl, ints_go Hv.out (Kept.refl _ _) (fun k h => .inl h), Fr.refl _ _⟩
  · by_cases hm : most ≤ l.length
    · have hr := Lib.hid (show Qint.putR l most x = (l, 6) by simp [Qint.putR, hp, hm])
      go_enter Try.func71, Try.ntmps71
      go_wp2_with (go_at_call 28; refine (place_any _ l x _ _ Hv.out).mono ?_; rintro e w' ⟨rfl, rfl⟩)
      go_ret2
      rw [hr.out]
      exact ⟨_, rfl, ints_go Hv.out (Kept.refl _ _) (fun k h => .inl h), Fr.refl _ _⟩
    · have hr := Lib.hid (show Qint.putR l most x = (l ++ [x], 0) by simp [Qint.putR, hp, hm])
      go_enter Try.func71, Try.ntmps71
      go_wp2_with (first
        | (go_at_call 28; refine (place_any _ l x _ _ Hv.out).mono ?_; rintro e w' ⟨rfl, rfl⟩)
        | (at_builtin; refine wp_app rfl (.tmp 19) (.tmp 20) 30 rfl 3 (.int .i64 0) 1 8 Try.underlying30 infoE rfl (by decide) _ 0 [] rfl (World.ownsRow_nil _ _ _ _) (m := l.length) (news := l.map enc) rfl (by simp) hnews.out (Sint.enc_one l) (by omega) (by unfold maxLen; omega) ?_; intro v1 w1 h1 h2 h3; simp only [Nat.zero_add, List.nil_append] at h1; obtain ⟨A1, c1, rfl⟩ := own_form h1; have H1 := Lib.hid h1; have H2 := Lib.hid h2; have H3 := Lib.hid h3; clear h1 h2 h3)
        | (at_builtin; refine wp_push rfl (.tmp 22) (.tmp 24) 30 rfl 3 (.int .i64 0) 1 8 Try.underlying30 infoE rfl (by decide) _ _ _ rfl H1.out #[.int .i64 x] rfl rfl (one_lit rfl) (by omega) (by unfold maxLen; omega) ?_; intro g cap' w2 h1 h2 h3; have K1 := Lib.hid h1; have K2 := Lib.hid h2; have K3 := Lib.hid h3; clear h1 h2 h3))
      go_ret2
      rw [hr.out]
      have e1 : Fr No w w1 := H2.out.mono fun b hb _ => by cases hb
      have e2 : ∀ g, Of (Value.slice A1 l.length c1) g → New w w1 g := fun g hg => (H3.out g hg).elim (fun h => by cases h) (fun h => h)
      refine ⟨_, rfl, ?_, e1.trans K2.out (fun b hb hl => by have := (e2 b hb).1; omega)⟩
      have hk1 : w2.ownsRow 0 3 1 (.slice (some ⟨g, 0, none⟩) (l.length + 1) cap') (l ++ [x]).length ((l ++ [x]).map enc) := by simpa [enc] using K1.out
      have := own_sl (R := RInt .i64) (enc := enc) (l := l ++ [x]) (v := .slice (some ⟨g, 0, none⟩) (l.length + 1) cap') hk1 rfl (fun y hy S => ⟨rfl, by
        rw [List.mem_append] at hy
        rcases hy with hy | hy
        · exact (RSl.wfs Hv.out y hy)
        · rw [List.mem_singleton.1 hy]; exact hx⟩)
      refine ints_go this (Kept.refl _ _) fun k hk => .inr ?_
      have hk' : some g = some k := hk
      injection hk' with hk'
      subst hk'
      rcases K3.out with h | h
      · exact ⟨(e2 _ h).1, Nat.lt_of_lt_of_le (e2 _ h).2 K2.out.size⟩
      · exact ⟨Nat.le_trans e1.size h.1, h.2⟩
set_option maxRecDepth 100000 in
theorem same_any (v u : Value) (l m : List Int) (w : World) (S T : Nat → Prop) (hv : RSl 1 (RInt .i64) w S [v] l) (hu : RSl 1 (RInt .i64) w T [u] m) :
    Calls Try.prog 37 #[v, u] w fun e w' => e = .returned (.bool (decide (l = m))) ∧ ∃ n, w' = w.drewN n := by
  obtain ⟨A, cap, rfl, hc1, hc2, hel⟩ := hv.ints
  obtain ⟨B, cap', rfl, hd1, hd2, hem⟩ := hu.ints
  clear hv hu
  unfold maxLen at hc2 hd2
  have Hel := Lib.hid hel
  have Hem := Lib.hid hem
  clear hel hem
  by_cases hlen : l.length = m.length
  · have Hlen := Lib.hid hlen
    have hb : ((l.length : Int) != (m.length : Int)) = false := by simp [hlen]
    have hlm : l.length ≤ m.length := by omega
    clear hlen
    go_enter Try.func37, Try.ntmps37
    go_wp2
    go_loopw [5] (fun i wr => ∃ k : Nat, i = .int .i64 k ∧ k ≤ l.length ∧ Hid (∃ n, wr = w.drewN n) ∧ Hid (∀ j (h : j < l.length) (h' : j < m.length), j < k → l[j] = m[j])) (fun i _ => l.length - (intOf i).toNat)
    case atStart => exact ⟨0, rfl, by omega, ⟨0, rfl⟩, fun j _ _ h => absurd h (by omega)⟩
    case round =>
      obtain ⟨k, rfl, hk, hw, hd⟩ := hrel
      obtain ⟨n, hn⟩ := hw.out
      subst hn
      by_cases hlt : k < l.length
      · have hlt' : k < m.length := by omega
        obtain ⟨ad, rfl, _, hcell, _⟩ := Hel.out k hlt
        obtain ⟨bd, rfl, _, hcell', _⟩ := Hem.out k hlt'
        by_cases hx : l[k] = m[k]
        · have hx' : (l[k] != m[k]) = false := by simp [hx]
          have hn : Hid (∀ j (h : j < l.length) (h' : j < m.length), j < k + 1 → l[j] = m[j]) := by
            intro j h h' hj
            by_cases e : j = k
            · subst e; exact hx
            · exact hd.out j h h' (by omega)
          clear hd hx
          go_wp2
          go_quiet (fail)
          go_wp2
          go_roundw
          case rel => exact ⟨k + 1, by go_num, by omega, ⟨_, rfl⟩, hn⟩
          case measure => simp [intOf]; omega
        · have hx' : (l[k] != m[k]) = true := by simp [hx]
          have hne : decide (l = m) = false := by
            rw [decide_eq_false_iff_not]
            intro e; subst e; exact hx rfl
          have Hne := Lib.hid hne
          clear hd hx hne
          go_wp2
          go_quiet (fail)
          go_wp2
          go_ret
          exact ⟨ret_bool Hne.out.symm, _, World.drewN_drewN _ _ _⟩
      · have he : Hid (decide (l = m) = true) := by
          show decide (l = m) = true
          rw [decide_eq_true_iff]
          exact List.ext_getElem Hlen.out fun j h h' => hd.out j h h' (by omega)
        clear hd
        go_wp2
        go_ret
        exact ⟨ret_bool he.out.symm, n, rfl⟩
  · have hb : ((l.length : Int) != (m.length : Int)) = true := by simp; omega
    have hne : decide (l = m) = false := by
      rw [decide_eq_false_iff_not]
      intro e; subst e; exact hlen rfl
    have Hne := Lib.hid hne
    clear hlen hne
    go_enter Try.func37, Try.ntmps37
    go_wp2
    go_ret
    exact ⟨ret_bool Hne.out.symm, 0, rfl⟩
end Ref29
end Go.Proofs.Ytepnjmgacfjhiaa
