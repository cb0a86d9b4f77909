/- Reader: New, Check, Role, Views, Replies. Printed by gen_rdg.py. -/
import Derived.Test.YtmmdiccpifepfaaRdE
namespace Go.Proofs.Ytmmdiccpifepfaa
open Go.RowKit
set_option linter.unusedVariables false
set_option linter.unusedSimpArgs false
namespace Rd
open Ans Digit Sls Word
theorem own_empty (w : World) (e : TypeId) (size : Nat) : (w.alloc (.cells #[] e)).ownsRow 0 e size (.slice (some ⟨w.heap.size, 0, none⟩) 0 0) 0 [] :=
  ⟨by simp, .inr ⟨w.heap.size, 0, #[], rfl, Nat.zero_le _, heap_alloc_new w _, Nat.le_refl _, Nat.zero_le _, by simp, by simp⟩⟩
/-- The cells of a row of the call's own, as what an append copies. -/
theorem own_news {w : World} {base : Nat} {e : TypeId} {size n c : Nat} {A : Option Addr} {xs : List Value} (h : w.ownsRow base e size (.slice A n c) n xs) : ∀ j u, xs[j]? = some u → ∃ ad, A = some ad ∧ w.cell? (ad.add j) = some u := by
  intro j u hj
  have hl := (List.getElem?_eq_some_iff.1 hj).1
  rcases h.2 with ⟨h1, h2⟩ | ⟨g, cap, cur, h1, _⟩
  · rw [h.1, h2] at hl; omega
  · injection h1 with h1
    subst h1
    exact ⟨_, rfl, h.cells (g := g) rfl j u hj⟩
theorem one_encV (V : List Vw) : ∀ u ∈ V.flatMap encV, u.oneCell' = true := by
  intro u hu
  obtain ⟨v, _, hv⟩ := List.mem_flatMap.1 hu
  simp [encV] at hv
  rcases hv with rfl | rfl | rfl <;> rfl
theorem Lines.one {w : World} {B : Nat → Prop} {rv : List (Int × Value)} {R : List Rep} (h : Lines w B rv R) : ∀ u ∈ rv.flatMap encR, u.oneCell' = true := by
  intro u hu
  obtain ⟨v, hv0, hv⟩ := List.mem_flatMap.1 hu
  obtain ⟨i, hi, rfl⟩ := List.getElem_of_mem hv0
  obtain ⟨A, c, e, -⟩ := (h.2 i hi (by rw [← h.1]; exact hi)).2.slice
  simp [encR] at hv
  rcases hv with rfl | rfl
  · rfl
  · rw [e]; rfl
/-- A copy of views. -/
def CopyV (T : TypeId) (V : List Vw) (w : World) (e : Ending) (w' : World) : Prop := ∃ A c, e = .returned (.slice A V.length c) ∧ w'.ownsRow 0 T 3 (.slice A V.length c) V.length (V.flatMap encV) ∧ Fr No w w' ∧ ∀ k, Of (.slice A V.length c) k → New w w' k
def CopyR (B : Nat → Prop) (rv : List (Int × Value)) (R : List Rep) (w : World) (e : Ending) (w' : World) : Prop := ∃ A c, e = .returned (.slice A rv.length c) ∧ w'.ownsRow 0 69 2 (.slice A rv.length c) rv.length (rv.flatMap encR) ∧ Lines w' B rv R ∧ Fr No w w' ∧ ∀ k, Of (.slice A rv.length c) k → New w w' k
theorem from_lit {w w' : World} {t e : TypeId} {size n : Nat} {v' : Value} (hf : Fr (Of (.slice (some ⟨w.heap.size, 0, none⟩) 0 0)) (w.alloc (.cells #[] t)) w') (hn : ∀ g, Of v' g → Of (.slice (some ⟨w.heap.size, 0, none⟩) 0 0) g ∨ New (w.alloc (.cells #[] t)) w' g) : Fr No w w' ∧ ∀ k, Of v' k → New w w' k := by
  have h0 : ∀ b, Of (.slice (some ⟨w.heap.size, 0, none⟩) 0 0) b → b = w.heap.size := fun b hb => by
    have hb : some w.heap.size = some b := hb
    injection hb with hb
    exact hb.symm
  have hs := hf.size
  rw [size_alloc] at hs
  refine ⟨((Fr.refl No w).alloc _).trans hf fun b hb hl => ?_, fun k hk => ?_⟩
  · have := h0 b hb; omega
  · rcases hn k hk with h | h
    · have := h0 k h; exact ⟨by omega, by omega⟩
    · exact ⟨by have := h.1; rw [size_alloc] at this; omega, h.2⟩
theorem role_any {w : World} {A : Nat → Prop} {g p : Nat} {x : X} {op : Str} (h : RA w A g x p op) : Calls Try.prog 12 #[.pointer (some ⟨g, 0, none⟩)] w fun e w' => e = .returned (.int .i64 x.role) ∧ w = w' := by
  obtain ⟨Fs, B, vR, vV, rv, hp, -⟩ := h
  have c2 := hp.sat.cells.2.2.1
  clear hp
  go_enter Try.func12, Try.ntmps12
  go_wp2
  go_ret
  exact ⟨rfl, rfl⟩
theorem rdcheck_nil (w : World) : Calls Try.prog 9 #[.pointer none] w fun e w' => e = .returned (.int .i64 14) ∧ w = w' := by
  go_enter Try.func9, Try.ntmps9
  go_wp2
  go_ret
  exact ⟨rfl, rfl⟩
theorem rdcheck_any {w : World} {A : Nat → Prop} {g p : Nat} {x : X} {op : Str} (h : RA w A g x p op) (hp4 : p ≤ 4) : Calls Try.prog 9 #[.pointer (some ⟨g, 0, none⟩)] w fun e w' => e = .returned (.int .i64 (codeR x p)) ∧ w = w' := by
  obtain ⟨Fs, B, vR, vV, rv, hp, -⟩ := h
  have c3 := hp.sat.cells.2.2.2.1
  have HC := Lib.hid (check_any _ w Fs g p op hp.sat hp4)
  clear hp
  cases hb : x.bad with
  | true =>
    rw [hb] at c3
    have HE := Lib.hid (show codeR x p = 3 by unfold codeR; rw [if_pos hb])
    clear hb
    go_enter Try.func9, Try.ntmps9
    go_wp2
    go_ret
    rw [HE.out]
    exact ⟨rfl, rfl⟩
  | false =>
    rw [hb] at c3
    have HE := Lib.hid (show codeR x p = Mux.checkR p by unfold codeR; rw [if_neg (by simp [hb])])
    clear hb
    go_enter Try.func9, Try.ntmps9
    go_wp2_with (go_at_call 21; refine HC.out.mono ?_; rintro e w1 ⟨rfl, rfl⟩)
    go_ret
    rw [HE.out]
    exact ⟨rfl, rfl⟩
theorem rdnew_any (w : World) : Calls Try.prog 6 #[] w fun e w' => ∃ g, e = .returned (.pointer (some ⟨g, 0, none⟩)) ∧ RA w' (fun k => k = g) g X0 0 [] ∧ Fr No w w' ∧ New w w' g := by
  go_enter Try.func6, Try.ntmps6
  go_wp2
  go_ret
  have hb := Blk.new w 45 #[.slice none 0 0, .slice none 0 0, .int .i64 0, .bool false, .int .i64 0, .slice none 0 0]
  have hlt := hb.lt
  refine ⟨w.heap.size, rfl, ⟨fun k => k = w.heap.size, No, .slice none 0 0, .slice none 0 0, [], ⟨⟨.slice none 0 0, hb, World.ownsRow_nil _ _ _ _, rfl, (fun k hk => by cases hk), fun k hk => by rw [hk]; exact hlt⟩, ⟨World.ownsRow_nil _ _ _ _, ⟨rfl, fun i hi => by cases hi⟩, World.ownsRow_nil _ _ _ _, (fun k hk => by cases hk), fun k hk => hk.elim⟩, (fun k hk => by cases hk), (fun k hk => by cases hk), fun k hk => hk.elim⟩, fun k hk => ?_, fun k hk => by rw [hk]; exact hlt⟩, (Fr.refl No w).alloc _, Nat.le_refl _, hlt⟩
  rcases hk with hk | hk | hk | hk
  · exact hk
  · exact hk.elim
  · cases hk
  · cases hk
set_option maxRecDepth 100000 in
set_option maxHeartbeats 2000000 in
theorem views_any {w : World} {Fs B : Nat → Prop} {g p : Nat} {vR vV : Value} {rv : List (Int × Value)} {x : X} {op : Str} (h : RP w Fs B g vR vV rv x p op) (hf : Fit 1000000 x) : Calls Try.prog 13 #[.pointer (some ⟨g, 0, none⟩)] w (CopyV 49 x.V w) := by
  have c1 := h.sat.cells.2.1
  have c1a := fun o => (h.no ((Fr.refl No w).alloc o)).sat.cells.2.1
  have hv := h.rows.vown
  have hl := hf.2.1
  obtain ⟨A, c, rfl⟩ := own_form hv
  have HV := Lib.hid (fun o => own_news (own_fr hv ((Fr.refl No w).alloc o) (fun _ _ h => h)))
  have HL := Lib.hid (fmV x.V)
  have HO := Lib.hid (one_encV x.V)
  obtain ⟨n, hn⟩ : ∃ n, n = x.V.length := ⟨_, rfl⟩
  have HN := Lib.hid hn
  have HG : Hid (∀ e w', (∃ A c, e = .returned (.slice A n c) ∧ w'.ownsRow 0 49 3 (.slice A n c) n (x.V.flatMap encV) ∧ Fr No w w' ∧ ∀ k, Of (.slice A n c) k → New w w' k) → CopyV 49 x.V w e w') := Lib.hid (by rw [hn]; exact fun e w' h => h)
  rw [← hn] at c1 c1a hl HL
  clear h hv hf hn
  go_enter Try.func13, Try.ntmps13
  go_wp2_with (at_builtin; go_loud (refine wp_app (news := x.V.flatMap encV) (m := n) rfl (.tmp 3) (.tmp 7) 39 rfl 49 (.agg #[.string ByteArray.empty, .string ByteArray.empty, .bool false]) 3 40 Try.underlying39 infoV rfl (by decide) (.slice (some ⟨w.heap.size, 0, none⟩) 0 0) 0 [] rfl (own_empty w 49 3) rfl (by rw [HL.out]) (HV.out _) HO.out (by omega) (by unfold maxLen; omega) ?_; intro v' w' p1 p2 p3; rw [Nat.zero_add] at p1; obtain ⟨A', c', rfl⟩ := own_form p1; have P1 := Lib.hid p1; have P2 := Lib.hid (from_lit (e := 0) (size := 0) (n := 0) p2 p3); clear p1 p2 p3))
  go_ret
  exact HG.out _ _ ⟨A', c', rfl, by simpa using P1.out, P2.out.1, P2.out.2⟩
set_option maxRecDepth 100000 in
set_option maxHeartbeats 2000000 in
theorem replies_any {w : World} {Fs B : Nat → Prop} {g p : Nat} {vR vV : Value} {rv : List (Int × Value)} {x : X} {op : Str} (h : RP w Fs B g vR vV rv x p op) (hf : Fit 1000000 x) : Calls Try.prog 11 #[.pointer (some ⟨g, 0, none⟩)] w (CopyR B rv x.R w) := by
  have c1 := h.sat.cells.1
  have c1a := fun o => (h.no ((Fr.refl No w).alloc o)).sat.cells.1
  have hv := h.rows.rown
  have hl := hf.1
  rw [← h.rows.lines.1] at hl
  obtain ⟨A, c, rfl⟩ := own_form hv
  have HV := Lib.hid (fun o => own_news (own_fr hv ((Fr.refl No w).alloc o) (fun _ _ h => h)))
  have HL := Lib.hid (fmR rv)
  have HO := Lib.hid h.rows.lines.one
  have HLS := Lib.hid (fun w' (hf : Fr No w w') => h.rows.lines.fr hf (fun k hk => ⟨(h.rows.hB k hk).1, fun h => h⟩))
  obtain ⟨n, hn⟩ : ∃ n, n = rv.length := ⟨_, rfl⟩
  have HN := Lib.hid hn
  have HG : Hid (∀ e w', (∃ A c, e = .returned (.slice A n c) ∧ w'.ownsRow 0 69 2 (.slice A n c) n (rv.flatMap encR) ∧ Lines w' B rv x.R ∧ Fr No w w' ∧ ∀ k, Of (.slice A n c) k → New w w' k) → CopyR B rv x.R w e w') := Lib.hid (by rw [hn]; exact fun e w' h => h)
  rw [← hn] at c1 c1a hl HL
  clear h hv hf hn
  go_enter Try.func11, Try.ntmps11
  go_wp2_with (at_builtin; go_loud (refine wp_app (news := rv.flatMap encR) (m := n) rfl (.tmp 3) (.tmp 7) 28 rfl 69 (.agg #[.int .i64 0, .slice none 0 0]) 2 32 Try.underlying28 infoR rfl (by decide) (.slice (some ⟨w.heap.size, 0, none⟩) 0 0) 0 [] rfl (own_empty w 69 2) rfl (by rw [HL.out]) (HV.out _) HO.out (by omega) (by unfold maxLen; omega) ?_; intro v' w' p1 p2 p3; rw [Nat.zero_add] at p1; obtain ⟨A', c', rfl⟩ := own_form p1; have P1 := Lib.hid p1; have P2 := Lib.hid (from_lit (e := 0) (size := 0) (n := 0) p2 p3); clear p1 p2 p3))
  go_ret
  exact HG.out _ _ ⟨A', c', rfl, by simpa using P1.out, HLS.out _ P2.out.1, P2.out.1, P2.out.2⟩
end Rd
end Go.Proofs.Ytmmdiccpifepfaa
