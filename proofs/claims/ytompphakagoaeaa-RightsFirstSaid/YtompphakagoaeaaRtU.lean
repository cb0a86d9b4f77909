/- Rights and their reference: groups, patterns. Printed by gen_rtu.py. -/
import Derived.Test.YtompphakagoaeaaRtT
namespace Go.Proofs.Ytompphakagoaeaa
open Go.RowKit
set_option linter.unusedVariables false
set_option linter.unusedSimpArgs false
namespace Conf
open Word
def okP (pats : List Str) (a : Str) : Bool := pats.any (fun p => matchR p a)
theorem ok_take {pats : List Str} {a : Str} {k : Nat} (h : k < pats.length) : okP (pats.take (k + 1)) a = (okP (pats.take k) a || matchR pats[k] a) := by
  unfold okP
  rw [List.take_succ_eq_append_getElem h, List.any_append]
  simp
theorem ok_idx (pats : List Str) (a : Str) : decide (0 ≤ idxR (fun p => matchR p a) pats) = okP pats a := by
  rcases idx_cases (fun p => matchR p a) pats with hn | ⟨k, hlt, he, hb⟩
  · rw [idx_none hn]
    have : okP pats a = false := by
      unfold okP
      rw [List.any_eq_false]
      intro x hx
      obtain ⟨j, hj, rfl⟩ := List.getElem_of_mem hx
      have h : matchR pats[j] a = false := hn j hj
      rw [h]; decide
    rw [this]; rfl
  · rw [idx_at hlt hb he]
    have : okP pats a = true := by
      unfold okP
      rw [List.any_eq_true]
      exact ⟨_, List.getElem_mem hlt, he⟩
    rw [this]; simp
set_option maxHeartbeats 1000000 in
theorem g21_any (w : World) (bx : Nat) (a p : Str) (hx : w.cell? ⟨bx, 0, none⟩ = some (.string ⟨a.toArray⟩)) (h1 : a.length ≤ 40) (h2 : p.length ≤ 40) :
    Calls Try.prog 34 #[.string ⟨p.toArray⟩, .pointer (some ⟨bx, 0, none⟩)] w fun e w' => e = .returned (.bool (matchR p a)) ∧ Fr No w w' := by
  have C1 := Lib.hid (fun w => match_any p a (by unfold maxLen; omega) (by omega) w)
  generalize matchR p a = m at C1 ⊢
  go_enter Try.func34, Try.ntmps34
  go_wp2_with fail
  refine (C1.out _).mono ?_
  rintro e w1 ⟨rfl, hf⟩
  have F1 := Lib.hid hf
  clear hf
  go_wp2_with fail
  go_ret
  exact ⟨rfl, F1.out⟩
set_option maxHeartbeats 1000000 in
theorem idxS_any (A : Option Addr) (kA : Nat) (l : List Str) (a : Str) (w : World) (S : Nat → Prop) (hS : ∀ k, S k → k < w.heap.size) (h : RSl 1 RS40 w S [.slice A l.length kA] l) (bx : Nat)
    (hx : w.cell? ⟨bx, 0, none⟩ = some (.string ⟨a.toArray⟩)) (hlx : bx < w.heap.size) (h1 : a.length ≤ 40) :
    Calls Try.prog 44 #[.slice A l.length kA, .func (.func 34) #[] #[.pointer (some ⟨bx, 0, none⟩)]] w fun e w' => e = .returned (.int .i64 (idxR (fun p => matchR p a) l)) ∧ Fr No w w' := by
  obtain ⟨hU1, hU2⟩ : l.length ≤ kA ∧ kA ≤ 9223372036854775807 := by
    obtain ⟨A', c, e, h1, h2, -⟩ := h
    injection e with e _
    injection e with _ _ e
    subst e
    exact ⟨h1, h2⟩
  have H := Lib.hid h
  have HS := Lib.hid hS
  have HX := Lib.hid hx
  clear h hS hx
  go_enter Try.func44, Try.ntmps44
  go_wp2_with fail
  go_loopw [8] (fun iv wr => ∃ k : Nat, iv = .int .i64 k ∧ k ≤ l.length ∧ Hid (∀ j (h : j < l.length), j < k → (fun p => matchR p a) l[j] = false) ∧ Hid (Fr No w wr)) (fun i _ => l.length - (intOf i).toNat)
  case atStart => exact ⟨0, rfl, by omega, Lib.hid (fun j _ h => absurd h (by omega)), Lib.hid (Fr.refl _ _)⟩
  case round =>
    obtain ⟨k, rfl, hk, Hd, HF⟩ := hrel
    by_cases hlt : k < l.length
    · obtain ⟨ad, rfl, -, k1, b1⟩ := s40_at H.out HF.out HS.out hlt
      have hcl := g21_any wr bx a l[k] ((HF.out.cell (p := ⟨bx, 0, none⟩) hlx (fun h => h)).trans HX.out) h1 b1
      obtain ⟨p, hp⟩ : ∃ p, p = l[k] := ⟨_, rfl⟩
      obtain ⟨m, hm⟩ : ∃ m, matchR l[k] a = m := ⟨_, rfl⟩
      rw [hm, ← hp] at hcl
      rw [← hp] at k1
      have Hcl := Lib.hid hcl
      have Hm := Lib.hid hm
      clear hcl hp b1 hm
      cases m
      · have hn2 : Hid (∀ j (h : j < l.length), j < k + 1 → (fun p => matchR p a) l[j] = false) := by
          intro j h hj
          by_cases e : j = k
          · subst e; exact Hm.out
          · exact Hd.out j h (by omega)
        go_wp2_with fail
        refine Hcl.out.mono ?_
        rintro e w2 ⟨rfl, hf⟩
        have F2 := Lib.hid (HF.out.then_no hf)
        clear hf
        go_wp2_with fail
        go_roundw
        case rel => exact ⟨k + 1, by go_num, by omega, hn2, F2⟩
        case measure => simp [intOf]; omega
      · have hr := Lib.hid (idx_at (p := fun p => matchR p a) hlt Hd.out Hm.out)
        go_wp2_with fail
        refine Hcl.out.mono ?_
        rintro e w2 ⟨rfl, hf⟩
        have F2 := Lib.hid (HF.out.then_no hf)
        clear hf
        go_wp2_with fail
        go_ret
        exact ⟨ret_int hr.out.symm, F2.out⟩
    · have hr := Lib.hid (idx_none (p := fun p => matchR p a) fun j h => Hd.out j h (by omega))
      clear Hd
      go_wp2_with fail
      go_ret
      exact ⟨ret_int hr.out.symm, HF.out⟩
set_option maxHeartbeats 1000000 in
theorem cont_any (A : Option Addr) (kA : Nat) (l : List Str) (a : Str) (w : World) (S : Nat → Prop) (hS : ∀ k, S k → k < w.heap.size) (h : RSl 1 RS40 w S [.slice A l.length kA] l) (bx : Nat)
    (hx : w.cell? ⟨bx, 0, none⟩ = some (.string ⟨a.toArray⟩)) (hlx : bx < w.heap.size) (h1 : a.length ≤ 40) :
    Calls Try.prog 33 #[.slice A l.length kA, .func (.func 34) #[] #[.pointer (some ⟨bx, 0, none⟩)]] w fun e w' => e = .returned (.bool (okP l a)) ∧ Fr No w w' := by
  have HI := Lib.hid (idxS_any A kA l a w S hS h bx hx hlx h1)
  have HO := Lib.hid (ok_idx l a)
  generalize idxR (fun p => matchR p a) l = n at HI HO
  generalize okP l a = m at HO ⊢
  clear h hS hx
  go_enter Try.func33, Try.ntmps33
  go_wp2_with fail
  refine HI.out.mono ?_
  rintro e w1 ⟨rfl, hf⟩
  have F1 := Lib.hid hf
  clear hf
  go_wp2_with fail
  go_ret
  exact ⟨by rw [← HO.out]; rfl, F1.out⟩
set_option maxHeartbeats 1000000 in
theorem g1_any (w : World) (bn : Nat) (a name : Str) (v : Value) (hv : v.oneCell' = true) (hn : w.cell? ⟨bn, 0, none⟩ = some (.string ⟨name.toArray⟩)) (hlt : bn < w.heap.size) :
    Calls Try.prog 31 #[.agg #[.string ⟨a.toArray⟩, v], .pointer (some ⟨bn, 0, none⟩)] w fun e w' => e = .returned (.bool (decide (a = name))) ∧ Fr No w w' := by
  have hne : bn ≠ w.heap.size := by omega
  obtain ⟨B, hB⟩ : ∃ B, B = decide (a = name) := ⟨_, rfl⟩
  have hs : (a == name) = B := by rw [hB]; by_cases e : a = name <;> simp [e]
  rw [← hB]
  clear hB
  have h1 := (Blk.new w 53 #[.string ⟨a.toArray⟩, v]).cell 0
  simp only [List.getElem?_toArray, List.getElem?_cons_zero] at h1
  cases v <;> first | (exfalso; cases hv; done) | skip
  all_goals
    go_enter Try.func31, Try.ntmps31
    go_wp2_with fail
    go_ret
    exact ⟨rfl, (Fr.refl _ _).alloc _⟩
end Conf
end Go.Proofs.Ytompphakagoaeaa
