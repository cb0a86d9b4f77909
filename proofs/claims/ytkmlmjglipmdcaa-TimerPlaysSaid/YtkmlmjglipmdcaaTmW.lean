/- Package timer: Due. -/
import Derived.Test.YtkmlmjglipmdcaaTmV
namespace Go.Proofs.Ytkmlmjglipmdcaa
open Go.RowKit
set_option linter.unusedVariables false
set_option linter.unusedSimpArgs false
namespace Tm
open Sls
theorem infoI : (Try.prog.info? 3).map (fun i => (i.zero, i.size, i.bytes)) = some (some (.int .i64 0), 1, 8) := by kernel_rfl
def encI (x : Int) : Value := .int .i64 x
def lenV : Value → Nat | .slice _ n _ => n | _ => 0
/-- Numbers that the call tells: a row of its own, off the timer's blocks. -/
structure Out (w wr : World) (F : Nat → Prop) (v : Value) (l : List Int) : Prop where
  own : wr.ownsRow 0 3 1 v l.length (l.map encI)
  off : ∀ k, Of v k → ¬ F k
  new : ∀ k, Of v k → w.heap.size ≤ k
section
variable {w wr w2 : World} {F F' : Nat → Prop} {b : Nat} {most : Int} {v : Value} {L : List A2} {l : List Int}
theorem Out.start (w wr : World) (F : Nat → Prop) : Out w wr F (.slice none 0 0) [] := ⟨World.ownsRow_nil _ _ _ _, fun k hk => (by cases hk), fun k hk => (by cases hk)⟩
theorem out_lt (h : Out w wr F v l) : ∀ k, Of v k → k < wr.heap.size := fun k hk => (h.own.lt k hk).2
theorem Out.no (h : Out w wr F v l) (hf : Fr No wr w2) : Out w w2 F v l := ⟨own_fr h.own hf (fun _ _ h => h), h.off, h.new⟩
theorem Out.step (h : Out w wr F v l) (hs : Step F wr F' w2) : Out w w2 F' v l :=
  ⟨own_fr h.own hs.1 h.off, fun k hk g => (hs.2 k g).elim (h.off k hk) (fun g => by have := out_lt h k hk; have := g.1; omega), h.new⟩
theorem Out.push {g c n : Nat} {x : Int} (h : Out w wr F v l) (hb : TAt wr F b most L) (hz : w.heap.size ≤ wr.heap.size) (hn : n = l.length) (p1 : w2.ownsRow 0 3 1 (.slice (some ⟨g, 0, none⟩) (n + 1) c) (n + 1) (l.map encI ++ [.int .i64 x])) (p2 : Fr (Of v) wr w2) (p3 : Of v g ∨ New wr w2 g) :
    Out w w2 F (.slice (some ⟨g, 0, none⟩) (n + 1) c) (l ++ [x]) ∧ TAt w2 F b most L := by
  have hFl := hb.lt
  have hOf : ∀ k, Of (.slice (some ⟨g, 0, none⟩) (n + 1) c) k → k = g := fun k hk => by
    have hk : some g = some k := hk
    injection hk with hk
    exact hk.symm
  subst hn
  refine ⟨⟨by rw [List.length_append, List.map_append]; exact p1, fun k hk => ?_, fun k hk => ?_⟩, hb.fr p2 (fun k hk g1 => h.off k g1 hk)⟩
  · rw [hOf k hk]
    rcases p3 with g1 | g1
    · exact h.off g g1
    · exact fun g2 => by have := hFl g g2; have := g1.1; omega
  · rw [hOf k hk]
    rcases p3 with g1 | g1
    · exact h.new g g1
    · have := g1.1; omega
theorem due_split {pre post : List A2} {now : Int} (hL : L = pre ++ post) (h1 : ∀ x ∈ pre, x.2 ≤ now) (h2 : post = [] ∨ ∃ x t, post = x :: t ∧ now < x.2) : dueL L now = pre ∧ restL L now = post := by
  subst hL
  induction pre with
  | nil =>
    rcases h2 with rfl | ⟨x, t, rfl, hx⟩
    · exact ⟨rfl, rfl⟩
    · unfold dueL restL
      simp only [List.nil_append]
      rw [List.takeWhile_cons_of_neg (by simp; omega), List.dropWhile_cons_of_neg (by simp; omega)]
      exact ⟨rfl, rfl⟩
  | cons a pre ih =>
    have h := ih (fun x hx => h1 x (List.mem_cons_of_mem _ hx))
    have ha := h1 a (by simp)
    unfold dueL restL at h ⊢
    rw [List.cons_append, List.takeWhile_cons_of_pos (by simpa using ha), List.dropWhile_cons_of_pos (by simpa using ha), h.1, h.2]
    exact ⟨rfl, rfl⟩
/-- What Due leaves. -/
def DueP (L : List A2) (most : Int) (F : Nat → Prop) (b : Nat) (w : World) (now : Int) (e : Ending) (w' : World) : Prop :=
  ∃ F' v, e = .returned v ∧ Out w w' F' v (ids (dueL L now)) ∧ TAt w' F' b most (restL L now) ∧ Step F w F' w'
set_option maxRecDepth 100000 in
set_option maxHeartbeats 4000000 in
theorem due_any (h : TAt w F b most L) (now : Int) : Calls Try.prog 9 #[.pointer (some ⟨b, 0, none⟩), .int .i64 now] w (DueP L most F b w now) := by
  have H := Lib.hid h
  have hlen : L.length ≤ 4096 := by have := h.len; omega
  have HLEN := Lib.hid hlen
  clear h hlen
  go_enter Try.func9, Try.ntmps9
  go_wp2_with fail
  go_loopw [5] (fun ov wr => ∃ (pre post : List A2) (F' : Nat → Prop) (n c : Nat) (A : Option Addr), ov = .slice A n c ∧ n ≤ 4096 ∧ Hid (n = pre.length ∧ L = pre ++ post ∧ (∀ x ∈ pre, x.2 ≤ now) ∧ TAt wr F' b most post ∧ Step F w F' wr ∧ Out w wr F' ov (ids pre))) (fun ov _ => 5000 - lenV ov)
  case atStart => exact ⟨[], L, F, 0, 0, none, rfl, by omega, rfl, rfl, fun x hx => (by cases hx), H.out, Step.refl _ _, Out.start _ _ _⟩
  case round =>
    obtain ⟨pre, post, F', n, c, A, rfl, hn4, HR⟩ := hrel
    have HN := Lib.hid (next_any HR.out.2.2.2.1)
    cases post with
    | nil =>
      have HD := Lib.hid (due_split (now := now) HR.out.2.1 HR.out.2.2.1 (.inl rfl))
      go_wp2_with fail
      refine HN.out.mono ?_
      rintro e w1 ⟨rfl, hf⟩
      have HF := Lib.hid hf
      clear hf
      simp only [headR]
      go_wp2_with fail
      go_ret
      exact ⟨F', _, rfl, by rw [HD.out.1]; exact HR.out.2.2.2.2.2.no HF.out, by rw [HD.out.2]; exact HR.out.2.2.2.1.no HF.out, Step.trans HR.out.2.2.2.2.1 (Step.no HF.out)⟩
    | cons x t =>
      have HX := Lib.hid (show wo (x :: t) x.1 = t from by
        unfold wo
        rw [List.filter_cons_of_neg (by simp)]
        have := HR.out.2.2.2.1.ids
        exact wo_none (List.nodup_cons.1 this).1)
      obtain ⟨xi, hxi⟩ : ∃ y, y = x.1 := ⟨_, rfl⟩
      obtain ⟨xt, hxt⟩ : ∃ y, y = x.2 := ⟨_, rfl⟩
      have HE := Lib.hid (And.intro hxi hxt)
      by_cases hnow : now < x.2
      · have HD := Lib.hid (due_split (now := now) HR.out.2.1 HR.out.2.2.1 (.inr ⟨x, t, rfl, hnow⟩))
        rw [← hxt] at hnow
        go_wp2_with fail
        refine HN.out.mono ?_
        rintro e w1 ⟨rfl, hf⟩
        have HF := Lib.hid hf
        clear hf
        simp only [headR]
        rw [← hxi, ← hxt]
        clear hxi hxt
        go_wp2_with fail
        go_ret
        exact ⟨F', _, rfl, by rw [HD.out.1]; exact HR.out.2.2.2.2.2.no HF.out, by rw [HD.out.2]; exact HR.out.2.2.2.1.no HF.out, Step.trans HR.out.2.2.2.2.1 (Step.no HF.out)⟩
      · have HNW := Lib.hid (show x.2 ≤ now by omega)
        have hn2 : n < 4096 := by
          have := HLEN.out
          rw [HR.out.2.1, List.length_append, List.length_cons, ← HR.out.1] at this
          omega
        rw [← hxt] at hnow
        go_wp2_with fail
        refine HN.out.mono ?_
        rintro e w1 ⟨rfl, hf⟩
        have HF := Lib.hid hf
        have HO := Lib.hid (HR.out.2.2.2.2.2.no hf)
        have HT := Lib.hid (HR.out.2.2.2.1.no hf)
        have OW := Lib.hid (show w1.ownsRow 0 3 1 (.slice A n c) n ((ids pre).map encI) from by
          have := (HR.out.2.2.2.2.2.no hf).own
          have hl : (ids pre).length = n := by unfold ids; rw [List.length_map]; exact HR.out.1.symm
          rw [hl] at this
          exact this)
        clear hf
        simp only [headR]
        rw [← hxi, ← hxt]
        clear hxi hxt
        go_wp2_with (at_builtin; go_loud (refine wp_push rfl (.tmp 23) (.tmp 25) 30 rfl 3 (.int .i64 0) 1 8 Try.underlying30 infoI rfl (by decide) (.slice A n c) n _ rfl OW.out #[.int .i64 xi] rfl rfl (one_lit rfl) (by omega) (by unfold maxLen; omega) ?_; intro g5 cap5 w5 p1 p2 p3; have hpp := Out.push (x := xi) HO.out HT.out (Nat.le_trans HR.out.2.2.2.2.1.1.size HF.out.size) (show n = (ids pre).length by unfold ids; rw [List.length_map]; exact HR.out.1) p1 p2 p3; have HP := Lib.hid hpp; have P2 := Lib.hid p2; clear p1 p2 p3 hpp))
        have hc := cancel_any HP.out.2 xi
        rw [HE.out.1, HX.out, ← HE.out.1] at hc
        have HC := Lib.hid hc
        clear hc
        refine HC.out.mono ?_
        rintro e w6 ⟨F2, rfl, ht2, hs2⟩
        have HT2 := Lib.hid ht2
        have HS2 := Lib.hid hs2
        clear ht2 hs2
        go_wp2_with fail
        go_roundw
        case rel => exact ⟨pre ++ [x], t, F2, n + 1, cap5, _, rfl, by omega, by rw [List.length_append, HR.out.1]; rfl, by rw [HR.out.2.1]; simp, fun y hy => (List.mem_append.1 hy).elim (HR.out.2.2.1 y) (fun g => by rw [List.mem_singleton.1 g]; exact HNW.out), HT2.out, (by
          have s1 := Step.trans HR.out.2.2.2.2.1 (Step.no HF.out)
          have s2 : Step F w F' w5 := ⟨s1.1.trans P2.out (fun k hk hl => absurd (HO.out.new k hk) (by omega)), fun k hk => (s1.2 k hk).imp id (fun g => ⟨g.1, Nat.lt_of_lt_of_le g.2 P2.out.size⟩)⟩
          exact Step.trans s2 HS2.out), (by
          have := HP.out.1.step HS2.out
          unfold ids at this ⊢
          rw [List.map_append]
          rw [HE.out.1] at this
          exact this)⟩
        case measure => simp [lenV]; omega
theorem due_nil (w : World) (now : Int) : Calls Try.prog 9 #[.pointer none, .int .i64 now] w fun e w' => e = .returned (.slice none 0 0) ∧ w = w' := by
  have HN := Lib.hid (next_nil w)
  go_enter Try.func9, Try.ntmps9
  go_wp2_with fail
  go_loopw [5] (fun ov wr => ov = .slice none 0 0 ∧ Hid (w = wr)) (fun _ _ => 0)
  case atStart => exact ⟨rfl, rfl⟩
  case round =>
    obtain ⟨rfl, HW⟩ := hrel
    have HN2 := Lib.hid (next_nil wr)
    go_wp2_with fail
    refine HN2.out.mono ?_
    rintro e w1 ⟨rfl, hw⟩
    subst hw
    go_wp2_with fail
    go_ret
    exact ⟨rfl, HW.out⟩
end
end Tm
end Go.Proofs.Ytkmlmjglipmdcaa
