/- Package seat: made, held, find, come, become, next, wants. Printed by gen_seatm.py. -/
import Derived.Test.YtepnjmgacfjhiaaSeatM
import Derived.BigQuiet
import Derived.Deep.CutRange
import Derived.Deep.RegionHeld3
import Derived.Outline
namespace Go.Proofs.Ytepnjmgacfjhiaa
open Go.RowKit
set_option linter.unusedVariables false
set_option linter.unusedSimpArgs false
namespace Seat
open Sls
theorem meth_Put (q : Nat) (w : World) : (method 256 100 (.pointer (some ⟨q, 0, none⟩)) "Put").run Try.prog w = .ok (99, .pointer (some ⟨q, 0, none⟩)) w := by kernel_rfl
theorem meth_Drop (q : Nat) (w : World) : (method 256 100 (.pointer (some ⟨q, 0, none⟩)) "Drop").run Try.prog w = .ok (96, .pointer (some ⟨q, 0, none⟩)) w := by kernel_rfl
theorem meth_Take (q : Nat) (w : World) : (method 256 100 (.pointer (some ⟨q, 0, none⟩)) "Take").run Try.prog w = .ok (100, .pointer (some ⟨q, 0, none⟩)) w := by kernel_rfl
theorem meth_Place (q : Nat) (w : World) : (method 256 100 (.pointer (some ⟨q, 0, none⟩)) "Place").run Try.prog w = .ok (98, .pointer (some ⟨q, 0, none⟩)) w := by kernel_rfl
theorem meth_All (q : Nat) (w : World) : (method 256 100 (.pointer (some ⟨q, 0, none⟩)) "All").run Try.prog w = .ok (95, .pointer (some ⟨q, 0, none⟩)) w := by kernel_rfl
/-- A code, and a seat. -/
def Comes (c : Int) (s : St) (F : Nat → Prop) (b : Nat) (w : World) (e : Ending) (w' : World) : Prop := ∃ F', e = .returned (.int .i64 c) ∧ SAt w' F' b s ∧ Step F w F' w'
section
variable {w : World} {F : Nat → Prop} {b : Nat} {s : St}
set_option maxRecDepth 100000 in
theorem made_any (h : SAt w F b s) : Calls Try.prog 55 #[.pointer (some ⟨b, 0, none⟩)] w fun e w' => e = .returned (.bool true) ∧ w = w' := by
  obtain ⟨v, q, G, h⟩ := h
  have c3 := h.c3
  clear h
  go_enter Try.func55, Try.ntmps55
  go_wp2
  go_ret
  exact ⟨rfl, rfl⟩
theorem made_nil (w : World) : Calls Try.prog 55 #[.pointer none] w fun e w' => e = .returned (.bool false) ∧ w = w' := by
  go_enter Try.func55, Try.ntmps55
  go_wp2
  go_ret
  exact ⟨rfl, rfl⟩
theorem held_any (h : SAt w F b s) : Calls Try.prog 52 #[.pointer (some ⟨b, 0, none⟩)] w fun e w' => e = .returned (.bool (s.wr != -1)) ∧ w = w' := by
  obtain ⟨v, q, G, h⟩ := h
  have c2 := h.c2
  clear h
  go_enter Try.func52, Try.ntmps52
  go_wp2
  go_ret
  exact ⟨rfl, rfl⟩
set_option maxRecDepth 100000 in
theorem find_any (h : SAt w F b s) (id : Int) : Calls Try.prog 56 #[.pointer (some ⟨b, 0, none⟩), .int .i64 id] w fun e w' => e = .returned (.int .i64 (placeM s.L id)) ∧ Fr No w w' := by
  obtain ⟨v, q, G, h⟩ := h
  obtain ⟨A, c, rfl⟩ := h.form
  have hf : Fr No w (w.alloc (.cells #[.int .i64 id] 3)) := (Fr.refl _ _).alloc _
  have h2 := h.no hf
  have c0 := h2.c0
  have HI := Lib.hid (index_any _ s.L id (w.alloc (.cells #[.int .i64 id] 3)) (Of (.slice A s.L.length c)) (own_lt h2.sp.row) (own_rm h2.sp.row) w.heap.size ((Blk.new w 3 #[.int .i64 id]).cell 0) (by simp))
  have HF := Lib.hid hf
  clear h h2 hf
  go_enter Try.func56, Try.ntmps56
  go_wp2_with fail
  refine HI.out.mono ?_
  rintro e w2 ⟨rfl, hf⟩
  have F2 := Lib.hid (HF.out.then_no hf)
  clear hf
  go_wp2_with fail
  go_ret
  exact ⟨rfl, F2.out⟩
set_option maxRecDepth 100000 in
set_option maxHeartbeats 2000000 in
theorem come_any (h : SAt w F b s) (hi : Inv s) (id level : Int) (hid : (Lit.int .i64 id).wf = true) (hlv : (Lit.int .i64 level).wf = true) :
    Calls Try.prog 51 #[.pointer (some ⟨b, 0, none⟩), .int .i64 id, .int .i64 level] w (Comes (comeC s id level) (if comeC s id level = 0 then comeS s id level else s) F b w) := by
  have M := Lib.hid (made_any h)
  by_cases h1 : id < 0
  · have e : comeC s id level = 1 := if_pos h1
    rw [e, if_neg (by decide)]
    have H := Lib.hid h
    clear h e
    go_enter Try.func51, Try.ntmps51
    go_wp2_with fail
    refine M.out.mono ?_
    rintro e w2 ⟨rfl, rfl⟩
    go_wp2_with fail
    go_ret
    exact ⟨F, rfl, H.out, Step.refl _ _⟩
  have FI := Lib.hid (find_any h id)
  have hge := placeM_cases s.L id
  by_cases h2 : thereB s.L id = true
  · have e : comeC s id level = 8 := by unfold comeC; rw [if_neg h1, if_pos h2]
    rw [e, if_neg (by decide)]
    have hp : 0 ≤ placeM s.L id := by
      rcases hge with ⟨_, g, _⟩ | ⟨k, _, g, _⟩
      · rw [g] at h2; cases h2
      · omega
    obtain ⟨p, hpp⟩ : ∃ p, p = placeM s.L id := ⟨_, rfl⟩
    rw [← hpp] at FI hp
    have H := Lib.hid h
    clear h e hge h2 hpp
    go_enter Try.func51, Try.ntmps51
    go_wp2_with fail
    refine M.out.mono ?_
    rintro e w2 ⟨rfl, rfl⟩
    go_wp2_with fail
    refine FI.out.mono ?_
    rintro e w2 ⟨rfl, hf⟩
    have HF := Lib.hid hf
    clear hf
    go_wp2_with fail
    go_ret
    exact ⟨F, rfl, H.out.no HF.out, Step.no HF.out⟩
  have hp : placeM s.L id < 0 := by
    rcases hge with ⟨g, _⟩ | ⟨k, _, _, g, _⟩
    · omega
    · exact absurd g h2
  obtain ⟨p, hpp⟩ : ∃ p, p = placeM s.L id := ⟨_, rfl⟩
  rw [← hpp] at FI hp
  clear hpp hge
  by_cases h3 : level < 1
  · have e : comeC s id level = 10 := by unfold comeC; rw [if_neg h1, if_neg h2, if_pos h3]
    rw [e, if_neg (by decide)]
    have H := Lib.hid h
    clear h e h2
    go_enter Try.func51, Try.ntmps51
    go_wp2_with fail
    refine M.out.mono ?_
    rintro e w2 ⟨rfl, rfl⟩
    go_wp2_with fail
    refine FI.out.mono ?_
    rintro e w2 ⟨rfl, hf⟩
    have HF := Lib.hid hf
    clear hf
    go_wp2_with fail
    go_ret
    exact ⟨F, rfl, H.out.no HF.out, Step.no HF.out⟩
  obtain ⟨v, q, G, hq⟩ := h
  obtain ⟨A, c, rfl⟩ := hq.form
  have hm := hi.most
  have hln := hi.len
  obtain ⟨n, hn⟩ : ∃ n, n = s.L.length := ⟨_, rfl⟩
  obtain ⟨ms, hms⟩ : ∃ ms, ms = s.most := ⟨_, rfl⟩
  by_cases h4 : s.most ≤ s.L.length
  · have e : comeC s id level = 6 := by unfold comeC; rw [if_neg h1, if_neg h2, if_neg h3, if_pos h4]
    rw [e, if_neg (by decide)]
    have HQ := Lib.hid hq
    clear hq e h2
    rw [← hn, ← hms] at h4
    have HN := Lib.hid hn
    have HM := Lib.hid hms
    clear hn hms hm hln
    go_enter Try.func51, Try.ntmps51
    go_wp2_with fail
    refine M.out.mono ?_
    rintro e w2 ⟨rfl, rfl⟩
    go_wp2_with fail
    refine FI.out.mono ?_
    rintro e w2 ⟨rfl, hf⟩
    have HF := Lib.hid hf
    have H2 := HQ.out.no hf
    have c0 := H2.c0
    have c1 := H2.c1
    rw [← HN.out] at c0
    rw [← HM.out] at c1
    clear hf H2
    go_upto_region 9 with (fail)
    go_quiet (fail)
    go_wp2_with fail
    go_ret
    exact ⟨F, rfl, (HQ.out.no (HF.out.drewN _)).at, Step.no (HF.out.drewN _)⟩
  · have e : comeC s id level = 0 := by unfold comeC; rw [if_neg h1, if_neg h2, if_neg h3, if_neg h4]
    rw [e, if_pos rfl]
    have HQ := Lib.hid hq
    clear hq e h2
    rw [← hn, ← hms] at h4
    rw [← hms] at hm
    rw [← hn, ← hms] at hln
    have HN := Lib.hid hn
    have HM := Lib.hid hms
    clear hn hms
    have hn4 : n ≤ 4096 := by omega
    go_enter Try.func51, Try.ntmps51
    go_wp2_with fail
    refine M.out.mono ?_
    rintro e w2 ⟨rfl, rfl⟩
    go_wp2_with fail
    refine FI.out.mono ?_
    rintro e w2 ⟨rfl, hf⟩
    have HF := Lib.hid hf
    have H2 := HQ.out.no hf
    have c0 := H2.c0
    have c1 := H2.c1
    rw [← HN.out] at c0
    rw [← HM.out] at c1
    clear hf H2
    go_upto_region 9 with (fail)
    go_quiet (fail)
    obtain ⟨w3, hw3⟩ : ∃ w3, w2.drewN nq = w3 := ⟨_, rfl⟩
    have F3 := Lib.hid (show Fr No w w3 from by rw [← hw3]; exact HF.out.drewN nq)
    have Q3 := Lib.hid (HQ.out.no F3.out)
    rw [hw3]
    clear hw3 c0 c1
    have c0 := Q3.out.c0
    have f0 := Q3.out.f 0
    rw [← HN.out] at c0
    have R3 := Lib.hid (show w3.ownsRow 0 114 2 (.slice A n c) n (s.L.flatMap encM) from by have := Q3.out.sp.row; rw [← HN.out] at this; exact this)
    go_wp2_with (at_builtin; go_loud (refine wp_push rfl (.tmp 37) (.tmp 41) 103 rfl 114 (.agg #[.int .i64 0, .int .i64 0]) 2 16 Try.underlying103 infoM rfl (by decide) (.slice A n c) _ _ rfl R3.out #[.int .i64 id, .int .i64 level] rfl rfl (by intro u hu; simp at hu; rcases hu with rfl | rfl <;> rfl) (by omega) (by unfold maxLen; omega) ?_; intro g4 cap4 w4 p1 p2 p3; have P1 := Lib.hid p1; have P2 := Lib.hid p2; have P3 := Lib.hid p3; have b4 := Q3.out.sp.blk.fr p2 (fun e => by have e2 : Of (.slice A s.L.length c) b := (by rw [← HN.out]; exact e); exact (Q3.out.sp.vb b e2).1 rfl); have d0 := b4.cell 0; have d1 := b4.frozen 0; simp at d0; clear p1 p2 p3 b4))
    go_ret
    obtain ⟨k1, k2⟩ := Q3.out.row (w1 := w4) (v' := .slice (some ⟨g4, 0, none⟩) (n + 1) cap4) (L' := s.L ++ [(id, level)]) (by
      have p1 := P1.out
      have e1 : (s.L ++ [(id, level)]).length = n + 1 := by simp; exact HN.out.symm
      have e2 : (s.L ++ [(id, level)]).flatMap encM = s.L.flatMap encM ++ [.int .i64 id, .int .i64 level] := by simp [encM]
      rw [e1, e2]
      exact p1) (by rw [← HN.out]; exact P2.out) (fun k hk => by
      have hk' : some g4 = some k := hk
      injection hk' with hk'
      subst hk'
      rw [← HN.out]
      exact P3.out)
    refine ⟨fun k => F k ∨ Of (.slice (some ⟨g4, 0, none⟩) (n + 1) cap4) k, ?_, k1.at, (Step.no F3.out).trans k2⟩
    rfl
end
end Seat
end Go.Proofs.Ytepnjmgacfjhiaa
