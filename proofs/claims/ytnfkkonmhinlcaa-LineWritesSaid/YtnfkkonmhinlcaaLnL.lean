/- Package line: a line in memory; made, State, Held, Next, open, Start, Stop, out. Printed by gen_lnl.py. -/
import Derived.Test.YtnfkkonmhinlcaaLnU
import Derived.Test.YtnfkkonmhinlcaaBrow
import Derived.Test.YtnfkkonmhinlcaaRunWorks
import Derived.BigQuiet
import Derived.Deep.CutRange
import Derived.Deep.RegionHeld3
import Derived.Outline
namespace Go.Proofs.Ytnfkkonmhinlcaa
open Go.RowKit
set_option linter.unusedVariables false
set_option linter.unusedSimpArgs false
namespace Ln
open Run (O ROp timesR endsR dueT nextT chk chkR Fit)
/-- What tells what a step does to a line. -/
abbrev FV : Value := .func (.func 29) #[] #[]
abbrev LC (gw : Nat) (st : Int) (vF rp : Value) (at_ : Int) (vh : Value) : Array Value := #[.pointer (some ⟨gw, 0, none⟩), .int .i64 st, vF, rp, .int .i64 at_, vh, FV]
/-- The line at g, in the blocks G. -/
structure LP (w : World) (G : Nat → Prop) (g gw : Nat) (vF rp vh : Value) (Gr : Nat → Prop) (s : S) : Prop where
  blk : Blk w g 59 (LC gw s.st vF rp s.at_ vh)
  wait : Backoff.WAt w gw s.b s.c s.j s.n
  first : RSl 3 ROp w (Of vF) [vF] s.first
  run : busy s = true → ∃ gr, rp = .pointer (some ⟨gr, 0, none⟩) ∧ Run.RW w Gr gr s.seq s.start s.was
  idle : busy s = false → rp = .pointer none
  held : w.ownsRow 0 5 1 vh s.held.length (s.held.map encB)
  hg : G g
  hw : G gw ∧ gw ≠ g
  hF : ∀ k, Of vF k → G k ∧ k ≠ g ∧ k ≠ gw ∧ ¬ Of vh k ∧ ¬ Gr k
  hh : ∀ k, Of vh k → G k ∧ k ≠ g ∧ k ≠ gw ∧ ¬ Gr k
  hr : ∀ k, Gr k → G k ∧ k ≠ g ∧ k ≠ gw
  lt : ∀ k, G k → k < w.heap.size
def LW (w : World) (G : Nat → Prop) (g : Nat) (s : S) : Prop := ∃ gw vF rp vh Gr, LP w G g gw vF rp vh Gr s
section
variable {w w' W : World} {G G' : Nat → Prop} {g gw : Nat} {vF rp vh : Value} {Gr : Nat → Prop} {s s' : S}
theorem wat_far {b c j n : Int} {F : Nat → Prop} (h : Backoff.WAt w gw b c j n) (hf : Fr F w w') (hn : ¬ F gw) : Backoff.WAt w' gw b c j n := ⟨h.1.fr hf hn, h.2⟩
/-- The line behind an act: what of it stands, and what is new. -/
theorem LP.make {rp' vh' : Value} {Gr' : Nat → Prop} {F : Nat → Prop} (h : LP w G g gw vF rp vh Gr s) (hf : Fr F w W) (hFF : ∀ k, Of vF k → ¬ F k)
    (hgg : ∀ k, G k → G' k) (hlt : ∀ k, G' k → k < W.heap.size) (h1 : s'.first = s.first)
    (hb : Blk W g 59 (LC gw s'.st vF rp' s'.at_ vh')) (hwt : Backoff.WAt W gw s'.b s'.c s'.j s'.n)
    (hrun : busy s' = true → ∃ gr, rp' = .pointer (some ⟨gr, 0, none⟩) ∧ Run.RW W Gr' gr s'.seq s'.start s'.was) (hidle : busy s' = false → rp' = .pointer none)
    (hheld : W.ownsRow 0 5 1 vh' s'.held.length (s'.held.map encB)) (hh' : ∀ k, Of vh' k → Of vh k ∨ New w W k ∧ G' k) (hr' : ∀ k, Gr' k → Gr k ∨ New w W k ∧ G' k) (hhr : ∀ k, Of vh' k → ¬ Gr' k) : LP W G' g gw vF rp' vh' Gr' s' := by
  have l1 := h.lt g h.hg
  have l2 := h.lt gw h.hw.1
  refine ⟨hb, hwt, ?_, hrun, hidle, hheld, hgg _ h.hg, ⟨hgg _ h.hw.1, h.hw.2⟩, fun k hk => ?_, fun k hk => ?_, fun k hk => ?_, hlt⟩
  · rw [h1]
    exact (RSl.stable ROp.stable).go h.first (Kept.of_fr hf (fun k hk => ⟨h.lt k (h.hF k hk).1, hFF k hk⟩)) (fun _ h => h)
  · obtain ⟨a1, a2, a3, a4, a5⟩ := h.hF k hk
    have l3 := h.lt k a1
    refine ⟨hgg k a1, a2, a3, fun hv => ?_, fun hv => ?_⟩
    · rcases hh' k hv with g | g
      · exact a4 g
      · have := g.1.1; omega
    · rcases hr' k hv with g | g
      · exact a5 g
      · have := g.1.1; omega
  · rcases hh' k hk with g | g
    · obtain ⟨a1, a2, a3, a4⟩ := h.hh k g
      exact ⟨hgg k a1, a2, a3, hhr k hk⟩
    · have := g.1.1
      exact ⟨g.2, by omega, by omega, hhr k hk⟩
  · rcases hr' k hk with g | g
    · obtain ⟨a1, a2, a3⟩ := h.hr k g
      exact ⟨hgg k a1, a2, a3⟩
    · have := g.1.1
      exact ⟨g.2, by omega, by omega⟩
theorem LP.far {F : Nat → Prop} (h : LP w G g gw vF rp vh Gr s) (hf : Fr F w W) (hn : ∀ k, G k → ¬ F k) : LP W G g gw vF rp vh Gr s :=
  h.make hf (fun k hk => hn k (h.hF k hk).1) (fun _ h => h) (fun k hk => Nat.lt_of_lt_of_le (h.lt k hk) hf.size) rfl (h.blk.fr hf (hn g h.hg)) (wat_far h.wait hf (hn gw h.hw.1))
    (fun hb => by obtain ⟨gr, h1, h2⟩ := h.run hb; exact ⟨gr, h1, h2.far hf (fun k hk => hn k (h.hr k hk).1)⟩) h.idle (own_fr h.held hf (fun k hk => hn k (h.hh k hk).1)) (fun k hk => .inl hk) (fun k hk => .inl hk) (fun k hk => (h.hh k hk).2.2.2)
theorem LP.no (h : LP w G g gw vF rp vh Gr s) (hf : Fr No w W) : LP W G g gw vF rp vh Gr s := h.far hf (fun _ _ h => h)
theorem LW.far {F : Nat → Prop} (h : LW w G g s) (hf : Fr F w W) (hn : ∀ k, G k → ¬ F k) : LW W G g s := by
  obtain ⟨gw, vF, rp, vh, Gr, h⟩ := h
  exact ⟨gw, vF, rp, vh, Gr, h.far hf hn⟩
theorem LW.no (h : LW w G g s) (hf : Fr No w W) : LW W G g s := h.far hf (fun _ _ h => h)
theorem LW.lt (h : LW w G g s) : ∀ k, G k → k < w.heap.size := by
  obtain ⟨gw, vF, rp, vh, Gr, h⟩ := h
  exact h.lt
theorem LP.row (h : LP w G g gw vF rp vh Gr s) : ∃ A c, vF = .slice A s.first.length c := by
  obtain ⟨A, c, e, _⟩ := h.first.slice
  exact ⟨A, c, e⟩
theorem LP.bytes (h : LP w G g gw vF rp vh Gr s) : ∃ A c, vh = .slice A s.held.length c := own_form h.held
theorem LP.ptr (h : LP w G g gw vF rp vh Gr s) : (busy s = false ∧ rp = .pointer none) ∨ (busy s = true ∧ ∃ gr, rp = .pointer (some ⟨gr, 0, none⟩)) := by
  cases hb : busy s
  · exact .inl ⟨rfl, h.idle hb⟩
  · obtain ⟨gr, e, _⟩ := h.run hb
    exact .inr ⟨rfl, gr, e⟩
/-- What an act on a line yields: the line, and what is done. -/
def LAct (w : World) (G : Nat → Prop) (g : Nat) (s : S) (l : List (Int × Str)) (f : Value → Value) (e : Ending) (w' : World) : Prop :=
  ∃ v G', e = .returned (f v) ∧ LW w' G' g s ∧ (w'.ownsRow 0 65 2 v l.length (l.flatMap encU) ∧ ∀ k, Of v k → New w w' k ∧ ¬ G' k) ∧ Step G w G' w'
theorem lact_nil {f : Value → Value} {e : Ending} (he : e = .returned (f (.slice none 0 0))) (h : LW w' G g s) (hs : Fr G w w') : LAct w G g s [] f e w' :=
  ⟨_, G, he, h, ⟨World.ownsRow_nil _ _ _ _, fun k hk => (by cases hk)⟩, hs, fun k hk => .inl hk⟩
theorem lact_one {f : Value → Value} {e : Ending} {k : Int} {t : Str} {b : Nat} {W' : World} (hb : b = W'.heap.size) (he : e = .returned (f (.slice (some ⟨b, 0, none⟩) 1 1))) (hw : w' = W'.alloc (.cells #[.int .i64 k, .string ⟨t.toArray⟩] 65)) (h : LW W' G g s) (hs : Fr G w W') : LAct w G g s [(k, t)] f e w' := by
  subst hb hw
  refine ⟨_, G, he, h.no ((Fr.refl _ _).alloc _), ⟨Run.own_lit W' 65 2 1 #[.int .i64 k, .string ⟨t.toArray⟩] rfl (by unfold maxLen; omega), fun z hz => ?_⟩, hs.alloc _, fun k hk => .inl hk⟩
  have hz : some W'.heap.size = some z := hz
  injection hz with hz
  subst hz
  exact ⟨⟨hs.size, by rw [size_alloc]; omega⟩, fun hg => by have := h.lt _ hg; omega⟩
section
variable {st at_ : Int}
set_option maxRecDepth 100000 in
theorem made_any (h : Blk w g 59 (LC gw st vF rp at_ vh)) : Calls Try.prog 30 #[.pointer (some ⟨g, 0, none⟩)] w fun e w' => e = .returned (.bool true) ∧ w = w' := by
  have hq : ∀ W : World, (binOp .neq 57 FV .nilFunc).run Try.prog W = .ok (.bool true) W := fun W => by kernel_rfl
  have co := h
  have c0 := co.cell 0
  have c1 := co.cell 1
  have c2 := co.cell 2
  have c3 := co.cell 3
  have c4 := co.cell 4
  have c5 := co.cell 5
  have c6 := co.cell 6
  have cf0 := co.frozen 0
  have cf1 := co.frozen 1
  have cf2 := co.frozen 2
  have cf3 := co.frozen 3
  have cf4 := co.frozen 4
  have cf5 := co.frozen 5
  have cf6 := co.frozen 6
  simp only [List.getElem?_toArray, List.getElem?_cons_zero, List.getElem?_cons_succ] at c0 c1 c2 c3 c4 c5 c6
  clear co
  go_enter Try.func30, Try.ntmps30
  go_wp2_with fail
  go_ret
  exact ⟨rfl, rfl⟩
set_option maxRecDepth 100000 in
theorem state_any (h : Blk w g 59 (LC gw st vF rp at_ vh)) : Calls Try.prog 12 #[.pointer (some ⟨g, 0, none⟩)] w fun e w' => e = .returned (.int .i64 st) ∧ w = w' := by
  have H := Lib.hid h
  have co := h
  have c0 := co.cell 0
  have c1 := co.cell 1
  have c2 := co.cell 2
  have c3 := co.cell 3
  have c4 := co.cell 4
  have c5 := co.cell 5
  have c6 := co.cell 6
  have cf0 := co.frozen 0
  have cf1 := co.frozen 1
  have cf2 := co.frozen 2
  have cf3 := co.frozen 3
  have cf4 := co.frozen 4
  have cf5 := co.frozen 5
  have cf6 := co.frozen 6
  simp only [List.getElem?_toArray, List.getElem?_cons_zero, List.getElem?_cons_succ] at c0 c1 c2 c3 c4 c5 c6
  clear co
  clear h
  go_enter Try.func12, Try.ntmps12
  go_wp2_with (go_at_call 30; refine (made_any H.out).mono ?_; rintro e w2 ⟨rfl, rfl⟩)
  go_ret
  exact ⟨rfl, rfl⟩
set_option maxRecDepth 100000 in
theorem held_any {A : Option Addr} {n c : Nat} (h : Blk w g 59 (LC gw st vF rp at_ (.slice A n c))) : Calls Try.prog 20 #[.pointer (some ⟨g, 0, none⟩)] w fun e w' => e = .returned (.int .i64 n) ∧ w = w' := by
  have H := Lib.hid h
  have co := h
  have c0 := co.cell 0
  have c1 := co.cell 1
  have c2 := co.cell 2
  have c3 := co.cell 3
  have c4 := co.cell 4
  have c5 := co.cell 5
  have c6 := co.cell 6
  have cf0 := co.frozen 0
  have cf1 := co.frozen 1
  have cf2 := co.frozen 2
  have cf3 := co.frozen 3
  have cf4 := co.frozen 4
  have cf5 := co.frozen 5
  have cf6 := co.frozen 6
  simp only [List.getElem?_toArray, List.getElem?_cons_zero, List.getElem?_cons_succ] at c0 c1 c2 c3 c4 c5 c6
  clear co
  clear h
  go_enter Try.func20, Try.ntmps20
  go_wp2_with (go_at_call 30; refine (made_any H.out).mono ?_; rintro e w2 ⟨rfl, rfl⟩)
  go_ret
  exact ⟨rfl, rfl⟩
end
theorem lstate_any (h : LW w G g s) : Calls Try.prog 12 #[.pointer (some ⟨g, 0, none⟩)] w fun e w' => e = .returned (.int .i64 s.st) ∧ w = w' := by
  obtain ⟨gw, vF, rp, vh, Gr, h⟩ := h
  exact state_any h.blk
theorem lheld_any (h : LW w G g s) : Calls Try.prog 20 #[.pointer (some ⟨g, 0, none⟩)] w fun e w' => e = .returned (.int .i64 s.held.length) ∧ w = w' := by
  obtain ⟨gw, vF, rp, vh, Gr, h⟩ := h
  obtain ⟨A, c, rfl⟩ := h.bytes
  exact held_any h.blk
set_option maxRecDepth 100000 in
set_option maxHeartbeats 1000000 in
theorem next_any (h : LW w G g s) (hf : busy s = true → Fit s.seq s.start) : Calls Try.prog 18 #[.pointer (some ⟨g, 0, none⟩)] w fun e w' => e = .returned (.tuple #[.int .i64 (nextS s).1, .bool (nextS s).2]) ∧ Fr No w w' := by
  obtain ⟨gw, vF, rp, vh, Gr, h⟩ := h
  have H := Lib.hid h.blk
  have HP := Lib.hid h
  have hp := h.ptr
  have co := h.blk
  have c0 := co.cell 0
  have c1 := co.cell 1
  have c2 := co.cell 2
  have c3 := co.cell 3
  have c4 := co.cell 4
  have c5 := co.cell 5
  have c6 := co.cell 6
  have cf0 := co.frozen 0
  have cf1 := co.frozen 1
  have cf2 := co.frozen 2
  have cf3 := co.frozen 3
  have cf4 := co.frozen 4
  have cf5 := co.frozen 5
  have cf6 := co.frozen 6
  simp only [List.getElem?_toArray, List.getElem?_cons_zero, List.getElem?_cons_succ] at c0 c1 c2 c3 c4 c5 c6
  clear co
  clear h
  obtain ⟨b, c, j, st, n, at_, first, seq, start, was, held⟩ := s
  simp only at *
  by_cases h1 : st = 1
  · subst h1
    have HE := Lib.hid (show nextS ⟨b, c, j, 1, n, at_, first, seq, start, was, held⟩ = (at_, true) from rfl)
    clear hp hf
    go_enter Try.func18, Try.ntmps18
    go_wp2_with (go_at_call 12; refine (state_any H.out).mono ?_; rintro e w2 ⟨rfl, rfl⟩)
    all_goals (go_ret2; rw [HE.out]; exact ⟨rfl, Fr.refl _ _⟩)
  · rcases hp with ⟨hb, rfl⟩ | ⟨hb, gr, rfl⟩
    · have hb2 := of_decide_eq_false hb
      simp only at hb2
      have HE := Lib.hid (show nextS ⟨b, c, j, st, n, at_, first, seq, start, was, held⟩ = (0, false) by unfold nextS; rw [if_neg h1, if_neg (by rw [hb]; simp)])
      have g1 : (st == 1) = false := by simpa using h1
      have g3 : (st == 3) = false := by simpa using fun e => hb2 (.inl e)
      have g5 : (st == 5) = false := by simpa using fun e => hb2 (.inr e)
      clear hb hb2 h1 hf
      go_enter Try.func18, Try.ntmps18
      go_wp2_with (go_at_call 12; refine (state_any H.out).mono ?_; rintro e w2 ⟨rfl, rfl⟩)
      all_goals (go_ret2; rw [HE.out]; exact ⟨rfl, Fr.refl _ _⟩)
    · have hb2 := of_decide_eq_true hb
      simp only at hb2
      have HE := Lib.hid (show nextS ⟨b, c, j, st, n, at_, first, seq, start, was, held⟩ = nextT was (endsR start seq) (timesR start seq) by unfold nextS; rw [if_neg h1, if_pos hb]; rfl)
      have HF := Lib.hid (hf hb)
      have HR : Hid (Run.RW w Gr gr seq start was) := by
        obtain ⟨gr', e, h⟩ := HP.out.run hb
        injection e with e
        injection e with e
        injection e with e
        subst e
        exact h
      have g1 : (st == 1) = false := by simpa using h1
      have g35 : st = 3 ∨ (st == 3) = false ∧ st = 5 := by
        rcases hb2 with e | e
        · exact .inl e
        · exact .inr ⟨by subst e; decide, e⟩
      clear hb hb2 h1 hf
      have RN := Lib.hid (Run.next_any w Gr gr seq start was HF.out HR.out)
      rcases g35 with rfl | ⟨g3, rfl⟩
      all_goals
        go_enter Try.func18, Try.ntmps18
        go_wp2_with (first | (go_at_call 12; refine (state_any H.out).mono ?_; rintro e w2 ⟨rfl, rfl⟩) | (go_at_call 45; refine RN.out.mono ?_; rintro e w2 ⟨hx, hf2⟩; have hx : e = _ := hx; subst hx; clear hx; have F2 := Lib.hid hf2; clear hf2))
        all_goals (go_ret2; rw [HE.out]; exact ⟨rfl, F2.out⟩)
end
end Ln
end Go.Proofs.Ytnfkkonmhinlcaa
