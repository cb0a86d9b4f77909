/- Package runner: Next. -/
import Derived.Test.YtnfkkonmhinlcaaRunRef2
namespace Go.Proofs.Ytnfkkonmhinlcaa
open Go.RowKit Go.Shelf
set_option linter.unusedVariables false
set_option linter.unusedSimpArgs false
attribute [local go_sem] Oper.semAt_some
namespace Run
def nextP (done : Nat) (over : Bool) (ends : Int) (l : List T) : Int × Bool :=
  if over = true then (0, false) else match (l.drop done).find? (fun x => x.2.1 != 2) with
  | some x => (x.1, true)
  | none => (ends, true)
/-- Between two rounds of Next's loop. -/
def NI (w : World) (g : Nat) (done : Nat) (pre : List T) (W : World) : Prop :=
  (((Boxed W w.heap.size 55 (.pointer (some ⟨g, 0, none⟩)) ∧ Boxed W (w.heap.size + 1) 3 (.int .i64 0)) ∧ Boxed W (w.heap.size + 2) 4 (.bool false)) ∧ Boxed W (w.heap.size + 3) 3 (.int .i64 (pre.length : Nat))) ∧ (((pre.drop done).find? (fun x => x.2.1 != 2) = none) ∧ Below w.heap.size w W)
theorem NI.own (w : World) (g : Nat) (done B : Nat) (hB : w.heap.size ≤ B) : OwnFrom B (NI w g done) :=
  OwnFrom.and (OwnFrom.and (OwnFrom.and (OwnFrom.and (Own.from (boxed_own _ _ _) _) (Own.from (boxed_own _ _ _) _)) (Own.from (boxed_own _ _ _) _)) (Own.from (boxed_own _ _ _) _)) (OwnFrom.and (ownFrom_pure _ _) (ownFrom_below (Nat.le_refl _) hB))
/-- A round has returned: there is something to do. -/
def NX (w : World) (done : Nat) (c : Code) (pre : List T) (W : World) : Prop :=
  (c = .ret ∧ ∃ p x, pre = p ++ [x] ∧ (p.drop done).find? (fun x => x.2.1 != 2) = none ∧ done ≤ p.length ∧ (x.2.1 != 2) = true ∧ Boxed W (w.heap.size + 1) 3 (.int .i64 x.1) ∧ Boxed W (w.heap.size + 2) 4 (.bool true)) ∧ Below w.heap.size w W
theorem NX.own (w : World) (done B : Nat) (hB : w.heap.size ≤ B) (c : Code) : OwnFrom B (NX w done c) :=
  OwnFrom.and (Own.from (fun s A B' row hs hg hr => by
    obtain ⟨hc, p, x, e1, e2, e3, e4, b1, b2⟩ := hs
    exact ⟨hc, p, x, e1, e2, e3, e4, boxed_own _ _ (fun _ : Unit => .int .i64 x.1) () A B' row b1 hg hr, boxed_own _ _ (fun _ : Unit => .bool true) () A B' row b2 hg hr⟩) _) (ownFrom_below (Nat.le_refl _) hB)
theorem fn_next {done : Nat} {pre : List T} {x : T} (h : (pre.drop done).find? (fun x => x.2.1 != 2) = none) (hx : pre.length < done ∨ (x.2.1 != 2) = false) : ((pre ++ [x]).drop done).find? (fun x => x.2.1 != 2) = none := by
  by_cases hd : done ≤ pre.length
  · rcases hx with hx | hx
    · omega
    · rw [List.drop_append_of_le_length hd, List.find?_append, h]
      simp [hx]
  · rw [List.drop_of_length_le (by simp; omega)]
    rfl
theorem NI.next {w W : World} {g done : Nat} {pre : List T} {x : T} (hfn : (pre.drop done).find? (fun x => x.2.1 != 2) = none) (hx : pre.length < done ∨ (x.2.1 != 2) = false)
    (bR : Boxed W w.heap.size 55 (.pointer (some ⟨g, 0, none⟩))) (bA : Boxed W (w.heap.size + 1) 3 (.int .i64 0)) (bQ : Boxed W (w.heap.size + 2) 4 (.bool false)) (bI : Boxed W (w.heap.size + 3) 3 (.int .i64 (pre.length : Nat))) (hB : Below w.heap.size w W) :
    NI w g done (pre ++ [x]) (W.setCell ⟨w.heap.size + 3, 0, none⟩ (.int .i64 ((pre.length : Nat) + 1))) := by
  refine ⟨⟨⟨⟨bR.other (by omega) _, bA.other (by omega) _⟩, bQ.other (by omega) _⟩, ?_⟩, fn_next hfn hx, hB.setCell (p := ⟨w.heap.size + 3, 0, none⟩) (by simp) _⟩
  have := bI.set (.int .i64 ((pre.length : Nat) + 1))
  rw [List.length_append]
  exact this
theorem RAt.no {w w' : World} {G : Nat → Prop} {g : Nat} {l : List O} {start ends : Int} {done : Nat} {over : Bool} (h : RAt w G g l start done over ends) (hf : Fr No w w') : RAt w' G g l start done over ends := by
  obtain ⟨v, h1, h2, h3, h4, h5⟩ := h
  exact ⟨v, h1.fr hf (fun h => h), own_fr h2 hf (fun _ _ h => h), h3, h4, fun k hk => Nat.lt_of_lt_of_le (h5 k hk) hf.size⟩
set_option maxRecDepth 100000 in
set_option maxHeartbeats 2000000 in
theorem next_in (n : Nat) (hn : 3 ≤ n) (w : World) (G : Nat → Prop) (g : Nat) (l : List O) (start ends : Int) (done : Nat) (over : Bool) (hst : 0 ≤ start ∧ start ≤ 1099511627776) (hck : chkR start l = 0) (hll : l.length ≤ 1000) (hwf : ∀ x ∈ l, wfO x) (hR : RAt w G g l start done over ends) :
    CallsIn Fence.wide n Try.prog 45 #[.pointer (some ⟨g, 0, none⟩)] w fun e w' => NextIs (nextP done over ends (timesR start l)) e ∧ Fr No w w' := by
  have h1 : 1 ≤ n := by omega
  have hro : Fence.wide.round = none := rfl
  have hmix : Try.prog.follows .mixedOrders = true := by kernel_rfl
  refine callsIn_of_wp_marks Try.func45 rfl trivial ?_ hro
  simp only [Try.ntmps45, List.size_toArray, List.length_cons, List.length_nil, Nat.reduceAdd, Nat.reduceSub, Array.replicate_succ, Array.replicate_zero, List.push_toArray, List.append_toArray, List.nil_append, List.cons_append]
  have HR := Lib.hid hR
  cases over
  · have hda := fun W hf => done_any W G g l start ends done false (hR.no hf)
    gi_wp2_with (first
      | (refine ⟨trivial, ?_⟩; gi_at_call 57; refine (callsIn_wide.2 (hda _ (((((Fr.refl No w).alloc _).alloc _).alloc _)))).mono ?_; rintro e w' ⟨rfl, rfl⟩)
      | (refine ⟨trivial, ?_⟩; gi_at_call 62; refine (times_in Fence.wide (n - 1) trivial hro _ _).mono ?_; rintro e w' ⟨rfl, rfl⟩))
    obtain ⟨W0, hW0⟩ : ∃ W0, ((((w.alloc (.cells #[.pointer (some ⟨g, 0, none⟩)] 55)).alloc (.cells #[.int .i64 0] 3)).alloc (.cells #[.bool false] 4)).alloc (.cells #[.int .i64 0] 3)).alloc (.cells #[.pointer (some ⟨g, 0, none⟩)] 55) = W0 := ⟨_, rfl⟩
    rw [hW0]
    have hsz : W0.heap.size = w.heap.size + 5 := by rw [← hW0]; simp
    have hB0 : Below w.heap.size w W0 := by rw [← hW0]; exact ((((((Below.refl _ w).alloc (Nat.le_refl _) _).alloc (by simp) _).alloc (by simp; omega) _).alloc (by simp; omega) _).alloc (by simp; omega) _)
    have b0 := Boxed.new w 55 (.pointer (some ⟨g, 0, none⟩))
    have b1 := Boxed.new (w.alloc (.cells #[.pointer (some ⟨g, 0, none⟩)] 55)) 3 (.int .i64 0)
    have b2 := Boxed.new ((w.alloc (.cells #[.pointer (some ⟨g, 0, none⟩)] 55)).alloc (.cells #[.int .i64 0] 3)) 4 (.bool false)
    have b3 := Boxed.new (((w.alloc (.cells #[.pointer (some ⟨g, 0, none⟩)] 55)).alloc (.cells #[.int .i64 0] 3)).alloc (.cells #[.bool false] 4)) 3 (.int .i64 0)
    have b4 := Boxed.new ((((w.alloc (.cells #[.pointer (some ⟨g, 0, none⟩)] 55)).alloc (.cells #[.int .i64 0] 3)).alloc (.cells #[.bool false] 4)).alloc (.cells #[.int .i64 0] 3)) 55 (.pointer (some ⟨g, 0, none⟩))
    simp only [World.size_alloc] at b1 b2 b3 b4
    have b3 := b3.alloc (.cells #[.pointer (some ⟨g, 0, none⟩)] 55)
    have b2 := (b2.alloc (.cells #[.int .i64 0] 3)).alloc (.cells #[.pointer (some ⟨g, 0, none⟩)] 55)
    have b1 := ((b1.alloc (.cells #[.bool false] 4)).alloc (.cells #[.int .i64 0] 3)).alloc (.cells #[.pointer (some ⟨g, 0, none⟩)] 55)
    have b0 := (((b0.alloc (.cells #[.int .i64 0] 3)).alloc (.cells #[.bool false] 4)).alloc (.cells #[.int .i64 0] 3)).alloc (.cells #[.pointer (some ⟨g, 0, none⟩)] 55)
    rw [hW0] at b0 b1 b2 b3 b4
    have hI0 : NI w g done [] W0 := ⟨⟨⟨⟨b0, b1⟩, b2⟩, b3⟩, by simp, hB0⟩
    have hbx : W0.cell? ⟨w.heap.size + 4, 0, none⟩ = some (.pointer (some ⟨g, 0, none⟩)) := b4.cell
    have hRW : RAt W0 G g l start done false ends := HR.out.no (Fr.of_below hB0 No)
    clear b0 b1 b2 b3 b4
    have hGw : ∀ k, G k → k < w.heap.size := by obtain ⟨_, _, _, _, _, h5⟩ := hR; exact h5
    clear hW0 hda
    refine wpIn_rangeFunc_ownH hro h1 (gf := 74) (lb := #[.pointer (some ⟨w.heap.size + 4, 0, none⟩)]) rfl trivial (enters_of Try.func74 (by kernel_rfl) rfl)
      (times_stops Fence.wide (n - 1) trivial hro (by omega) (w.heap.size + 4) w.heap.size g l start ends done false G hst hck hll hGw hwf W0 (by omega) (by omega) hbx hRW) belowK_t (belowK_b (by omega)) (Below.refl _ _) (fun _ => rfl)
      (NI w g done)
      (NX w done)
      (NI.own w g done _ (by omega))
      (NX.own w done _ (by omega))
      hI0
      (fun x a' W => ∃ Bx, w.heap.size + 3 < Bx ∧ Blk W Bx 69 #[.int .i64 x.2.1, .string ⟨x.2.2.1.toArray⟩, .int .i64 x.2.2.2] ∧ a' = { tmps := #[.pointer (some ⟨g, 0, none⟩), .pointer (some ⟨w.heap.size, 0, none⟩), .pointer (some ⟨w.heap.size + 1, 0, none⟩), .pointer (some ⟨w.heap.size + 1 + 1, 0, none⟩), .pointer (some ⟨w.heap.size + 1 + 1 + 1, 0, none⟩), .int .i64 x.1, .pointer (some ⟨Bx, 0, none⟩), .pointer (some ⟨g, 0, none⟩), .bool false, .pointer (some ⟨g, 0, none⟩), .func (.func 74) #[] #[.pointer (some ⟨w.heap.size + 1 + 1 + 1 + 1, 0, none⟩)], .int .i64 x.1, .agg #[.int .i64 x.2.1, .string ⟨x.2.2.1.toArray⟩, .int .i64 x.2.2.2], undef, undef, undef, undef, undef, undef, undef, undef, undef, undef, undef, undef, undef, undef, undef, undef, undef, undef], defers := [] })
      (fun x a' s A B row hs hg hr => by obtain ⟨Bx, h1, h2, h3⟩ := hs; exact ⟨Bx, h1, (blk_own Bx _ (fun _ : Unit => #[.int .i64 x.2.1, .string ⟨x.2.2.1.toArray⟩, .int .i64 x.2.2.2])).from _ () A B row h2 hg hr, h3⟩)
      ?assign ?body ?done ?stop
    case assign =>
      rintro lb pre x W K hi hK
      dsimp only [encT]
      gi_wp2
      have hsz3 := hi.1.2.lt
      exact hK _ _ ((KeepsOthers.alloc _ _).from _) ((Below.refl _ W).alloc hi.2.2.size _) ((NI.own w g done w.heap.size (Nat.le_refl _)).alloc _ hi) ⟨W.heap.size, hsz3, Blk.new _ _ _, rfl⟩
    case body =>
      rintro lb pre x a' W hl ⟨r, hr⟩ hI ⟨Bx, hBx, bX, rfl⟩ hlt
      have HI := Lib.hid hI
      obtain ⟨⟨⟨⟨bR, bA⟩, bQ⟩, bI⟩, hfn, hB⟩ := hI
      obtain ⟨t, kd, s, n'⟩ := x
      have cR := bR.cell
      have cA := bA.cell
      have cQ := bQ.cell
      have cI := bI.cell
      have fA := bA.frozen
      have fQ := bQ.frozen
      have fI := bI.frozen
      have x0 := bX.cell 0
      simp at x0
      have cD : W.cell? ⟨g, 2, none⟩ = some (.int .i64 done) := by
        obtain ⟨v, h1, _, h3, _, h5⟩ := HR.out
        rw [hB.cell (p := ⟨g, 2, none⟩) (h5 g h3)]
        simpa using h1.cell 2
      have Hfn := Lib.hid hfn
      have HB := Lib.hid hB
      clear hfn hck hwf hst hRW hI0 hbx hR hB
      by_cases h : done ≤ pre.length
      · cases hk2 : kd != 2
        · gi_wp2
          gi_region_o
          gi_wp2
          all_goals exact ⟨((KeepsOthers.setCell W _ _).trans (KeepsOthers.drew _)).from _, ((Below.refl _ W).setCell (p := ⟨w.heap.size + 3, 0, none⟩) (by simp) _).drew, NI.next (W := W.drew) Hfn.out (.inr hk2) bR bA bQ bI HB.out.drew⟩
        · gi_wp2
          gi_region_o
          gi_wp2
          all_goals exact ⟨(((KeepsOthers.setCell W _ _).trans (KeepsOthers.setCell _ _ _)).trans (KeepsOthers.drew _)).from _, ⟨rfl, pre, _, rfl, Hfn.out, h, hk2, ((show Boxed W.drew _ _ _ from bA).set _).other (by omega) _, ((show Boxed W.drew _ _ _ from bQ).other (by omega) _).set _⟩, (HB.out.drew.setCell (p := ⟨w.heap.size + 1, 0, none⟩) (by simp) _).setCell (p := ⟨w.heap.size + 2, 0, none⟩) (by simp) _⟩
      · have h' : pre.length < done := by omega
        gi_wp2
        gi_region_o
        gi_wp2
        all_goals exact ⟨((KeepsOthers.setCell W _ _).trans (KeepsOthers.drew _)).from _, ((Below.refl _ W).setCell (p := ⟨w.heap.size + 3, 0, none⟩) (by simp) _).drew, NI.next (W := W.drew) Hfn.out (.inl h') bR bA bQ bI HB.out.drew⟩
    case done =>
      rintro D ys W hD hys ⟨⟨⟨⟨bR, bA⟩, bQ⟩, bI⟩, hfn, hB⟩ hK
      have hys : ys = timesR start l := hys
      have cE : W.cell? ⟨g, 4, none⟩ = some (.int .i64 ends) := by
        obtain ⟨v, h1, _, h3, _, h5⟩ := HR.out
        rw [hB.cell (p := ⟨g, 4, none⟩) (h5 g h3)]
        simpa using h1.cell 4
      have HN := Lib.hid (show nextP done false ends (timesR start l) = (ends, true) by unfold nextP; rw [if_neg (by decide), ← hys, hfn])
      have HB := Lib.hid hB
      have cR := bR.cell
      have cA := bA.cell
      have cQ := bQ.cell
      have fA := bA.frozen
      have fQ := bQ.frozen
      clear hfn hck hwf hst hRW hI0 hbx hR hB hys
      gi_wp2
      have bA2 := (bA.set (.int .i64 ends)).other (B' := w.heap.size + 2) (by omega) (.bool true)
      have bQ2 := (bQ.other (B' := w.heap.size + 1) (by omega) (.int .i64 ends)).set (.bool true)
      have hK2 := ((KeepsOthers.setCell W ⟨w.heap.size + 1, 0, none⟩ (.int .i64 ends)).trans (KeepsOthers.setCell _ ⟨w.heap.size + 2, 0, none⟩ (.bool true))).same D _ hK rfl
      have hB2 := (HB.out.setCell (p := ⟨w.heap.size + 1, 0, none⟩) (by simp) (.int .i64 ends)).setCell (p := ⟨w.heap.size + 2, 0, none⟩) (by simp) (.bool true)
      refine ⟨by simp, .inl ⟨_, _, rfl, run_takeDeferred hK2, ?_⟩⟩
      have ca := cell_kept bA2.cell (grownBy_putObj' _ D (.deferred none)) (fun r e => by cases e; exact ⟨_, hK2, rfl⟩)
      have cb := cell_kept bQ2.cell (grownBy_putObj' _ D (.deferred none)) (fun r e => by cases e; exact ⟨_, hK2, rfl⟩)
      refine ⟨.tuple #[.int .i64 ends, .bool true], ?_, (by rw [HN.out]; rfl), Fr.of_below (hB2.trans (belowK_b (w := w) (Nat.le_refl _) _ D _ _ (by omega) hK2 rfl rfl)) No⟩
      simp [results, Try.f45, go_sem, ca, cb]
    case stop =>
      rintro D c ys W hD ⟨r, hr⟩ ⟨⟨rfl, p, x, hy, hfn, hd, hk, bA, bQ⟩, hB⟩ hK
      have HN := Lib.hid (show nextP done false ends (timesR start l) = (x.1, true) by
        unfold nextP
        rw [if_neg (by decide), ← hr, hy, List.append_assoc, List.drop_append_of_le_length hd, List.find?_append, hfn]
        simp [hk])
      have HB := Lib.hid hB
      clear hfn hck hwf hst hRW hI0 hbx hR hB hr hy hd
      gi_wp2
      refine ⟨by simp, .inl ⟨_, _, rfl, run_takeDeferred hK, ?_⟩⟩
      have ca := cell_kept bA.cell (grownBy_putObj' _ D (.deferred none)) (fun r e => by cases e; exact ⟨_, hK, rfl⟩)
      have cb := cell_kept bQ.cell (grownBy_putObj' _ D (.deferred none)) (fun r e => by cases e; exact ⟨_, hK, rfl⟩)
      refine ⟨.tuple #[.int .i64 x.1, .bool true], ?_, (by rw [HN.out]; rfl), Fr.of_below (HB.out.trans (belowK_b (w := w) (Nat.le_refl _) _ D _ _ (by omega) hK rfl rfl)) No⟩
      simp [results, Try.f45, go_sem, ca, cb]
  · have hda := fun W hf => done_any W G g l start ends done true (hR.no hf)
    gi_wp2_with (refine ⟨trivial, ?_⟩; gi_at_call 57; refine (callsIn_wide.2 (hda _ (((((Fr.refl No w).alloc _).alloc _).alloc _)))).mono ?_; rintro e w' ⟨rfl, rfl⟩)
    refine ⟨.tuple #[.int .i64 0, .bool false], ?_, rfl, ((((Fr.refl No w).alloc _).alloc _).alloc _)⟩
    simp [results, Try.f45, go_sem]
end Run
end Go.Proofs.Ytnfkkonmhinlcaa
