/- Package runner: Step. -/
import Derived.Test.YtnfkkonmhinlcaaRunTimes
import Derived.Sort.QuietIn
import Derived.BigRegionIn
import Derived.StillTailTactics
import Derived.Test.YtnfkkonmhinlcaaStill
namespace Go.Proofs.Ytnfkkonmhinlcaa
open Go.RowKit Go.Shelf
set_option linter.unusedVariables false
set_option linter.unusedSimpArgs false
attribute [local go_sem] Oper.semAt_some
namespace Run
/-- What is told of those that came: those behind the first 'done', but waits. -/
def sel (done : Nat) (pre : List (Int × O)) : List O := ((pre.drop done).filter (fun x => x.2.1 != 2)).map (·.2)
theorem sel_yes (done : Nat) (pre : List (Int × O)) (t kd n : Int) (s : Str) (h : done ≤ pre.length) (hk : (kd != 2) = true) : sel done (pre ++ [(t, kd, s, n)]) = sel done pre ++ [(kd, s, n)] := by
  unfold sel
  rw [List.drop_append_of_le_length h, List.filter_append, List.map_append]
  simp [List.filter, hk]
theorem sel_wait (done : Nat) (pre : List (Int × O)) (t kd n : Int) (s : Str) (h : done ≤ pre.length) (hk : (kd != 2) = false) : sel done (pre ++ [(t, kd, s, n)]) = sel done pre := by
  unfold sel
  rw [List.drop_append_of_le_length h, List.filter_append, List.map_append]
  simp [List.filter, hk]
theorem sel_late (done : Nat) (pre : List (Int × O)) (x : Int × O) (h : pre.length < done) : sel done (pre ++ [x]) = sel done pre := by
  unfold sel
  rw [List.drop_of_length_le (by simp; omega), List.drop_of_length_le (by omega)]
theorem sel_len (done : Nat) (pre : List (Int × O)) : (sel done pre).length ≤ pre.length := by
  unfold sel
  rw [List.length_map]
  exact Nat.le_trans (List.length_filter_le _ _) (by simp)
theorem Boxed.drew {W : World} {B : Nat} {t : TypeId} {v : Value} (h : Boxed W B t v) (n : Nat) : Boxed (W.drewN n) B t v := h
theorem blk_own {β : Type} (B : Nat) (t : TypeId) (f : β → Array Value) : Own (fun s W => Blk W B t (f s)) := fun s X Y row hs hg hrow =>
  (hg.block B hs.lt (fun e' => by obtain ⟨o, ho, hc⟩ := hrow B e'.symm; rw [show X.heap[B]? = _ from hs] at ho; cases ho; cases hc)).trans hs
/-- Between two rounds of Step's loop. -/
def SI (w : World) (g : Nat) (now : Int) (done : Nat) (pre : List (Int × O)) (W : World) : Prop :=
  ((((∃ v, Boxed W (w.heap.size + 2) 33 v ∧ W.ownsRow w.heap.size 69 3 v (sel done pre).length ((sel done pre).flatMap encO) ∧ True) ∧
    Boxed W w.heap.size 55 (.pointer (some ⟨g, 0, none⟩))) ∧ Boxed W (w.heap.size + 1) 3 (.int .i64 now)) ∧ Boxed W (w.heap.size + 3) 3 (.int .i64 (pre.length : Nat))) ∧ ((∀ x ∈ pre, x.1 ≤ now) ∧ Below w.heap.size w W)
theorem SI.own (w : World) (g : Nat) (now : Int) (done B : Nat) (hB : w.heap.size ≤ B) : OwnFrom B (SI w g now done) :=
  OwnFrom.and (OwnFrom.and (OwnFrom.and (OwnFrom.and (Own.from (holdsRow_own w.heap.size (w.heap.size + 2) 33 69 3 (fun pre => (sel done pre).length) (fun pre => (sel done pre).flatMap encO) (fun _ _ => True)) _) (Own.from (boxed_own _ _ _) _)) (Own.from (boxed_own _ _ _) _)) (Own.from (boxed_own _ _ _) _)) (OwnFrom.and (ownFrom_pure _ _) (ownFrom_below (Nat.le_refl _) hB))
/-- i++, at the loop's end. -/
theorem SI.next {w w1 : World} {g : Nat} {now : Int} {done : Nat} {pre : List (Int × O)} {x : Int × O} {v : Value} (hx : x.1 ≤ now) (hle : ∀ y ∈ pre, y.1 ≤ now)
    (bO : Boxed w1 (w.heap.size + 2) 33 v) (hrow : w1.ownsRow w.heap.size 69 3 v (sel done (pre ++ [x])).length ((sel done (pre ++ [x])).flatMap encO))
    (bR : Boxed w1 w.heap.size 55 (.pointer (some ⟨g, 0, none⟩))) (bN : Boxed w1 (w.heap.size + 1) 3 (.int .i64 now)) (bI : Boxed w1 (w.heap.size + 3) 3 (.int .i64 (pre.length : Nat))) (hB : Below w.heap.size w w1) :
    SI w g now done (pre ++ [x]) (w1.setCell ⟨w.heap.size + 3, 0, none⟩ (.int .i64 ((pre.length : Nat) + 1))) := by
  refine ⟨⟨⟨⟨⟨v, bO.other (by omega) _, ?_, trivial⟩, bR.other (by omega) _⟩, bN.other (by omega) _⟩, ?_⟩, ?_, hB.setCell (p := ⟨w.heap.size + 3, 0, none⟩) (by simp) _⟩
  · exact own_fr hrow ((Fr.refl (fun k => k = w.heap.size + 3) _).setCell (p := ⟨w.heap.size + 3, 0, none⟩) (.inl rfl) _) (fun k hk e => (bI.not_row (by decide) hrow) (by rw [hk, e]))
  · have := bI.set (.int .i64 ((pre.length : Nat) + 1))
    rw [List.length_append]
    exact this
  · intro y hy
    rcases List.mem_append.1 hy with hy | hy
    · exact hle y hy
    · rw [List.mem_singleton.1 hy]; exact hx
/-- A round has left the loop: it is not yet due. -/
def SX (w : World) (g : Nat) (now : Int) (done : Nat) (c : Code) (pre : List (Int × O)) (W : World) : Prop := c = .exit 0 ∧ ∃ p x, pre = p ++ [x] ∧ now < x.1 ∧ SI w g now done p W
theorem SX.own (w : World) (g : Nat) (now : Int) (done B : Nat) (hB : w.heap.size ≤ B) (c : Code) : OwnFrom B (SX w g now done c) := fun s A B' row hs hg hr => by
  obtain ⟨hc, p, x, hp, hx, hi⟩ := hs
  exact ⟨hc, p, x, hp, hx, SI.own w g now done _ hB p A B' row hi hg hr⟩
def StepPost (w : World) (G : Nat → Prop) (g : Nat) (l : List O) (start ends now : Int) (done : Nat) (over : Bool) (e : Ending) (w' : World) : Prop :=
  ∃ v p m, (e = .returned v ∧ p = (timesR start l).takeWhile (fun x => decide (x.1 ≤ now)) ∧ m = max done p.length) ∧ w'.ownsRow w.heap.size 69 3 v (sel done p).length ((sel done p).flatMap encO) ∧
    RAt w' G g l start m (over || (m == l.length && decide (ends ≤ now))) ends ∧ Fr (fun k => k = g) w w'
theorem tw_all {l : List (Int × O)} {now : Int} (h : ∀ x ∈ l, x.1 ≤ now) : l = l.takeWhile (fun x => decide (x.1 ≤ now)) := by
  induction l with
  | nil => rfl
  | cons a l ih =>
    rw [List.takeWhile_cons_of_pos (by simpa using h a (by simp))]
    exact congrArg (a :: ·) (ih fun x hx => h x (by simp [hx]))
theorem tw_pre {p r : List (Int × O)} {x : Int × O} {now : Int} (h : ∀ x ∈ p, x.1 ≤ now) (hx : now < x.1) : p = (p ++ x :: r).takeWhile (fun x => decide (x.1 ≤ now)) := by
  rw [List.takeWhile_append_of_pos (by intro a ha; simpa using h a ha), List.takeWhile_cons_of_neg (by simpa using hx)]
  simp
set_option maxRecDepth 100000 in
set_option maxHeartbeats 2000000 in
theorem step_in (n : Nat) (hn : 3 ≤ n) (w : World) (G : Nat → Prop) (g : Nat) (l : List O) (start ends now : Int) (done : Nat) (over : Bool) (hst : 0 ≤ start ∧ start ≤ 1099511627776) (hck : chkR start l = 0) (hll : l.length ≤ 1000) (hwf : ∀ x ∈ l, wfO x) (hR : RAt w G g l start done over ends) (hnow : -9223372036854775808 ≤ now ∧ now ≤ 9223372036854775807) :
    CallsIn Fence.wide n Try.prog 56 #[.pointer (some ⟨g, 0, none⟩), .int .i64 now] w (StepPost w G g l start ends now done over) := by
  have h1 : 1 ≤ n := by omega
  have hro : Fence.wide.round = none := rfl
  have hmix : Try.prog.follows .mixedOrders = true := by kernel_rfl
  obtain ⟨i0, hi0, hz0, hz1, hz2⟩ := info_parts infoO
  have hi0 := Lib.hid hi0
  refine callsIn_of_wp_marks Try.func56 rfl trivial ?_ hro
  simp only [Try.ntmps56, List.size_toArray, List.length_cons, List.length_nil, Nat.reduceAdd, Nat.reduceSub, Array.replicate_succ, Array.replicate_zero, List.push_toArray, List.append_toArray, List.nil_append, List.cons_append]
  gi_wp2_with (refine ⟨trivial, ?_⟩; gi_at_call 62; refine (times_in Fence.wide (n - 1) trivial hro _ _).mono ?_; rintro e w' ⟨rfl, rfl⟩)
  obtain ⟨W0, hW0⟩ : ∃ W0, ((((w.alloc (.cells #[.pointer (some ⟨g, 0, none⟩)] 55)).alloc (.cells #[.int .i64 now] 3)).alloc (.cells #[.slice none 0 0] 33)).alloc (.cells #[.int .i64 0] 3)).alloc (.cells #[.pointer (some ⟨g, 0, none⟩)] 55) = W0 := ⟨_, rfl⟩
  rw [hW0]
  have hsz : W0.heap.size = w.heap.size + 5 := by rw [← hW0]; simp
  have hB0 : Below w.heap.size w W0 := by rw [← hW0]; exact ((((((Below.refl _ w).alloc (Nat.le_refl _) _).alloc (by simp) _).alloc (by simp; omega) _).alloc (by simp; omega) _).alloc (by simp; omega) _)
  have b0 := Boxed.new w 55 (.pointer (some ⟨g, 0, none⟩))
  have b1 := Boxed.new (w.alloc (.cells #[.pointer (some ⟨g, 0, none⟩)] 55)) 3 (.int .i64 now)
  have b2 := Boxed.new ((w.alloc (.cells #[.pointer (some ⟨g, 0, none⟩)] 55)).alloc (.cells #[.int .i64 now] 3)) 33 (.slice none 0 0)
  have b3 := Boxed.new (((w.alloc (.cells #[.pointer (some ⟨g, 0, none⟩)] 55)).alloc (.cells #[.int .i64 now] 3)).alloc (.cells #[.slice none 0 0] 33)) 3 (.int .i64 0)
  have b4 := Boxed.new ((((w.alloc (.cells #[.pointer (some ⟨g, 0, none⟩)] 55)).alloc (.cells #[.int .i64 now] 3)).alloc (.cells #[.slice none 0 0] 33)).alloc (.cells #[.int .i64 0] 3)) 55 (.pointer (some ⟨g, 0, none⟩))
  simp only [World.size_alloc] at b1 b2 b3 b4
  have b3 := b3.alloc (.cells #[.pointer (some ⟨g, 0, none⟩)] 55)
  have b2 := (b2.alloc (.cells #[.int .i64 0] 3)).alloc (.cells #[.pointer (some ⟨g, 0, none⟩)] 55)
  have b1 := ((b1.alloc (.cells #[.slice none 0 0] 33)).alloc (.cells #[.int .i64 0] 3)).alloc (.cells #[.pointer (some ⟨g, 0, none⟩)] 55)
  have b0 := (((b0.alloc (.cells #[.int .i64 now] 3)).alloc (.cells #[.slice none 0 0] 33)).alloc (.cells #[.int .i64 0] 3)).alloc (.cells #[.pointer (some ⟨g, 0, none⟩)] 55)
  rw [hW0] at b0 b1 b2 b3 b4
  have hI0 : SI w g now done [] W0 := ⟨⟨⟨⟨⟨_, b2, by simpa [sel] using World.ownsRow_nil W0 w.heap.size 69 3, trivial⟩, b0⟩, b1⟩, b3⟩, (fun x hx => by cases hx), hB0⟩
  have hbx : W0.cell? ⟨w.heap.size + 4, 0, none⟩ = some (.pointer (some ⟨g, 0, none⟩)) := b4.cell
  have hf0 := Fr.of_below hB0 No
  have hRW : RAt W0 G g l start done over ends := by
    obtain ⟨v, h1, h2, h3, h4, h5⟩ := hR
    exact ⟨v, h1.fr hf0 (fun h => h), own_fr h2 hf0 (fun _ _ h => h), h3, h4, fun k hk => Nat.lt_of_lt_of_le (h5 k hk) hf0.size⟩
  clear b0 b1 b2 b3 b4
  have hGw : ∀ k, G k → k < w.heap.size := by obtain ⟨_, _, _, _, _, h5⟩ := hR; exact h5
  clear hW0
  refine wpIn_rangeFunc_ownH hro h1 (gf := 74) (lb := #[.pointer (some ⟨w.heap.size + 4, 0, none⟩)]) rfl trivial (enters_of Try.func74 (by kernel_rfl) rfl)
    (times_stops Fence.wide (n - 1) trivial hro (by omega) (w.heap.size + 4) w.heap.size g l start ends done over G hst hck hll hGw hwf W0 (by omega) (by omega) hbx hRW) belowK_t (belowK_b (by omega)) (Below.refl _ _) (fun _ => rfl)
    (SI w g now done)
    (SX w g now done)
    (SI.own w g now done _ (by omega))
    (SX.own w g now done _ (by omega))
    hI0
    (fun x a' W => ∃ Bx, w.heap.size + 3 < Bx ∧ Blk W Bx 69 #[.int .i64 x.2.1, .string ⟨x.2.2.1.toArray⟩, .int .i64 x.2.2.2] ∧ a' = { tmps := #[.pointer (some ⟨g, 0, none⟩), .int .i64 now, .pointer (some ⟨w.heap.size, 0, none⟩), .pointer (some ⟨w.heap.size + 1, 0, none⟩), .slice none 0 0, .pointer (some ⟨w.heap.size + 1 + 1, 0, none⟩), .pointer (some ⟨w.heap.size + 1 + 1 + 1, 0, none⟩), .int .i64 x.1, .pointer (some ⟨Bx, 0, none⟩), .pointer (some ⟨g, 0, none⟩), .bool false, .pointer (some ⟨g, 0, none⟩), .func (.func 74) #[] #[.pointer (some ⟨w.heap.size + 1 + 1 + 1 + 1, 0, none⟩)], .int .i64 x.1, .agg #[.int .i64 x.2.1, .string ⟨x.2.2.1.toArray⟩, .int .i64 x.2.2.2], undef, undef, undef, undef, undef, undef, undef, undef, undef, undef, undef, undef, undef, undef, undef, undef, undef, undef, undef, undef, undef, undef, undef, undef, undef, undef, undef, undef, undef, undef, undef, undef, undef, undef, undef, undef, undef, undef, undef, undef, undef, undef, undef, undef, undef, undef, undef, undef, undef, undef, undef, undef, undef, undef, undef, undef, undef], defers := [] })
    (fun x a' s A B row hs hg hr => by obtain ⟨Bx, h1, h2, h3⟩ := hs; exact ⟨Bx, h1, (blk_own Bx _ (fun _ : Unit => #[.int .i64 x.2.1, .string ⟨x.2.2.1.toArray⟩, .int .i64 x.2.2.2])).from _ () A B row h2 hg hr, h3⟩)
    ?assign ?body ?done ?stop
  case assign =>
    rintro lb pre x W K hi hK
    dsimp only [encT]
    gi_wp2
    have hsz3 := hi.1.2.lt
    exact hK _ _ ((KeepsOthers.alloc _ _).from _) ((Below.refl _ W).alloc hi.2.2.size _) ((SI.own w g now done w.heap.size (Nat.le_refl _)).alloc _ hi) ⟨W.heap.size, hsz3, Blk.new _ _ _, rfl⟩
  case body =>
    rintro lb pre x a' W hl ⟨r, hr⟩ hI ⟨Bx, hBx, bX, rfl⟩ hlt
    have HI := Lib.hid hI
    obtain ⟨⟨⟨⟨⟨v, bO, hrow, _⟩, bR⟩, bN⟩, bI⟩, hle, hB⟩ := hI
    obtain ⟨t, kd, s, n'⟩ := x
    have cR := bR.cell
    have cN := bN.cell
    have cI := bI.cell
    have cO := bO.cell
    have x0 := bX.cell 0
    have x1 := bX.cell 1
    have x2 := bX.cell 2
    simp at x0 x1 x2
    have cD : W.cell? ⟨g, 2, none⟩ = some (.int .i64 done) := by
      obtain ⟨v, h1, _, h3, _, h5⟩ := hR
      rw [hB.cell (p := ⟨g, 2, none⟩) (h5 g h3)]
      simpa using h1.cell 2
    by_cases hgt : now < t
    · gi_wp2
      exact ⟨KeepsFrom.refl _ _, ⟨rfl, pre, _, rfl, hgt, HI.out⟩⟩
    · by_cases hsl : done ≤ pre.length ∧ kd ≠ 2
      · obtain ⟨hs1, hs2⟩ := hsl
        have hs3 : (kd != 2) = true := by simpa using hs2
        clear hs2
        gi_wp2
        have hsel := sel_yes done pre t kd n' s hs1 hs3
        have hsz2 := sel_len done pre
        obtain ⟨A, c, hu⟩ := own_form hrow
        subst hu
        have hrow1 : ((W.alloc (.cells #[.int .i64 kd, .string ⟨s.toArray⟩, .int .i64 n'] 69)).drew).ownsRow w.heap.size 69 3 (.slice A (sel done pre).length c) (sel done pre).length ((sel done pre).flatMap encO) := hrow.alloc _
        have Hrow1 := Lib.hid hrow1
        have Hrow := Lib.hid hrow
        have Hle := Lib.hid hle
        have Hsel := Lib.hid hsel
        have hBs := hB.size
        clear hrow hrow1 hle hsel
        gi_region_o
        gi_wp2_with (gi_at_builtin; go_loud (refine wpListIn_append_own _ rfl _ _ 33 rfl w.heap.size 69 i0 (.agg #[.int .i64 0, .string ByteArray.empty, .int .i64 0]) 3 32 Try.underlying33 hi0.out hz0 hz1 hz2 rfl (by decide) (.slice A (sel done pre).length c) (sel done pre).length ((sel done pre).flatMap encO) rfl Hrow1.out ⟨W.heap.size, 0, none⟩ 1 1 (encO (kd, s, n')) rfl rfl (cell_lit W #[.int .i64 kd, .string ⟨s.toArray⟩, .int .i64 n'] 69) (by intro u hu; simp [encO] at hu; rcases hu with rfl | rfl | rfl <;> rfl) (by unfold maxLen; omega) (by omega) (by simp; omega) ?_; intro v' w1 hown' hgrow _; obtain ⟨g', cap', rfl⟩ := ownsRow_succ hown'; have hgrow1 : (W.alloc (.cells #[.int .i64 kd, .string ⟨s.toArray⟩, .int .i64 n'] 69)).grownBy w1 (Value.ownBlock (.slice A (sel done pre).length c)) := ⟨hgrow.os, hgrow.tape, hgrow.output, hgrow.size, hgrow.block⟩; obtain ⟨hv1, hv2, hr2, hk2, hb2⟩ := bO.appended (by decide) Hrow.out hB.size (by omega) hown' hgrow1; have hc1 := hv1.cell; have hf1 := hv1.frozen; have bI1 := ((bI.alloc _).kept hgrow1 (bI.not_row (by decide) Hrow.out)).other (B' := w.heap.size + 2) (by omega) (.slice (some ⟨g', 0, none⟩) ((sel done pre).length + 1) cap'); have bR1 := ((bR.alloc _).kept hgrow1 (bR.not_row (by decide) Hrow.out)).other (B' := w.heap.size + 2) (by omega) (.slice (some ⟨g', 0, none⟩) ((sel done pre).length + 1) cap'); have bN1 := ((bN.alloc _).kept hgrow1 (bN.not_row (by decide) Hrow.out)).other (B' := w.heap.size + 2) (by omega) (.slice (some ⟨g', 0, none⟩) ((sel done pre).length + 1) cap'); have cI1 := bI1.cell; have fI1 := bI1.frozen))
        all_goals
         have hnx := SI.next (x := (t, kd, s, n')) (show t ≤ now by omega) Hle.out hv2 (by rw [Hsel.out, List.length_append, List.flatMap_append]; simpa using hr2) bR1 bN1 bI1 (hB.trans hb2)
         exact ⟨(hk2.trans (KeepsOthers.setCell _ _ _)).from _, hb2.setCell (p := ⟨w.heap.size + 3, 0, none⟩) (by simp) _, hnx⟩
      · have Hle := Lib.hid hle
        have hsel : sel done (pre ++ [(t, kd, s, n')]) = sel done pre := by
          by_cases h : done ≤ pre.length
          · have hk : kd = 2 := Decidable.byContradiction fun e => hsl ⟨h, e⟩
            exact sel_wait done pre t kd n' s h (by rw [hk]; rfl)
          · exact sel_late done pre _ (by omega)
        have Hnx := Lib.hid (fun (W1 : World) (hW : W1.heap = W.heap) (hb : Below w.heap.size w W1) => SI.next (w1 := W1) (x := (t, kd, s, n')) (show t ≤ now by omega) hle (show Boxed W1 _ _ _ by unfold Boxed; rw [hW]; exact bO) (by rw [hsel]; have := hrow; unfold World.ownsRow at this ⊢; rw [hW]; exact this) (show Boxed W1 _ _ _ by unfold Boxed; rw [hW]; exact bR) (show Boxed W1 _ _ _ by unfold Boxed; rw [hW]; exact bN) (show Boxed W1 _ _ _ by unfold Boxed; rw [hW]; exact bI) hb)
        have fI := bI.frozen
        clear hle hsel hrow
        by_cases h : done ≤ pre.length
        · have hk : kd = 2 := Decidable.byContradiction fun e => hsl ⟨h, e⟩
          have hk2 : (kd != 2) = false := by rw [hk]; rfl
          clear hk hsl
          gi_wp2
          gi_region_o
          gi_wp2
          all_goals exact ⟨((KeepsOthers.setCell W _ _).trans (KeepsOthers.drew _)).from _, ((Below.refl _ W).setCell (p := ⟨w.heap.size + 3, 0, none⟩) (by simp) _).drew, (show SI w g now done (pre ++ [(t, kd, s, n')]) (W.drew.setCell ⟨w.heap.size + 3, 0, none⟩ (.int .i64 ((pre.length : Nat) + 1))) from Hnx.out W.drew rfl hB.drew)⟩
        · clear hsl
          gi_wp2
          gi_region_o
          gi_wp2
          all_goals exact ⟨((KeepsOthers.setCell W _ _).trans (KeepsOthers.drew _)).from _, ((Below.refl _ W).setCell (p := ⟨w.heap.size + 3, 0, none⟩) (by simp) _).drew, (show SI w g now done (pre ++ [(t, kd, s, n')]) (W.drew.setCell ⟨w.heap.size + 3, 0, none⟩ (.int .i64 ((pre.length : Nat) + 1))) from Hnx.out W.drew rfl hB.drew)⟩
  case' done =>
    rintro D p W hD hp hI hK
    have Hpt : Hid (p = (timesR start l).takeWhile (fun x => decide (x.1 ≤ now))) := by
      show p = (timesR start l).takeWhile (fun x => decide (x.1 ≤ now))
      have hp : p = timesR start l := hp
      rw [← hp]; exact tw_all hI.2.1
    clear hp
    gi_wp2
  case' stop =>
    rintro D c ys W hD ⟨r, hr⟩ ⟨rfl, p, x, hy, hx, hI⟩ hK
    have Hpt : Hid (p = (timesR start l).takeWhile (fun x => decide (x.1 ≤ now))) := by
      show p = (timesR start l).takeWhile (fun x => decide (x.1 ≤ now))
      rw [← hr, hy, List.append_assoc]; exact tw_pre hI.2.1 hx
    clear hr hy hx ys r
    gi_wp2
  all_goals
    have HI := Lib.hid hI
    obtain ⟨⟨⟨⟨⟨v, bO, hrow, _⟩, bR⟩, bN⟩, bI⟩, hle, hB⟩ := hI
    obtain ⟨A', c', hu⟩ := own_form hrow
    subst hu
    have HrowH := Lib.hid hrow
    have HB := Lib.hid hB
    have HR := Lib.hid hR
    have hfs : ∃ A c, Blk W g 115 #[.slice A l.length c, .int .i64 start, .int .i64 done, .bool over, .int .i64 ends] ∧ w.ownsRow 0 69 3 (.slice A l.length c) l.length (l.flatMap encO) ∧ (∀ k, Of (.slice A l.length c) k → G k ∧ k ≠ g) := by
      obtain ⟨v, h1, h2, _, h4, _⟩ := hR
      obtain ⟨A, c, rfl⟩ := own_form h2
      exact ⟨A, c, h1.fr (Fr.of_below hB No) (fun h => h), h2, h4⟩
    obtain ⟨A, c, hblk, hro0, hof0⟩ := hfs
    have HO := Lib.hid hro0
    have HOf := Lib.hid hof0
    clear hro0 hof0
    have hgD : g < w.heap.size := hGw g (by obtain ⟨_, _, _, h3, _⟩ := hR; exact h3)
    clear hrow hle hB hR hRW hI0 hbx hck hwf hst
    refine wpIn_wide.2 ?_
    refine wp_region_still_tail 9 (by kernel_rfl) (by kernel_rfl) ?_
    simp only [List.take_succ_cons, List.take_zero, List.drop_succ_cons, List.drop_zero]
    change wpStill _ _ W.drew (fun a' => wpList _ _ _ _ a' W.drew) _ _
    have hb1 : Blk W.drew g 115 #[.slice A l.length c, .int .i64 start, .int .i64 done, .bool over, .int .i64 ends] := hblk
    have bR1 : Boxed W.drew w.heap.size 55 (.pointer (some ⟨g, 0, none⟩)) := bR
    have bN1 : Boxed W.drew (w.heap.size + 1) 3 (.int .i64 now) := bN
    have bI1 : Boxed W.drew (w.heap.size + 3) 3 (.int .i64 (p.length : Nat)) := bI
    have bO1 : Boxed W.drew (w.heap.size + 2) 33 (.slice A' (sel done p).length c') := bO
    have hf1 : Fr No W W.drew := (Fr.refl _ _).drew
    have hK1 : W.drew.heap[D]? = some (.deferred (some [])) := hK
    have HF1 := Lib.hid hf1
    clear hblk hf1 bR bN bI bO hK
    generalize W.drew = W1 at bR1 bN1 bI1 bO1 hb1 hK1 HF1 ⊢
    have cR := bR1.cell
    have cN := bN1.cell
    have cI := bI1.cell
    have c0 := hb1.cell 0
    have c2 := hb1.cell 2
    have c3 := hb1.cell 3
    have c4 := hb1.cell 4
    have f2 := hb1.frozen 2
    simp at c0 c2 c3 c4
    obtain ⟨m, Hm⟩ : ∃ m : Nat, Hid (m = max done p.length) := ⟨_, rfl⟩
    rcases Nat.lt_trichotomy done p.length with hmx | hmx | hmx
    all_goals
     refine wpStill_of_quiet _ _ ?_
     repeat (go_big_quiet_step (fail))
     refine wpQuiet_nil ?_
     go_wp2
     try rw [show ((p.length : Nat) : Int) = (m : Int) by have := Hm.out; omega]
     try rw [show ((done : Nat) : Int) = (m : Int) by have := Hm.out; omega]
     gi_wp2
     refine wpIn_wide.2 ?_
     refine wp_region_still_tail 27 (by kernel_rfl) (by kernel_rfl) ?_
     simp only [List.take_succ_cons, List.take_zero, List.drop_succ_cons, List.drop_zero]
     generalize hV : W1.setCell ⟨g, 2, none⟩ (.int .i64 (m : Int)) = W2
     change wpStill _ _ W2.drew (fun a' => wpList _ _ _ _ a' W2.drew) _ _
     have hgl : g ≠ w.heap.size ∧ g ≠ w.heap.size + 1 ∧ g ≠ w.heap.size + 2 ∧ g ≠ D := by omega
     have hb2 : Blk W2.drew g 115 #[.slice A l.length c, .int .i64 start, .int .i64 (m : Int), .bool over, .int .i64 ends] := by have := hb1.put 2 (.int .i64 (m : Int)); rw [hV] at this; simp at this; exact this
     have bR2 : Boxed W2.drew w.heap.size 55 (.pointer (some ⟨g, 0, none⟩)) := by have := Blk.far (p := ⟨g, 2, none⟩) bR1 (Ne.symm hgl.1) (.int .i64 (m : Int)); rw [hV] at this; exact this
     have bN2 : Boxed W2.drew (w.heap.size + 1) 3 (.int .i64 now) := by have := Blk.far (p := ⟨g, 2, none⟩) bN1 (Ne.symm hgl.2.1) (.int .i64 (m : Int)); rw [hV] at this; exact this
     have bO2 : Boxed W2.drew (w.heap.size + 2) 33 (.slice A' (sel done p).length c') := by have := Blk.far (p := ⟨g, 2, none⟩) bO1 (Ne.symm hgl.2.2.1) (.int .i64 (m : Int)); rw [hV] at this; exact this
     have hK2 : W2.drew.heap[D]? = some (.deferred (some [])) := by have := (Below.heap_setCell W1 ⟨g, 2, none⟩ (.int .i64 (m : Int)) D (Ne.symm hgl.2.2.2)).trans hK1; rw [hV] at this; exact this
     have HF2 : Hid (Fr (fun k => k = g) W W2.drew) := Lib.hid (by have := ((HF1.out.no (fun k => k = g)).setCell (p := ⟨g, 2, none⟩) (.inl rfl) (.int .i64 (m : Int))).drew; rw [hV] at this; exact this)
     clear cR cN cI c0 c2 c3 c4 f2 bR1 bN1 bI1 bO1 hb1 hK1 HF1 hV hmx
     generalize W2.drew = W3 at bR2 bN2 bO2 hb2 hK2 HF2 ⊢
     have cR := bR2.cell
     have cN := bN2.cell
     have cO := bO2.cell
     have c0 := hb2.cell 0
     have c2 := hb2.cell 2
     have c3 := hb2.cell 3
     have c4 := hb2.cell 4
     have f3 := hb2.frozen 3
     simp at c0 c2 c3 c4
     have hK4 := fun q : Bool => (Below.heap_setCell W3 ⟨g, 3, none⟩ (.bool q) D (Ne.symm hgl.2.2.2)).trans hK2
     have Hdone := Lib.hid (fun (W4 : World) (q : Bool) (hq : q = (over || (m == l.length && decide (ends ≤ now)))) (h4 : W4 = W3.setCell ⟨g, 3, none⟩ (.bool q)) =>
       show StepPost w G g l start ends now done over (.returned (.slice A' (sel done p).length c')) (W4.putObj D (.deferred none)) from by
        subst h4
        have hgl := hgl
        have hk4 : (W3.setCell ⟨g, 3, none⟩ (.bool q)).heap[D]? = some (.deferred (some [])) := (Below.heap_setCell W3 ⟨g, 3, none⟩ (.bool q) D (Ne.symm hgl.2.2.2)).trans hK2
        have hbw := belowK_b (w := w) (Nat.le_refl _) (W3.setCell ⟨g, 3, none⟩ (.bool q)) D _ (.deferred none) (by omega) hk4 rfl rfl
        have hf3 : Fr (fun k => k = g) w (W3.setCell ⟨g, 3, none⟩ (.bool q)) := ((Fr.of_below HB.out (fun k => k = g)).trans HF2.out (fun k hk _ => hk)).setCell (p := ⟨g, 3, none⟩) (.inl rfl) _
        have hf4 := hf3.then_below hbw
        have hr3 : (W3.setCell ⟨g, 3, none⟩ (.bool q)).ownsRow w.heap.size 69 3 (.slice A' (sel done p).length c') (sel done p).length ((sel done p).flatMap encO) := own_fr HrowH.out (HF2.out.setCell (p := ⟨g, 3, none⟩) (.inl rfl) _) (fun k hk e => by
          have := (HrowH.out.lt k hk).1
          have e : k = g := e
          omega)
        have hb4 := hb2.put 3 (.bool q)
        simp at hb4
        have hb5 : Blk ((W3.setCell ⟨g, 3, none⟩ (.bool q)).putObj D (.deferred none)) g _ _ := (hbw.block g hgD).trans hb4
        subst hq
        obtain ⟨_, _, _, h3, _, h5⟩ := HR.out
        exact ⟨_, p, m, ⟨rfl, Hpt.out, Hm.out⟩, ownsRow_putObj hr3 _ hk4 rfl, ⟨_, hb5, own_fr HO.out hf4 (fun k hk e => (HOf.out k hk).2 e), h3, HOf.out, fun k hk => Nat.lt_of_lt_of_le (h5 k hk) hf4.size⟩, hf4⟩)
     have hcs : (over = true ∧ Hid (true = (over || (m == l.length && decide (ends ≤ now))))) ∨ (over = false ∧ ((m : Int) == (l.length : Int)) = false ∧ Hid (false = (over || (m == l.length && decide (ends ≤ now))))) ∨
         (over = false ∧ ((m : Int) == (l.length : Int)) = true ∧ now < ends ∧ Hid (false = (over || (m == l.length && decide (ends ≤ now))))) ∨ (over = false ∧ ((m : Int) == (l.length : Int)) = true ∧ ends ≤ now ∧ Hid (true = (over || (m == l.length && decide (ends ≤ now))))) := by
       cases over
       · by_cases e : m = l.length
         · have h5 : (m == l.length) = true := beq_iff_eq.2 e
           have h6 : ((m : Int) == (l.length : Int)) = true := beq_iff_eq.2 (by omega)
           by_cases h7 : ends ≤ now
           · exact .inr (.inr (.inr ⟨rfl, h6, h7, by show true = _; rw [h5, decide_eq_true h7]; rfl⟩))
           · exact .inr (.inr (.inl ⟨rfl, h6, by omega, by show false = _; rw [h5, decide_eq_false h7]; rfl⟩))
         · have h5 : (m == l.length) = false := beq_eq_false_iff_ne.2 e
           exact .inr (.inl ⟨rfl, beq_eq_false_iff_ne.2 (by omega), by show false = _; rw [h5]; rfl⟩)
       · exact .inl ⟨rfl, rfl⟩
     rcases hcs with ⟨rfl, HQ⟩ | ⟨rfl, hml, HQ⟩ | ⟨rfl, hml, hen, HQ⟩ | ⟨rfl, hml, hen, HQ⟩
     all_goals
      refine wpStill_of_quiet _ _ ?_
      repeat (go_big_quiet_step (fail))
      refine wpQuiet_nil ?_
      go_wp2
      gi_wp2
      refine ⟨by simp, .inl ⟨_, _, rfl, run_takeDeferred (hK4 _), ?_⟩⟩
      refine ⟨_, results_tmp rfl _ _ _, ?_⟩
      first
        | exact Hdone.out _ true HQ.out rfl
        | exact Hdone.out _ false HQ.out rfl
        | exact Hdone.out _ false HQ.out (by rw [decide_eq_false (show ¬ ends ≤ now by omega)])
end Run
end Go.Proofs.Ytnfkkonmhinlcaa
