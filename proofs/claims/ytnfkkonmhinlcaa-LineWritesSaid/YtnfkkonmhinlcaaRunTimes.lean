/- Package runner: each step, and when it is due: an iterator. -/
import Derived.RangeFuncNested
import Derived.RangeFuncBound
import Derived.RangeFuncCalls
import Derived.RangeFuncLeaves
import Derived.RangeFuncBox
import Derived.Shelf.Abstract
import Derived.Shelf.RegionOpen
import Derived.WalkKit
import Derived.OwnWalkIn
import Derived.TacticsInMore
import Derived.LoopNIn
import Derived.LoopIn
import Derived.Maps.AppendAt
import Derived.Test.YtnfkkonmhinlcaaRunNew
namespace Go.Proofs.Ytnfkkonmhinlcaa
open Go.RowKit Go.Shelf
set_option linter.unusedVariables false
set_option linter.unusedSimpArgs false
attribute [local go_sem] Oper.semAt_some
namespace Run
def timesR : Int → List O → List (Int × O)
  | _, [] => []
  | a, x :: l => (a + x.2.2, x) :: timesR (a + x.2.2) l
def encT (x : Int × O) : Array Value := #[.int .i64 x.1, .agg #[.int .i64 x.2.1, .string ⟨x.2.2.1.toArray⟩, .int .i64 x.2.2.2]]
set_option maxHeartbeats 1000000 in
theorem times_in (F : Fence) (n : Nat) (h : F.fn 62) (hro : F.round = none) (p0 : Option Addr) (w : World) :
    CallsIn F n Try.prog 62 #[.pointer p0] w fun e w' => e = .returned (.func (.func 74) #[] #[.pointer (some ⟨w.heap.size, 0, none⟩)]) ∧ w' = w.alloc (.cells #[.pointer p0] 55) := by
  refine callsIn_of_wp Try.func62 rfl h ?_ hro
  simp only [Try.ntmps62, List.size_toArray, List.length_cons, List.length_nil, Nat.reduceAdd, Nat.reduceSub, Array.replicate_succ, Array.replicate_zero, List.push_toArray, List.append_toArray, List.nil_append, List.cons_append]
  gi_wp2
  go_ret
  exact ⟨rfl, rfl⟩
set_option maxRecDepth 100000 in
set_option maxHeartbeats 2000000 in
theorem times1_in (F : Fence) (n : Nat) (h : F.fn 74) (hro : F.round = none) (hn : 1 ≤ n) (lb Bn n₀ g : Nat) (l : List O) (start ends : Int) (done : Nat) (over : Bool) (G : Nat → Prop) (hst : 0 ≤ start ∧ start ≤ 1099511627776) (hck : chkR start l = 0) (hll : l.length ≤ 1000) (hG : ∀ k, G k → k < n₀) (hwf : ∀ x ∈ l, wfO x) (J Jx : List (Int × O) → World → Prop)
    (hY : ∀ pre x W, J pre W → pre.length < l.length → YieldAt F (n - 1) Try.prog lb (encT x) W fun e W' =>
      (e = .returned (.bool true) ∧ J (pre ++ [x]) W' ∧ Below n₀ W W') ∨ (e = .returned (.bool false) ∧ Jx (pre ++ [x]) W'))
    (W : World) (hn₀ : n₀ ≤ W.heap.size) (hR : RAt W G g l start done over ends) (hJ : AbidesFrom W.heap.size J) (hBn : W.cell? ⟨Bn, 0, none⟩ = some (.pointer (some ⟨g, 0, none⟩))) (h0 : J [] W) :
    CallsIn F n Try.prog 74 #[.func (.yield lb) #[] #[], .pointer (some ⟨Bn, 0, none⟩)] W fun e W' => (∃ v, e = .returned v) ∧
      ((∃ ys, ys = timesR start l ∧ J ys W') ∨ (∃ pre, pre <+: timesR start l ∧ Jx pre W')) := by
  obtain ⟨v, h1, h2, h3, h4, h5⟩ := hR
  obtain ⟨A, cap, hu⟩ := own_form h2
  subst hu
  have c0 := h1.cell 0
  have c1 := h1.cell 1
  simp at c0 c1
  have H2 := Lib.hid h2
  have H3 := Lib.hid (hG _ h3)
  have H4 := Lib.hid h4
  clear h1 h2 h3 h4 h5
  refine callsIn_of_wp Try.func74 rfl h ?_ hro
  simp only [Try.ntmps74, List.size_toArray, List.length_cons, List.length_nil, Nat.reduceAdd, Nat.reduceSub, Array.replicate_succ, Array.replicate_zero, List.push_toArray, List.append_toArray, List.nil_append, List.cons_append]
  gi_wp2
  gi_loopw [3, 15] (fun av iv wr => ∃ (k : Nat) (at_ : Int) (pre : List (Int × O)), iv = .int .i64 k ∧ av = .int .i64 at_ ∧ k ≤ l.length ∧ pre.length = k ∧ (0 ≤ at_ ∧ at_ ≤ 1099511627776) ∧ Hid (chkR at_ (l.drop k) = 0 ∧ timesR start l = pre ++ timesR at_ (l.drop k)) ∧ Hid (J pre wr) ∧ Hid (Below n₀ W wr))
    (fun _ i _ => l.length - (intOf i).toNat)
  case atStart => exact ⟨0, start, [], rfl, rfl, by omega, rfl, hst, ⟨hck, rfl⟩, h0, Below.refl _ _⟩
  case round =>
    obtain ⟨k, at_, pre, rfl, rfl, hk, hpl, hat, Hd, HJs, Hnx⟩ := hrel
    by_cases hlt : k < l.length
    · have hcd := chk_drop hlt at_
      have htd : timesR at_ (l.drop k) = (at_ + l[k].2.2, l[k]) :: timesR (at_ + l[k].2.2) (l.drop (k + 1)) := by rw [List.drop_eq_getElem_cons hlt]; rfl
      rw [Hd.out.1] at hcd
      have hw := hwf _ (List.getElem_mem hlt)
      obtain ⟨g1, g2, g3⟩ := encO_get l k hlt
      obtain ⟨x, hx⟩ : ∃ x, x = l[k] := ⟨_, rfl⟩
      rw [← hx] at hcd htd hw g1 g2 g3
      obtain ⟨q, rfl⟩ : ∃ q, A = some ⟨q, 0, none⟩ := by
        rcases H2.out.2 with ⟨_, h0⟩ | ⟨g, cap', cur, h0, _⟩
        · omega
        · injection h0 with h0 _; exact ⟨g, h0⟩
      have hq := hG _ (H4.out q rfl).1
      obtain ⟨kd, s, n'⟩ := x
      simp only at g1 g2 g3 htd
      have k1 : wr.cell? ⟨q, k * 3, none⟩ = some (.int .i64 kd) := by rw [Hnx.out.cell (p := ⟨q, k * 3, none⟩) hq, ← add_flat]; exact H2.out.cells (g := q) rfl _ _ g1
      have k2 : wr.cell? ⟨q, k * 3 + 1, none⟩ = some (.string ⟨s.toArray⟩) := by rw [Hnx.out.cell (p := ⟨q, k * 3 + 1, none⟩) hq, ← add_flat]; exact H2.out.cells (g := q) rfl _ _ g2
      have k3 : wr.cell? ⟨q, k * 3 + 2, none⟩ = some (.int .i64 n') := by rw [Hnx.out.cell (p := ⟨q, k * 3 + 2, none⟩) hq, ← add_flat]; exact H2.out.cells (g := q) rfl _ _ g3
      have hsz := Hnx.out.size
      have hqn : q ≠ wr.heap.size := by omega
      have hqn2 : q < wr.heap.size := by omega
      have ho : okO (kd, s, n') = true := by
        cases h : okO (kd, s, n')
        · rw [h] at hcd; cases hcd
        · rfl
      rw [ho] at hcd
      have hn0 : 0 ≤ n' := okO_n ho
      have hcd2 : (0 : Int) = if 1099511627776 < at_ + n' then 2 else chkR (at_ + n') (l.drop (k + 1)) := hcd
      have hbig : ¬ 1099511627776 < at_ + n' := fun h => by rw [if_pos h] at hcd2; cases hcd2
      rw [if_neg hbig] at hcd2
      have HD := Lib.hid (show chkR (at_ + n') (l.drop (k + 1)) = 0 ∧ timesR start l = (pre ++ [(at_ + n', (kd, s, n'))]) ++ timesR (at_ + n') (l.drop (k + 1)) from ⟨hcd2.symm, by rw [Hd.out.2, htd]; simp⟩)
      have HJ1 := Lib.hid (hJ pre wr _ none HJs.out (World.grownBy_alloc wr (.cells #[.int .i64 kd, .string ⟨s.toArray⟩, .int .i64 n'] 69) none) (fun r e => by cases e))
      obtain ⟨fn, tmps, assign, body, hy, hR⟩ := hY pre (at_ + n', (kd, s, n')) _ HJ1.out (by omega)
      dsimp only [encT] at hy
      clear hcd hcd2 htd ho hx g1 g2 g3 hw
      gi_wp2
      refine hR.mono ?_
      rintro e W3 (⟨rfl, hJ3, hk3⟩ | ⟨rfl, hJx3⟩)
      · have HJ3 := Lib.hid hJ3
        have Hk3 := Lib.hid hk3
        clear hJ3 hk3
        gi_wp2
        go_roundw
        case rel => exact ⟨k + 1, at_ + n', pre ++ [(at_ + n', (kd, s, n'))], by go_num, rfl, by omega, by simp; omega, by omega, HD.out, HJ3.out, (Hnx.out.alloc (by omega) _).trans Hk3.out⟩
        case measure => simp [intOf]; omega
      · have HJx3 := Lib.hid hJx3
        clear hJx3
        gi_wp2
        refine bodyPost_ret (results_none rfl _ _ _) rfl ?_
        exact ⟨⟨_, rfl⟩, .inr ⟨pre ++ [(at_ + n', (kd, s, n'))], ⟨_, HD.out.2.symm⟩, HJx3.out⟩⟩
    · have he : timesR start l = pre := by
        have := Hd.out.2
        rw [List.drop_of_length_le (by omega)] at this
        rw [this]
        simp [timesR]
      have HE := Lib.hid he
      clear Hd he
      gi_wp2
      go_end0
      exact ⟨⟨_, rfl⟩, .inl ⟨_, HE.out.symm, HJs.out⟩⟩
/-- r.times(): an iterator over each step, and when it is due. -/
theorem times_stops (F : Fence) (n : Nat) (h : F.fn 74) (hro : F.round = none) (hn : 1 ≤ n) (Bn n₀ g : Nat) (l : List O) (start ends : Int) (done : Nat) (over : Bool) (G : Nat → Prop) (hst : 0 ≤ start ∧ start ≤ 1099511627776) (hck : chkR start l = 0) (hll : l.length ≤ 1000) (hG : ∀ k, G k → k < n₀) (hwf : ∀ x ∈ l, wfO x) (w : World) (hBn : Bn < w.heap.size) (hn₀ : n₀ ≤ w.heap.size)
    (hc : w.cell? ⟨Bn, 0, none⟩ = some (.pointer (some ⟨g, 0, none⟩))) (hR : RAt w G g l start done over ends) :
    SeqStopsK F n Try.prog 74 #[.pointer (some ⟨Bn, 0, none⟩)] encT (Below n₀) (fun ys => ys = timesR start l) (fun pre => pre <+: timesR start l) l.length w := fun lb J Jx W hW hJ _ hY h0 => by
  refine times1_in F n h hro hn lb Bn n₀ g l start ends done over G hst hck hll hG hwf J Jx hY W (Nat.le_trans hn₀ hW.size) ?_ hJ ((hW.cell (p := ⟨Bn, 0, none⟩) hBn).trans hc) h0
  have hf := Fr.of_below hW No
  obtain ⟨v, h1, h2, h3, h4, h5⟩ := hR
  exact ⟨v, h1.fr hf (fun h => h), own_fr h2 hf (fun _ _ h => h), h3, h4, fun k hk => Nat.lt_of_lt_of_le (h5 k hk) hf.size⟩
end Run
end Go.Proofs.Ytnfkkonmhinlcaa
