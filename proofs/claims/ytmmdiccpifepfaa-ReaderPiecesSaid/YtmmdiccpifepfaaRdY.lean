/- Reader: the reference's Read. Printed by gen_rdy.py. -/
import Derived.Test.YtmmdiccpifepfaaRdX
import Derived.Test.YtmmdiccpifepfaaMuxSplit
namespace Go.Proofs.Ytmmdiccpifepfaa
open Go.RowKit
set_option linter.unusedVariables false
set_option linter.unusedSimpArgs false
namespace Rd
open Ans Digit Sls Word
open Mux (encP run checkR SplitPost tot_mem tot_take Ne)
section
variable {w w' W0 wr : World} {A A' : Nat → Prop} {x y : X} {c : Array Value} {vR vV : Value} {ro : Int} {bd : Bool} {bx : Nat}
theorem RB.parts (h : RB w A y #[vR, vV, .int .i64 ro, .bool bd]) : ∃ B rv, Rows TV w B vR vV rv y ∧ ro = y.role ∧ bd = y.bad ∧ (∀ k, B k ∨ Of vR k ∨ Of vV k → A k) ∧ ∀ k, A k → k < w.heap.size := by
  obtain ⟨B, vR', vV', rv, hc, h1, h2, h3⟩ := h
  unfold cellsX at hc
  simp only [Array.mk.injEq, List.cons.injEq, Value.int.injEq, Value.bool.injEq, true_and, and_true] at hc
  obtain ⟨rfl, rfl, rfl, rfl⟩ := hc
  exact ⟨B, rv, h1, rfl, rfl, h2, h3⟩
theorem RB.of_rows {B : Nat → Prop} {rv : List (Int × Value)} (h1 : Rows TV w B vR vV rv y) (hr : ro = y.role) (hb : bd = y.bad) (h2 : ∀ k, B k ∨ Of vR k ∨ Of vV k → A k) (h3 : ∀ k, A k → k < w.heap.size) : RB w A y #[vR, vV, .int .i64 ro, .bool bd] :=
  ⟨B, vR, vV, rv, by rw [hr, hb]; rfl, h1, h2, h3⟩
theorem RB.mono (h : RB w A x c) (hA : ∀ k, A k → A' k) (hl : ∀ k, A' k → k < w.heap.size) : RB w A' x c := by
  obtain ⟨B, vR, vV, rv, h0, h1, h2, h3⟩ := h
  exact ⟨B, vR, vV, rv, h0, h1, fun k hk => hA k (h2 k hk), hl⟩
/-- Where the reference's Read stands: what was read so far lies behind W0. -/
structure RI (W0 wr : World) (bx : Nat) (y : X) (c : Array Value) : Prop where
  rb : RB wr (New W0 wr) y c
  blk : Blk wr bx 31 c
  fr : Fr (fun q => q = bx) W0 wr
  lt : bx < W0.heap.size
theorem RI.forms (h : RI W0 wr bx y #[vR, vV, .int .i64 ro, .bool bd]) : ∃ A5 n5 k5 A6 n6 k6, vR = .slice A5 n5 k5 ∧ vV = .slice A6 n6 k6 ∧ n6 = y.V.length := by
  obtain ⟨B, rv, h1, -⟩ := h.rb.parts
  obtain ⟨A5, k5, e5⟩ := own_form h1.rown
  obtain ⟨A6, k6, e6⟩ := own_form h1.vown
  exact ⟨A5, _, k5, A6, _, k6, e5, e6, rfl⟩
theorem RI.no (h : RI W0 wr bx y c) : ¬ New W0 wr bx := fun h1 => by have := h1.1; have := h.lt; omega
/-- The reader's block holds another one. -/
theorem RI.next {c' : Array Value} {Wn : World} (h : RI W0 wr bx y c) (hf : Fr (New W0 wr) wr w') (hn : Fr (fun q => q = bx) w' Wn) (hb : Blk Wn bx 31 c') (hr : RB w' A' x c') (hA : ∀ q, A' q → New W0 w' q) : RI W0 Wn bx x c' :=
  ⟨(hr.fr hn (fun k hk e => by have := (hA k hk).1; have := h.lt; omega)).mono (fun k hk => ⟨(hA k hk).1, Nat.lt_of_lt_of_le (hA k hk).2 hn.size⟩) (fun k hk => hk.2), hb,
   (h.fr.trans hf (fun k hk hl => absurd hk.1 (by omega))).trans hn (fun k hk _ => hk), h.lt⟩
end
structure GX (W : World) (bx : Nat) (cx : Array Value) (B : Nat → Prop) (vR vV : Value) (rv : List (Int × Value)) (y : X) : Prop where
  xb : Blk W bx 31 cx
  rows : Rows TV W B vR vV rv y
def ReadP (s : Str) (w : World) (e : Ending) (w' : World) : Prop := ∃ vR vV, e = .returned (.tuple #[.agg #[vR, vV, .int .i64 (allR s).role, .bool (allR s).bad], .int .i64 (codeR (allR s) (run 0 [] s).1.1)]) ∧ RB w' (New w w') (allR s) #[vR, vV, .int .i64 (allR s).role, .bool (allR s).bad] ∧ Fr No w w'
theorem read_end {s : Str} {w W0 wr Wf : World} {vR vV : Value} {ro code : Int} {bd : Bool} {bx br : Nat} (h0 : Fr No w W0) (hI : RI W0 wr bx (allR s) #[vR, vV, .int .i64 ro, .bool bd]) (hfn : Fr (fun q => q = br) wr Wf) (hbw : w.heap.size ≤ bx) (hbl : br < W0.heap.size) (hbr : w.heap.size = br)
    (hc : codeR (allR s) (run 0 [] s).1.1 = code) : ReadP s w (.returned (.tuple #[.agg #[vR, vV, .int .i64 ro, .bool bd], .int .i64 code])) Wf := by
  obtain ⟨B, rv, -, rfl, rfl, -⟩ := hI.rb.parts
  refine ⟨vR, vV, by rw [hc], ?_, (h0.trans hI.fr (fun q hq hl => by omega)).trans hfn (fun q hq hl => by omega)⟩
  exact (hI.rb.fr hfn (fun q hq e => by have := hq.1; omega)).mono (fun q hq => ⟨by have := hq.1; have := h0.size; omega, Nat.lt_of_lt_of_le hq.2 hfn.size⟩) (fun q hq => hq.2)
theorem rpart_at {w : World} {g n c : Nat} {P : List (Str × Bool)} (h : w.ownsRow 0 62 2 (.slice (some ⟨g, 0, none⟩) n c) n (P.flatMap encP)) {k : Nat} (hk : k < P.length) :
    w.cell? ⟨g, k * 2, none⟩ = some (.string ⟨P[k].1.toArray⟩) ∧ w.cell? ⟨g, k * 2 + 1, none⟩ = some (.bool P[k].2) := by
  have e : ∀ j u, j < 2 → (encP P[k])[j]? = some u → w.cell? ⟨g, k * 2 + j, none⟩ = some u := by
    intro j u hj hu
    have := fm_get P encP 2 k j hk (fun _ _ => rfl) hj
    rw [hu] at this
    have := h.cells (g := g) rfl (k * 2 + j) _ this
    have e2 : (⟨g, 0, none⟩ : Addr).add (k * 2 + j) = ⟨g, k * 2 + j, none⟩ := by rw [Addr.add_lit, Nat.zero_add]
    rw [e2] at this
    exact this
  exact ⟨e 0 _ (by omega) rfl, e 1 _ (by omega) rfl⟩

set_option maxRecDepth 100000 in
set_option maxHeartbeats 8000000 in
theorem rread41_any (s : Str) (w : World) (hs : s.length ≤ 100000) :
    Calls Try.prog 8 #[.string ⟨s.toArray⟩] w (ReadP s w) := by
  have hSP := fun W => Mux.split_any s W (by omega)
  obtain ⟨cd, hcd⟩ : ∃ cd, cd = checkR (run 0 [] s).1.1 := ⟨_, rfl⟩
  unfold SplitPost at hSP
  rw [← hcd] at hSP
  have HCD := Lib.hid hcd
  have HSP := Lib.hid hSP
  clear hcd hSP
  have X2 := Lib.hid (Blk.new w 31 #[.slice none 0 0, .slice none 0 0, .int .i64 0, .bool false])
  have FA := Lib.hid ((Fr.refl No w).alloc (.cells #[.slice none 0 0, .slice none 0 0, .int .i64 0, .bool false] 31))
  obtain ⟨br, hbr⟩ : ∃ br, w.heap.size = br := ⟨_, rfl⟩
  have X2 := Lib.hid (show Blk _ br _ _ from by rw [← hbr]; exact X2.out)
  go_enter Try.func8, Try.ntmps8
  go_wp2_with fail
  try rw [hbr]
  generalize w.alloc (.cells #[.slice none 0 0, .slice none 0 0, .int .i64 0, .bool false] 31) = wa at X2 FA ⊢
  refine (HSP.out wa).mono ?_
  rintro ee w1 ⟨v, P, rfl, hown, hst, htk, htot, hlen, hne⟩
  obtain ⟨AP, cP, rfl⟩ := own_form hown
  obtain ⟨n, hn⟩ : ∃ n, n = P.length := ⟨_, rfl⟩
  rw [← hn] at hown hst ⊢
  have hn9 : n ≤ 100000 := by omega
  have hF0 := fun k => (Fit.parts (P.take k) fit_nil).mono (show 0 + Mux.tot (P.take k) + 2 * (P.take k).length ≤ 900000 by have := tot_take P k; simp only [List.length_take]; omega)
  have HF := Lib.hid hF0
  have HM := Lib.hid (fun k (hk : k < P.length) => show (P[k]).1.length ≤ 900000 by have := tot_mem (List.getElem_mem hk); omega)
  have HN := Lib.hid hn
  have HALL := Lib.hid (all_split htk hne)
  have hf1 : Fr No wa w1 := hst.1
  obtain ⟨bx, hbx⟩ : ∃ bx, w1.heap.size = bx := ⟨_, rfl⟩
  have lbr : br < wa.heap.size := X2.out.lt
  have HBR := Lib.hid hbr
  have sz1 := hf1.size
  have hbb : br ≠ bx := by omega
  have HBB := Lib.hid hbb
  have HBB' := Lib.hid (fun e : bx = br => hbb e.symm)
  have hOP := Lib.hid (fun q (hq : Of (.slice AP n cP) q) => show q ≠ bx from fun e => by have := of_lt hown q hq; omega)
  have hP1 := Lib.hid (own_fr hown ((Fr.refl No w1).alloc (.cells #[.slice none 0 0, .slice none 0 0, .int .i64 0, .bool false] 31)) (fun _ _ h => h))
  have hRes := Lib.hid ((X2.out.fr hf1 (fun h => h)).alloc (.cells #[.slice none 0 0, .slice none 0 0, .int .i64 0, .bool false] 31))
  have HW0 := Lib.hid ((FA.out.then_no hf1).alloc (.cells #[.slice none 0 0, .slice none 0 0, .int .i64 0, .bool false] 31))
  have hXB := Lib.hid (show Blk (w1.alloc (.cells #[.slice none 0 0, .slice none 0 0, .int .i64 0, .bool false] 31)) bx _ _ from by rw [← hbx]; exact Blk.new w1 31 #[.slice none 0 0, .slice none 0 0, .int .i64 0, .bool false])
  have HBW := Lib.hid (show w.heap.size ≤ bx from by omega)
  have HBL := Lib.hid (show br < (w1.alloc (.cells #[.slice none 0 0, .slice none 0 0, .int .i64 0, .bool false] 31)).heap.size from by rw [size_alloc]; omega)
  clear hown hst htk htot hlen hne hn hF0 hf1 lbr sz1 hbb FA X2
  go_upto_region 3 with (fail)
  try rw [hbx]
  try rw [hbr]
  clear hbx hbr
  generalize w1.alloc (.cells #[.slice none 0 0, .slice none 0 0, .int .i64 0, .bool false] 31) = W0 at hP1 hRes HW0 hXB HBL ⊢
  have HRes := hRes
  go_wp2_with fail
  go_loopw [7] (fun i wr => ∃ (k : Nat) (vR vV : Value) (ro : Int) (bd : Bool), i = .int .i64 k ∧ k ≤ n ∧ Hid (RI W0 wr bx ((P.take k).foldl stepP X0) #[vR, vV, .int .i64 ro, .bool bd])) (fun i _ => n - (intOf i).toNat)
  case atStart =>
    refine ⟨0, .slice none 0 0, .slice none 0 0, 0, false, rfl, Nat.zero_le _, RB.of_rows (B := No) (rv := []) ⟨World.ownsRow_nil _ _ _ _, ⟨rfl, fun i hi => by cases hi⟩, World.ownsRow_nil _ _ _ _, (fun k hk => by cases hk), fun k hk => hk.elim⟩ rfl rfl (fun k hk => ?_) (fun k hk => hk.2), hXB.out, Fr.refl _ _, hXB.out.lt⟩
    rcases hk with hk | hk | hk
    · exact hk.elim
    · cases hk
    · cases hk
  case round =>
    obtain ⟨k, vR, vV, ro, bd, rfl, hk, hd⟩ := hrel
    obtain ⟨A5, n5, k5, A6, n6, k6, rfl, rfl, hn6⟩ := hd.out.forms
    have HN6 := Lib.hid hn6
    have HI := Lib.hid hd.out
    clear hn6
    have x0 := HI.out.blk.cell 0
    have x1 := HI.out.blk.cell 1
    have x2 := HI.out.blk.cell 2
    have x3 := HI.out.blk.cell 3
    have xf0 := HI.out.blk.frozen 0
    have xf1 := HI.out.blk.frozen 1
    have xf2 := HI.out.blk.frozen 2
    have xf3 := HI.out.blk.frozen 3
    simp only [List.getElem?_toArray, List.getElem?_cons_zero, List.getElem?_cons_succ] at x0 x1 x2 x3
    by_cases hlt : k < n
    · cases bd with
      | true =>
        have HE := Lib.hid (show (P.take k).foldl stepP X0 = allR s from by
          rw [← HALL.out]
          obtain ⟨B, rv, -, -, g2, -⟩ := HI.out.rb.parts
          exact (fold_take g2.symm).symm)
        clear hd
        have hb2 := HRes.out.fr HI.out.fr (fun e => HBB.out e)
        have r0 := hb2.cell 0
        have r1 := hb2.cell 1
        have r2 := hb2.cell 2
        have r3 := hb2.cell 3
        have rf0 := hb2.frozen 0
        have rf1 := hb2.frozen 1
        have rf2 := hb2.frozen 2
        have rf3 := hb2.frozen 3
        simp only [List.getElem?_toArray, List.getElem?_cons_zero, List.getElem?_cons_succ] at r0 r1 r2 r3
        have HB2 := Lib.hid hb2
        clear hb2
        go_wp2_with fail
        have b9 := HB2.out
        have b9 := b9.put 0 (.slice A5 n5 k5)
        have b9 := b9.put 1 (.slice A6 n6 k6)
        have b9 := b9.put 2 (.int .i64 ro)
        have b9 := b9.put 3 (.bool true)
        simp only [List.setIfInBounds_toArray, List.set_cons_zero, List.set_cons_succ] at b9
        have e0 := b9.cell 0
        have e1 := b9.cell 1
        have e2 := b9.cell 2
        have e3 := b9.cell 3
        simp only [List.getElem?_toArray, List.getElem?_cons_zero, List.getElem?_cons_succ] at e0 e1 e2 e3
        clear b9
        refine bodyPost_ret (v := .tuple #[.agg #[.slice A5 n5 k5, .slice A6 n6 k6, .int .i64 ro, .bool true], .int .i64 3]) ?_ rfl ?_
        · simp [results, Try.f8, go_sem, e0, e1, e2, e3]
        · have hI := HI.out
          rw [HE.out] at hI
          refine read_end HW0.out hI ?_ HBW.out HBL.out HBR.out ?_
          · repeat (first | with_reducible exact Fr.refl _ _ | with_reducible refine Fr.setCell ?_ (.inl (by exact rfl)) _)
          · obtain ⟨B, rv, -, -, g2, -⟩ := hI.rb.parts; unfold codeR; rw [if_pos g2.symm]
      | false =>
        obtain ⟨B, rv, hrows, hro, hbd, hA, hltA⟩ := HI.out.rb.parts
        have hkP : k < P.length := HN.out ▸ hlt
        obtain ⟨gP, c9, hgP⟩ := own_pos hP1.out (show 0 < n by omega)
        injection hgP with hgP h92 h93
        subst hgP
        clear h92 h93
        have ho := own_fr hP1.out HI.out.fr (fun q hq e => hOP.out q hq e)
        have HPO := Lib.hid ho
        obtain ⟨a0, a1⟩ := rpart_at ho hkP
        have HNX := fold_next (x := X0) hkP
        have hsl := HM.out k hkP
        have hFk := HF.out k
        have hpx : gP ≠ bx := hOP.out gP rfl
        have HPA := Lib.hid (show ∀ X, Fr (New W0 wr) wr X → X.cell? ⟨gP, k * 2, none⟩ = some (.string ⟨(P[k]).1.toArray⟩) from fun X hX => by
          have h0 := of_lt hP1.out gP rfl
          exact (rpart_at (own_fr ho hX (fun q hq hN => by have hq := of_at hq; subst hq; have := hN.1; omega)) hkP).1)
        obtain ⟨⟨t, r⟩, ht⟩ : ∃ q, q = P[k] := ⟨_, rfl⟩
        rw [← ht] at a0 a1 HNX hsl HPA
        simp only at a0 a1 hsl HPA
        obtain ⟨y, hy⟩ : ∃ y, y = (P.take k).foldl stepP X0 := ⟨_, rfl⟩
        rw [← hy] at HNX HI hFk hrows hro hbd HN6
        have HRW := Lib.hid hrows
        have HRO := Lib.hid hro
        have HBD := Lib.hid hbd
        have HAA := Lib.hid hA
        have HLA := Lib.hid hltA
        have HNX := Lib.hid HNX
        have HFk := Lib.hid hFk
        clear ho ht hy hd hkP hFk hrows hro hbd hA hltA
        cases r with
        | true =>
          have HST := Lib.hid (show stepP y (t, true) = replyR y t by unfold stepP; rw [if_neg (by rw [← HBD.out]; simp), if_pos rfl])
          have HT : Hid (∀ X, Fr No wr X → Calls Try.prog 20 #[.agg #[.slice A5 n5 k5, .slice A6 n6 k6, .int .i64 ro, .bool false], .string ⟨t.toArray⟩] X fun e w' => ∃ A5 n5 k5 A6 n6 k6 ro' bd', e = .returned (.agg #[.slice A5 n5 k5, .slice A6 n6 k6, .int .i64 ro', .bool bd']) ∧ Hid (∃ A', RB w' A' (replyR y t) #[.slice A5 n5 k5, .slice A6 n6 k6, .int .i64 ro', .bool bd'] ∧ Fr (New W0 wr) wr w' ∧ ∀ q, A' q → New W0 w' q)) := Lib.hid (fun X (hX : Fr No wr X) => (told_any t X (New W0 wr) y _ (HI.out.rb.no hX) hsl HFk.out).mono fun e w' hh => by
            obtain ⟨c, A', rfl, ⟨B, vR, vV, rv, rfl, g1, g2, g3⟩, g4⟩ := hh
            obtain ⟨A5, k5, rfl⟩ := own_form g1.rown
            obtain ⟨A6, k6, rfl⟩ := own_form g1.vown
            have hfr : Fr (New W0 wr) wr w' := (hX.no _).trans g4.1 (fun q hq _ => hq)
            exact ⟨A5, _, k5, A6, _, k6, _, _, rfl, Lib.hid ⟨A', ⟨B, _, _, rv, rfl, g1, g2, g3⟩, hfr, fun q hq => (g4.2 q hq).elim (fun h => ⟨h.1, Nat.lt_of_lt_of_le h.2 hfr.size⟩) (fun h => ⟨by have := h.1; have := hX.size; have := HI.out.fr.size; omega, h.2⟩)⟩⟩)
          go_upto_region 7 with (fail)
          have HK := Lib.hid (show ∀ X, Fr (New W0 wr) wr X → X.cell? ⟨bx, 0, none⟩ = some (.slice A5 n5 k5) ∧ X.cell? ⟨bx, 1, none⟩ = some (.slice A6 n6 k6) ∧ X.cell? ⟨bx, 2, none⟩ = some (.int .i64 ro) ∧ X.cell? ⟨bx, 3, none⟩ = some (.bool false) ∧ X.cell? ⟨gP, k * 2, none⟩ = some (.string ⟨t.toArray⟩) from fun X hX => ⟨(HI.out.blk.fr hX HI.out.no).cell 0, (HI.out.blk.fr hX HI.out.no).cell 1, (HI.out.blk.fr hX HI.out.no).cell 2, (HI.out.blk.fr hX HI.out.no).cell 3, HPA.out X hX⟩)
          clear x0 x1 x2 x3 xf0 xf1 xf2 xf3 a0 a1
          refine wp_region_T (fun X => X.cell? ⟨bx, 0, none⟩ = some (.slice A5 n5 k5) ∧ X.cell? ⟨bx, 1, none⟩ = some (.slice A6 n6 k6) ∧ X.cell? ⟨bx, 2, none⟩ = some (.int .i64 ro) ∧ X.cell? ⟨bx, 3, none⟩ = some (.bool false) ∧ X.cell? ⟨gP, k * 2, none⟩ = some (.string ⟨t.toArray⟩)) 7 (by kernel_rfl) ?_ ?_
          · exact ⟨by kernel_rfl, by kernel_rfl, by kernel_rfl, by decide⟩
          intro hk
          have hHeld := HK.out _ (((Fr.refl No wr).drew).no _)
          refine wpAnyT_take (i := 0) (v := ?_) hk rfl (by kernel_rfl) (fun _ _ _ h => h) (by exact hHeld) (Or.inl ⟨by rfl, ?_⟩) ?_
          rotate_left
          · (intro w hSw; (try dsimp only at hSw); (try simp only [List.getElem_toArray, List.getElem_cons_succ, List.getElem_cons_zero]); go_simp; all_goals with_reducible rfl)
          (try simp only [Act.put, List.setIfInBounds_toArray, List.set_cons_zero, List.set_cons_succ])
          refine wpAnyT_take (i := 1) (v := ?_) hk rfl (by kernel_rfl) (fun _ _ _ h => h) (by exact hHeld) (Or.inl ⟨by rfl, ?_⟩) ?_
          rotate_left
          · (intro w hSw; (try dsimp only at hSw); (try simp only [List.getElem_toArray, List.getElem_cons_succ, List.getElem_cons_zero]); go_simp; all_goals with_reducible rfl)
          (try simp only [Act.put, List.setIfInBounds_toArray, List.set_cons_zero, List.set_cons_succ])
          refine wpAnyT_take (i := 2) (v := ?_) hk rfl (by kernel_rfl) (fun _ _ _ h => h) (by exact hHeld) (Or.inl ⟨by rfl, ?_⟩) ?_
          rotate_left
          · (intro w hSw; (try dsimp only at hSw); (try simp only [List.getElem_toArray, List.getElem_cons_succ, List.getElem_cons_zero]); go_simp; all_goals with_reducible rfl)
          (try simp only [Act.put, List.setIfInBounds_toArray, List.set_cons_zero, List.set_cons_succ])
          refine wpAnyT_take (i := 3) (v := ?_) hk rfl (by kernel_rfl) (fun _ _ _ h => h) (by exact hHeld) (Or.inl ⟨by rfl, ?_⟩) ?_
          rotate_left
          · (intro w hSw; (try dsimp only at hSw); (try simp only [List.getElem_toArray, List.getElem_cons_succ, List.getElem_cons_zero]); go_simp; all_goals with_reducible rfl)
          (try simp only [Act.put, List.setIfInBounds_toArray, List.set_cons_zero, List.set_cons_succ])
          refine wpAnyT_take (i := 4) (v := ?_) hk rfl (by kernel_rfl) (fun _ _ _ h => h) (by exact hHeld) (Or.inl ⟨by rfl, ?_⟩) ?_
          rotate_left
          · (intro w hSw; (try dsimp only at hSw); (try simp only [List.getElem_toArray, List.getElem_cons_succ, List.getElem_cons_zero]); go_simp; all_goals with_reducible rfl)
          (try simp only [Act.put, List.setIfInBounds_toArray, List.set_cons_zero, List.set_cons_succ])
          refine wpAnyT_take (i := 5) (v := ?_) hk rfl (by kernel_rfl) (fun _ _ _ h => h) (by exact hHeld) (Or.inl ⟨by rfl, ?_⟩) ?_
          rotate_left
          · (intro w hSw; (try dsimp only at hSw); (try simp only [List.getElem_toArray, List.getElem_cons_succ, List.getElem_cons_zero]); go_simp; all_goals with_reducible rfl)
          (try simp only [Act.put, List.setIfInBounds_toArray, List.set_cons_zero, List.set_cons_succ])
          refine wpAnyT_all (rs := [6]) (by kernel_rfl) (by simp) ?_
          refine AllT.cons (o := ?_) ?_ (fun K hK => ?_) ?_
          rotate_left
          · (simp only [List.getElem?_toArray, List.getElem?_cons_succ, List.getElem?_cons_zero]; rfl)
          · skip
            go_simp
            (go_at_call 20; refine (HT.out _ (by (repeat' (first | with_reducible assumption | with_reducible exact Fr.refl _ _ | with_reducible refine Fr.drew ?_ | with_reducible refine Fr.drewN ?_ _ | with_reducible refine Fr.alloc ?_ _)))).mono ?_; rintro e2 w6 ⟨A5b, n5b, k5b, A6b, n6b, k6b, rob, bdb, rfl, hq⟩)
            try go_wp2_with fail
            obtain ⟨A7, h71, h72, h73⟩ := hq.out
            have h72 := h72
            have H71 := Lib.hid h71
            have H73 := Lib.hid h73
            have hX6 := HI.out.blk.fr h72 HI.out.no
            have HX6 := Lib.hid hX6
            have H72 := Lib.hid h72
            clear h71 h73 hX6 hq
            refine hK.out _ _ ?_ (fun hNew => ?_)
            · (intro _; (try dsimp only); exact HK.out _ H72.out)
            clear hHeld hK K
            have hHeld := hNew (by decide)
            clear hNew
            (try simp only [Act.put, List.setIfInBounds_toArray, List.set_cons_zero, List.set_cons_succ])
            refine wpAnyT_all (rs := [7]) (by kernel_rfl) (by simp) ?_
            refine AllT.cons (o := ?_) ?_ (fun K hK => ?_) ?_
            rotate_left
            · (simp only [List.getElem?_toArray, List.getElem?_cons_succ, List.getElem?_cons_zero]; rfl)
            · skip
              have x0 := HX6.out.cell 0
              have x1 := HX6.out.cell 1
              have x2 := HX6.out.cell 2
              have x3 := HX6.out.cell 3
              have xf0 := HX6.out.frozen 0
              have xf1 := HX6.out.frozen 1
              have xf2 := HX6.out.frozen 2
              have xf3 := HX6.out.frozen 3
              simp only [List.getElem?_toArray, List.getElem?_cons_zero, List.getElem?_cons_succ] at x0 x1 x2 x3
              go_simp
              refine hK.out _ _ ?_ (fun hNew => ?_)
              · exact fun h => absurd rfl h
              clear hHeld hK K
              clear hNew
              (try simp only [Act.put, List.setIfInBounds_toArray, List.set_cons_zero, List.set_cons_succ])
              refine wpAnyT_done (by kernel_rfl) ?_
              go_wp2_with fail
              go_roundw
              case rel =>
                have hb := HX6.out
                have hb := hb.put 0 (.slice A5b n5b k5b)
                have hb := hb.put 1 (.slice A6b n6b k6b)
                have hb := hb.put 2 (.int .i64 rob)
                have hb := hb.put 3 (.bool bdb)
                simp only [List.setIfInBounds_toArray, List.set_cons_zero, List.set_cons_succ] at hb
                refine ⟨k + 1, .slice A5b n5b k5b, .slice A6b n6b k6b, rob, bdb, by go_num, by omega, ?_⟩
                rw [HNX.out, HST.out]
                refine Lib.hid (HI.out.next H72.out ?_ hb H71.out H73.out)
                repeat (first | with_reducible exact Fr.refl _ _ | with_reducible refine Fr.setCell ?_ (.inl (by exact rfl)) _)
              case measure => simp [intOf]; omega
            exact AllT.nil
          exact AllT.nil
        
        | false =>
          have HST := Lib.hid (show stepP y (t, false) = dataR y t by unfold stepP; rw [if_neg (by rw [← HBD.out]; simp), if_neg (by simp)])
          have hv : y.V = [] ∨ (∃ U n t, y.V = U ++ [(n, t, false)]) ∨ ∃ U n t, y.V = U ++ [(n, t, true)] := by
            cases ho : opn y.V with
            | none => exact (opn_none ho).imp id .inl
            | some q => obtain ⟨U, hU⟩ := opn_some (show opn y.V = some (q.1, q.2) from ho); exact .inr (.inr ⟨U, _, _, hU⟩)
          rcases hv with ho | ⟨U, n9, t9, ho⟩ | ⟨U, n9, t9, ho⟩
          · have HDN := Lib.hid (data_none (x := y) (s := t) (by rw [ho]; rfl))
            have e6 : n6 = 0 := by rw [HN6.out, ho]; rfl
            subst e6
            clear ho
            go_wp2_with fail
            go_roundw
            case rel =>
              refine ⟨k + 1, .slice A5 n5 k5, .slice A6 0 k6, ro, true, by go_num, by omega, ?_⟩
              rw [HNX.out, HST.out, HDN.out]
              refine Lib.hid (HI.out.next (Fr.refl _ _) (Fr.setCell (F := fun q => q = bx) (Fr.refl _ _) (p := ⟨bx, 3, none⟩) (.inl rfl) _) (by simpa using HI.out.blk.put 3 (.bool true)) (RB.of_rows (Rows.like HRW.out rfl rfl) HRO.out rfl HAA.out HLA.out) (fun q hq => hq))
            case measure => simp [intOf]; omega
          · have HDN := Lib.hid (data_none (x := y) (s := t) (by rw [ho]; exact opn_shut _ _ _))
            have hl6 := HN6.out
            rw [ho] at hl6
            simp only [List.length_append, List.length_singleton] at hl6
            obtain ⟨m, hm⟩ : ∃ m, m = U.length := ⟨_, rfl⟩
            rw [← hm] at hl6
            subst hl6
            have hv6 := HRW.out.vown
            obtain ⟨gV, c9, hgV⟩ := own_pos hv6 (show 0 < y.V.length by rw [ho]; simp)
            injection hgV with hgV h92 h93
            subst hgV
            subst h93
            clear h92
            obtain ⟨v0, v1, v2⟩ := HRW.out.at_ ho hm
            have hmc : m + 1 ≤ k6 := by
              rcases hv6.2 with ⟨h1, h2⟩ | ⟨g, cap, cur, h1, h2, h3, h4, h5, _⟩
              · cases h1
              · injection h1 with _ _ h1; rw [h1]; rw [← HN6.out] at h4; exact h4
            have hmf := HFk.out.2.1
            rw [← HN6.out] at hmf
            have hmc2 : m ≤ k6 := by omega
            have hlt9 : (m : Int) < (m : Int) + 1 := by omega
            have hb0 : decide (((m + 1 : Nat) : Int) - 1 < 0) = false := decide_eq_false (by omega)
            have hxg : bx ≠ gV := fun e => HI.out.no (HAA.out bx (.inr (.inr (by rw [e]; rfl))))
            have hgx : gV ≠ bx := fun e => hxg e.symm
            have HM6 := Lib.hid hm
            have HU := Lib.hid ho
            clear hv6 hm ho
            go_wp2_with fail
            go_roundw
            case rel =>
              refine ⟨k + 1, .slice A5 n5 k5, .slice (some ⟨gV, 0, none⟩) (m + 1) k6, ro, true, by go_num, by omega, ?_⟩
              rw [HNX.out, HST.out, HDN.out]
              refine Lib.hid (HI.out.next (Fr.refl _ _) (Fr.setCell (F := fun q => q = bx) (Fr.refl _ _) (p := ⟨bx, 3, none⟩) (.inl rfl) _) (by simpa using HI.out.blk.put 3 (.bool true)) (RB.of_rows (Rows.like HRW.out rfl rfl) HRO.out rfl HAA.out HLA.out) (fun q hq => hq))
            case measure => simp [intOf]; omega
          · have ht9 := HFk.out.2.2 (n9, t9, true) (by rw [ho]; simp)
            simp only at ht9
            have hl6 := HN6.out
            rw [ho] at hl6
            simp only [List.length_append, List.length_singleton] at hl6
            obtain ⟨m, hm⟩ : ∃ m, m = U.length := ⟨_, rfl⟩
            rw [← hm] at hl6
            subst hl6
            have hv6 := HRW.out.vown
            obtain ⟨gV, c9, hgV⟩ := own_pos hv6 (show 0 < y.V.length by rw [ho]; simp)
            injection hgV with hgV h92 h93
            subst hgV
            subst h93
            clear h92
            obtain ⟨v0, v1, v2⟩ := HRW.out.at_ ho hm
            have hmc : m + 1 ≤ k6 := by
              rcases hv6.2 with ⟨h1, h2⟩ | ⟨g, cap, cur, h1, h2, h3, h4, h5, _⟩
              · cases h1
              · injection h1 with _ _ h1; rw [h1]; rw [← HN6.out] at h4; exact h4
            have hmf := HFk.out.2.1
            rw [← HN6.out] at hmf
            have hmc2 : m ≤ k6 := by omega
            have hlt9 : (m : Int) < (m : Int) + 1 := by omega
            have hb0 : decide (((m + 1 : Nat) : Int) - 1 < 0) = false := decide_eq_false (by omega)
            have hxg : bx ≠ gV := fun e => HI.out.no (HAA.out bx (.inr (.inr (by rw [e]; rfl))))
            have hgx : gV ≠ bx := fun e => hxg e.symm
            have HM6 := Lib.hid hm
            have HU := Lib.hid ho
            clear hv6 hm ho
            have GG := Lib.hid (GX.mk HI.out.blk HRW.out)
            have hadd := fun W => Go.run_string_add_sum (P := Try.prog) (w := W) ⟨t9.toArray⟩ ⟨t.toArray⟩ (by simp [ByteArray.size]; omega)
            go_upto_region 11 with (fail)
            clear x0 x1 x2 x3 xf0 xf1 xf2 xf3 v0 v1 v2 a0 a1
            have HK := Lib.hid (show ∀ X, Fr No wr X → X.cell? ⟨bx, 1, none⟩ = some (.slice (some ⟨gV, 0, none⟩) (m + 1) k6) ∧ X.cell? ⟨gV, m * 3, none⟩ = some (.string ⟨n9.toArray⟩) ∧ X.cell? ⟨gV, m * 3 + 1, none⟩ = some (.string ⟨t9.toArray⟩) ∧ X.cell? ⟨gP, k * 2, none⟩ = some (.string ⟨t.toArray⟩) from fun X hX => ⟨(GG.out.xb.fr hX (fun h => h)).cell 1, ((GG.out.rows.no hX).at_ HU.out HM6.out).1, ((GG.out.rows.no hX).at_ HU.out HM6.out).2.1, HPA.out X (hX.no _)⟩)
            have HCU := Lib.hid (fun X (hX : Fr No wr X) => (GG.out.rows.no hX).cut HU.out)
            refine wp_region_T (fun X => X.cell? ⟨bx, 1, none⟩ = some (.slice (some ⟨gV, 0, none⟩) (m + 1) k6) ∧ X.cell? ⟨gV, m * 3, none⟩ = some (.string ⟨n9.toArray⟩) ∧ X.cell? ⟨gV, m * 3 + 1, none⟩ = some (.string ⟨t9.toArray⟩) ∧ X.cell? ⟨gP, k * 2, none⟩ = some (.string ⟨t.toArray⟩)) 28 (by kernel_rfl) ?_ ?_
            · exact ⟨by kernel_rfl, by kernel_rfl, by kernel_rfl, by decide⟩
            intro hk
            have hHeld := HK.out _ ((Fr.refl No wr).drew)
            refine wpAnyT_take (i := 1) (v := ?_) hk rfl (by kernel_rfl) (fun _ _ _ h => h) (by exact hHeld) (Or.inl ⟨by rfl, ?_⟩) ?_
            rotate_left
            · (intro w hSw; (try dsimp only at hSw); (try simp only [List.getElem_toArray, List.getElem_cons_succ, List.getElem_cons_zero]); go_simp; all_goals with_reducible rfl)
            (try simp only [Act.put, List.setIfInBounds_toArray, List.set_cons_zero, List.set_cons_succ])
            refine wpAnyT_take (i := 2) (v := ?_) hk rfl (by kernel_rfl) (fun _ _ _ h => h) (by exact hHeld) (Or.inl ⟨by rfl, ?_⟩) ?_
            rotate_left
            · (intro w hSw; (try dsimp only at hSw); (try simp only [List.getElem_toArray, List.getElem_cons_succ, List.getElem_cons_zero]); go_simp; all_goals with_reducible rfl)
            (try simp only [Act.put, List.setIfInBounds_toArray, List.set_cons_zero, List.set_cons_succ])
            refine wpAnyT_take (i := 3) (v := ?_) hk rfl (by kernel_rfl) (fun _ _ _ h => h) (by exact hHeld) (Or.inl ⟨by rfl, ?_⟩) ?_
            rotate_left
            · (intro w hSw; (try dsimp only at hSw); (try simp only [List.getElem_toArray, List.getElem_cons_succ, List.getElem_cons_zero]); go_simp; all_goals with_reducible rfl)
            (try simp only [Act.put, List.setIfInBounds_toArray, List.set_cons_zero, List.set_cons_succ])
            refine wpAnyT_take (i := 4) (v := ?_) hk rfl (by kernel_rfl) (fun _ _ _ h => h) (by exact hHeld) (Or.inl ⟨by rfl, ?_⟩) ?_
            rotate_left
            · (intro w hSw; (try dsimp only at hSw); (try simp only [List.getElem_toArray, List.getElem_cons_succ, List.getElem_cons_zero]); go_simp; all_goals with_reducible rfl)
            (try simp only [Act.put, List.setIfInBounds_toArray, List.set_cons_zero, List.set_cons_succ])
            refine wpAnyT_take (i := 6) (v := ?_) hk rfl (by kernel_rfl) (fun _ _ _ h => h) (by exact hHeld) (Or.inl ⟨by rfl, ?_⟩) ?_
            rotate_left
            · (intro w hSw; (try dsimp only at hSw); (try simp only [List.getElem_toArray, List.getElem_cons_succ, List.getElem_cons_zero]); go_simp; all_goals with_reducible rfl)
            (try simp only [Act.put, List.setIfInBounds_toArray, List.set_cons_zero, List.set_cons_succ])
            refine wpAnyT_take (i := 7) (v := ?_) hk rfl (by kernel_rfl) (fun _ _ _ h => h) (by exact hHeld) (Or.inl ⟨by rfl, ?_⟩) ?_
            rotate_left
            · (intro w hSw; (try dsimp only at hSw); (try simp only [List.getElem_toArray, List.getElem_cons_succ, List.getElem_cons_zero]); go_simp; all_goals with_reducible rfl)
            (try simp only [Act.put, List.setIfInBounds_toArray, List.set_cons_zero, List.set_cons_succ])
            refine wpAnyT_take (i := 8) (v := ?_) hk rfl (by kernel_rfl) (fun _ _ _ h => h) (by exact hHeld) (Or.inl ⟨by rfl, ?_⟩) ?_
            rotate_left
            · (intro w hSw; (try dsimp only at hSw); (try simp only [List.getElem_toArray, List.getElem_cons_succ, List.getElem_cons_zero]); go_simp; all_goals with_reducible rfl)
            (try simp only [Act.put, List.setIfInBounds_toArray, List.set_cons_zero, List.set_cons_succ])
            refine wpAnyT_take (i := 9) (v := ?_) hk rfl (by kernel_rfl) (fun _ _ _ h => h) (by exact hHeld) (Or.inl ⟨by rfl, ?_⟩) ?_
            rotate_left
            · (intro w hSw; (try dsimp only at hSw); (try simp only [List.getElem_toArray, List.getElem_cons_succ, List.getElem_cons_zero]); go_simp; all_goals with_reducible rfl)
            (try simp only [Act.put, List.setIfInBounds_toArray, List.set_cons_zero, List.set_cons_succ])
            refine wpAnyT_take (i := 10) (v := ?_) hk rfl (by kernel_rfl) (fun _ _ _ h => h) (by exact hHeld) (Or.inl ⟨by rfl, ?_⟩) ?_
            rotate_left
            · (intro w hSw; (try dsimp only at hSw); (try simp only [List.getElem_toArray, List.getElem_cons_succ, List.getElem_cons_zero]); go_simp; all_goals with_reducible rfl)
            (try simp only [Act.put, List.setIfInBounds_toArray, List.set_cons_zero, List.set_cons_succ])
            refine wpAnyT_take (i := 11) (v := ?_) hk rfl (by kernel_rfl) (fun _ _ _ h => h) (by exact hHeld) (Or.inl ⟨by rfl, ?_⟩) ?_
            rotate_left
            · (intro w hSw; (try dsimp only at hSw); (try simp only [List.getElem_toArray, List.getElem_cons_succ, List.getElem_cons_zero]); go_simp; all_goals with_reducible rfl)
            (try simp only [Act.put, List.setIfInBounds_toArray, List.set_cons_zero, List.set_cons_succ])
            refine wpAnyT_take (i := 12) (v := ?_) hk rfl (by kernel_rfl) (fun _ _ _ h => h) (by exact hHeld) (Or.inl ⟨by rfl, ?_⟩) ?_
            rotate_left
            · (intro w hSw; (try dsimp only at hSw); (try simp only [List.getElem_toArray, List.getElem_cons_succ, List.getElem_cons_zero]); go_simp; all_goals with_reducible rfl)
            (try simp only [Act.put, List.setIfInBounds_toArray, List.set_cons_zero, List.set_cons_succ])
            refine wpAnyT_take (i := 13) (v := ?_) hk rfl (by kernel_rfl) (fun _ _ _ h => h) (by exact hHeld) (Or.inl ⟨by rfl, ?_⟩) ?_
            rotate_left
            · (intro w hSw; (try dsimp only at hSw); (try simp only [List.getElem_toArray, List.getElem_cons_succ, List.getElem_cons_zero]); go_simp; all_goals with_reducible rfl)
            (try simp only [Act.put, List.setIfInBounds_toArray, List.set_cons_zero, List.set_cons_succ])
            refine wpAnyT_take (i := 14) (v := ?_) hk rfl (by kernel_rfl) (fun _ _ _ h => h) (by exact hHeld) (Or.inl ⟨by rfl, ?_⟩) ?_
            rotate_left
            · (intro w hSw; (try dsimp only at hSw); (try simp only [List.getElem_toArray, List.getElem_cons_succ, List.getElem_cons_zero]); go_simp; all_goals with_reducible rfl)
            (try simp only [Act.put, List.setIfInBounds_toArray, List.set_cons_zero, List.set_cons_succ])
            refine wpAnyT_take (i := 15) (v := ?_) hk rfl (by kernel_rfl) (fun _ _ _ h => h) (by exact hHeld) (Or.inl ⟨by rfl, ?_⟩) ?_
            rotate_left
            · (intro w hSw; (try dsimp only at hSw); (try simp only [List.getElem_toArray, List.getElem_cons_succ, List.getElem_cons_zero]); go_simp; all_goals with_reducible rfl)
            (try simp only [Act.put, List.setIfInBounds_toArray, List.set_cons_zero, List.set_cons_succ])
            refine wpAnyT_take (i := 16) (v := ?_) hk rfl (by kernel_rfl) (fun _ _ _ h => h) (by exact hHeld) (Or.inl ⟨by rfl, ?_⟩) ?_
            rotate_left
            · (intro w hSw; (try dsimp only at hSw); (try simp only [List.getElem_toArray, List.getElem_cons_succ, List.getElem_cons_zero]); go_simp; all_goals with_reducible rfl)
            (try simp only [Act.put, List.setIfInBounds_toArray, List.set_cons_zero, List.set_cons_succ])
            refine wpAnyT_take (i := 17) (v := ?_) hk rfl (by kernel_rfl) (fun _ _ _ h => h) (by exact hHeld) (Or.inl ⟨by rfl, ?_⟩) ?_
            rotate_left
            · (intro w hSw; (try dsimp only at hSw); (try simp only [List.getElem_toArray, List.getElem_cons_succ, List.getElem_cons_zero]); go_simp; all_goals with_reducible rfl)
            (try simp only [Act.put, List.setIfInBounds_toArray, List.set_cons_zero, List.set_cons_succ])
            refine wpAnyT_take (i := 18) (v := ?_) hk rfl (by kernel_rfl) (fun _ _ _ h => h) (by exact hHeld) (Or.inl ⟨by rfl, ?_⟩) ?_
            rotate_left
            · (intro w hSw; (try dsimp only at hSw); (try simp only [List.getElem_toArray, List.getElem_cons_succ, List.getElem_cons_zero]); go_simp; all_goals with_reducible rfl)
            (try simp only [Act.put, List.setIfInBounds_toArray, List.set_cons_zero, List.set_cons_succ])
            refine wpAnyT_take (i := 19) (v := ?_) hk rfl (by kernel_rfl) (fun _ _ _ h => h) (by exact hHeld) (Or.inl ⟨by rfl, ?_⟩) ?_
            rotate_left
            · (intro w hSw; (try dsimp only at hSw); (try simp only [List.getElem_toArray, List.getElem_cons_succ, List.getElem_cons_zero]); go_simp; all_goals with_reducible rfl)
            (try simp only [Act.put, List.setIfInBounds_toArray, List.set_cons_zero, List.set_cons_succ])
            refine wpAnyT_take (i := 20) (v := ?_) hk rfl (by kernel_rfl) (fun _ _ _ h => h) (by exact hHeld) (Or.inl ⟨by rfl, ?_⟩) ?_
            rotate_left
            · (intro w hSw; (try dsimp only at hSw); (try simp only [List.getElem_toArray, List.getElem_cons_succ, List.getElem_cons_zero]); go_simp; all_goals with_reducible rfl)
            (try simp only [Act.put, List.setIfInBounds_toArray, List.set_cons_zero, List.set_cons_succ])
            refine wpAnyT_take (i := 21) (v := ?_) hk rfl (by kernel_rfl) (fun _ _ _ h => h) (by exact hHeld) (Or.inl ⟨by rfl, ?_⟩) ?_
            rotate_left
            · (intro w hSw; (try dsimp only at hSw); (try simp only [List.getElem_toArray, List.getElem_cons_succ, List.getElem_cons_zero]); go_simp; all_goals with_reducible rfl)
            (try simp only [Act.put, List.setIfInBounds_toArray, List.set_cons_zero, List.set_cons_succ])
            refine wpAnyT_take (i := 22) (v := ?_) hk rfl (by kernel_rfl) (fun _ _ _ h => h) (by exact hHeld) (Or.inl ⟨by rfl, ?_⟩) ?_
            rotate_left
            · (intro w hSw; (try dsimp only at hSw); (try simp only [List.getElem_toArray, List.getElem_cons_succ, List.getElem_cons_zero]); go_simp; all_goals with_reducible rfl)
            (try simp only [Act.put, List.setIfInBounds_toArray, List.set_cons_zero, List.set_cons_succ])
            refine wpAnyT_take (i := 23) (v := ?_) hk rfl (by kernel_rfl) (fun _ _ _ h => h) (by exact hHeld) (Or.inl ⟨by rfl, ?_⟩) ?_
            rotate_left
            · (intro w hSw; (try dsimp only at hSw); (try simp only [List.getElem_toArray, List.getElem_cons_succ, List.getElem_cons_zero]); go_simp; all_goals with_reducible rfl)
            (try simp only [Act.put, List.setIfInBounds_toArray, List.set_cons_zero, List.set_cons_succ])
            refine wpAnyT_take (i := 24) (v := ?_) hk rfl (by kernel_rfl) (fun _ _ _ h => h) (by exact hHeld) (Or.inl ⟨by rfl, ?_⟩) ?_
            rotate_left
            · (intro w hSw; (try dsimp only at hSw); (try simp only [List.getElem_toArray, List.getElem_cons_succ, List.getElem_cons_zero]); go_simp; all_goals with_reducible rfl)
            (try simp only [Act.put, List.setIfInBounds_toArray, List.set_cons_zero, List.set_cons_succ])
            refine wpAnyT_all (rs := [0, 25]) (by kernel_rfl) (by simp) ?_
            refine AllT.cons (o := ?_) ?_ (fun K hK => ?_) ?_
            rotate_left
            · (simp only [List.getElem?_toArray, List.getElem?_cons_succ, List.getElem?_cons_zero]; rfl)
            · skip
              go_simp
              refine hK.out _ _ ?_ (fun hNew => ?_)
              · (intro _; (try dsimp only); refine HK.out _ ?_; (repeat' (first | with_reducible assumption | with_reducible exact Fr.refl _ _ | with_reducible refine Fr.drew ?_ | with_reducible refine Fr.drewN ?_ _ | with_reducible refine Fr.alloc ?_ _)))
              clear hHeld hK K
              have hHeld := hNew (by decide)
              clear hNew
              (try simp only [Act.put, List.setIfInBounds_toArray, List.set_cons_zero, List.set_cons_succ])
              refine wpAnyT_all (rs := [5, 25]) (by kernel_rfl) (by simp) ?_
              refine AllT.cons (o := ?_) ?_ (fun K hK => ?_) ?_
              rotate_left
              · (simp only [List.getElem?_toArray, List.getElem?_cons_succ, List.getElem?_cons_zero]; rfl)
              · skip
                refine step_app (B := some ⟨gV, 0, none⟩) (m := m) (c := k6) (news := U.flatMap encV) rfl (.tmp 53) (.tmp 57) 29 rfl TV (.agg #[.string ByteArray.empty, .string ByteArray.empty, .bool false]) 3 40 Try.underlying29 infoW rfl (by decide) (.slice (some ⟨wr.heap.size, 0, none⟩) 0 0) 0 [] (by simp [Act.eval, Act.put]) (own_empty_at wr.drew TV 3 _ rfl) (by simp [Act.eval, Act.put]) (by rw [fmV, HM6.out]) (HCU.out _ (by (repeat' (first | with_reducible assumption | with_reducible exact Fr.refl _ _ | with_reducible refine Fr.drew ?_ | with_reducible refine Fr.drewN ?_ _ | with_reducible refine Fr.alloc ?_ _)))) (one_encV U) (by omega) (by unfold maxLen; omega) ?_
                intro v6 w6 p1 p2 p3
                rw [Nat.zero_add, List.nil_append] at p1
                obtain ⟨A7, c7, rfl⟩ := own_form p1
                have f6 : Fr No wr w6 := lit_then ((Fr.refl No wr).drew.alloc (.cells #[] TV)) (by omega) p2
                have s6 : wr.heap.size + 1 ≤ w6.heap.size := by have := p2.size; simpa using this
                have sd : wr.drew.heap.size = wr.heap.size := rfl
                have N6 := Lib.hid (show ∀ k, Of (.slice A7 m c7) k → New wr w6 k from fun k hk => (p3 k hk).elim (fun h => by have := of_at h; exact ⟨by omega, by omega⟩) (fun h => by have h1 : wr.heap.size + 1 ≤ k := (by have := h.1; simpa using this); exact ⟨by omega, h.2⟩))
                have P1 := Lib.hid p1
                clear p1 p2 p3 s6 sd
                refine hK.out _ _ ?_ (fun hNew => ?_)
                · (intro _; (try dsimp only); refine HK.out _ ?_; (repeat' (first | with_reducible assumption | with_reducible exact Fr.refl _ _ | with_reducible refine Fr.drew ?_ | with_reducible refine Fr.drewN ?_ _ | with_reducible refine Fr.alloc ?_ _)))
                clear hHeld hK K
                have hHeld := hNew (by decide)
                clear hNew
                (try simp only [Act.put, List.setIfInBounds_toArray, List.set_cons_zero, List.set_cons_succ])
                refine wpAnyT_all (rs := [25]) (by kernel_rfl) (by simp) ?_
                refine AllT.cons (o := ?_) ?_ (fun K hK => ?_) ?_
                rotate_left
                · (simp only [List.getElem?_toArray, List.getElem?_cons_succ, List.getElem?_cons_zero]; rfl)
                · skip
                  go_simp
                  refine hK.out _ _ ?_ (fun hNew => ?_)
                  · (intro _; (try dsimp only); refine HK.out _ ?_; (repeat' (first | with_reducible assumption | with_reducible exact Fr.refl _ _ | with_reducible refine Fr.drew ?_ | with_reducible refine Fr.drewN ?_ _ | with_reducible refine Fr.alloc ?_ _)))
                  clear hHeld hK K
                  have hHeld := hNew (by decide)
                  clear hNew
                  (try simp only [Act.put, List.setIfInBounds_toArray, List.set_cons_zero, List.set_cons_succ])
                  refine wpAnyT_all (rs := [26]) (by kernel_rfl) (by simp) ?_
                  refine AllT.cons (o := ?_) ?_ (fun K hK => ?_) ?_
                  rotate_left
                  · (simp only [List.getElem?_toArray, List.getElem?_cons_succ, List.getElem?_cons_zero]; rfl)
                  · skip
                    refine step_push rfl (.tmp 58) (.tmp 78) 29 rfl TV (.agg #[.string ByteArray.empty, .string ByteArray.empty, .bool false]) 3 40 Try.underlying29 infoW rfl (by decide) (.slice A7 m c7) m _ (by simp [Act.eval, Act.put]) P1.out #[.string ⟨n9.toArray⟩, .string ((⟨t9.toArray⟩ : ByteArray) ++ (⟨t.toArray⟩ : ByteArray)), .bool true] (by simp [Act.eval, Act.put]) rfl (by intro u hu; simp at hu; rcases hu with rfl | rfl | rfl <;> rfl) (by omega) (by unfold maxLen; omega) ?_
                    intro g7 c8 w7 q1 q2 q3
                    have f7 : Fr No wr w7 := f6.trans q2 (fun k hk hl => by have := (N6.out k hk).1; omega)
                    have TW := Lib.hid (show Laid TV wr w7 g7 (m + 1) c8 (U.flatMap encV ++ [.string ⟨n9.toArray⟩, .string ((⟨t9.toArray⟩ : ByteArray) ++ (⟨t.toArray⟩ : ByteArray)), .bool true]) from ⟨q1, f7, q3.elim (fun h => ⟨(N6.out _ h).1, Nat.lt_of_lt_of_le (N6.out _ h).2 q2.size⟩) (fun h => ⟨Nat.le_trans f6.size h.1, h.2⟩)⟩)
                    clear q1 q2 q3
                    refine hK.out _ _ ?_ (fun hNew => ?_)
                    · (intro _; (try dsimp only); refine HK.out _ ?_; (repeat' (first | with_reducible assumption | with_reducible exact Fr.refl _ _ | with_reducible refine Fr.drew ?_ | with_reducible refine Fr.drewN ?_ _ | with_reducible refine Fr.alloc ?_ _)))
                    clear hHeld hK K
                    have hHeld := hNew (by decide)
                    clear hNew
                    (try simp only [Act.put, List.setIfInBounds_toArray, List.set_cons_zero, List.set_cons_succ])
                    refine wpAnyT_all (rs := [27]) (by kernel_rfl) (by simp) ?_
                    refine AllT.cons (o := ?_) ?_ (fun K hK => ?_) ?_
                    rotate_left
                    · (simp only [List.getElem?_toArray, List.getElem?_cons_succ, List.getElem?_cons_zero]; rfl)
                    · skip
                      go_simp
                      refine hK.out _ _ ?_ (fun hNew => ?_)
                      · (intro _; (try dsimp only); refine HK.out _ ?_; (repeat' (first | with_reducible assumption | with_reducible exact Fr.refl _ _ | with_reducible refine Fr.drew ?_ | with_reducible refine Fr.drewN ?_ _ | with_reducible refine Fr.alloc ?_ _)))
                      clear hHeld hK K
                      have hHeld := hNew (by decide)
                      clear hNew
                      (try simp only [Act.put, List.setIfInBounds_toArray, List.set_cons_zero, List.set_cons_succ])
                      refine wpAnyT_all (rs := [28]) (by kernel_rfl) (by simp) ?_
                      refine AllT.cons (o := ?_) ?_ (fun K hK => ?_) ?_
                      rotate_left
                      · (simp only [List.getElem?_toArray, List.getElem?_cons_succ, List.getElem?_cons_zero]; rfl)
                      · skip
                        have z1 := (HK.out w7 f7).1
                        have zf := (GG.out.xb.fr f7 (fun h => h)).frozen 1
                        go_simp
                        refine hK.out _ _ ?_ (fun hNew => ?_)
                        · exact fun h => absurd rfl h
                        clear hHeld hK K
                        clear hNew
                        (try simp only [Act.put, List.setIfInBounds_toArray, List.set_cons_zero, List.set_cons_succ])
                        refine wpAnyT_done (by kernel_rfl) ?_
                        have HX7 := Lib.hid (HI.out.blk.fr f7 (fun h => h))
                        clear z1 zf
                        go_wp2_with fail
                        go_roundw
                        case rel =>
                          refine ⟨k + 1, .slice A5 n5 k5, .slice (some ⟨g7, 0, none⟩) (m + 1) c8, ro, false, by go_num, by omega, ?_⟩
                          rw [HNX.out, HST.out, data_some HU.out]
                          have t7 := TW.out
                          rw [ba_app] at t7
                          have hrw := HRW.out.setV (V := U ++ [(n9, t9 ++ t, true)]) f7 (by rw [List.flatMap_append]; exact t7.own) (by rw [HM6.out]; simp) (fun q hq => (of_at hq) ▸ t7.new)
                          have sz9 := HI.out.fr.size
                          refine Lib.hid (HI.out.next (w' := w7) (A' := New W0 w7) (f7.no _) (Fr.setCell (F := fun q => q = bx) (Fr.refl _ _) (p := ⟨bx, 1, none⟩) (.inl rfl) _) (by simpa using HX7.out.put 1 (.slice (some ⟨g7, 0, none⟩) (m + 1) c8)) (RB.of_rows hrw HRO.out HBD.out (fun q hq => ?_) (fun q hq => hq.2)) (fun q hq => hq))
                          have up : New W0 wr q → New W0 w7 q := fun h => ⟨h.1, Nat.lt_of_lt_of_le h.2 f7.size⟩
                          rcases hq with hq | hq | hq
                          · exact up (HAA.out q (.inl hq))
                          · exact up (HAA.out q (.inr (.inl hq)))
                          · rw [of_at hq]; exact ⟨Nat.le_trans sz9 t7.new.1, t7.new.2⟩
                        case measure => simp [intOf]; omega
                      exact AllT.nil
                    exact AllT.nil
                  exact AllT.nil
                exact AllT.nil
              refine AllT.cons (o := ?_) ?_ (fun K hK => ?_) ?_
              rotate_left
              · (simp only [List.getElem?_toArray, List.getElem?_cons_succ, List.getElem?_cons_zero]; rfl)
              · skip
                go_simp
                refine hK.out _ _ ?_ (fun hNew => ?_)
                · (intro _; (try dsimp only); refine HK.out _ ?_; (repeat' (first | with_reducible assumption | with_reducible exact Fr.refl _ _ | with_reducible refine Fr.drew ?_ | with_reducible refine Fr.drewN ?_ _ | with_reducible refine Fr.alloc ?_ _)))
                clear hHeld hK K
                have hHeld := hNew (by decide)
                clear hNew
                (try simp only [Act.put, List.setIfInBounds_toArray, List.set_cons_zero, List.set_cons_succ])
                refine wpAnyT_all (rs := [5]) (by kernel_rfl) (by simp) ?_
                refine AllT.cons (o := ?_) ?_ (fun K hK => ?_) ?_
                rotate_left
                · (simp only [List.getElem?_toArray, List.getElem?_cons_succ, List.getElem?_cons_zero]; rfl)
                · skip
                  refine step_app (B := some ⟨gV, 0, none⟩) (m := m) (c := k6) (news := U.flatMap encV) rfl (.tmp 53) (.tmp 57) 29 rfl TV (.agg #[.string ByteArray.empty, .string ByteArray.empty, .bool false]) 3 40 Try.underlying29 infoW rfl (by decide) (.slice (some ⟨wr.heap.size, 0, none⟩) 0 0) 0 [] (by simp [Act.eval, Act.put]) ((own_empty_at wr.drew TV 3 _ rfl).alloc _) (by simp [Act.eval, Act.put]) (by rw [fmV, HM6.out]) (HCU.out _ (by (repeat' (first | with_reducible assumption | with_reducible exact Fr.refl _ _ | with_reducible refine Fr.drew ?_ | with_reducible refine Fr.drewN ?_ _ | with_reducible refine Fr.alloc ?_ _)))) (one_encV U) (by omega) (by unfold maxLen; omega) ?_
                  intro v6 w6 p1 p2 p3
                  rw [Nat.zero_add, List.nil_append] at p1
                  obtain ⟨A7, c7, rfl⟩ := own_form p1
                  have f6 : Fr No wr w6 := lit_then (((Fr.refl No wr).drew.alloc (.cells #[] TV)).alloc (.cells #[.string ⟨n9.toArray⟩, .string ((⟨t9.toArray⟩ : ByteArray) ++ (⟨t.toArray⟩ : ByteArray)), .bool true] TV)) (by omega) p2
                  have s6 : wr.heap.size + 2 ≤ w6.heap.size := by have := p2.size; simpa using this
                  have sd : wr.drew.heap.size = wr.heap.size := rfl
                  have N6 := Lib.hid (show ∀ k, Of (.slice A7 m c7) k → New wr w6 k from fun k hk => (p3 k hk).elim (fun h => by have := of_at h; exact ⟨by omega, by omega⟩) (fun h => by have h1 : wr.heap.size + 2 ≤ k := (by have := h.1; simpa using this); exact ⟨by omega, h.2⟩))
                  have L6 := (Blk.new (wr.drew.alloc (.cells #[] TV)) TV #[.string ⟨n9.toArray⟩, .string ((⟨t9.toArray⟩ : ByteArray) ++ (⟨t.toArray⟩ : ByteArray)), .bool true]).fr p2 (fun h => by have := of_at h; simp at this)
                  try simp only [size_alloc, sd] at L6
                  have HL6 := Lib.hid L6
                  have HO6 := Lib.hid (show ¬ Of (.slice A7 m c7) (wr.heap.size + 1) from fun h => (p3 _ h).elim (fun h => by have := of_at h; omega) (fun h => by have h1 := h.1; (simp at h1 <;> omega)))
                  clear L6
                  have P1 := Lib.hid p1
                  clear p1 p2 p3 s6 sd
                  refine hK.out _ _ ?_ (fun hNew => ?_)
                  · (intro _; (try dsimp only); refine HK.out _ ?_; (repeat' (first | with_reducible assumption | with_reducible exact Fr.refl _ _ | with_reducible refine Fr.drew ?_ | with_reducible refine Fr.drewN ?_ _ | with_reducible refine Fr.alloc ?_ _)))
                  clear hHeld hK K
                  have hHeld := hNew (by decide)
                  clear hNew
                  (try simp only [Act.put, List.setIfInBounds_toArray, List.set_cons_zero, List.set_cons_succ])
                  refine wpAnyT_all (rs := [26]) (by kernel_rfl) (by simp) ?_
                  refine AllT.cons (o := ?_) ?_ (fun K hK => ?_) ?_
                  rotate_left
                  · (simp only [List.getElem?_toArray, List.getElem?_cons_succ, List.getElem?_cons_zero]; rfl)
                  · skip
                    refine step_app (B := some ⟨(wr.heap.size + 1), 0, none⟩) (m := 1) (c := 1) (news := [.string ⟨n9.toArray⟩, .string ((⟨t9.toArray⟩ : ByteArray) ++ (⟨t.toArray⟩ : ByteArray)), .bool true]) rfl (.tmp 58) (.tmp 78) 29 rfl TV (.agg #[.string ByteArray.empty, .string ByteArray.empty, .bool false]) 3 40 Try.underlying29 infoW rfl (by decide) (.slice A7 m c7) m _ (by simp [Act.eval, Act.put]) P1.out (by simp [Act.eval, Act.put]) rfl (blk_news HL6.out) (by intro u hu; simp at hu; rcases hu with rfl | rfl | rfl <;> rfl) (by omega) (by unfold maxLen; omega) ?_
                    intro v7 w7 q1 q2 q3
                    obtain ⟨g7, c8, rfl⟩ := own_pos q1 (by omega)
                    have f7 : Fr No wr w7 := f6.trans q2 (fun k hk hl => by have := (N6.out k hk).1; omega)
                    have TW := Lib.hid (show Laid TV wr w7 g7 (m + 1) c8 (U.flatMap encV ++ [.string ⟨n9.toArray⟩, .string ((⟨t9.toArray⟩ : ByteArray) ++ (⟨t.toArray⟩ : ByteArray)), .bool true]) from ⟨q1, f7, (q3 g7 rfl).elim (fun h => ⟨(N6.out _ h).1, Nat.lt_of_lt_of_le (N6.out _ h).2 q2.size⟩) (fun h => ⟨Nat.le_trans f6.size h.1, h.2⟩)⟩)
                    clear q1 q2 q3
                    refine hK.out _ _ ?_ (fun hNew => ?_)
                    · (intro _; (try dsimp only); refine HK.out _ ?_; (repeat' (first | with_reducible assumption | with_reducible exact Fr.refl _ _ | with_reducible refine Fr.drew ?_ | with_reducible refine Fr.drewN ?_ _ | with_reducible refine Fr.alloc ?_ _)))
                    clear hHeld hK K
                    have hHeld := hNew (by decide)
                    clear hNew
                    (try simp only [Act.put, List.setIfInBounds_toArray, List.set_cons_zero, List.set_cons_succ])
                    refine wpAnyT_all (rs := [27]) (by kernel_rfl) (by simp) ?_
                    refine AllT.cons (o := ?_) ?_ (fun K hK => ?_) ?_
                    rotate_left
                    · (simp only [List.getElem?_toArray, List.getElem?_cons_succ, List.getElem?_cons_zero]; rfl)
                    · skip
                      go_simp
                      refine hK.out _ _ ?_ (fun hNew => ?_)
                      · (intro _; (try dsimp only); refine HK.out _ ?_; (repeat' (first | with_reducible assumption | with_reducible exact Fr.refl _ _ | with_reducible refine Fr.drew ?_ | with_reducible refine Fr.drewN ?_ _ | with_reducible refine Fr.alloc ?_ _)))
                      clear hHeld hK K
                      have hHeld := hNew (by decide)
                      clear hNew
                      (try simp only [Act.put, List.setIfInBounds_toArray, List.set_cons_zero, List.set_cons_succ])
                      refine wpAnyT_all (rs := [28]) (by kernel_rfl) (by simp) ?_
                      refine AllT.cons (o := ?_) ?_ (fun K hK => ?_) ?_
                      rotate_left
                      · (simp only [List.getElem?_toArray, List.getElem?_cons_succ, List.getElem?_cons_zero]; rfl)
                      · skip
                        have z1 := (HK.out w7 f7).1
                        have zf := (GG.out.xb.fr f7 (fun h => h)).frozen 1
                        go_simp
                        refine hK.out _ _ ?_ (fun hNew => ?_)
                        · exact fun h => absurd rfl h
                        clear hHeld hK K
                        clear hNew
                        (try simp only [Act.put, List.setIfInBounds_toArray, List.set_cons_zero, List.set_cons_succ])
                        refine wpAnyT_done (by kernel_rfl) ?_
                        have HX7 := Lib.hid (HI.out.blk.fr f7 (fun h => h))
                        clear z1 zf
                        go_wp2_with fail
                        go_roundw
                        case rel =>
                          refine ⟨k + 1, .slice A5 n5 k5, .slice (some ⟨g7, 0, none⟩) (m + 1) c8, ro, false, by go_num, by omega, ?_⟩
                          rw [HNX.out, HST.out, data_some HU.out]
                          have t7 := TW.out
                          rw [ba_app] at t7
                          have hrw := HRW.out.setV (V := U ++ [(n9, t9 ++ t, true)]) f7 (by rw [List.flatMap_append]; exact t7.own) (by rw [HM6.out]; simp) (fun q hq => (of_at hq) ▸ t7.new)
                          have sz9 := HI.out.fr.size
                          refine Lib.hid (HI.out.next (w' := w7) (A' := New W0 w7) (f7.no _) (Fr.setCell (F := fun q => q = bx) (Fr.refl _ _) (p := ⟨bx, 1, none⟩) (.inl rfl) _) (by simpa using HX7.out.put 1 (.slice (some ⟨g7, 0, none⟩) (m + 1) c8)) (RB.of_rows hrw HRO.out HBD.out (fun q hq => ?_) (fun q hq => hq.2)) (fun q hq => hq))
                          have up : New W0 wr q → New W0 w7 q := fun h => ⟨h.1, Nat.lt_of_lt_of_le h.2 f7.size⟩
                          rcases hq with hq | hq | hq
                          · exact up (HAA.out q (.inl hq))
                          · exact up (HAA.out q (.inr (.inl hq)))
                          · rw [of_at hq]; exact ⟨Nat.le_trans sz9 t7.new.1, t7.new.2⟩
                        case measure => simp [intOf]; omega
                      exact AllT.nil
                    exact AllT.nil
                  exact AllT.nil
                exact AllT.nil
              exact AllT.nil
            refine AllT.cons (o := ?_) ?_ (fun K hK => ?_) ?_
            rotate_left
            · (simp only [List.getElem?_toArray, List.getElem?_cons_succ, List.getElem?_cons_zero]; rfl)
            · skip
              go_simp
              refine hK.out _ _ ?_ (fun hNew => ?_)
              · (intro _; (try dsimp only); refine HK.out _ ?_; (repeat' (first | with_reducible assumption | with_reducible exact Fr.refl _ _ | with_reducible refine Fr.drew ?_ | with_reducible refine Fr.drewN ?_ _ | with_reducible refine Fr.alloc ?_ _)))
              clear hHeld hK K
              have hHeld := hNew (by decide)
              clear hNew
              (try simp only [Act.put, List.setIfInBounds_toArray, List.set_cons_zero, List.set_cons_succ])
              refine wpAnyT_all (rs := [0]) (by kernel_rfl) (by simp) ?_
              refine AllT.cons (o := ?_) ?_ (fun K hK => ?_) ?_
              rotate_left
              · (simp only [List.getElem?_toArray, List.getElem?_cons_succ, List.getElem?_cons_zero]; rfl)
              · skip
                go_simp
                refine hK.out _ _ ?_ (fun hNew => ?_)
                · (intro _; (try dsimp only); refine HK.out _ ?_; (repeat' (first | with_reducible assumption | with_reducible exact Fr.refl _ _ | with_reducible refine Fr.drew ?_ | with_reducible refine Fr.drewN ?_ _ | with_reducible refine Fr.alloc ?_ _)))
                clear hHeld hK K
                have hHeld := hNew (by decide)
                clear hNew
                (try simp only [Act.put, List.setIfInBounds_toArray, List.set_cons_zero, List.set_cons_succ])
                refine wpAnyT_all (rs := [5]) (by kernel_rfl) (by simp) ?_
                refine AllT.cons (o := ?_) ?_ (fun K hK => ?_) ?_
                rotate_left
                · (simp only [List.getElem?_toArray, List.getElem?_cons_succ, List.getElem?_cons_zero]; rfl)
                · skip
                  refine step_app (B := some ⟨gV, 0, none⟩) (m := m) (c := k6) (news := U.flatMap encV) rfl (.tmp 53) (.tmp 57) 29 rfl TV (.agg #[.string ByteArray.empty, .string ByteArray.empty, .bool false]) 3 40 Try.underlying29 infoW rfl (by decide) (.slice (some ⟨(wr.heap.size + 1), 0, none⟩) 0 0) 0 [] (by simp [Act.eval, Act.put]) (own_empty_at (wr.drew.alloc (.cells #[.string ⟨n9.toArray⟩, .string ((⟨t9.toArray⟩ : ByteArray) ++ (⟨t.toArray⟩ : ByteArray)), .bool true] TV)) TV 3 _ (by rw [size_alloc]; rfl)) (by simp [Act.eval, Act.put]) (by rw [fmV, HM6.out]) (HCU.out _ (by (repeat' (first | with_reducible assumption | with_reducible exact Fr.refl _ _ | with_reducible refine Fr.drew ?_ | with_reducible refine Fr.drewN ?_ _ | with_reducible refine Fr.alloc ?_ _)))) (one_encV U) (by omega) (by unfold maxLen; omega) ?_
                  intro v6 w6 p1 p2 p3
                  rw [Nat.zero_add, List.nil_append] at p1
                  obtain ⟨A7, c7, rfl⟩ := own_form p1
                  have f6 : Fr No wr w6 := lit_then (((Fr.refl No wr).drew.alloc (.cells #[.string ⟨n9.toArray⟩, .string ((⟨t9.toArray⟩ : ByteArray) ++ (⟨t.toArray⟩ : ByteArray)), .bool true] TV)).alloc (.cells #[] TV)) (by omega) p2
                  have s6 : wr.heap.size + 2 ≤ w6.heap.size := by have := p2.size; simpa using this
                  have sd : wr.drew.heap.size = wr.heap.size := rfl
                  have N6 := Lib.hid (show ∀ k, Of (.slice A7 m c7) k → New wr w6 k from fun k hk => (p3 k hk).elim (fun h => by have := of_at h; exact ⟨by omega, by omega⟩) (fun h => by have h1 : wr.heap.size + 2 ≤ k := (by have := h.1; simpa using this); exact ⟨by omega, h.2⟩))
                  have L6 := ((Blk.new wr.drew TV #[.string ⟨n9.toArray⟩, .string ((⟨t9.toArray⟩ : ByteArray) ++ (⟨t.toArray⟩ : ByteArray)), .bool true]).alloc (.cells #[] TV)).fr p2 (fun h => by have := of_at h; simp at this)
                  try simp only [size_alloc, sd] at L6
                  have HL6 := Lib.hid L6
                  have HO6 := Lib.hid (show ¬ Of (.slice A7 m c7) wr.heap.size from fun h => (p3 _ h).elim (fun h => by have := of_at h; omega) (fun h => by have h1 := h.1; (simp at h1 <;> omega)))
                  clear L6
                  have P1 := Lib.hid p1
                  clear p1 p2 p3 s6 sd
                  refine hK.out _ _ ?_ (fun hNew => ?_)
                  · (intro _; (try dsimp only); refine HK.out _ ?_; (repeat' (first | with_reducible assumption | with_reducible exact Fr.refl _ _ | with_reducible refine Fr.drew ?_ | with_reducible refine Fr.drewN ?_ _ | with_reducible refine Fr.alloc ?_ _)))
                  clear hHeld hK K
                  have hHeld := hNew (by decide)
                  clear hNew
                  (try simp only [Act.put, List.setIfInBounds_toArray, List.set_cons_zero, List.set_cons_succ])
                  refine wpAnyT_all (rs := [26]) (by kernel_rfl) (by simp) ?_
                  refine AllT.cons (o := ?_) ?_ (fun K hK => ?_) ?_
                  rotate_left
                  · (simp only [List.getElem?_toArray, List.getElem?_cons_succ, List.getElem?_cons_zero]; rfl)
                  · skip
                    refine step_app (B := some ⟨wr.heap.size, 0, none⟩) (m := 1) (c := 1) (news := [.string ⟨n9.toArray⟩, .string ((⟨t9.toArray⟩ : ByteArray) ++ (⟨t.toArray⟩ : ByteArray)), .bool true]) rfl (.tmp 58) (.tmp 78) 29 rfl TV (.agg #[.string ByteArray.empty, .string ByteArray.empty, .bool false]) 3 40 Try.underlying29 infoW rfl (by decide) (.slice A7 m c7) m _ (by simp [Act.eval, Act.put]) P1.out (by simp [Act.eval, Act.put]) rfl (blk_news HL6.out) (by intro u hu; simp at hu; rcases hu with rfl | rfl | rfl <;> rfl) (by omega) (by unfold maxLen; omega) ?_
                    intro v7 w7 q1 q2 q3
                    obtain ⟨g7, c8, rfl⟩ := own_pos q1 (by omega)
                    have f7 : Fr No wr w7 := f6.trans q2 (fun k hk hl => by have := (N6.out k hk).1; omega)
                    have TW := Lib.hid (show Laid TV wr w7 g7 (m + 1) c8 (U.flatMap encV ++ [.string ⟨n9.toArray⟩, .string ((⟨t9.toArray⟩ : ByteArray) ++ (⟨t.toArray⟩ : ByteArray)), .bool true]) from ⟨q1, f7, (q3 g7 rfl).elim (fun h => ⟨(N6.out _ h).1, Nat.lt_of_lt_of_le (N6.out _ h).2 q2.size⟩) (fun h => ⟨Nat.le_trans f6.size h.1, h.2⟩)⟩)
                    clear q1 q2 q3
                    refine hK.out _ _ ?_ (fun hNew => ?_)
                    · (intro _; (try dsimp only); refine HK.out _ ?_; (repeat' (first | with_reducible assumption | with_reducible exact Fr.refl _ _ | with_reducible refine Fr.drew ?_ | with_reducible refine Fr.drewN ?_ _ | with_reducible refine Fr.alloc ?_ _)))
                    clear hHeld hK K
                    have hHeld := hNew (by decide)
                    clear hNew
                    (try simp only [Act.put, List.setIfInBounds_toArray, List.set_cons_zero, List.set_cons_succ])
                    refine wpAnyT_all (rs := [27]) (by kernel_rfl) (by simp) ?_
                    refine AllT.cons (o := ?_) ?_ (fun K hK => ?_) ?_
                    rotate_left
                    · (simp only [List.getElem?_toArray, List.getElem?_cons_succ, List.getElem?_cons_zero]; rfl)
                    · skip
                      go_simp
                      refine hK.out _ _ ?_ (fun hNew => ?_)
                      · (intro _; (try dsimp only); refine HK.out _ ?_; (repeat' (first | with_reducible assumption | with_reducible exact Fr.refl _ _ | with_reducible refine Fr.drew ?_ | with_reducible refine Fr.drewN ?_ _ | with_reducible refine Fr.alloc ?_ _)))
                      clear hHeld hK K
                      have hHeld := hNew (by decide)
                      clear hNew
                      (try simp only [Act.put, List.setIfInBounds_toArray, List.set_cons_zero, List.set_cons_succ])
                      refine wpAnyT_all (rs := [28]) (by kernel_rfl) (by simp) ?_
                      refine AllT.cons (o := ?_) ?_ (fun K hK => ?_) ?_
                      rotate_left
                      · (simp only [List.getElem?_toArray, List.getElem?_cons_succ, List.getElem?_cons_zero]; rfl)
                      · skip
                        have z1 := (HK.out w7 f7).1
                        have zf := (GG.out.xb.fr f7 (fun h => h)).frozen 1
                        go_simp
                        refine hK.out _ _ ?_ (fun hNew => ?_)
                        · exact fun h => absurd rfl h
                        clear hHeld hK K
                        clear hNew
                        (try simp only [Act.put, List.setIfInBounds_toArray, List.set_cons_zero, List.set_cons_succ])
                        refine wpAnyT_done (by kernel_rfl) ?_
                        have HX7 := Lib.hid (HI.out.blk.fr f7 (fun h => h))
                        clear z1 zf
                        go_wp2_with fail
                        go_roundw
                        case rel =>
                          refine ⟨k + 1, .slice A5 n5 k5, .slice (some ⟨g7, 0, none⟩) (m + 1) c8, ro, false, by go_num, by omega, ?_⟩
                          rw [HNX.out, HST.out, data_some HU.out]
                          have t7 := TW.out
                          rw [ba_app] at t7
                          have hrw := HRW.out.setV (V := U ++ [(n9, t9 ++ t, true)]) f7 (by rw [List.flatMap_append]; exact t7.own) (by rw [HM6.out]; simp) (fun q hq => (of_at hq) ▸ t7.new)
                          have sz9 := HI.out.fr.size
                          refine Lib.hid (HI.out.next (w' := w7) (A' := New W0 w7) (f7.no _) (Fr.setCell (F := fun q => q = bx) (Fr.refl _ _) (p := ⟨bx, 1, none⟩) (.inl rfl) _) (by simpa using HX7.out.put 1 (.slice (some ⟨g7, 0, none⟩) (m + 1) c8)) (RB.of_rows hrw HRO.out HBD.out (fun q hq => ?_) (fun q hq => hq.2)) (fun q hq => hq))
                          have up : New W0 wr q → New W0 w7 q := fun h => ⟨h.1, Nat.lt_of_lt_of_le h.2 f7.size⟩
                          rcases hq with hq | hq | hq
                          · exact up (HAA.out q (.inl hq))
                          · exact up (HAA.out q (.inr (.inl hq)))
                          · rw [of_at hq]; exact ⟨Nat.le_trans sz9 t7.new.1, t7.new.2⟩
                        case measure => simp [intOf]; omega
                      exact AllT.nil
                    exact AllT.nil
                  exact AllT.nil
                exact AllT.nil
              exact AllT.nil
            exact AllT.nil
    · have hkn : k = n := by omega
      have HE := Lib.hid (show (P.take k).foldl stepP X0 = allR s from by rw [hkn, HN.out, List.take_length]; exact HALL.out)
      clear hd hkn
      cases bd with
      | true =>
        have hb2 := HRes.out.fr HI.out.fr (fun e => HBB.out e)
        have r0 := hb2.cell 0
        have r1 := hb2.cell 1
        have r2 := hb2.cell 2
        have r3 := hb2.cell 3
        have rf0 := hb2.frozen 0
        have rf1 := hb2.frozen 1
        have rf2 := hb2.frozen 2
        have rf3 := hb2.frozen 3
        simp only [List.getElem?_toArray, List.getElem?_cons_zero, List.getElem?_cons_succ] at r0 r1 r2 r3
        have HB2 := Lib.hid hb2
        clear hb2
        go_wp2_with fail
        have b9 := HB2.out
        have b9 := b9.put 0 (.slice A5 n5 k5)
        have b9 := b9.put 1 (.slice A6 n6 k6)
        have b9 := b9.put 2 (.int .i64 ro)
        have b9 := b9.put 3 (.bool true)
        simp only [List.setIfInBounds_toArray, List.set_cons_zero, List.set_cons_succ] at b9
        have e0 := b9.cell 0
        have e1 := b9.cell 1
        have e2 := b9.cell 2
        have e3 := b9.cell 3
        simp only [List.getElem?_toArray, List.getElem?_cons_zero, List.getElem?_cons_succ] at e0 e1 e2 e3
        clear b9
        refine bodyPost_ret (v := .tuple #[.agg #[.slice A5 n5 k5, .slice A6 n6 k6, .int .i64 ro, .bool true], .int .i64 3]) ?_ rfl ?_
        · simp [results, Try.f8, go_sem, e0, e1, e2, e3]
        · have hI := HI.out
          rw [HE.out] at hI
          refine read_end HW0.out hI ?_ HBW.out HBL.out HBR.out ?_
          · repeat (first | with_reducible exact Fr.refl _ _ | with_reducible refine Fr.setCell ?_ (.inl (by exact rfl)) _)
          · obtain ⟨B, rv, -, -, g2, -⟩ := hI.rb.parts; unfold codeR; rw [if_pos g2.symm]
      | false =>
        have hb2 := HRes.out.fr HI.out.fr (fun e => HBB.out e)
        have r0 := hb2.cell 0
        have r1 := hb2.cell 1
        have r2 := hb2.cell 2
        have r3 := hb2.cell 3
        have rf0 := hb2.frozen 0
        have rf1 := hb2.frozen 1
        have rf2 := hb2.frozen 2
        have rf3 := hb2.frozen 3
        simp only [List.getElem?_toArray, List.getElem?_cons_zero, List.getElem?_cons_succ] at r0 r1 r2 r3
        have HB2 := Lib.hid hb2
        clear hb2
        go_wp2_with fail
        have b9 := HB2.out
        have b9 := b9.put 0 (.slice A5 n5 k5)
        have b9 := b9.put 1 (.slice A6 n6 k6)
        have b9 := b9.put 2 (.int .i64 ro)
        have b9 := b9.put 3 (.bool false)
        simp only [List.setIfInBounds_toArray, List.set_cons_zero, List.set_cons_succ] at b9
        have e0 := b9.cell 0
        have e1 := b9.cell 1
        have e2 := b9.cell 2
        have e3 := b9.cell 3
        simp only [List.getElem?_toArray, List.getElem?_cons_zero, List.getElem?_cons_succ] at e0 e1 e2 e3
        clear b9
        refine bodyPost_ret (v := .tuple #[.agg #[.slice A5 n5 k5, .slice A6 n6 k6, .int .i64 ro, .bool false], .int .i64 cd]) ?_ rfl ?_
        · simp [results, Try.f8, go_sem, e0, e1, e2, e3]
        · have hI := HI.out
          rw [HE.out] at hI
          refine read_end HW0.out hI ?_ HBW.out HBL.out HBR.out ?_
          · repeat (first | with_reducible exact Fr.refl _ _ | with_reducible refine Fr.setCell ?_ (.inl (by exact rfl)) _)
          · obtain ⟨B, rv, -, -, g2, -⟩ := hI.rb.parts; unfold codeR; rw [if_neg (by rw [← g2]; simp), ← HCD.out]
end Rd
end Go.Proofs.Ytmmdiccpifepfaa
