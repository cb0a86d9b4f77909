/- Package seat: Bump, New, and what is asked of it. Printed by gen_seatc.py. -/
import Derived.Test.YtepnjmgacfjhiaaSeatA
import Derived.Deep.RegionHeld3
namespace Go.Proofs.Ytepnjmgacfjhiaa
open Go.RowKit
set_option linter.unusedVariables false
set_option linter.unusedSimpArgs false
namespace Seat
open Sls
section
variable {w : World} {F : Nat → Prop} {b : Nat} {s : St}
theorem seat_no (most : Int) (h : most < 1 ∨ 4096 < most) (w : World) : Calls Try.prog 24 #[.int .i64 most] w fun e w' => e = .returned (.tuple #[.pointer none, .int .i64 2]) ∧ Fr No w w' := by
  have HN := Lib.hid (Qint.new_no most w h)
  clear h
  go_enter Try.func24, Try.ntmps24
  go_wp2_with fail
  refine HN.out.mono ?_
  rintro e w0 ⟨rfl, rfl⟩
  go_wp2_with fail
  go_ret2
  exact ⟨rfl, Fr.refl _ _⟩
def Made (most : Int) (w : World) (e : Ending) (w' : World) : Prop := ∃ b, e = .returned (.tuple #[.pointer (some ⟨b, 0, none⟩), .int .i64 0]) ∧ SAt w' (New w w') b ⟨[], most, -1, []⟩ ∧ Fr No w w'
theorem seat_yes (most : Int) (h1 : 1 ≤ most) (h2 : most ≤ 4096) (w : World) : Calls Try.prog 24 #[.int .i64 most] w (Made most w) := by
  have HN := Lib.hid (Qint.new_yes most w h1 h2)
  go_enter Try.func24, Try.ntmps24
  go_wp2_with fail
  refine HN.out.mono ?_
  rintro e w1 ⟨q, rfl, hq, hf⟩
  have HQ := Lib.hid hq
  have HF := Lib.hid hf
  clear hq hf
  go_wp2_with fail
  go_ret2
  have hfa := (Fr.refl No w1).alloc (.cells #[.slice none 0 0, .int .i64 most, .int .i64 (-1), qv q] 107)
  have hz := HF.out.size
  have hq2 := HQ.out.fr hfa (fun _ _ h => h)
  exact ⟨w1.heap.size, rfl, ⟨_, q, New w w1, ⟨⟨Blk.new w1 _ _, World.ownsRow_nil _ _ _ _, hq2, fun k hk => (of_nil hk).elim, fun hG => by have := hG.2; omega⟩, ⟨hz, by rw [size_alloc]; omega⟩, fun k hk => (of_nil hk).elim, fun k hk => ⟨hk.1, by rw [size_alloc]; have := hk.2; omega⟩, fun k hk => hk.2⟩⟩, HF.out.then_no hfa⟩
theorem writer_any (h : SAt w F b s) (hi : Inv s) : Calls Try.prog 30 #[.pointer (some ⟨b, 0, none⟩)] w fun e w' => e = .returned (.tuple #[.int .i64 (if 0 ≤ s.wr then s.wr else 0), .bool (decide (0 ≤ s.wr))]) ∧ w = w' := by
  have HM := Lib.hid (made_any h)
  have HH := Lib.hid (held_any h)
  obtain ⟨v, q, G, hq⟩ := h
  have c2 := hq.c2
  obtain ⟨wr, hwr⟩ : ∃ wr, wr = s.wr := ⟨_, rfl⟩
  have hh := hi.held
  rw [hh] at HH
  rw [← hwr] at c2 HH ⊢
  clear hq hwr hh
  by_cases h0 : 0 ≤ wr
  · rw [decide_eq_true h0] at HH ⊢
    rw [if_pos h0]
    go_enter Try.func30, Try.ntmps30
    go_wp2_with fail
    refine HM.out.mono ?_
    rintro e w0 ⟨rfl, rfl⟩
    go_wp2_with fail
    refine HH.out.mono ?_
    rintro e w0 ⟨rfl, rfl⟩
    go_wp2_with fail
    go_ret2
    exact ⟨rfl, rfl⟩
  · rw [decide_eq_false h0] at HH ⊢
    rw [if_neg h0]
    go_enter Try.func30, Try.ntmps30
    go_wp2_with fail
    refine HM.out.mono ?_
    rintro e w0 ⟨rfl, rfl⟩
    go_wp2_with fail
    refine HH.out.mono ?_
    rintro e w0 ⟨rfl, rfl⟩
    go_wp2_with fail
    go_ret2
    exact ⟨rfl, rfl⟩
set_option maxRecDepth 100000 in
set_option maxHeartbeats 2000000 in
theorem role_any (h : SAt w F b s) (id : Int) : Calls Try.prog 35 #[.pointer (some ⟨b, 0, none⟩), .int .i64 id] w fun e w' => e = .returned (.int .i64 (roleR s id)) ∧ Fr No w w' := by
  have HM := Lib.hid (made_any h)
  have FI := Lib.hid (find_any h id)
  obtain ⟨p, hp⟩ : ∃ p, p = placeM s.L id := ⟨_, rfl⟩
  rw [← hp] at FI
  by_cases h1 : thereB s.L id = false
  · have e : roleR s id = 0 := by unfold roleR; rw [if_pos h1]
    rw [e]
    have hpl : p < 0 := by
      rcases placeM_cases s.L id with ⟨g, _⟩ | ⟨k, _, _, g, _⟩
      · omega
      · rw [h1] at g; cases g
    clear h e h1 hp
    go_enter Try.func35, Try.ntmps35
    go_wp2_with fail
    refine HM.out.mono ?_
    rintro e w0 ⟨rfl, rfl⟩
    go_wp2_with fail
    refine FI.out.mono ?_
    rintro e w1 ⟨rfl, hf⟩
    have HF := Lib.hid hf
    clear hf
    go_wp2_with fail
    go_ret
    exact ⟨rfl, HF.out⟩
  · have hpl : 0 ≤ p := by
      rcases placeM_cases s.L id with ⟨_, g, _⟩ | ⟨k, _, g, _⟩
      · exact absurd g h1
      · omega
    obtain ⟨v, q, G, hq⟩ := h
    have hme := fun W => meth_Place q W
    have HQ := Lib.hid hq
    obtain ⟨wr, hwr⟩ : ∃ wr, wr = s.wr := ⟨_, rfl⟩
    have HWR := Lib.hid hwr
    by_cases h2 : s.wr = id
    · have e : roleR s id = 2 := by unfold roleR; rw [if_neg h1, if_pos h2]
      rw [e]
      have hwe : (wr == id) = true := by rw [hwr]; simpa using h2
      clear hq e h1 hp h2 hwr
      go_enter Try.func35, Try.ntmps35
      go_wp2_with fail
      refine HM.out.mono ?_
      rintro e w0 ⟨rfl, rfl⟩
      go_wp2_with fail
      refine FI.out.mono ?_
      rintro e w1 ⟨rfl, hf⟩
      have HF := Lib.hid hf
      have c2 := (HQ.out.no hf).c2
      rw [← HWR.out] at c2
      clear hf
      go_wp2_with fail
      go_ret
      exact ⟨rfl, HF.out⟩
    · have hwe : (wr == id) = false := by rw [hwr]; simpa using h2
      obtain ⟨j, hj⟩ : ∃ j, j = place s.q id := ⟨_, rfl⟩
      have hr : (0 ≤ j ∧ roleR s id = 3) ∨ (j < 0 ∧ roleR s id = 1) := by
        unfold roleR
        rw [if_neg h1, if_neg h2, ← hj]
        by_cases g : 0 ≤ j
        · exact .inl ⟨g, if_pos g⟩
        · exact .inr ⟨by omega, if_neg g⟩
      have HJ := Lib.hid hj
      clear hq h1 hp h2 hwr hj
      rcases hr with ⟨hj0, hr⟩ | ⟨hj0, hr⟩
      all_goals
        rw [hr]
        clear hr
        go_enter Try.func35, Try.ntmps35
        go_wp2_with fail
        refine HM.out.mono ?_
        rintro e w0 ⟨rfl, rfl⟩
        go_wp2_with fail
        refine FI.out.mono ?_
        rintro e w1 ⟨rfl, hf⟩
        have HF := Lib.hid hf
        have Q1 := Lib.hid (HQ.out.no hf)
        have c2 := Q1.out.c2
        have c3 := Q1.out.c3
        rw [← HWR.out] at c2
        have HP := Lib.hid (Qint.place_q id Q1.out.sp.que)
        rw [← HJ.out] at HP
        clear hf
        go_wp2_with fail
        refine HP.out.mono ?_
        rintro e w2 ⟨rfl, rfl⟩
        go_wp2_with fail
        go_ret
        exact ⟨rfl, HF.out⟩
/-- A row of numbers, of the call's own. -/
def IntsPost (l : List Int) (w : World) (e : Ending) (w' : World) : Prop := ∃ v, e = .returned v ∧ w'.ownsRow 0 3 1 v l.length (l.map Sint.enc) ∧ (∀ k, Of v k → New w w' k) ∧ Fr No w w'
theorem waits_any (h : SAt w F b s) : Calls Try.prog 39 #[.pointer (some ⟨b, 0, none⟩)] w (IntsPost s.q w) := by
  have HM := Lib.hid (made_any h)
  obtain ⟨v, q, G, hq⟩ := h
  have hme := fun W => meth_All q W
  have c3 := hq.c3
  have HA := Lib.hid (Qint.all_any hq.sp.que)
  clear hq
  go_enter Try.func39, Try.ntmps39
  go_wp2_with fail
  refine HM.out.mono ?_
  rintro e w0 ⟨rfl, rfl⟩
  go_wp2_with fail
  refine HA.out.mono ?_
  rintro e w1 ⟨v', rfl, ho, hf⟩
  have HO := Lib.hid ho
  have HF := Lib.hid hf
  clear ho hf
  go_wp2_with fail
  go_ret
  refine ⟨v', rfl, ⟨HO.out.1, ?_⟩, fun k hk => ⟨(HO.out.lt k hk).1, (HO.out.lt k hk).2⟩, HF.out⟩
  rcases HO.out.2 with g | ⟨g, cap, cur, g1, g2, g3⟩
  · exact .inl g
  · exact .inr ⟨g, cap, cur, g1, Nat.zero_le _, g3⟩
def enc1 (x : Int) : List Value := [.int .i64 x]
theorem enc1_map (l : List Int) : l.flatMap enc1 = l.map Sint.enc := by
  induction l with
  | nil => rfl
  | cons x l ih => rw [List.flatMap_cons, ih]; rfl
set_option maxRecDepth 100000 in
set_option maxHeartbeats 2000000 in
theorem list_any (h : SAt w F b s) (hi : Inv s) : Calls Try.prog 34 #[.pointer (some ⟨b, 0, none⟩)] w (IntsPost (s.L.map (·.1)) w) := by
  have HM := Lib.hid (made_any h)
  have hln : s.L.length ≤ 4096 := by have := hi.len; have := hi.most; omega
  obtain ⟨v, q, G, hq⟩ := h
  obtain ⟨A, c, rfl⟩ := hq.form
  have c0 := hq.c0
  have HQ := Lib.hid hq
  clear hq
  go_enter Try.func34, Try.ntmps34
  go_wp2_with fail
  refine HM.out.mono ?_
  rintro e w0 ⟨rfl, rfl⟩
  go_wp2_with fail
  go_loopw [3, 14] (fun ov iv wr => ∃ k : Nat, iv = .int .i64 k ∧ k ≤ s.L.length ∧ Hid (Grow w wr 3 1 enc1 ov ((s.L.take k).map (·.1)))) (fun _ i _ => s.L.length - (intOf i).toNat)
  case atStart => exact ⟨0, rfl, by omega, Grow.start _ _ _ _⟩
  case round =>
    obtain ⟨k, rfl, hk, HG⟩ := hrel
    by_cases hlt : k < s.L.length
    · obtain ⟨B, d, rfl⟩ := HG.out.form
      have HLT := Lib.hid (show k = ((s.L.take k).map (·.1)).length by rw [List.length_map, List.length_take]; omega)
      rw [← HLT.out] at HG ⊢
      obtain ⟨ad, rfl, -, k1, k2⟩ := mem_at (fun _ _ _ _ h => h) (own_rm HQ.out.sp.row) (own_lt HQ.out.sp.row) HG.out.fr hlt
      have HTK := Lib.hid (show (s.L.take (k + 1)).map (·.1) = (s.L.take k).map (·.1) ++ [s.L[k].1] by rw [List.take_succ_eq_append_getElem hlt, List.map_append]; rfl)
      obtain ⟨x, hx⟩ : ∃ x, x = s.L[k].1 := ⟨_, rfl⟩
      obtain ⟨y, hy⟩ : ∃ y, y = s.L[k].2 := ⟨_, rfl⟩
      rw [← hx] at k1 HTK
      rw [← hy] at k2
      clear hx hy
      have G1 := Lib.hid (show Grow w (wr.alloc (.cells #[.int .i64 x, .int .i64 y] 114)) 3 1 enc1 (.slice B k d) ((s.L.take k).map (·.1)) from HG.out.no ((Fr.refl _ _).alloc _))
      have X1 := Blk.new wr 114 #[.int .i64 x, .int .i64 y]
      go_upto_region 7 with (fail)
      obtain ⟨bx, hbx⟩ : ∃ bx, bx = wr.heap.size := ⟨_, rfl⟩
      rw [← hbx] at X1 ⊢
      generalize wr.alloc (.cells #[.int .i64 x, .int .i64 y] 114) = wa at G1 X1 ⊢
      have y0 : wa.cell? ⟨bx, 0, none⟩ = some (.int .i64 x) := X1.cell 0
      have R1 := Lib.hid (show wa.ownsRow 0 3 1 (.slice B k d) k (((s.L.take k).map (·.1)).flatMap enc1) from by have := G1.out.own; rw [← HLT.out] at this; exact this)
      clear X1 hbx k1 k2
      go_wp2_with (at_builtin; go_loud (refine wp_push rfl (.tmp 18) (.tmp 21) 30 rfl 3 (.int .i64 0) 1 8 Try.underlying30 Sint.infoE rfl (by decide) (.slice B k d) _ _ rfl R1.out #[.int .i64 x] rfl rfl (one_lit rfl) (by omega) (by unfold maxLen; omega) ?_; intro g4 cap4 w4 p1 p2 p3; have P1 := Lib.hid p1; have P2 := Lib.hid p2; have P3 := Lib.hid p3; clear p1 p2 p3))
      go_roundw
      case rel => exact ⟨k + 1, by go_num, by omega, (by
        rw [HTK.out]
        have e := HLT.out
        have g := G1.out
        have p1 := P1.out
        have p2 := P2.out
        have p3 := P3.out
        generalize (s.L.take k).map (·.1) = l0 at e g p1 p2 p3 ⊢
        subst e
        exact g.push (x := x) p1 p2 p3)⟩
      case measure => simp [intOf]; omega
    · have HE := Lib.hid (show (s.L.take k).map (·.1) = s.L.map (·.1) by rw [List.take_of_length_le (by omega)])
      rw [HE.out] at HG
      go_wp2_with fail
      go_ret
      exact ⟨_, rfl, by rw [← enc1_map]; exact HG.out.own, HG.out.new, HG.out.fr⟩
end
end Seat
end Go.Proofs.Ytepnjmgacfjhiaa
