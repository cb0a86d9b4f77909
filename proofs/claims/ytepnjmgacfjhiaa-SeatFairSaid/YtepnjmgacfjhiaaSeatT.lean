/- Package seat: its reference: Role, List, New, Same. Printed by gen_seatt.py. -/
import Derived.Test.YtepnjmgacfjhiaaSeatQ
import Derived.Test.YtepnjmgacfjhiaaSeatE
import Derived.BigQuiet
import Derived.Deep.CutRange
import Derived.Deep.RegionHeld3
import Derived.Outline
namespace Go.Proofs.Ytepnjmgacfjhiaa
open Go.RowKit
set_option linter.unusedVariables false
set_option linter.unusedSimpArgs false
namespace Seat
open Sls
section
variable {w w' : World} {S : Nat → Prop} {vL vW : Value} {s : St}
theorem rnew_any (most : Int) (w : World) : Calls Try.prog 32 #[.int .i64 most] w fun e w' => e = .returned (agS (.slice none 0 0) (.slice none 0 0) ⟨[], most, -1, []⟩) ∧ Fr No w w' := by
  go_enter Try.func32, Try.ntmps32
  go_wp2
  refine bodyPost_ret (v := .agg #[.slice none 0 0, .int .i64 most, .int .i64 (-1), .slice none 0 0]) ?_ rfl ⟨rfl, (Fr.refl _ _).alloc _⟩
  simp [results, Try.f32, go_sem]
theorem rs_new (most : Int) (w : World) : RS w No (.slice none 0 0) (.slice none 0 0) ⟨[], most, -1, []⟩ :=
  ⟨⟨none, 0, rfl, Nat.le_refl _, Nat.zero_le _, fun _ => rfl, fun i hi => by simp at hi⟩, ⟨none, 0, rfl, Nat.le_refl _, Nat.zero_le _, fun _ => rfl, fun i hi => by simp at hi⟩, fun k hk => hk.elim⟩
theorem neq_sh (W : World) (a b : Int) :
    (binOp .neq 79 (.agg #[.int .i64 a, .int .i64 b]) (.agg #[.int .i64 a, .int .i64 b])).run Try.prog W = .ok (.bool false) W := by
  have h1 : Try.prog.underlying 79 = some (.struct (Try.prog.fieldsOf 79)) := by kernel_rfl
  have h2 : Try.prog.stoodInHeld 79 = false := by kernel_rfl
  have hu := Try.underlying79
  rw [run_neq_struct, run_equalIn_struct W _ _ _ _ h1 h2]
  simp [Program.fieldsOf, hu, Op.eqFields, go_sem]
set_option maxRecDepth 100000 in
set_option maxHeartbeats 2000000 in
theorem rsame_yes (v u : Value) (l : Sh) (w : World) (S S2 : Nat → Prop) (hS : ∀ k, S k → k < w.heap.size) (h : RSl 2 RM w S [v] l) (hS2 : ∀ k, S2 k → k < w.heap.size) (h2 : RSl 2 RM w S2 [u] l) :
    Calls Try.prog 49 #[v, u] w fun e w' => e = .returned (.bool true) ∧ Fr No w w' := by
  obtain ⟨A, c, rfl, hc1, hc2⟩ := h.slice
  unfold maxLen at hc2
  have H := Lib.hid h
  have HS := Lib.hid hS
  clear h hS
  obtain ⟨A2, c2, rfl, hd1, hd2⟩ := h2.slice
  unfold maxLen at hd2
  have H2 := Lib.hid h2
  have HS2 := Lib.hid hS2
  clear h2 hS2
  have hln : ((l.length : Int) != l.length) = false := by simp
  go_enter Try.func49, Try.ntmps49
  go_wp2_with fail
  go_loopw [5] (fun iv wr => ∃ (k : Nat), iv = .int .i64 k ∧ k ≤ l.length ∧ Hid (Fr No w wr)) (fun i _ => l.length - (intOf i).toNat)
  case atStart => exact ⟨0, rfl, by omega, Fr.refl _ _⟩
  case round =>
    obtain ⟨k, rfl, hk, HF⟩ := hrel
    by_cases hlt : k < l.length
    · obtain ⟨ad, rfl, -, c0, c1⟩ := mem_at (fun _ _ _ _ h => h) H.out HS.out HF.out hlt
      obtain ⟨ad2, rfl, -, d0, d1⟩ := mem_at (fun _ _ _ _ h => h) H2.out HS2.out HF.out hlt
      have heq := fun W => neq_sh W l[k].1 l[k].2
      generalize l[k] = x at c0 c1 d0 d1 heq
      obtain ⟨x1, x2⟩ := x
      simp only at c0 c1 d0 d1 heq
      go_wp2_with fail
      go_region
      all_goals
        go_wp2_with fail
        go_roundw
        case rel => exact ⟨k + 1, by go_num, by omega, by first | exact HF | exact HF.out.drew | exact HF.out.drewN _⟩
        case measure => simp [intOf]; omega
    · go_wp2_with fail
      go_ret
      exact ⟨rfl, HF.out⟩
set_option maxRecDepth 100000 in
set_option maxHeartbeats 2000000 in
theorem rlist_any (h : RS w S vL vW s) (hln : s.L.length ≤ 4096) : Calls Try.prog 38 #[agS vL vW s] w (IntsPost (s.L.map (·.1)) w) := by
  obtain ⟨A, c, B, d, rfl, rfl, hA1, hA2, hB1, hB2⟩ := h.forms
  have F1 := (Fr.refl No w).alloc (.cells #[.slice A s.L.length c, .int .i64 s.most, .int .i64 s.wr, .slice B s.q.length d] 71)
  have X := Blk.new w 71 #[.slice A s.L.length c, .int .i64 s.most, .int .i64 s.wr, .slice B s.q.length d]
  have H := Lib.hid h
  obtain ⟨bx, hbx⟩ : ∃ bx, w.heap.size = bx := ⟨_, rfl⟩
  rw [hbx] at X
  clear h
  go_enter Try.func38, Try.ntmps38
  go_upto_region 2 with (fail)
  generalize w.alloc (.cells #[.slice A s.L.length c, .int .i64 s.most, .int .i64 s.wr, .slice B s.q.length d] 71) = w1 at X F1 ⊢
  have X := Lib.hid X
  have F1 := Lib.hid F1
  clear hbx
  go_wp2_with fail
  go_loopw [3, 4] (fun ov iv wr => ∃ k : Nat, iv = .int .i64 k ∧ k ≤ s.L.length ∧ Hid (Grow w1 wr 3 1 enc1 ov ((s.L.take k).map (·.1)))) (fun _ i _ => s.L.length - (intOf i).toNat)
  case atStart => exact ⟨0, rfl, by omega, Grow.start _ _ _ _⟩
  case round =>
    obtain ⟨k, rfl, hk, HG⟩ := hrel
    have x0 : wr.cell? ⟨bx, 0, none⟩ = some (.slice A s.L.length c) := (X.out.fr HG.out.fr (fun h => h)).cell 0
    by_cases hlt : k < s.L.length
    · obtain ⟨B2, d2, rfl⟩ := HG.out.form
      have HLT := Lib.hid (show k = ((s.L.take k).map (·.1)).length by rw [List.length_map, List.length_take]; omega)
      rw [← HLT.out] at HG ⊢
      obtain ⟨ad, rfl, -, k1, -⟩ := mem_at (fun _ _ _ _ h => h) H.out.l H.out.lt (F1.out.then_no HG.out.fr) hlt
      have HTK := Lib.hid (show (s.L.take (k + 1)).map (·.1) = (s.L.take k).map (·.1) ++ [s.L[k].1] by rw [List.take_succ_eq_append_getElem hlt, List.map_append]; rfl)
      obtain ⟨x, hx⟩ : ∃ x, x = s.L[k].1 := ⟨_, rfl⟩
      rw [← hx] at k1 HTK
      clear hx
      have R1 := Lib.hid (show wr.ownsRow 0 3 1 (.slice B2 k d2) k (((s.L.take k).map (·.1)).flatMap enc1) from by have := HG.out.own; rw [← HLT.out] at this; exact this)
      go_wp2_with (at_builtin; go_loud (refine wp_push rfl (.tmp 12) (.tmp 19) 30 rfl 3 (.int .i64 0) 1 8 Try.underlying30 Sint.infoE rfl (by decide) (.slice B2 k d2) _ _ rfl R1.out #[.int .i64 x] rfl rfl (one_lit rfl) (by omega) (by unfold maxLen; omega) ?_; intro g4 cap4 w4 p1 p2 p3; have P1 := Lib.hid p1; have P2 := Lib.hid p2; have P3 := Lib.hid p3; clear p1 p2 p3))
      go_roundw
      case rel => exact ⟨k + 1, by go_num, by omega, (by
        rw [HTK.out]
        have e := HLT.out
        have g := HG.out
        have p1 := P1.out
        have p2 := P2.out
        have p3 := P3.out
        generalize (s.L.take k).map (·.1) = l0 at e g p1 p2 p3 ⊢
        subst e
        exact g.push (x := x) p1 p2 p3)⟩
      case measure => simp [intOf]; omega
    · have HE := Lib.hid (show (s.L.take k).map (·.1) = s.L.map (·.1) by rw [List.take_of_length_le (by omega)])
      rw [HE.out] at HG
      go_wp2_with fail
      go_ret
      exact ⟨_, rfl, by rw [← enc1_map]; exact HG.out.own, fun k hk => ⟨Nat.le_trans F1.out.size (HG.out.new k hk).1, (HG.out.new k hk).2⟩, F1.out.then_no HG.out.fr⟩
set_option maxRecDepth 100000 in
set_option maxHeartbeats 2000000 in
theorem rrole_any (h : RS w S vL vW s) (id : Int) : Calls Try.prog 36 #[agS vL vW s, .int .i64 id] w fun e w' => e = .returned (.int .i64 (roleR s id)) ∧ Fr No w w' := by
  have hf := (Fr.refl No w).alloc (.cells #[vL, .int .i64 s.most, .int .i64 s.wr, vW] 71)
  have X := Blk.new w 71 #[vL, .int .i64 s.most, .int .i64 s.wr, vW]
  obtain ⟨A, c, B, d, rfl, rfl, -⟩ := h.forms
  have HT := Lib.hid (rthere_any (h.no hf) id)
  have H := Lib.hid (h.no hf)
  have HF := Lib.hid hf
  obtain ⟨bx, hbx⟩ : ∃ bx, w.heap.size = bx := ⟨_, rfl⟩
  rw [hbx] at X
  obtain ⟨n, hn⟩ : ∃ n, n = s.L.length := ⟨_, rfl⟩
  obtain ⟨m, hm⟩ : ∃ m, m = s.q.length := ⟨_, rfl⟩
  obtain ⟨wr, hwr⟩ : ∃ wr, wr = s.wr := ⟨_, rfl⟩
  obtain ⟨ms, hms⟩ : ∃ ms, ms = s.most := ⟨_, rfl⟩
  rw [← hn, ← hm, ← hwr, ← hms] at X HF
  have HN := Lib.hid (And.intro hn (And.intro hm (And.intro hwr hms)))
  have ag : agS (.slice A s.L.length c) (.slice B s.q.length d) s = .agg #[.slice A n c, .int .i64 ms, .int .i64 wr, .slice B m d] := by rw [hn, hm, hwr, hms]
  rw [ag]
  rw [ag, ← hn, ← hm, ← hwr, ← hms] at HT
  by_cases h1 : thereB s.L id = false
  · have e : roleR s id = 0 := by unfold roleR; rw [if_pos h1]
    rw [e]
    rw [h1] at HT
    clear h h1 e hf ag hn hm hwr hms
    go_enter Try.func36, Try.ntmps36
    go_wp2_with fail
    refine HT.out.mono ?_
    rintro e w2 ⟨rfl, hf⟩
    have HF2 := Lib.hid (HF.out.then_no hf)
    clear hf
    go_wp2_with fail
    go_ret
    exact ⟨rfl, HF2.out⟩
  · have h1' : thereB s.L id = true := by simpa using h1
    rw [h1'] at HT
    by_cases h2 : s.wr = id
    · have e : roleR s id = 2 := by unfold roleR; rw [if_neg h1, if_pos h2]
      rw [e]
      have hwe : (wr == id) = true := by rw [hwr]; simpa using h2
      clear h h1 h1' h2 e hf ag hn hm hwr hms
      go_enter Try.func36, Try.ntmps36
      go_wp2_with fail
      refine HT.out.mono ?_
      rintro e w2 ⟨rfl, hf⟩
      have HF2 := Lib.hid (HF.out.then_no hf)
      have x2 : w2.cell? ⟨bx, 2, none⟩ = some (.int .i64 wr) := (X.fr hf (fun h => h)).cell 2
      clear hf X
      go_wp2_with fail
      go_ret
      exact ⟨rfl, HF2.out⟩
    · have hwe : (wr == id) = false := by rw [hwr]; simpa using h2
      obtain ⟨j, hj⟩ : ∃ j, j = place s.q id := ⟨_, rfl⟩
      have hcs : (0 ≤ j ∧ roleR s id = 3) ∨ (j < 0 ∧ roleR s id = 1) := by
        unfold roleR
        rw [if_neg h1, if_neg h2, ← hj]
        by_cases g : 0 ≤ j
        · exact .inl ⟨g, if_pos g⟩
        · exact .inr ⟨by omega, if_neg g⟩
      have HJ := Lib.hid hj
      clear h h1 h1' h2 hf ag hn hm hwr hms hj
      rcases hcs with ⟨hcmp, e⟩ | ⟨hcmp, e⟩
      all_goals
        rw [e]
        clear e
        go_enter Try.func36, Try.ntmps36
        go_wp2_with fail
        refine HT.out.mono ?_
        rintro e w2 ⟨rfl, hf⟩
        have HF2 := Lib.hid (HF.out.then_no hf)
        have X2 := X.fr hf (fun h => h)
        have x2 : w2.cell? ⟨bx, 2, none⟩ = some (.int .i64 wr) := X2.cell 2
        have x3 : w2.cell? ⟨bx, 3, none⟩ = some (.slice B m d) := X2.cell 3
        have HR := H.out.no (by have hn := HN.out.1; have hm := HN.out.2.1; have hwr := HN.out.2.2.1; have hms := HN.out.2.2.2; rw [← hn, ← hm, ← hwr, ← hms]; exact hf)
        have HP := Lib.hid (Ref29.place_any _ s.q id w2 S HR.q)
        rw [← HJ.out, ← HN.out.2.1] at HP
        clear hf X2 HR
        go_wp2_with fail
        refine HP.out.mono ?_
        rintro e w3 ⟨rfl, rfl⟩
        go_wp2_with fail
        go_ret
        exact ⟨rfl, HF2.out⟩
end
end Seat
end Go.Proofs.Ytepnjmgacfjhiaa
