/- The reference of package runner. -/
import Derived.Test.YtnfkkonmhinlcaaRunPlain
namespace Go.Proofs.Ytnfkkonmhinlcaa
open Go.RowKit
set_option linter.unusedVariables false
set_option linter.unusedSimpArgs false
namespace Run
theorem neq_op (W : World) (a b m n : Int) (p q : Str) :
    (binOp .neq 69 (.agg #[.int .i64 a, .string ⟨p.toArray⟩, .int .i64 m]) (.agg #[.int .i64 b, .string ⟨q.toArray⟩, .int .i64 n])).run Try.prog W = .ok (.bool (!decide ((a, p, m) = (b, q, n)))) W := by
  have h1 : Try.prog.underlying 69 = some (.struct (Try.prog.fieldsOf 69)) := by kernel_rfl
  have h2 : Try.prog.stoodInHeld 69 = false := by kernel_rfl
  have hu := Try.underlying69
  rw [run_neq_struct, run_equalIn_struct W _ _ _ _ h1 h2]
  simp [Program.fieldsOf, hu, Op.eqFields, go_sem]
  by_cases e1 : a = b <;> by_cases e2 : p = q <;> by_cases e3 : m = n <;> simp [e1, e2, e3]
/-- r.Done(). -/
theorem done_any (w : World) (G : Nat → Prop) (g : Nat) (l : List O) (start ends : Int) (done : Nat) (over : Bool) (hR : RAt w G g l start done over ends) :
    Calls Try.prog 57 #[.pointer (some ⟨g, 0, none⟩)] w fun e w' => e = .returned (.bool over) ∧ w = w' := by
  obtain ⟨v, h1, _⟩ := hR
  have c3 := h1.cell 3
  simp at c3
  go_enter Try.func57, Try.ntmps57
  go_wp2
  go_ret
  exact ⟨rfl, rfl⟩
set_option maxRecDepth 100000 in
set_option maxHeartbeats 2000000 in
theorem rcheck_any (v : Value) (l : List O) (now : Int) (w : World) (S : Nat → Prop) (hS : ∀ k, S k → k < w.heap.size) (hv : RSl 3 ROp w S [v] l) (hl : l.length ≤ 1000) :
    Calls Try.prog 61 #[v, .int .i64 now] w fun e w' => e = .returned (.int .i64 (chk now l)) ∧ Fr No w w' := by
  obtain ⟨A, cap, rfl, hc1, hc2, hel⟩ := op_cells hv
  unfold maxLen at hc2
  have Hel := Lib.hid hel
  have HS := Lib.hid hS
  clear hel hS hv
  have done : ∀ {x : Int}, chk now l = x → Ending.returned (.int .i64 x) = .returned (.int .i64 (chk now l)) := fun h => by rw [h]
  by_cases h1 : 0 ≤ now
  · by_cases h2 : now ≤ 1099511627776
    · have HC := Lib.hid (show chk now l = chkR now l by unfold chk; rw [if_pos (isT_iff.2 ⟨h1, h2⟩)])
      go_enter Try.func61, Try.ntmps61
      go_wp2
      go_loopw [5, 6] (fun ev iv wr => ∃ (k : Nat) (at_ : Int), iv = .int .i64 k ∧ ev = .int .i64 (1099511627776 - at_) ∧ k ≤ l.length ∧ (0 ≤ at_ ∧ at_ ≤ 1099511627776) ∧ Hid (chkR now l = chkR at_ (l.drop k)) ∧ Hid (Fr No w wr)) (fun _ i _ => l.length - (intOf i).toNat)
      case atStart => exact ⟨0, now, rfl, rfl, by omega, ⟨h1, h2⟩, rfl, Fr.refl _ _⟩
      case round =>
        obtain ⟨k, at_, rfl, rfl, hk, hat, Hd, Hf⟩ := hrel
        by_cases hlt : k < l.length
        · obtain ⟨ad, rfl, hSa, q1, q2, q3, hw⟩ := Hel.out k hlt
          have hcd := chk_drop hlt at_
          obtain ⟨x, hx⟩ : ∃ x, x = l[k] := ⟨_, rfl⟩
          rw [← hx] at q1 q2 q3 hw hcd
          obtain ⟨kd, s, n⟩ := x
          simp only at q1 q2 q3 hcd
          have hb := HS.out _ hSa
          have k1 : wr.cell? (ad.add (k * 3)) = some (.int .i64 kd) := (Hf.out.cell (by rw [block_add]; exact hb) (fun h => h)).trans q1
          have k2 : wr.cell? ⟨(ad.add (k * 3)).block, (ad.add (k * 3)).off + 1, none⟩ = some (.string ⟨s.toArray⟩) := (Hf.out.cell (by show (ad.add (k * 3)).block < _; rw [block_add]; exact hb) (fun h => h)).trans q2
          have k3 : wr.cell? ⟨(ad.add (k * 3)).block, (ad.add (k * 3)).off + 2, none⟩ = some (.int .i64 n) := (Hf.out.cell (by show (ad.add (k * 3)).block < _; rw [block_add]; exact hb) (fun h => h)).trans q3
          have hbk : (ad.add (k * 3)).block < wr.heap.size := by rw [block_add]; exact Nat.lt_of_lt_of_le hb Hf.out.size
          have hbn : (ad.add (k * 3)).block ≠ wr.heap.size := by omega
          have hwn := hw.2.2
          simp only at hwn
          have Hno := Lib.hid (fun h : okO (kd, s, n) = false => show chk now l = 1 by rw [HC.out, Hd.out, hcd, if_pos h])
          have Hbig := Lib.hid (fun (h : okO (kd, s, n) = true) (h' : 1099511627776 < at_ + n) => show chk now l = 2 by rw [HC.out, Hd.out, hcd, if_neg (by rw [h]; simp), if_pos h'])
          have Hgo := Lib.hid (fun (h : okO (kd, s, n) = true) (h' : ¬ 1099511627776 < at_ + n) => show chkR now l = chkR (at_ + n) (l.drop (k + 1)) by rw [Hd.out, hcd, if_neg (by rw [h]; simp), if_neg h'])
          have Hn0 := Lib.hid (fun (h : okO (kd, s, n) = true) => show 0 ≤ n from okO_n h)
          have hkd : kd = 1 ∨ kd = 2 ∨ kd = 3 ∨ ((kd == 1) = false ∧ (kd == 2) = false ∧ (kd == 3) = false) := by
            by_cases e1 : kd = 1
            · exact .inl e1
            by_cases e2 : kd = 2
            · exact .inr (.inl e2)
            by_cases e3 : kd = 3
            · exact .inr (.inr (.inl e3))
            exact .inr (.inr (.inr ⟨beq_eq_false_iff_ne.2 e1, beq_eq_false_iff_ne.2 e2, beq_eq_false_iff_ne.2 e3⟩))
          have hss : s = [] ∨ s.isEmpty = false := by cases s <;> simp
          have hnn : n = 0 ∨ (decide (0 < n) = true ∧ (n == 0) = false) ∨ (decide (0 < n) = false ∧ (n == 0) = false) := by
            by_cases e1 : n = 0
            · exact .inl e1
            · by_cases e2 : 0 < n
              · exact .inr (.inl ⟨decide_eq_true e2, beq_eq_false_iff_ne.2 e1⟩)
              · exact .inr (.inr ⟨decide_eq_false e2, beq_eq_false_iff_ne.2 e1⟩)
          clear hcd hx q1 q2 q3 hw
          cases ho : okO (kd, s, n)
          · have HO := Lib.hid (Hno.out ho)
            clear Hno Hbig Hgo Hn0
            have Ho := Lib.hid ho
            clear ho
            rcases hkd with rfl | rfl | rfl | ⟨e1, e2, e3⟩ <;> rcases hss with rfl | es <;> rcases hnn with rfl | ⟨en, en2⟩ | ⟨en, en2⟩
            all_goals first
              | (exfalso; have := Ho.out; simp [okO] at this; done)
              | (exfalso; have := Ho.out; have e9 := of_decide_eq_true en; simp [okO] at this; omega)
              | (exfalso; have := Ho.out; simp [okO] at this; simp [this] at es; done)
              | (go_wp2
                 go_ret
                 exact ⟨done HO.out, (Hf.out.alloc _)⟩)
          · have Ho := Lib.hid ho
            have hn0 := Hn0.out ho
            by_cases hbig : 1099511627776 < at_ + n
            · have HO := Lib.hid (Hbig.out ho hbig)
              clear Hno Hbig Hgo Hn0 ho hkd hss hnn
              rcases of_decide_eq_true Ho.out with ⟨e1, e2, e3⟩ | ⟨e1, e2, e3⟩ | ⟨e1, e2, e3⟩
              · exfalso; simp only at e3; omega
              · simp only at e1 e2 e3
                subst e1 e2
                have e4 := decide_eq_true e3
                go_wp2
                go_ret
                exact ⟨done HO.out, (Hf.out.alloc _)⟩
              · exfalso; simp only at e3; omega
            · have HO := Lib.hid (Hgo.out ho hbig)
              clear Hno Hbig Hgo Hn0 ho hkd hss hnn
              rcases of_decide_eq_true Ho.out with ⟨e1, e2, e3⟩ | ⟨e1, e2, e3⟩ | ⟨e1, e2, e3⟩
              · simp only at e1 e2 e3
                subst e1 e3
                have es : s.isEmpty = false := by cases s <;> simp at e2 ⊢
                clear e2
                go_wp2
                go_roundw
                case rel => exact ⟨k + 1, at_ + 0, by go_num, by rw [Int.add_zero], by omega, by omega, HO.out, Hf.out.alloc _⟩
                case measure => simp [intOf]; omega
              · simp only at e1 e2 e3
                subst e1 e2
                have e4 := decide_eq_true e3
                go_wp2
                go_roundw
                case rel => exact ⟨k + 1, at_ + n, by go_num, by go_num, by omega, by omega, HO.out, Hf.out.alloc _⟩
                case measure => simp [intOf]; omega
              · simp only at e1 e2 e3
                subst e1 e2 e3
                go_wp2
                go_roundw
                case rel => exact ⟨k + 1, at_ + 0, by go_num, by rw [Int.add_zero], by omega, by omega, HO.out, Hf.out.alloc _⟩
                case measure => simp [intOf]; omega
        · have hd : chk now l = 0 := by
            have := Hd.out
            rw [List.drop_of_length_le (by omega)] at this
            rw [HC.out, this]; rfl
          have HD := Lib.hid hd
          clear hd
          go_wp2
          go_ret
          exact ⟨done HD.out, Hf.out⟩
    · have HC := Lib.hid (show chk now l = 1 by unfold chk; rw [if_neg (by rw [isT_iff]; omega)])
      go_enter Try.func61, Try.ntmps61
      go_wp2
      go_ret
      exact ⟨done HC.out, Fr.refl _ _⟩
  · have HC := Lib.hid (show chk now l = 1 by unfold chk; rw [if_neg (by rw [isT_iff]; omega)])
    go_enter Try.func61, Try.ntmps61
    go_wp2
    go_ret
    exact ⟨done HC.out, Fr.refl _ _⟩
end Run
end Go.Proofs.Ytnfkkonmhinlcaa
