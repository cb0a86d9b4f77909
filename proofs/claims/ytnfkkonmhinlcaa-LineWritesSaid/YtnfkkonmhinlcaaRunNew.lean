/- Package runner: New. -/
import Derived.Test.YtnfkkonmhinlcaaRunner
namespace Go.Proofs.Ytnfkkonmhinlcaa
open Go.RowKit
set_option linter.unusedVariables false
set_option linter.unusedSimpArgs false
namespace Run
def chkR : Int → List O → Int
  | _, [] => 0
  | at_, x :: l => if okO x = false then 1 else if 1099511627776 < at_ + x.2.2 then 2 else chkR (at_ + x.2.2) l
def chk (now : Int) (l : List O) : Int := if isT now = true then chkR now l else 1
def endsR (at_ : Int) (l : List O) : Int := l.foldl (fun a x => a + x.2.2) at_
/-- The runner at block g, in the blocks F. -/
def RAt (w : World) (F : Nat → Prop) (g : Nat) (l : List O) (start : Int) (done : Nat) (over : Bool) (ends : Int) : Prop :=
  ∃ v, Blk w g 115 #[v, .int .i64 start, .int .i64 done, .bool over, .int .i64 ends] ∧ w.ownsRow 0 69 3 v l.length (l.flatMap encO) ∧ F g ∧ (∀ k, Of v k → F k ∧ k ≠ g) ∧ (∀ k, F k → k < w.heap.size)
def NewPost (now : Int) (l : List O) (w : World) (e : Ending) (w' : World) : Prop :=
  (chk now l = 0 ∧ ∃ g F, e = .returned (.tuple #[.pointer (some ⟨g, 0, none⟩), .int .i64 0]) ∧ RAt w' F g l now 0 false (endsR now l) ∧ Fr No w w' ∧ ∀ k, F k → New w w' k) ∨
  (chk now l ≠ 0 ∧ e = .returned (.tuple #[.pointer none, .int .i64 (chk now l)]) ∧ Fr No w w')
theorem okO_n {x : O} (h : okO x = true) : 0 ≤ x.2.2 := by
  unfold okO at h
  have := of_decide_eq_true h
  omega
theorem chk_drop {l : List O} {k : Nat} (h : k < l.length) (a : Int) : chkR a (l.drop k) = if okO l[k] = false then 1 else if 1099511627776 < a + l[k].2.2 then 2 else chkR (a + l[k].2.2) (l.drop (k + 1)) := by
  rw [List.drop_eq_getElem_cons h]; rfl
theorem ends_drop {l : List O} {k : Nat} (h : k < l.length) (a : Int) : endsR a (l.drop k) = endsR (a + l[k].2.2) (l.drop (k + 1)) := by
  rw [List.drop_eq_getElem_cons h]; rfl
theorem op_news {w w' : World} {S : Nat → Prop} {A : Option Addr} {n cap : Nat} {l : List O} (hv : RSl 3 ROp w S [.slice A n cap] l) (hk : Kept S w w') :
    ∀ j u, (l.flatMap encO)[j]? = some u → ∃ ad, A = some ad ∧ w'.cell? (ad.add j) = some u := by
  intro j u hu
  obtain ⟨A', cap', hA, _, _, hel⟩ := op_cells hv
  injection hA with hA hn hc
  subst hA
  have hj : j < l.length * 3 := by
    have := (List.getElem?_eq_some_iff.1 hu).1
    rwa [encO_len] at this
  have hi : j / 3 < l.length := by omega
  obtain ⟨ad, e, hS, q1, q2, q3, _⟩ := hel (j / 3) hi
  obtain ⟨g1, g2, g3⟩ := encO_get l (j / 3) hi
  refine ⟨ad, e, ?_⟩
  rw [hk _ (by rw [block_add]; exact hS)]
  have hj3 : j = j / 3 * 3 ∨ j = j / 3 * 3 + 1 ∨ j = j / 3 * 3 + 2 := by omega
  rcases hj3 with h | h | h
  · rw [h] at hu ⊢
    rw [g1] at hu; rw [q1, hu]
  · rw [h] at hu ⊢
    rw [g2] at hu
    rw [← add_add, show (ad.add (j / 3 * 3)).add 1 = ⟨(ad.add (j / 3 * 3)).block, (ad.add (j / 3 * 3)).off + 1, none⟩ from rfl, q2, hu]
  · rw [h] at hu ⊢
    rw [g3] at hu
    rw [← add_add, show (ad.add (j / 3 * 3)).add 2 = ⟨(ad.add (j / 3 * 3)).block, (ad.add (j / 3 * 3)).off + 2, none⟩ from rfl, q3, hu]
theorem own_empty (w : World) (e : TypeId) (size : Nat) : (w.alloc (.cells #[] e)).ownsRow 0 e size (.slice (some ⟨w.heap.size, 0, none⟩) 0 0) 0 [] :=
  ⟨by simp, .inr ⟨w.heap.size, 0, #[], rfl, Nat.zero_le _, heap_alloc_new w _, Nat.le_refl _, Nat.zero_le _, by simp, by simp⟩⟩
set_option maxHeartbeats 1000000 in
theorem new_any (v : Value) (l : List O) (now : Int) (w : World) (S : Nat → Prop) (hS : ∀ k, S k → k < w.heap.size) (hv : RSl 3 ROp w S [v] l) (hl : l.length ≤ 1000) :
    Calls Try.prog 55 #[v, .int .i64 now] w (NewPost now l w) := by
  have Hv := Lib.hid hv
  obtain ⟨A, cap, rfl, hc1, hc2, hel⟩ := op_cells hv
  unfold maxLen at hc2
  have Hel := Lib.hid hel
  have HS := Lib.hid hS
  clear hv hel hS
  cases hT : isT now
  · have HC := Lib.hid (show chk now l = 1 by unfold chk; rw [hT]; rfl)
    have hi := fun w => is_any now w
    rw [hT] at hi
    go_enter Try.func55, Try.ntmps55
    go_wp2_with (go_at_call 53; refine (hi _).mono ?_; rintro e w1 ⟨rfl, rfl⟩)
    go_ret2
    refine .inr ⟨by rw [HC.out]; decide, ?_, Fr.refl _ _⟩
    rw [HC.out]
    rfl
  · have HC := Lib.hid (show chk now l = chkR now l by unfold chk; rw [hT]; rfl)
    have hi := fun w => is_any now w
    rw [hT] at hi
    have hT2 := isT_iff.1 hT
    clear hT
    go_enter Try.func55, Try.ntmps55
    go_wp2_with (go_at_call 53; refine (hi _).mono ?_; rintro e w1 ⟨rfl, rfl⟩)
    go_loopw [6, 17] (fun ev iv wr => ∃ (k : Nat) (at_ : Int), iv = .int .i64 k ∧ ev = .int .i64 at_ ∧ k ≤ l.length ∧ (0 ≤ at_ ∧ at_ ≤ 1099511627776) ∧ Hid (chkR now l = chkR at_ (l.drop k) ∧ endsR now l = endsR at_ (l.drop k)) ∧ Hid (Fr No w wr)) (fun _ i _ => l.length - (intOf i).toNat)
    case atStart => exact ⟨0, now, rfl, rfl, by omega, hT2, ⟨rfl, rfl⟩, Fr.refl _ _⟩
    case round =>
      obtain ⟨k, at_, rfl, rfl, hk, hat, Hd, Hf⟩ := hrel
      by_cases hlt : k < l.length
      · obtain ⟨ad, rfl, hSa, q1, q2, q3, hw⟩ := Hel.out k hlt
        have hcd := chk_drop hlt at_
        have hed := ends_drop hlt at_
        obtain ⟨x, hx⟩ : ∃ x, x = l[k] := ⟨_, rfl⟩
        rw [← hx] at q1 q2 q3 hw hcd hed
        obtain ⟨kd, s, n⟩ := x
        simp only at q1 q2 q3 hcd hed
        have hb := HS.out _ hSa
        have k1 : wr.cell? (ad.add (k * 3)) = some (.int .i64 kd) := (Hf.out.cell (by rw [block_add]; exact hb) (fun h => h)).trans q1
        have k2 : wr.cell? ⟨(ad.add (k * 3)).block, (ad.add (k * 3)).off + 1, none⟩ = some (.string ⟨s.toArray⟩) := (Hf.out.cell (by show (ad.add (k * 3)).block < _; rw [block_add]; exact hb) (fun h => h)).trans q2
        have k3 : wr.cell? ⟨(ad.add (k * 3)).block, (ad.add (k * 3)).off + 2, none⟩ = some (.int .i64 n) := (Hf.out.cell (by show (ad.add (k * 3)).block < _; rw [block_add]; exact hb) (fun h => h)).trans q3
        have hbk : (ad.add (k * 3)).block < wr.heap.size := by rw [block_add]; exact Nat.lt_of_lt_of_le hb Hf.out.size
        have hbn : (ad.add (k * 3)).block ≠ wr.heap.size := by omega
        have hr := fun w => right_any kd n s w
        have hwn := hw.2.2
        simp only at hwn
        cases ho : okO (kd, s, n)
        · rw [ho] at hr hcd
          have HC2 := Lib.hid (show chk now l = 1 by rw [HC.out, Hd.out.1, hcd]; rfl)
          clear hcd hed hx q1 q2 q3 hw
          go_wp2_with (go_at_call 71; refine (hr _).mono ?_; rintro e w1 ⟨rfl, hf⟩; have Hf1 := Lib.hid hf; clear hf)
          go_ret2
          refine .inr ⟨by rw [HC2.out]; decide, by rw [HC2.out]; rfl, ?_⟩
          exact (Hf.out.alloc _).then_no Hf1.out
        · have hn0 := okO_n ho
          simp only at hn0
          rw [ho] at hr hcd
          have hcd2 : chkR at_ (l.drop k) = if 1099511627776 < at_ + n then 2 else chkR (at_ + n) (l.drop (k + 1)) := hcd
          clear hcd
          by_cases hbig : 1099511627776 < at_ + n
          · rw [if_pos hbig] at hcd2
            have HC2 := Lib.hid (show chk now l = 2 by rw [HC.out, Hd.out.1, hcd2])
            have ha := fun w => add_no hat (show 0 ≤ n ∧ n ≤ 9223372036854775807 by omega) hbig w
            clear hcd2 hed hx q1 q2 q3 hw ho
            go_wp2_with (first
              | (go_at_call 71; refine (hr _).mono ?_; rintro e w1 ⟨rfl, hf⟩; have x3 : w1.cell? ⟨wr.heap.size, 2, none⟩ = some (.int .i64 n) := (hf.cell (by simp) (fun h => h)).trans (by simp); have Hf1 := Lib.hid hf; clear hf)
              | (go_at_call 69; refine (ha _).mono ?_; rintro e w2 ⟨⟨c, rfl, hc⟩, rfl⟩))
            go_ret2
            refine .inr ⟨by rw [HC2.out]; decide, by rw [HC2.out]; rfl, ?_⟩
            exact (Hf.out.alloc _).then_no Hf1.out
          · rw [if_neg hbig] at hcd2
            have ha := fun w => add_yes hat hn0 (by omega) w
            have HD := Lib.hid (show chkR now l = chkR (at_ + n) (l.drop (k + 1)) ∧ endsR now l = endsR (at_ + n) (l.drop (k + 1)) from ⟨by rw [Hd.out.1, hcd2], by rw [Hd.out.2, hed]⟩)
            clear hcd2 hed hx q1 q2 q3 hw ho
            go_wp2_with (first
              | (go_at_call 71; refine (hr _).mono ?_; rintro e w1 ⟨rfl, hf⟩; have x3 : w1.cell? ⟨wr.heap.size, 2, none⟩ = some (.int .i64 n) := (hf.cell (by simp) (fun h => h)).trans (by simp); have Hf1 := Lib.hid hf; clear hf)
              | (go_at_call 69; refine (ha _).mono ?_; rintro e w2 ⟨rfl, rfl⟩))
            go_roundw
            case rel => exact ⟨k + 1, at_ + n, by go_num, rfl, by omega, by omega, HD.out, (Hf.out.alloc _).then_no Hf1.out⟩
            case measure => simp [intOf]; omega
      · have hkl : k = l.length := by omega
        have hd : chkR now l = 0 ∧ endsR now l = at_ := by
          have := Hd.out
          rw [List.drop_of_length_le (by omega)] at this
          exact this
        have HD := Lib.hid hd
        clear Hd hd
        have hnews := fun W (h : Fr No w W) => op_news Hv.out (Kept.of_no h HS.out)
        have Hn := Lib.hid hnews
        clear hnews
        go_wp2_with (at_builtin; go_loud (refine wp_app (news := l.flatMap encO) rfl (.tmp 35) (.tmp 36) 33 rfl 69 (.agg #[.int .i64 0, .string ByteArray.empty, .int .i64 0]) 3 32 Try.underlying33 infoO rfl (by decide) (.slice (some ⟨wr.heap.size, 0, none⟩) 0 0) 0 [] rfl (own_empty wr 69 3) rfl (by rw [encO_len]) (Hn.out _ (Hf.out.alloc _)) (encO_one l) (by omega) (by unfold maxLen; omega) ?_; intro v' w3 h8 h9 h10; rw [Nat.zero_add, List.nil_append] at h8; obtain ⟨A4, c4, hu⟩ := own_form h8; subst hu; have P1 := Lib.hid h8; have P2 := Lib.hid h9; have P3 := Lib.hid h10; clear h8 h9 h10))
        go_ret2
        have hnew : ∀ k, Of (.slice A4 l.length c4) k → w.heap.size ≤ k ∧ k < w3.heap.size := fun k hk => by
          refine ⟨?_, (P1.out.lt k hk).2⟩
          rcases P3.out k hk with h | h
          · have h : some wr.heap.size = some k := h
            injection h with h
            rw [← h]; exact Hf.out.size
          · exact Nat.le_trans (Nat.le_trans Hf.out.size (by simp)) h.1
        have hfr : Fr No w w3 := (Hf.out.alloc _).trans P2.out fun k hk hl => by
          have hk : some wr.heap.size = some k := hk
          injection hk with hk
          have := Hf.out.size
          omega
        refine .inl ⟨by rw [HC.out, HD.out.1], w3.heap.size, fun k => k = w3.heap.size ∨ Of (.slice A4 l.length c4) k, rfl, ?_, hfr.alloc _, fun k hk => ?_⟩
        · refine ⟨.slice A4 l.length c4, by rw [HD.out.2]; exact Blk.new _ _ _, own_fr P1.out ((Fr.refl No _).alloc _) (fun _ _ h => h), .inl rfl, fun k hk => ⟨.inr hk, fun e => ?_⟩, fun k hk => ?_⟩
          · have := (hnew k hk).2; omega
          · rw [size_alloc]
            rcases hk with rfl | hk
            · omega
            · have := (hnew k hk).2; omega
        · refine ⟨?_, ?_⟩
          · rcases hk with rfl | hk
            · exact hfr.size
            · exact (hnew k hk).1
          · rw [size_alloc]
            rcases hk with rfl | hk
            · omega
            · have := (hnew k hk).2; omega
end Run
end Go.Proofs.Ytnfkkonmhinlcaa
