/- The walk of the law QueuePlays. -/
import Derived.Test.YtckgkeicilcnmaaQueueLaws
import Derived.BigGuardPart
namespace Go.Proofs.Ytckgkeicilcnmaa
open Go.RowKit
set_option linter.unusedVariables false
set_option linter.unusedSimpArgs false
namespace Law29
theorem putR_len (q : List Int) (most x : Int) : (Qint.putR q most x).1.length ≤ q.length + 1 := by
  unfold Qint.putR; split
  · exact Nat.le_succ _
  · split
    · exact Nat.le_succ _
    · simp
theorem putR_nodup {q : List Int} (most x : Int) (h : q.Nodup) : (Qint.putR q most x).1.Nodup := by
  unfold Qint.putR; split
  · exact h
  · rename_i hp
    split
    · exact h
    · have hn := place_new hp
      rw [List.nodup_append]
      exact ⟨h, by simp, fun a ha b hb => by rw [List.mem_singleton.1 hb]; exact fun e => hn (e ▸ ha)⟩
theorem Inv.head {B : World} {b : Nat} {most : Int} {w : World} {q r : List Int} {y : Int} {A : Option Addr} {n c : Nat} (h : Inv B b most w q (y :: r) (.slice A n c)) : ∃ ad, A = some ad ∧ w.cell? (ad.add 0) = some (.int .i64 y) := by
  obtain ⟨F, S, _, _, h3, _⟩ := h
  obtain ⟨A', cap, hA, _, _, hel⟩ := h3.ints
  injection hA with hA _ _
  subst hA
  obtain ⟨ad, e, _, hc, _⟩ := hel 0 (by simp)
  exact ⟨ad, e, hc⟩
set_option maxHeartbeats 2000000 in
set_option maxRecDepth 100000 in
theorem plays_any (most : Int) (v : Value) (l : List (Int × Int)) (w : World) (hv : RSl 2 (RTwo 1 (RInt .u8) (RInt .i64)) w (Ahead w.heap.size) [v] l) : Calls Try.prog 10 #[.int .i64 most, v] w fun e w' => e = .returned (.bool true) ∧ Fr No w w' := by
  obtain ⟨A, cap, rfl, hc1, hc2, hel⟩ := hv.twos
  clear hv
  unfold maxLen at hc2
  have Hel := Lib.hid hel
  clear hel
  by_cases hbig : 80 < l.length
  · go_enter Try.func10, Try.ntmps10
    go_wp2_with (go_at_call 27; refine (works_any _).mono ?_; rintro e w' ⟨rfl, hf⟩; have Hf := Lib.hid hf; clear hf)
    go_ret
    exact ⟨rfl, Hf.out⟩
  · by_cases hm1 : most < 1
    · go_enter Try.func10, Try.ntmps10
      go_wp2_with (first | (go_at_call 28; refine (Qint.new_no most _ (.inl hm1)).mono ?_; rintro e w' ⟨rfl, rfl⟩) | (go_at_call 27; refine (works_any _).mono ?_; rintro e w' ⟨rfl, hf⟩; have Hf := Lib.hid hf; clear hf))
      go_ret
      exact ⟨rfl, Hf.out⟩
    · by_cases hm2 : 4096 < most
      · go_enter Try.func10, Try.ntmps10
        go_wp2_with (first | (go_at_call 28; refine (Qint.new_no most _ (.inr hm2)).mono ?_; rintro e w' ⟨rfl, rfl⟩) | (go_at_call 27; refine (works_any _).mono ?_; rintro e w' ⟨rfl, hf⟩; have Hf := Lib.hid hf; clear hf))
        go_ret
        exact ⟨rfl, Hf.out⟩
      · have g1 : 1 ≤ most := by omega
        have g2 : most ≤ 4096 := by omega
        go_enter Try.func10, Try.ntmps10
        go_wp2_with (go_at_call 28; refine (Qint.new_yes most _ g1 g2).mono ?_; rintro e w0 ⟨b, rfl, hq, hf⟩; have Q0 := Lib.hid hq; have F0 := Lib.hid hf; clear hq hf)
        go_loopw [7, 8] (fun o i wr => ∃ (k : Nat) (q : List Int), i = .int .i64 k ∧ k ≤ l.length ∧ q.length ≤ k ∧ Hid (q.Nodup ∧ Inv w b most wr q q o)) (fun _ i _ => l.length - (intOf i).toNat)
        case atStart => exact ⟨0, [], rfl, by omega, by simp, List.nodup_nil, New w w0, No, Q0.out, fun k hk => hk.1, ⟨none, 0, rfl, Nat.le_refl _, Nat.zero_le _, fun _ => rfl, fun i hi => by simp at hi⟩, F0.out, fun k hk => hk.elim⟩
        case round =>
          obtain ⟨k, q, rfl, hk, hqk, hd⟩ := hrel
          obtain ⟨A1, c1, hu, hc3, hc4⟩ := hd.out.2.form
          subst hu
          unfold maxLen at hc4
          have I0 := Lib.hid hd.out.2
          have Hnd := Lib.hid hd.out.1
          clear hd
          by_cases hlt : k < l.length
          · obtain ⟨ad, cc, dd, rfl, hSa, hcell1, hcell2, hr1, hr2⟩ := Hel.out k hlt
            obtain ⟨hr1, hw1⟩ := hr1
            obtain ⟨hr2, hw2⟩ := hr2
            injection hr1 with hr1 _
            injection hr2 with hr2 _
            subst hr1 hr2
            have hk1 : wr.cell? (ad.add (k * 2)) = some (.int .u8 l[k].1) := (I0.out.fr.cell (by rw [block_add]; exact hSa) (fun h => h)).trans hcell1
            have hk2 : wr.cell? ⟨(ad.add (k * 2)).block, (ad.add (k * 2)).off + 1, none⟩ = some (.int .i64 l[k].2) := (I0.out.fr.cell (by show (ad.add (k * 2)).block < _; rw [block_add]; exact hSa) (fun h => h)).trans hcell2
            have hu8 : 0 ≤ l[k].1 ∧ l[k].1 ≤ 255 := by simpa [Lit.wf, IntKind.min, IntKind.max, IntKind.signed, IntKind.bits] using hw1
            generalize l[k].1 = kd at hk1 hu8 hw1
            generalize l[k].2 = x at hk2 hw2
            obtain ⟨hu1, hu2⟩ := hu8
            have Hw2 := Lib.hid hw2
            clear hcell1 hcell2 hw1 hw2
            have hq80 : q.length ≤ 80 := by omega
            by_cases hk2' : kd % 4 = 2
            · have t1 : (kd % 4 == 2) = true := by simp [hk2']
              have hfe := Lib.hid (show q.filter (· != x) = q.erase x from (Hnd.out.erase_eq_filter x).symm)
              have hle := Lib.hid (show (q.erase x).length ≤ q.length from List.length_erase_le)
              clear hk2'
              go_wp2_with (first
                | (go_at_call 31; (with_reducible refine (Inv.rplace I0.out _).mono ?_); rintro e w' ⟨rfl, rfl⟩)
                | (go_at_call 42; (with_reducible refine (Inv.rdrop I0.out x (by omega)).mono ?_); rintro e w1 ⟨A2, c2, rfl, hi⟩; rw [hfe.out] at hi ⊢; have I1 := Lib.hid hi; clear hi)
                | (go_at_call 43; (with_reducible refine (Inv.drop I1.out x).mono ?_); rintro e w2 ⟨rfl, hi⟩; have I2 := Lib.hid hi; clear hi)
                | (go_at_call 46; (with_reducible refine (Inv.all I2.out).mono ?_); rintro e w5 ⟨v5, T5, rfl, hr5, hi5⟩; have R5 := Lib.hid hr5; have I5 := Lib.hid hi5; clear hr5 hi5)
                | (go_at_call 45; (with_reducible refine (Inv.same I5.out R5.out rfl).mono ?_); rintro e w6 ⟨rfl, hi6⟩; have I6 := Lib.hid hi6; clear hi6)
                | (go_at_call 47; (with_reducible refine (Inv.len I6.out).mono ?_); rintro e w' ⟨rfl, rfl⟩)
                | (go_at_call 48; (with_reducible refine (Inv.place I6.out _).mono ?_); rintro e w' ⟨rfl, rfl⟩)
                | (go_at_call 31; (with_reducible refine (Inv.rplace I6.out _).mono ?_); rintro e w' ⟨rfl, rfl⟩))
              go_roundw
              case rel => exact ⟨k + 1, q.erase x, by go_num, by omega, (by have := hle.out; omega), Hnd.out.erase x, I6.out⟩
              case measure => simp [intOf]; omega
            · by_cases hk3 : kd % 4 = 3
              · have t1 : (kd % 4 == 2) = false := by simp; omega
                have t2 : (kd % 4 == 3) = true := by simp [hk3]
                clear hk2' hk3
                cases q with
                | nil =>
                  have I0' : Hid (Inv w b most wr [] [] (.slice A1 0 c1)) := I0
                  clear I0
                  go_wp2_with (first
                    | (go_at_call 30; (with_reducible refine (Inv.take_no I0'.out).mono ?_); rintro e w1 ⟨rfl, rfl⟩)
                    | (go_at_call 46; (with_reducible refine (Inv.all I0'.out).mono ?_); rintro e w5 ⟨v5, T5, rfl, hr5, hi5⟩; have R5 := Lib.hid hr5; have I5 := Lib.hid hi5; clear hr5 hi5)
                    | (go_at_call 45; (with_reducible refine (Inv.same I5.out R5.out rfl).mono ?_); rintro e w6 ⟨rfl, hi6⟩; have I6 := Lib.hid hi6; clear hi6)
                    | (go_at_call 47; (with_reducible refine (Inv.len I6.out).mono ?_); rintro e w' ⟨rfl, rfl⟩)
                    | (go_at_call 48; (with_reducible refine (Inv.place I6.out _).mono ?_); rintro e w' ⟨rfl, rfl⟩)
                    | (go_at_call 31; (with_reducible refine (Inv.rplace I6.out _).mono ?_); rintro e w' ⟨rfl, rfl⟩))
                  go_roundw
                  case rel => exact ⟨k + 1, [], by go_num, by omega, by simp, List.nodup_nil, I6.out⟩
                  case measure => simp [intOf]; omega
                | cons y t =>
                  have I0' : Hid (Inv w b most wr (y :: t) (y :: t) (.slice A1 (t.length + 1) c1)) := I0
                  clear I0
                  have hfe := Lib.hid (show (y :: t).filter (· != y) = t by
                    have := Hnd.out.erase_eq_filter y
                    rw [List.erase_cons_head] at this
                    exact this.symm)
                  have htl : t.length + 1 ≤ k := by simpa using hqk
                  go_wp2_with (first
                    | (go_at_call 30; (with_reducible refine (Inv.take_yes I0'.out).mono ?_); rintro e w1 ⟨rfl, hi⟩; obtain ⟨ad1, rfl, hcy⟩ := Inv.head hi; have hcy' := hcy; rw [add_zero] at hcy'; have I1 := Lib.hid hi; clear hi)
                    | (go_at_call 42; go_loud ((with_reducible refine (Inv.rdrop I1.out y (by simp at hqk ⊢; omega)).mono ?_); rintro e w2 ⟨A2, c2, rfl, hi⟩; rw [hfe.out] at hi ⊢; have I2 := Lib.hid hi; clear hi))
                    | (go_at_call 46; (with_reducible refine (Inv.all I2.out).mono ?_); rintro e w5 ⟨v5, T5, rfl, hr5, hi5⟩; have R5 := Lib.hid hr5; have I5 := Lib.hid hi5; clear hr5 hi5)
                    | (go_at_call 45; (with_reducible refine (Inv.same I5.out R5.out rfl).mono ?_); rintro e w6 ⟨rfl, hi6⟩; have I6 := Lib.hid hi6; clear hi6)
                    | (go_at_call 47; (with_reducible refine (Inv.len I6.out).mono ?_); rintro e w' ⟨rfl, rfl⟩)
                    | (go_at_call 48; (with_reducible refine (Inv.place I6.out _).mono ?_); rintro e w' ⟨rfl, rfl⟩)
                    | (go_at_call 31; (with_reducible refine (Inv.rplace I6.out _).mono ?_); rintro e w' ⟨rfl, rfl⟩))
                  go_roundw
                  case rel => exact ⟨k + 1, t, by go_num, by omega, by omega, (List.nodup_cons.1 Hnd.out).2, I6.out⟩
                  case measure => simp [intOf]; omega
              · have t1 : (kd % 4 == 2) = false := by simp; omega
                have t2 : (kd % 4 == 3) = false := by simp; omega
                have hpl := Lib.hid (putR_len q most x)
                have hpn := Lib.hid (putR_nodup most x Hnd.out)
                clear hk2' hk3
                go_wp2_with (first
                  | (go_at_call 44; (with_reducible refine (Inv.rput I0.out x Hw2.out (by omega)).mono ?_); rintro e w1 ⟨A2, c2, rfl, hi⟩; have I1 := Lib.hid hi; clear hi)
                  | (go_at_call 29; (with_reducible refine (Inv.put I1.out x Hw2.out).mono ?_); rintro e w2 ⟨rfl, hi⟩; have I2 := Lib.hid hi; clear hi)
                  | (go_at_call 46; (with_reducible refine (Inv.all I2.out).mono ?_); rintro e w5 ⟨v5, T5, rfl, hr5, hi5⟩; have R5 := Lib.hid hr5; have I5 := Lib.hid hi5; clear hr5 hi5)
                  | (go_at_call 45; (with_reducible refine (Inv.same I5.out R5.out rfl).mono ?_); rintro e w6 ⟨rfl, hi6⟩; have I6 := Lib.hid hi6; clear hi6)
                  | (go_at_call 47; (with_reducible refine (Inv.len I6.out).mono ?_); rintro e w' ⟨rfl, rfl⟩)
                  | (go_at_call 48; (with_reducible refine (Inv.place I6.out _).mono ?_); rintro e w' ⟨rfl, rfl⟩)
                  | (go_at_call 31; (with_reducible refine (Inv.rplace I6.out _).mono ?_); rintro e w' ⟨rfl, rfl⟩))
                go_roundw
                case rel => exact ⟨k + 1, (Qint.putR q most x).1, by go_num, by omega, (by have := hpl.out; omega), hpn.out, I6.out⟩
                case measure => simp [intOf]; omega
          · go_wp2_with (go_at_call 27; refine (works_any _).mono ?_; rintro e w' ⟨rfl, hf⟩; have Hf := Lib.hid hf; clear hf)
            go_ret
            exact ⟨rfl, I0.out.fr.then_no Hf.out⟩
theorem walk_QueueNone (W : World) (v0 : Value) (x0 : Int) (h0 : (RInt .i64) W (Ahead W.heap.size) [v0] x0) : Calls Try.prog 11 #[v0] W fun e w' => e = .returned (.bool true) ∧ Fr No W w' := by
  obtain ⟨h0, _⟩ := h0
  injection h0 with h0
  subst h0
  exact none_any _ _
theorem walk_QueueOrder (W : World) (v0 : Value) (x0 : List Int) (h0 : (RSl 1 (RInt .i64)) W (Ahead W.heap.size) [v0] x0) : Calls Try.prog 7 #[v0] W fun e w' => e = .returned (.bool true) ∧ Fr No W w' :=
  order_any _ _ _ h0
theorem walk_QueuePlays (W : World) (v0 : Value) (x0 : Int) (h0 : (RInt .i64) W (Ahead W.heap.size) [v0] x0) (v1 : Value) (x1 : (List (Int × Int))) (h1 : (RSl 2 (RTwo 1 (RInt .u8) (RInt .i64))) W (Ahead W.heap.size) [v1] x1) : Calls Try.prog 10 #[v0, v1] W fun e w' => e = .returned (.bool true) ∧ Fr No W w' := by
  obtain ⟨h0, _⟩ := h0
  injection h0 with h0
  subst h0
  exact plays_any _ _ _ _ h1
end Law29
end Go.Proofs.Ytckgkeicilcnmaa

