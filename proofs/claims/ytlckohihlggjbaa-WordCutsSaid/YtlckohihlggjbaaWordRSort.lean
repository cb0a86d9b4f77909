/- The reference's Sort. Printed by gen_rsort.py. -/
import Derived.Test.YtlckohihlggjbaaWordSortP
import Derived.Test.YtlckohihlggjbaaCuts
import Derived.Deep.CutRange
namespace Go.Proofs.Ytlckohihlggjbaa
open Go.RowKit
set_option linter.unusedVariables false
set_option linter.unusedSimpArgs false
namespace Word
theorem sort_len (l : List Str) : (sortR l).length ≤ l.length := by
  have : ∀ (l m : List Str), (l.foldl insR m).length ≤ m.length + l.length := by
    intro l
    induction l with
    | nil => intro m; simp
    | cons a l ih => intro m; have := ih (insR m a); have := ins_len m a; simp only [List.foldl_cons, List.length_cons]; omega
  have := this l []
  simpa [sortR] using this
theorem lss_run (W : World) (a b : Str) (c : Bool) (h : Op.bytesLess a b = c) : (binOp .lss 9 (.string ⟨a.toArray⟩) (.string ⟨b.toArray⟩)).run Try.prog W = .ok (.bool c) W := by
  have e : ∀ s : Str, (⟨s.toArray⟩ : ByteArray).toList = s := fun s => by simp
  have hu : Try.prog.underlying 9 = some .string := Try.underlying9
  simp [binOp, run_underlying hu, Op.stringOp, e, h]
set_option maxRecDepth 100000 in
set_option maxHeartbeats 4000000 in
theorem rsort_any (v : Value) (l : List Str) (w : World) (S : Nat → Prop) (hv : RSl 1 RStr w S [v] l) (hSl : ∀ k, S k → k < w.heap.size) (hl : l.length ≤ 1000) : Calls Try.prog 55 #[v] w fun e w' => ∃ v', e = .returned v' ∧ w'.ownsRow 0 9 1 v' (sortR l).length ((sortR l).map encS) ∧ Step No w (Of v') w' := by
  obtain ⟨A, cap, rfl, hc1, hc2, hel⟩ := hv.strs
  have HEL := Lib.hid hel
  clear hel hv
  go_enter Try.func55, Try.ntmps55
  go_wp2_with fail
  go_loopw [3, 4] (fun o iv wr => ∃ (i m : Nat) (out : List Str), iv = .int .i64 i ∧ i ≤ l.length ∧ m ≤ i ∧ Hid (out.length = m ∧ sortR (l.take i) = out) ∧ Hid (wr.ownsRow 0 9 1 o m (out.map encS) ∧ Step No w (Of o) wr)) (fun _ i _ => l.length - (intOf i).toNat)
  case atStart => exact ⟨0, 0, [], rfl, by omega, by omega, Lib.hid ⟨rfl, rfl⟩, Lib.hid ⟨World.ownsRow_nil _ _ _ _, Fr.refl _ _, fun k hk => by cases hk⟩⟩
  case round =>
    obtain ⟨i, m, out, rfl, hi, hm, Hd, HW⟩ := hrel
    obtain ⟨A1, c1, hu⟩ := own_form HW.out.1
    subst hu
    by_cases hil : i < l.length
    · obtain ⟨ad, rfl, hS, hc0, hlen⟩ := HEL.out i hil
      go_wp2_with fail
      go_loopw [5] (fun kv wr2 => ∃ (k : Nat), kv = .int .i64 k ∧ k ≤ m ∧ Hid (∀ y ∈ out.take k, Op.bytesLess y l[i] = true) ∧ Hid (wr2.ownsRow 0 9 1 (.slice A1 m c1) m (out.map encS) ∧ Step No w (Of (.slice A1 m c1)) wr2)) (fun i _ => m - (intOf i).toNat)
      case atStart => exact ⟨0, rfl, by omega, Lib.hid (by simp), HW⟩
      case round =>
        clear HW
        obtain ⟨k, rfl, hk, HB, HW⟩ := hrel
        by_cases hkm : k < m
        · obtain ⟨ad1, rfl, hn0⟩ := own_news HW.out.1 k (encS (out[k]'(by have := Hd.out.1; omega))) (by rw [List.getElem?_map, List.getElem?_eq_getElem (by have := Hd.out.1; omega)]; rfl)
          have y1 := (HW.out.2.1.cell (p := ad.add i) (by rw [block_add]; exact hSl _ hS) (fun h => h)).trans hc0
          obtain ⟨o, ho⟩ : ∃ o, out[k]'(by have := Hd.out.1; omega) = o := ⟨_, rfl⟩
          rw [ho] at hn0
          change wr.cell? (ad1.add k) = some (Value.string ⟨o.toArray⟩) at hn0
          have HO := Lib.hid ho
          clear ho
          obtain ⟨b, hb⟩ : ∃ b, Op.bytesLess o l[i] = b := ⟨_, rfl⟩
          have hls := fun W => lss_run W o l[i] b hb
          cases b
          · go_wp2_with fail
            go_quiet (fail)
            go_wp2_with fail
            have y1 : (wr.drewN nq).cell? _ = _ := y1
            have hn0 : (wr.drewN nq).cell? _ = _ := hn0
            obtain ⟨WR, hWR⟩ : ∃ W, wr.drewN nq = W := ⟨_, rfl⟩
            have HW2 : Hid (WR.ownsRow 0 9 1 (.slice (some ad1) m c1) m (out.map encS) ∧ Step No w (Of (.slice (some ad1) m c1)) WR) := Lib.hid (hWR ▸ ⟨HW.out.1, HW.out.2.1.drewN _, HW.out.2.2⟩)
            rw [hWR] at y1 hn0 ⊢
            clear hWR HW
            have HW := HW2
            clear HW2
            by_cases heq : o = l[i]
            · have e1 : (o == l[i]) = true := beq_iff_eq.2 heq
              have HE := Lib.hid (show insR out l[i] = out from by
                rw [ins_at (k := k) (by have := Hd.out.1; omega) HB.out (fun h => by rw [HO.out]; exact hb)]
                exact if_pos (by rw [List.getElem?_eq_getElem (by have := Hd.out.1; omega), HO.out, heq]))
              clear heq
              go_quiet (fail)
              go_wp2_with fail
              go_roundw
              case rel => exact ⟨i + 1, m, out, by go_num, by omega, by omega, Lib.hid ⟨Hd.out.1, by rw [sort_take hil, Hd.out.2, HE.out]⟩, Lib.hid ⟨HW.out.1, HW.out.2.1.drewN _, HW.out.2.2⟩⟩
              case measure => simp [intOf]; omega
            · have e1 : (o == l[i]) = false := beq_eq_false_iff_ne.2 heq
              have HQ := Lib.hid heq
              have HB0 := Lib.hid hb
              clear heq
              go_quiet (fail)
              obtain ⟨WR2, hWR⟩ : ∃ W, WR.drewN nq = W := ⟨_, rfl⟩
              have HW2 : Hid (WR2.ownsRow 0 9 1 (.slice (some ad1) m c1) m (out.map encS) ∧ Step No w (Of (.slice (some ad1) m c1)) WR2) := Lib.hid (hWR ▸ ⟨HW.out.1, HW.out.2.1.drewN _, HW.out.2.2⟩)
              rw [hWR]
              clear hWR HW
              have HW := HW2
              clear HW2 hb hls e1 hn0
              have HI := Lib.hid (show insR out l[i] = out.take k ++ l[i] :: out.drop k from by
                rw [ins_at (k := k) (by have := Hd.out.1; omega) HB.out (fun h => by rw [HO.out]; exact HB0.out)]
                exact if_neg (fun h => by rw [List.getElem?_eq_getElem (by have := Hd.out.1; omega), HO.out] at h; injection h with h; exact HQ.out h))
              obtain ⟨hmm, hmc, hcm⟩ := own_len HW.out.1
              obtain ⟨B, c2, hBc, hBc2, hs2, hnews, -, hBb⟩ := slice_from (P := Try.prog) (T := 67) (e := 9) (z := .string ByteArray.empty) (size := 1) (bytes := 16) Try.underlying67 (by kernel_rfl) infoS (A := (some ad1)) (m := m) (c := c1) (k := k) hk hmc
              have hs1 := fun W => slice_to (P := Try.prog) (T := 67) (e := 9) (z := .string ByteArray.empty) (size := 1) (bytes := 16) Try.underlying67 (by kernel_rfl) infoS (A := (some ad1)) (m := m) (c := c1) (k := k) (by omega) W
              have hn1 := Lib.hid (own_news HW.out.1)
              have HL := Lib.hid Hd.out.1
              have HN := Lib.hid hnews
              have y3 := (HW.out.2.1.cell (p := ad.add i) (by rw [block_add]; exact hSl _ hS) (fun h => h)).trans hc0
              clear hnews hBb y1
              go_upto_region 11 with (at_builtin; go_loud (refine wp_app rfl (.tmp 45) (.tmp 48) 67 rfl 9 (.string ByteArray.empty) 1 16 Try.underlying67 infoS rfl (by decide) (.slice none 0 0) 0 [] rfl (World.ownsRow_nil _ _ _ _) (B := (some ad1)) (m := k) (c := c1) (news := (out.map encS).take k) rfl (by rw [List.length_take, List.length_map]; have := HL.out; omega) (fun j u hj => news_take k hn1.out j u hj) (fun u hu => encS_one out u (List.mem_of_mem_take hu)) (by omega) (by unfold maxLen; omega) ?_; intro v3 w3 h1 h2 h3; have P3 := Lib.hid h1; have F3 := Lib.hid h2; have L3 := Lib.hid h3; clear h1 h2 h3))
              have P3 := Lib.hid (show w3.ownsRow 0 9 1 v3 k ((out.map encS).take k) from by have h := P3.out; rw [Nat.zero_add, List.nil_append] at h; exact h)
              obtain ⟨A3, c3, hu3⟩ := own_form P3.out
              subst hu3
              have HW3 : Hid (w3.ownsRow 0 9 1 (.slice (some ad1) m c1) m (out.map encS) ∧ Fr No w w3) := Lib.hid ⟨own_fr HW.out.1 F3.out (fun b hb hb2 => by cases hb2), HW.out.2.1.trans F3.out (fun b hb hl => by cases hb)⟩
              have y3 := (HW3.out.2.cell (p := ad.add i) (by rw [block_add]; exact hSl _ hS) (fun h => h)).trans hc0
              go_upto_region 12 with (at_builtin; go_loud (refine wp_push rfl (.tmp 50) (.tmp 55) 67 rfl 9 (.string ByteArray.empty) 1 16 Try.underlying67 infoS rfl (by decide) (.slice A3 k c3) k _ rfl P3.out #[.string ⟨l[i].toArray⟩] rfl rfl (one_lit rfl) (by omega) (by unfold maxLen; omega) ?_; intro g4 c4 w4 h1 h2 h3; have P4 := Lib.hid h1; have F4 := Lib.hid h2; have L4 := Lib.hid h3; clear h1 h2 h3))
              have hlt3 := Lib.hid (fun b (hb : Of (.slice (some ad1) m c1) b) => (HW.out.1.lt b hb).2)
              have HW4 : Hid (w4.ownsRow 0 9 1 (.slice (some ad1) m c1) m (out.map encS) ∧ Fr No w w4) := Lib.hid ⟨own_fr HW3.out.1 F4.out (fun b hb hb2 => by
                rcases L3.out b hb2 with h | h
                · cases h
                · have := hlt3.out b hb; have := h.1; omega), HW3.out.2.trans F4.out (fun b hb hl => by
                rcases L3.out b hb with h | h
                · cases h
                · have := h.1; have := HW.out.2.1.size; omega)⟩
              have hn4 := Lib.hid (HN.out w4 (out.map encS) (by rw [List.length_map]; have := HL.out; omega) (own_news HW4.out.1))
              go_wp2_with (at_builtin; go_loud (refine wp_app rfl (.tmp 57) (.tmp 60) 67 rfl 9 (.string ByteArray.empty) 1 16 Try.underlying67 infoS rfl (by decide) (.slice (some ⟨g4, 0, none⟩) (k + 1) c4) (k + 1) _ rfl P4.out (B := B) (m := m - k) (c := c2) (news := (out.map encS).drop (k * 1)) rfl (by rw [List.length_drop, List.length_map]; have := HL.out; omega) hn4.out (fun u hu => encS_one out u (List.mem_of_mem_drop hu)) (by omega) (by unfold maxLen; omega) ?_; intro v5 w5 h1 h2 h3; have P5 := Lib.hid h1; have F5 := Lib.hid h2; have L5 := Lib.hid h3; clear h1 h2 h3))
              go_roundw
              case rel =>
                have hst := Lib.hid (sort_take hil)
                have hl4 : ∀ g, Of v5 g → WR2.heap.size ≤ g := by
                  intro g hg
                  rcases L5.out g hg with h | h
                  · have h' : some g4 = some g := h
                    injection h' with h'
                    subst h'
                    rcases L4.out with h | h
                    · rcases L3.out _ h with h | h
                      · cases h
                      · exact h.1
                    · have := h.1; have := F3.out.size; omega
                  · have := h.1; have := F3.out.size; have := F4.out.size; omega
                refine ⟨i + 1, k + 1 + (m - k), insR out l[i], by go_num, by omega, by omega, Lib.hid ⟨?_, ?_⟩, Lib.hid ⟨?_, ?_, fun g hg => ?_⟩⟩
                · rw [HI.out, List.length_append, List.length_cons, List.length_take, List.length_drop]
                  have := HL.out; omega
                · rw [hst.out, Hd.out.2]
                · rw [HI.out, List.map_append, List.map_cons, List.map_take, List.map_drop]
                  have h5 := P5.out
                  rw [Nat.mul_one, List.append_assoc] at h5
                  exact h5
                · refine HW4.out.2.trans F5.out (fun b hb hl => ?_)
                  have h' : some g4 = some b := hb
                  injection h' with h'
                  subst h'
                  rcases L4.out with h | h
                  · rcases L3.out _ h with h | h
                    · cases h
                    · have := h.1; have := HW.out.2.1.size; omega
                  · have := h.1; have := F3.out.size; have := HW.out.2.1.size; omega
                · have h1 := hl4 g hg
                  have h2 := HW.out.2.1.size
                  refine .inr ⟨by omega, ?_⟩
                  exact (P5.out.lt g hg).2
              case measure => simp [intOf]; omega
          · have HB2 := Lib.hid (show ∀ y ∈ out.take (k + 1), Op.bytesLess y l[i] = true from by
              rw [List.take_succ_eq_append_getElem (by have := Hd.out.1; omega), HO.out]
              intro y hy
              rcases List.mem_append.1 hy with hy | hy
              · exact HB.out y hy
              · rw [List.mem_singleton.1 hy]; exact hb)
            go_wp2_with fail
            go_quiet (fail)
            go_wp2_with fail
            go_roundw
            case rel => exact ⟨k + 1, by go_num, by omega, HB2, Lib.hid ⟨HW.out.1, HW.out.2.1.drewN _, HW.out.2.2⟩⟩
            case measure => simp [intOf]; omega
        · have y3 := (HW.out.2.1.cell (p := ad.add i) (by rw [block_add]; exact hSl _ hS) (fun h => h)).trans hc0
          go_wp2_with fail
          go_quiet (fail)
          go_wp2_with fail
          obtain ⟨WR, hWR⟩ : ∃ W, wr.drewN nq = W := ⟨_, rfl⟩
          have HW2 : Hid (WR.ownsRow 0 9 1 (.slice A1 m c1) m (out.map encS) ∧ Step No w (Of (.slice A1 m c1)) WR) := Lib.hid (hWR ▸ ⟨HW.out.1, HW.out.2.1.drewN _, HW.out.2.2⟩)
          rw [hWR]
          clear hWR HW
          have HW := HW2
          clear HW2
          go_quiet (fail)
          obtain ⟨WR2, hWR⟩ : ∃ W, WR.drewN nq = W := ⟨_, rfl⟩
          have HW2 : Hid (WR2.ownsRow 0 9 1 (.slice A1 m c1) m (out.map encS) ∧ Step No w (Of (.slice A1 m c1)) WR2) := Lib.hid (hWR ▸ ⟨HW.out.1, HW.out.2.1.drewN _, HW.out.2.2⟩)
          rw [hWR]
          clear hWR HW
          have HW := HW2
          clear HW2
          have HI := Lib.hid (show insR out l[i] = out.take k ++ l[i] :: out.drop k from by
            rw [ins_at (k := k) (by have := Hd.out.1; omega) HB.out (fun h => absurd h (by have := Hd.out.1; omega))]
            exact if_neg (fun h => by rw [List.getElem?_eq_none (by have := Hd.out.1; omega)] at h; cases h))
          obtain ⟨hmm, hmc, hcm⟩ := own_len HW.out.1
          obtain ⟨B, c2, hBc, hBc2, hs2, hnews, -, hBb⟩ := slice_from (P := Try.prog) (T := 67) (e := 9) (z := .string ByteArray.empty) (size := 1) (bytes := 16) Try.underlying67 (by kernel_rfl) infoS (A := (A1)) (m := m) (c := c1) (k := k) hk hmc
          have hs1 := fun W => slice_to (P := Try.prog) (T := 67) (e := 9) (z := .string ByteArray.empty) (size := 1) (bytes := 16) Try.underlying67 (by kernel_rfl) infoS (A := (A1)) (m := m) (c := c1) (k := k) (by omega) W
          have hn1 := Lib.hid (own_news HW.out.1)
          have HL := Lib.hid Hd.out.1
          have HN := Lib.hid hnews
          have y3 := (HW.out.2.1.cell (p := ad.add i) (by rw [block_add]; exact hSl _ hS) (fun h => h)).trans hc0
          clear hnews hBb y3
          go_upto_region 11 with (at_builtin; go_loud (refine wp_app rfl (.tmp 45) (.tmp 48) 67 rfl 9 (.string ByteArray.empty) 1 16 Try.underlying67 infoS rfl (by decide) (.slice none 0 0) 0 [] rfl (World.ownsRow_nil _ _ _ _) (B := (A1)) (m := k) (c := c1) (news := (out.map encS).take k) rfl (by rw [List.length_take, List.length_map]; have := HL.out; omega) (fun j u hj => news_take k hn1.out j u hj) (fun u hu => encS_one out u (List.mem_of_mem_take hu)) (by omega) (by unfold maxLen; omega) ?_; intro v3 w3 h1 h2 h3; have P3 := Lib.hid h1; have F3 := Lib.hid h2; have L3 := Lib.hid h3; clear h1 h2 h3))
          have P3 := Lib.hid (show w3.ownsRow 0 9 1 v3 k ((out.map encS).take k) from by have h := P3.out; rw [Nat.zero_add, List.nil_append] at h; exact h)
          obtain ⟨A3, c3, hu3⟩ := own_form P3.out
          subst hu3
          have HW3 : Hid (w3.ownsRow 0 9 1 (.slice (A1) m c1) m (out.map encS) ∧ Fr No w w3) := Lib.hid ⟨own_fr HW.out.1 F3.out (fun b hb hb2 => by cases hb2), HW.out.2.1.trans F3.out (fun b hb hl => by cases hb)⟩
          have y3 := (HW3.out.2.cell (p := ad.add i) (by rw [block_add]; exact hSl _ hS) (fun h => h)).trans hc0
          go_upto_region 12 with (at_builtin; go_loud (refine wp_push rfl (.tmp 50) (.tmp 55) 67 rfl 9 (.string ByteArray.empty) 1 16 Try.underlying67 infoS rfl (by decide) (.slice A3 k c3) k _ rfl P3.out #[.string ⟨l[i].toArray⟩] rfl rfl (one_lit rfl) (by omega) (by unfold maxLen; omega) ?_; intro g4 c4 w4 h1 h2 h3; have P4 := Lib.hid h1; have F4 := Lib.hid h2; have L4 := Lib.hid h3; clear h1 h2 h3))
          have hlt3 := Lib.hid (fun b (hb : Of (.slice (A1) m c1) b) => (HW.out.1.lt b hb).2)
          have HW4 : Hid (w4.ownsRow 0 9 1 (.slice (A1) m c1) m (out.map encS) ∧ Fr No w w4) := Lib.hid ⟨own_fr HW3.out.1 F4.out (fun b hb hb2 => by
            rcases L3.out b hb2 with h | h
            · cases h
            · have := hlt3.out b hb; have := h.1; omega), HW3.out.2.trans F4.out (fun b hb hl => by
            rcases L3.out b hb with h | h
            · cases h
            · have := h.1; have := HW.out.2.1.size; omega)⟩
          have hn4 := Lib.hid (HN.out w4 (out.map encS) (by rw [List.length_map]; have := HL.out; omega) (own_news HW4.out.1))
          go_wp2_with (at_builtin; go_loud (refine wp_app rfl (.tmp 57) (.tmp 60) 67 rfl 9 (.string ByteArray.empty) 1 16 Try.underlying67 infoS rfl (by decide) (.slice (some ⟨g4, 0, none⟩) (k + 1) c4) (k + 1) _ rfl P4.out (B := B) (m := m - k) (c := c2) (news := (out.map encS).drop (k * 1)) rfl (by rw [List.length_drop, List.length_map]; have := HL.out; omega) hn4.out (fun u hu => encS_one out u (List.mem_of_mem_drop hu)) (by omega) (by unfold maxLen; omega) ?_; intro v5 w5 h1 h2 h3; have P5 := Lib.hid h1; have F5 := Lib.hid h2; have L5 := Lib.hid h3; clear h1 h2 h3))
          go_roundw
          case rel =>
            have hst := Lib.hid (sort_take hil)
            have hl4 : ∀ g, Of v5 g → WR2.heap.size ≤ g := by
              intro g hg
              rcases L5.out g hg with h | h
              · have h' : some g4 = some g := h
                injection h' with h'
                subst h'
                rcases L4.out with h | h
                · rcases L3.out _ h with h | h
                  · cases h
                  · exact h.1
                · have := h.1; have := F3.out.size; omega
              · have := h.1; have := F3.out.size; have := F4.out.size; omega
            refine ⟨i + 1, k + 1 + (m - k), insR out l[i], by go_num, by omega, by omega, Lib.hid ⟨?_, ?_⟩, Lib.hid ⟨?_, ?_, fun g hg => ?_⟩⟩
            · rw [HI.out, List.length_append, List.length_cons, List.length_take, List.length_drop]
              have := HL.out; omega
            · rw [hst.out, Hd.out.2]
            · rw [HI.out, List.map_append, List.map_cons, List.map_take, List.map_drop]
              have h5 := P5.out
              rw [Nat.mul_one, List.append_assoc] at h5
              exact h5
            · refine HW4.out.2.trans F5.out (fun b hb hl => ?_)
              have h' : some g4 = some b := hb
              injection h' with h'
              subst h'
              rcases L4.out with h | h
              · rcases L3.out _ h with h | h
                · cases h
                · have := h.1; have := HW.out.2.1.size; omega
              · have := h.1; have := F3.out.size; have := HW.out.2.1.size; omega
            · have h1 := hl4 g hg
              have h2 := HW.out.2.1.size
              refine .inr ⟨by omega, ?_⟩
              exact (P5.out.lt g hg).2
          case measure => simp [intOf]; omega
    · have HE := Lib.hid (show sortR l = out ∧ out.length = m from ⟨by have := Hd.out.2; rw [List.take_of_length_le (by omega)] at this; exact this, Hd.out.1⟩)
      go_wp2_with fail
      go_ret
      refine ⟨_, rfl, ?_, HW.out.2⟩
      rw [HE.out.1, HE.out.2]
      exact HW.out.1
end Word
end Go.Proofs.Ytlckohihlggjbaa
