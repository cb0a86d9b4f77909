/- Package brk: Read. Printed by gen_brkr.py. -/
import Derived.Test.YtnfkkonmhinlcaaBrkR
import Derived.Deep.LoopGhost
import Derived.Outline
import Derived.BigQuiet
import Derived.Deep.CutRange
import Derived.Deep.RegionHeld3
import Derived.Test.YtnfkkonmhinlcaaStill
namespace Go.Proofs.Ytnfkkonmhinlcaa
open Go.RowKit
set_option linter.unusedVariables false
set_option linter.unusedSimpArgs false
namespace Brk
open Digit Sls
theorem meth_send (q : Str) (w : World) : (method 254 119 (.string ⟨q.toArray⟩) "wheelhouse/brk.op").run Try.prog w = .ok (98, .string ⟨q.toArray⟩) w := by kernel_rfl
theorem meth_wait (n : Int) (w : World) : (method 254 121 (.int .i64 n) "wheelhouse/brk.op").run Try.prog w = .ok (99, .int .i64 n) w := by kernel_rfl
theorem meth_stop (w : World) : (method 254 132 (.agg #[]) "wheelhouse/brk.op").run Try.prog w = .ok (100, .agg #[]) w := by kernel_rfl
set_option maxRecDepth 100000 in
set_option maxHeartbeats 8000000 in
theorem read_any (s : Str) (hl : s.length ≤ 100000) (w : World) : Calls Try.prog 28 #[.string ⟨s.toArray⟩] w (ReadPost (readR s) w) := by
  by_cases h255 : 255 < s.length
  · have HR := Lib.hid (show readR s = ([], 5) by unfold readR; rw [if_pos h255])
    go_enter Try.func28, Try.ntmps28
    go_wp2
    go_ret2
    exact ⟨.slice none 0 0, by rw [HR.out]; rfl, by rw [HR.out]; exact Grow.start _ _ _ _⟩
  · have hl255 : s.length ≤ 255 := by omega
    go_enter Try.func28, Try.ntmps28
    go_wp2_with fail
    go_loopg [0, 4] 255 (fun g sv lv wr => ∃ (t : Str) (acc : List Op) (j : Nat), sv = .string ⟨t.toArray⟩ ∧ t.length ≤ g ∧ g ≤ 255 ∧ j ≤ 255 ∧ Hid (j = acc.length) ∧ Hid (Inv s t acc) ∧ Hid (GrS w wr lv acc))
    case atStart => exact ⟨s, [], 0, rfl, hl255, by omega, by omega, rfl, Inv.start s, Grow.start _ _ _ _⟩
    case round =>
      obtain ⟨t, acc, j, rfl, htg, hg, hj, HJ, HI, HG⟩ := hrel
      obtain ⟨A, c, rfl⟩ := HG.out.form
      rw [← HJ.out] at HG ⊢
      by_cases ht : t = []
      · subst ht
        have HR := Lib.hid (HI.out.done hl255)
        have HFN := Lib.hid HI.out.fine
        obtain ⟨wo, hwo⟩ : ∃ wo, wo = wr := ⟨_, rfl⟩
        subst hwo
        obtain ⟨GK, hGK⟩ : ∃ GK, GK = gk := ⟨_, rfl⟩
        subst hGK
        clear HI
        go_wp2_with fail
        go_loopg [10, 54] j (fun g ov iv wx => ∃ k : Nat, iv = .int .i64 k ∧ k ≤ j ∧ g = j - k ∧ Hid (GrO wo wx ov (acc.take k)))
        case atStart => exact ⟨0, rfl, by omega, rfl, Grow.start _ _ _ _⟩
        case round =>
          obtain ⟨k, rfl, hk, hgk, HO⟩ := hrel
          by_cases hlt : k < j
          · obtain ⟨B, d, rfl⟩ := HO.out.form
            have hka : k < acc.length := by rw [← HJ.out]; exact hlt
            have HLT := Lib.hid (show k = (acc.take k).length by rw [List.length_take]; omega)
            rw [← HLT.out] at HO ⊢
            obtain ⟨ad, hA, had⟩ : ∃ ad, A = some ad ∧ ∃ g, ad = ⟨g, 0, none⟩ := by
              rcases HG.out.own.2 with ⟨_, h0⟩ | ⟨g, cap, _, h1, _⟩
              · rw [← HJ.out] at h0; omega
              · injection h1 with h1
                exact ⟨_, h1, g, rfl⟩
            subst hA
            obtain ⟨g0, had⟩ := had
            have hcell : wr.cell? (ad.add k) = some (encI acc[k]) := by
              have hG := HG.out
              subst had
              rw [Addr.add_lit, Nat.zero_add]
              exact (HO.out.fr.cell (p := ⟨g0, k, none⟩) hG.lt (fun h => h)).trans (hG.at HJ.out hka)
            have hx := HFN.out _ (List.getElem_mem hka)
            have HTK := Lib.hid (show acc.take (k + 1) = acc.take k ++ [acc[k]] from List.take_succ_eq_append_getElem hka)
            obtain ⟨x, hxe⟩ : ∃ x, x = acc[k] := ⟨_, rfl⟩
            rw [← hxe] at hcell hx HTK
            clear had hxe hka
            have G1 := Lib.hid (show wr.ownsRow 0 69 3 (.slice B k d) k ((acc.take k).flatMap encO) from by have := HO.out.own; rw [← HLT.out] at this; exact this)
            cases hx with
            | send q hq =>
              rw [encI_send] at hcell
              have hme := fun W => meth_send q W
              have hop := fun W => op_sends q W
              go_wp2_with fail
              refine (hop _).mono ?_
              rintro e w1 ⟨rfl, hf⟩
              have O1 := Lib.hid (HO.out.no hf)
              have G1 := Lib.hid (own_fr (G := No) G1.out hf (fun _ _ h => h))
              clear hf
              unfold vOp
              go_wp2_with (at_builtin; go_loud (refine wp_push rfl (.tmp 58) (.tmp 61) 33 rfl 69 (.agg #[.int .i64 0, .string ByteArray.empty, .int .i64 0]) 3 32 Try.underlying33 infoO rfl (by decide) (.slice B k d) _ _ rfl G1.out #[.int .i64 1, .string ⟨q.toArray⟩, .int .i64 0] rfl rfl (by intro u hu; simp at hu; rcases hu with rfl | rfl | rfl <;> rfl) (by omega) (by unfold maxLen; omega) ?_; intro g4 cap4 w4 p1 p2 p3; have P1 := Lib.hid p1; have P2 := Lib.hid p2; have P3 := Lib.hid p3; clear p1 p2 p3))
              go_roundg (j - (k + 1))
              case measure => omega
              case rel => exact ⟨k + 1, by go_num, by omega, rfl, (by
                rw [HTK.out]
                have e := HLT.out
                have g := O1.out
                have p1 := P1.out
                have p2 := P2.out
                have p3 := P3.out
                generalize acc.take k = l0 at e g p1 p2 p3 ⊢
                subst e
                exact g.push p1 p2 p3)⟩
            | wait m hm =>
              rw [encI_wait] at hcell
              have hme := fun W => meth_wait (m : Nat) W
              have hop := fun W => op_waits (m : Nat) W
              go_wp2_with fail
              refine (hop _).mono ?_
              rintro e w1 ⟨rfl, hf⟩
              have O1 := Lib.hid (HO.out.no hf)
              have G1 := Lib.hid (own_fr (G := No) G1.out hf (fun _ _ h => h))
              clear hf
              unfold vOp
              go_wp2_with (at_builtin; go_loud (refine wp_push rfl (.tmp 58) (.tmp 61) 33 rfl 69 (.agg #[.int .i64 0, .string ByteArray.empty, .int .i64 0]) 3 32 Try.underlying33 infoO rfl (by decide) (.slice B k d) _ _ rfl G1.out #[.int .i64 2, .string ⟨#[]⟩, .int .i64 m] rfl rfl (by intro u hu; simp at hu; rcases hu with rfl | rfl | rfl <;> rfl) (by omega) (by unfold maxLen; omega) ?_; intro g4 cap4 w4 p1 p2 p3; have P1 := Lib.hid p1; have P2 := Lib.hid p2; have P3 := Lib.hid p3; clear p1 p2 p3))
              go_roundg (j - (k + 1))
              case measure => omega
              case rel => exact ⟨k + 1, by go_num, by omega, rfl, (by
                rw [HTK.out]
                have e := HLT.out
                have g := O1.out
                have p1 := P1.out
                have p2 := P2.out
                have p3 := P3.out
                generalize acc.take k = l0 at e g p1 p2 p3 ⊢
                subst e
                exact g.push p1 p2 p3)⟩
            | stop =>
              rw [encI_stop] at hcell
              have hme := fun W => meth_stop  W
              have hop := fun W => op_stops W
              go_wp2_with fail
              refine (hop _).mono ?_
              rintro e w1 ⟨rfl, hf⟩
              have O1 := Lib.hid (HO.out.no hf)
              have G1 := Lib.hid (own_fr (G := No) G1.out hf (fun _ _ h => h))
              clear hf
              unfold vOp
              go_wp2_with (at_builtin; go_loud (refine wp_push rfl (.tmp 58) (.tmp 61) 33 rfl 69 (.agg #[.int .i64 0, .string ByteArray.empty, .int .i64 0]) 3 32 Try.underlying33 infoO rfl (by decide) (.slice B k d) _ _ rfl G1.out #[.int .i64 3, .string ⟨#[]⟩, .int .i64 0] rfl rfl (by intro u hu; simp at hu; rcases hu with rfl | rfl | rfl <;> rfl) (by omega) (by unfold maxLen; omega) ?_; intro g4 cap4 w4 p1 p2 p3; have P1 := Lib.hid p1; have P2 := Lib.hid p2; have P3 := Lib.hid p3; clear p1 p2 p3))
              go_roundg (j - (k + 1))
              case measure => omega
              case rel => exact ⟨k + 1, by go_num, by omega, rfl, (by
                rw [HTK.out]
                have e := HLT.out
                have g := O1.out
                have p1 := P1.out
                have p2 := P2.out
                have p3 := P3.out
                generalize acc.take k = l0 at e g p1 p2 p3 ⊢
                subst e
                exact g.push p1 p2 p3)⟩
          · have hkj : k = j := by omega
            subst hkj
            have HE := Lib.hid (show acc.take k = acc by rw [List.take_of_length_le (by rw [HJ.out]; exact Nat.le_refl _)])
            have HGO := Lib.hid (gro_in HO.out HE.out HG.out.fr)
            go_wp2_with fail
            go_ret2
            exact ⟨_, by rw [HR.out]; rfl, by rw [HR.out]; exact HGO.out⟩
      · have htb : t.isEmpty = false := by simpa using ht
        have HT := Lib.hid ht
        have hjl : j + t.length ≤ s.length := by rw [HJ.out]; exact HI.out.len
        obtain ⟨x, n, hp⟩ : ∃ x n, stepR t = (x, n) := ⟨_, _, rfl⟩
        have Hc := Lib.hid (fun W => one_any t ht (by omega) W)
        rw [hp] at Hc
        by_cases hn : n = 0
        · subst hn
          have HB := Lib.hid (HI.out.bad hl255 ht (by rw [hp]))
          have hS : encS (x, 0) = .nilIface := rfl
          rw [hS] at Hc
          clear hp ht hS
          go_wp2_with fail
          refine (Hc.out _).mono ?_
          rintro e w1 ⟨rfl, hf⟩
          have HF := Lib.hid (HG.out.fr.then_no hf)
          clear hf
          go_wp2_with fail
          go_ret2
          exact ⟨.slice none 0 0, by rw [HB.out]; rfl, by rw [HB.out]; exact (Grow.start _ _ _ _).no HF.out⟩
        · have hS : encS (x, n) = encI x := if_neg hn
          rw [hS] at Hc
          have HN := Lib.hid (HI.out.on ht (by rw [hp]; exact hn))
          obtain ⟨hx1, hx2⟩ := step_one t (by rw [hp]; exact hn)
          rw [hp] at hx1 hx2 HN
          have hsl := fun W : World => slice_from (P := Try.prog) W 9 Try.underlying9 t (n : Nat) n rfl hx2
          have htl : (t.drop n).length + n = t.length := by rw [List.length_drop]; simp only at hx2; omega
          obtain ⟨t2, ht2⟩ : ∃ t2, t2 = t.drop n := ⟨_, rfl⟩
          simp only at HN hx1 hx2
          rw [← ht2] at hsl HN htl
          have HX := Lib.hid hx1
          have hnb : ((n : Int) == 0) = false := by simpa using hn
          obtain ⟨TX, VX, hTX⟩ := encI_form x
          rw [hTX] at Hc
          have HTX := Lib.hid hTX
          clear hS hp ht ht2 hx1 hTX
          rcases snoc_cases acc with rfl | ⟨a, y, rfl⟩
          · obtain rfl : j = 0 := HJ.out
            go_wp2_with fail
            refine (Hc.out _).mono ?_
            rintro e w1 ⟨rfl, hf⟩
            have G0 := Lib.hid (HG.out.no hf)
            have G1 := Lib.hid (show w1.ownsRow 0 99 1 (.slice A 0 c) 0 [] from G0.out.own)
            clear hf
            go_wp2_with (at_builtin; go_loud (refine wp_push rfl (.tmp 48) (.tmp 50) 97 rfl 99 .nilIface 1 16 Try.underlying97 infoS rfl (by decide) (.slice A 0 c) _ _ rfl G1.out #[.iface TX VX] rfl rfl (by intro u hu; simp at hu; rw [hu]; rfl) (by omega) (by unfold maxLen; omega) ?_; intro g4 cap4 w4 p1 p2 p3; have P1 := Lib.hid p1; have P2 := Lib.hid p2; have P3 := Lib.hid p3; clear p1 p2 p3))
            go_roundg t2.length
            case measure => omega
            case rel => exact ⟨t2, [x], 1, by first | rfl | (simp; done), Nat.le_refl _, by omega, by omega, rfl, HN, (by have p1 := P1.out; have e : encL x = [.iface TX VX] := (by unfold encL; rw [HTX.out]); exact G0.out.push (x := x) (by rw [e]; exact p1) P2.out P3.out)⟩
          · obtain ⟨i, hi⟩ : ∃ i, i = a.length := ⟨_, rfl⟩
            obtain rfl : j = i + 1 := by rw [HJ.out, hi]; simp
            have HJ2 : Hid (i + 1 = (a ++ [y]).length) := HJ
            obtain ⟨ad, hA, had⟩ : ∃ ad, A = some ad ∧ ∃ g, ad = ⟨g, 0, none⟩ := by
              rcases HG.out.own.2 with ⟨_, h0⟩ | ⟨g, cap, _, h1, _⟩
              · rw [← HJ2.out] at h0; omega
              · injection h1 with h1
                exact ⟨_, h1, g, rfl⟩
            subst hA
            obtain ⟨g0, had⟩ := had
            have HAD := Lib.hid had
            have hy : Fine y := HI.out.fine y (by simp)
            have hyb := HI.out.el (x := y) (by simp)
            have hxb := HX.out.bounds
            have hcell : wr.cell? (ad.add i) = some (encI y) := by
              have hG := HG.out
              subst had
              have := hG.at HJ2.out (k := i) (by simp [hi])
              rw [Addr.add_lit, Nat.zero_add, this]
              simp [hi]
            have hlt : (ad.add i).block < wr.heap.size := by
              have hG := HG.out
              subst had
              rw [block_add]
              exact hG.lt
            have HJN := Lib.hid (fun W => join_any hy HX.out.fine (by omega) (by omega) W)
            obtain ⟨TY, VY, hTY⟩ := encI_form y
            obtain ⟨TZ, VZ, hTZ⟩ := encI_form (joinR y x)
            rw [hTY] at hcell HJN
            rw [HTX.out] at HJN
            have Hcell := Lib.hid hcell
            have HTZ := Lib.hid hTZ
            have HI2 := Lib.hid hi
            clear hcell had hy hyb hxb hTY hTZ hi
            by_cases hjn : y.1 = x.1 ∧ x.1 < 3
            · have hv : joinV y x = .tuple #[.iface TZ VZ, .bool true] := by rw [← HTZ.out]; exact if_pos hjn
              have HPU := Lib.hid (push_join (l := a) hjn.1 hjn.2)
              rw [hv] at HJN
              clear hv hjn
              go_wp2_with fail
              refine (Hc.out _).mono ?_
              rintro e w1 ⟨rfl, hf⟩
              have c1 := (hf.cell (p := ad.add i) hlt (fun h => h)).trans Hcell.out
              have G0 := Lib.hid (HG.out.no hf)
              have f1 : w1.frozen? (ad.add i) = false := by
                have hG := G0.out
                have := HAD.out
                subst this
                rw [Addr.add_lit, Nat.zero_add]
                exact own_frozen (by have := hG.own; rw [← HJ2.out] at this; exact this) i
              clear hf
              go_wp2_with fail
              refine (HJN.out _).mono ?_
              rintro e w2 ⟨rfl, rfl⟩
              go_wp2_with fail
              go_roundg t2.length
              case measure => omega
              case rel => exact ⟨t2, a ++ [joinR y x], i + 1, by first | rfl | (simp; done), Nat.le_refl _, by omega, by omega, (show i + 1 = _ by rw [HJ2.out]; simp), (by have h := HN.out; rw [HPU.out] at h; exact h), (by
                have hG := G0.out
                have := HAD.out
                subst this
                have hii := HI2.out
                have hz := HTZ.out
                rw [Addr.add_lit, Nat.zero_add]
                subst hii
                rw [← hz]
                exact GrS.set hG (by simp))⟩
            · have hv : joinV y x = .tuple #[.nilIface, .bool false] := if_neg hjn
              have HPU := Lib.hid (push_on (l := a) hjn)
              rw [hv] at HJN
              clear hv hjn
              go_wp2_with fail
              refine (Hc.out _).mono ?_
              rintro e w1 ⟨rfl, hf⟩
              have c1 := (hf.cell (p := ad.add i) hlt (fun h => h)).trans Hcell.out
              have G0 := Lib.hid (HG.out.no hf)
              have G1 := Lib.hid (show w1.ownsRow 0 99 1 (.slice (some ad) (i + 1) c) (i + 1) ((a ++ [y]).flatMap encL) from by rw [HJ2.out]; have := G0.out.own; rw [← HJ2.out] at this ⊢; exact this)
              clear hf
              go_wp2_with fail
              refine (HJN.out _).mono ?_
              rintro e w2 ⟨rfl, rfl⟩
              go_wp2_with (at_builtin; go_loud (refine wp_push rfl (.tmp 48) (.tmp 50) 97 rfl 99 .nilIface 1 16 Try.underlying97 infoS rfl (by decide) (.slice (some ad) (i + 1) c) _ _ rfl G1.out #[.iface TX VX] rfl rfl (by intro u hu; simp at hu; rw [hu]; rfl) (by omega) (by unfold maxLen; omega) ?_; intro g4 cap4 w4 p1 p2 p3; have P1 := Lib.hid p1; have P2 := Lib.hid p2; have P3 := Lib.hid p3; clear p1 p2 p3))
              go_roundg t2.length
              case measure => omega
              case rel => exact ⟨t2, a ++ [y] ++ [x], i + 1 + 1, by first | rfl | (simp; done), Nat.le_refl _, by omega, by omega, (show i + 1 + 1 = _ by rw [HJ2.out]; simp), (by have h := HN.out; rw [HPU.out] at h; exact h), (by
                have e := HJ2.out
                have g := G0.out
                have p1 := P1.out
                have p2 := P2.out
                have p3 := P3.out
                have e2 : encL x = [.iface TX VX] := by unfold encL; rw [HTX.out]
                rw [e] at g p1 p2 p3 ⊢
                exact g.push (x := x) (by rw [e2]; exact p1) p2 p3)⟩
end Brk
end Go.Proofs.Ytnfkkonmhinlcaa
