/- Package seat: Bump. Printed by gen_seatc.py. -/
import Derived.Test.YtepnjmgacfjhiaaSeatA
import Derived.Deep.RegionHeld3
namespace Go.Proofs.Ytepnjmgacfjhiaa
open Go.RowKit
set_option linter.unusedVariables false
set_option linter.unusedSimpArgs false
namespace Seat
open Sls
section
variable {w : World} {F : Nat → Prop} {b : Nat} {s : St}
set_option maxRecDepth 100000 in
set_option maxHeartbeats 4000000 in
theorem bump_any (h : SAt w F b s) (hi : Inv s) (id : Int) : Calls Try.prog 47 #[.pointer (some ⟨b, 0, none⟩), .int .i64 id] w (Tells (takeR s id false) F b w) := by
  have HW := Lib.hid (wants_any h id)
  have H := Lib.hid h
  obtain ⟨c, hc⟩ : ∃ c, wantsR s id = c := ⟨_, rfl⟩
  rw [hc] at HW
  by_cases h0 : c = 0
  · subst h0
    rw [if_pos rfl] at HW
    obtain ⟨lv, hlv⟩ : ∃ lv, lv = levelR s.L id := ⟨_, rfl⟩
    rw [← hlv] at HW
    have HB := Lib.hid (fun (X : World) (hf : Fr No w X) => become_r (H.out.no hf) hi id)
    rcases hi.wr_cases with ⟨g1, -⟩ | ⟨g1, g2, -⟩
    · have e : takeR s id false = ((becomeR s id).1, (becomeR s id).2, 0) := by unfold takeR; rw [if_neg (by simp [hc]), if_neg (by unfold takeB; rw [if_neg (by decide)]; simp; omega)]
      rw [e]
      have HHE := Lib.hid (show (s.wr != -1) = false by rw [g1]; rfl)
      clear h hc e hlv g1
      go_enter Try.func47, Try.ntmps47
      go_wp2_with fail
      refine HW.out.mono ?_
      rintro e w1 ⟨rfl, hf⟩
      have HF := Lib.hid hf
      have HD := Lib.hid (fun (X : World) (hx : Fr No w1 X) => held_any (H.out.no (HF.out.then_no hx)))
      simp only [HHE.out] at HD
      clear hf
      go_upto_region 4 with (fail)
      go_quiet ((go_at_call 52; exact quiet_left ((held_any (H.out.no (HF.out.drewN _))).mono fun e w' ⟨he, hw⟩ => ⟨he.trans (by rw [HHE.out]), hw⟩)))
      go_wp2_with fail
      refine (HB.out _ (HF.out.drewN _)).mono ?_
      rintro e w3 ⟨F', v', rfl, hr, ha, hs⟩
      have R3 := Lib.hid hr
      have A3 := Lib.hid ha
      have S3 := Lib.hid hs
      clear hr ha hs
      go_wp2_with fail
      go_ret2
      exact tells_of (Step.no (HF.out.drewN _)) F' R3.out A3.out S3.out
    · obtain ⟨v, q, G, hq⟩ := h
      obtain ⟨A, cc, rfl⟩ := hq.form
      have HQ := Lib.hid hq
      rcases placeM_cases s.L s.wr with ⟨-, g3, -⟩ | ⟨k, hk, p1, -, p3, p4, -⟩
      · rw [g2] at g3; cases g3
      have HHE := Lib.hid (show (s.wr != -1) = true by rw [hi.held]; exact decide_eq_true g1)
      obtain ⟨ad, hA, -, m0, m1⟩ := mem_at (fun _ _ _ _ h => h) (own_rm hq.sp.row) (own_lt hq.sp.row) (Fr.refl No w) hk
      subst hA
      have hadl : ad.block < w.heap.size := own_lt hq.sp.row _ rfl
      rw [← p4] at m1
      obtain ⟨lw, hlw⟩ : ∃ lw, lw = levelR s.L s.wr := ⟨_, rfl⟩
      obtain ⟨wr, hwr⟩ : ∃ wr, wr = s.wr := ⟨_, rfl⟩
      obtain ⟨n, hn⟩ : ∃ n, n = s.L.length := ⟨_, rfl⟩
      rw [← hlw] at m1
      rw [← hwr] at p1
      rw [← hn] at hk
      have HN := Lib.hid hn
      have HWR := Lib.hid hwr
      have M1 := Lib.hid m1
      have HFI := Lib.hid (fun (X : World) (hf : Fr No w X) => find_any (H.out.no hf) wr)
      simp only [p1] at HFI
      have hbl := hq.blt
      have hcs : (lv ≤ lw ∧ takeR s id false = (s, [], 10)) ∨ (lw < lv ∧ takeR s id false = ((becomeR s id).1, (becomeR s id).2, 0)) := by
        have tb : takeB s id false = decide (0 ≤ s.wr ∧ lv ≤ lw) := by
          rw [hlv, hlw]
          rfl
        unfold takeR
        rw [if_neg (by simp [hc]), tb]
        by_cases g : lv ≤ lw
        · exact .inl ⟨g, if_pos (decide_eq_true ⟨g1, g⟩)⟩
        · exact .inr ⟨by omega, if_neg (by simp; omega)⟩
      have HK0 := Lib.hid (fun (X : World) (hf : Fr No w X) => (show X.cell? ⟨b, 0, none⟩ = some (.slice (some ad) n cc) ∧ X.cell? ⟨b, 2, none⟩ = some (.int .i64 wr) ∧ X.cell? ⟨(ad.add (k * 2)).block, (ad.add (k * 2)).off + 1, none⟩ = some (.int .i64 lw) from ⟨by rw [HN.out]; exact (HQ.out.no hf).c0, by rw [HWR.out]; exact (HQ.out.no hf).c2, (hf.cell (p := ⟨(ad.add (k * 2)).block, (ad.add (k * 2)).off + 1, none⟩) (by show (ad.add (k * 2)).block < _; rw [block_add]; exact hadl) (fun h => h)).trans M1.out⟩))
      clear hq hc hlv g1 g2 p1 p3 p4 hlw hwr hn m0 m1
      rcases hcs with ⟨hcmp, e⟩ | ⟨hcmp, e⟩
      all_goals
        rw [e]
        clear e
        go_enter Try.func47, Try.ntmps47
        go_wp2_with fail
        refine HW.out.mono ?_
        rintro e w1 ⟨rfl, hf⟩
        have HF := Lib.hid hf
        have HD := Lib.hid (fun (X : World) (hx : Fr No w1 X) => held_any (H.out.no (HF.out.then_no hx)))
        simp only [HHE.out] at HD
        have HF2 := Lib.hid (fun (X : World) (hx : Fr No w1 X) => HFI.out X (HF.out.then_no hx))
        have HK := Lib.hid (fun (X : World) (hx : Fr No w1 X) => HK0.out X (HF.out.then_no hx))
        have hK1 := HK.out w1 (Fr.refl _ _)
        obtain ⟨c0, c2, m1⟩ := hK1
        clear hf
        go_upto_region 4 with (fail)
        go_region_held3 (fun X => X.cell? ⟨b, 0, none⟩ = some (.slice (some ad) n cc) ∧ X.cell? ⟨b, 2, none⟩ = some (.int .i64 wr) ∧ X.cell? ⟨(ad.add (k * 2)).block, (ad.add (k * 2)).off + 1, none⟩ = some (.int .i64 lw)) ((refine HK.out _ ?_; repeat' (first | with_reducible assumption | with_reducible exact Fr.refl _ _ | with_reducible refine Fr.drew ?_ | with_reducible refine Fr.alloc ?_ _))) (first | (go_at_call 52; with_reducible refine (HD.out _ (by repeat' (first | with_reducible assumption | with_reducible exact Fr.refl _ _ | with_reducible refine Fr.drew ?_ | with_reducible refine Fr.alloc ?_ _))).mono ?_; rintro e wa ⟨rfl, rfl⟩) | (go_at_call 56; with_reducible refine (HF2.out _ (by repeat' (first | with_reducible assumption | with_reducible exact Fr.refl _ _ | with_reducible refine Fr.drew ?_ | with_reducible refine Fr.alloc ?_ _))).mono ?_; rintro e wb ⟨rfl, hf⟩; have hfb : Fr No w1 wb := (Fr.then_no (by repeat' (first | with_reducible assumption | with_reducible exact Fr.refl _ _ | with_reducible refine Fr.drew ?_ | with_reducible refine Fr.alloc ?_ _)) hf); clear hf))
        all_goals
          go_wp2_with fail
          first
            | (go_ret2; exact Tells.no H.out (HF.out.then_no (by repeat' (first | with_reducible assumption | with_reducible exact Fr.refl _ _ | with_reducible refine Fr.drew ?_ | with_reducible refine Fr.alloc ?_ _))))
            | (refine (HB.out _ (HF.out.then_no (by repeat' (first | with_reducible assumption | with_reducible exact Fr.refl _ _ | with_reducible refine Fr.drew ?_ | with_reducible refine Fr.alloc ?_ _)))).mono ?_
               rintro e w3 ⟨F', v', rfl, hr, ha, hs⟩
               have R3 := Lib.hid hr
               have A3 := Lib.hid ha
               have S3 := Lib.hid hs
               clear hr ha hs
               go_wp2_with fail
               go_ret2
               exact tells_of (Step.no (HF.out.then_no (by repeat' (first | with_reducible assumption | with_reducible exact Fr.refl _ _ | with_reducible refine Fr.drew ?_ | with_reducible refine Fr.alloc ?_ _)))) F' R3.out A3.out S3.out)
  · have e : takeR s id false = (s, [], c) := by unfold takeR; rw [if_pos (by rw [hc]; exact h0), hc]
    rw [e]
    rw [if_neg h0] at HW
    have hcn : (c != 0) = true := by simpa using h0
    clear h hc e h0
    go_enter Try.func47, Try.ntmps47
    go_wp2_with fail
    refine HW.out.mono ?_
    rintro e w1 ⟨rfl, hf⟩
    have HF := Lib.hid hf
    clear hf
    go_wp2_with fail
    go_ret2
    exact Tells.no H.out HF.out
end
end Seat
end Go.Proofs.Ytepnjmgacfjhiaa
