/- Rights: rows that are the same, and the sample. -/
import Derived.Test.YtompphakagoaeaaRtY
import Derived.Test.YtompphakagoaeaaFqE
import Derived.Deep.CutRange
namespace Go.Proofs.Ytompphakagoaeaa
open Go.RowKit
set_option linter.unusedVariables false
set_option linter.unusedSimpArgs false
namespace Conf
open Word
theorem usual_any (w : World) : Calls Try.prog 43 #[] w fun e w' => e = .returned (.agg #[.string ByteArray.empty, .int .i64 1, .int .i64 20, .int .i64 4096, .int .i64 3, .int .i64 4096, .int .i64 1, .int .i64 64, .int .i64 4, .string ByteArray.empty]) ∧ Fr No w w' := by
  go_enter Try.func43, Try.ntmps43
  go_wp2_with fail
  have y := fun i => (Blk.new w 50 #[.string ⟨#[]⟩, .int .i64 1, .int .i64 20, .int .i64 4096, .int .i64 3, .int .i64 4096, .int .i64 1, .int .i64 64, .int .i64 4, .string ⟨#[]⟩]).cell i
  have z := fun i => (Blk.new w 50 #[.string ⟨#[]⟩, .int .i64 1, .int .i64 20, .int .i64 4096, .int .i64 3, .int .i64 4096, .int .i64 1, .int .i64 64, .int .i64 4, .string ⟨#[]⟩]).frozen i
  have hF : Fr No w (w.alloc (.cells #[.string ⟨#[]⟩, .int .i64 1, .int .i64 20, .int .i64 4096, .int .i64 3, .int .i64 4096, .int .i64 1, .int .i64 64, .int .i64 4, .string ⟨#[]⟩] 50)) := (Fr.refl No w).alloc _
  refine bodyPost_ret (v := .agg #[.string ByteArray.empty, .int .i64 1, .int .i64 20, .int .i64 4096, .int .i64 3, .int .i64 4096, .int .i64 1, .int .i64 64, .int .i64 4, .string ByteArray.empty]) ?_ rfl ⟨rfl, hF⟩
  have y0 := y 0
  have y1 := y 1
  have y2 := y 2
  have y3 := y 3
  have y4 := y 4
  have y5 := y 5
  have y6 := y 6
  have y7 := y 7
  have y8 := y 8
  have y9 := y 9
  simp only [List.getElem?_toArray, List.getElem?_cons_zero, List.getElem?_cons_succ] at y0 y1 y2 y3 y4 y5 y6 y7 y8 y9
  simp [results, Try.f43, go_sem, y0, y1, y2, y3, y4, y5, y6, y7, y8, y9]
  try rfl
/-- A row that was just made. -/
theorem blk_sl {α : Type} {n g : Nat} {t : TypeId} {R : Rd α} {w : World} {S : Nat → Prop} (rows : List (List Value)) (xs : List α) (h : Blk w g t rows.flatten.toArray) (hn : ∀ r ∈ rows, r.length = n) (hl : rows.length = xs.length)
    (hR : ∀ i (h : i < rows.length) (h' : i < xs.length), R w S rows[i] xs[i]) (hS : S g) (hm : xs.length ≤ maxLen) : RSl n R w S [.slice (some ⟨g, 0, none⟩) xs.length xs.length] xs := by
  refine ⟨some ⟨g, 0, none⟩, xs.length, rfl, Nat.le_refl _, hm, fun h => (by cases h), fun i hi => ⟨⟨g, 0, none⟩, rows[i]'(by omega), rfl, hS, hn _ (List.getElem_mem _), fun j hj => ?_, hR i (by omega) hi⟩⟩
  have := h.cell (i * n + j)
  rw [List.getElem?_toArray, flat_get rows n i j (by omega) hn hj] at this
  rw [← this, show (⟨g, 0, none⟩ : Addr).add (i * n + j) = ⟨g, i * n + j, none⟩ from by unfold Addr.add; split <;> simp_all]
/-- The sample: three consoles, a group, a user, two accesses. -/
def smpC : C := ([([119, 101, 98, 49], 1, 20, 4096, 3, 4096, 1, 64, 4, []), ([119, 101, 98, 50], 1, 20, 4096, 3, 4096, 1, 64, 4, []), ([100, 98], 1, 20, 4096, 3, 4096, 1, 64, 4, [])], [([119, 101, 98, 115], [[119, 101, 98, 63], [119, 42]])], [([97, 110, 110], [120])], [([100, 98], [97, 110, 110], 0), ([42], [97, 110, 110], 2)], [[], [], [], [], [], [], [], [], [], []])
theorem con_lit {w : World} {S : Nat → Prop} (a : Str) (h : a.length ≤ 40) : QCon w S [.string ⟨a.toArray⟩, .int .i64 1, .int .i64 20, .int .i64 4096, .int .i64 3, .int .i64 4096, .int .i64 1, .int .i64 64, .int .i64 4, .string ByteArray.empty] (a, 1, 20, 4096, 3, 4096, 1, 64, 4, []) := by
  refine ⟨by simp, ⟨rfl, h⟩, by simp, ⟨rfl, rfl⟩, by simp, ⟨rfl, rfl⟩, by simp, ⟨rfl, rfl⟩, by simp, ⟨rfl, rfl⟩, by simp, ⟨rfl, rfl⟩, by simp, ⟨rfl, rfl⟩, by simp, ⟨rfl, rfl⟩, by simp, ⟨rfl, rfl⟩, rfl, Nat.zero_le _⟩
theorem rs40_lit {w : World} {S : Nat → Prop} (a : Str) (h : a.length ≤ 40) : RS40 w S [.string ⟨a.toArray⟩] a := ⟨rfl, h⟩
theorem acc_lit {w : World} {S : Nat → Prop} (a b : Str) (n : Int) (h : a.length ≤ 40) (h2 : b.length ≤ 40) (h3 : (Lit.int .i64 n).wf = true) : QAcc w S [.string ⟨a.toArray⟩, .string ⟨b.toArray⟩, .int .i64 n] (a, b, n) :=
  ⟨by simp, ⟨rfl, h⟩, by simp, ⟨rfl, h2⟩, rfl, h3⟩
theorem usr_lit {w : World} {S : Nat → Prop} (a b : Str) (h : a.length ≤ 40) (h2 : b.length ≤ 40) : QUsr w S [.string ⟨a.toArray⟩, .string ⟨b.toArray⟩] (a, b) :=
  ⟨by simp, ⟨rfl, h⟩, rfl, h2⟩
theorem smp_conf {w : World} {S : Nat → Prop} {g : Nat} (hs : ∀ k, k < 5 → S (g + k))
    (d1 : Blk w g 50 #[.string ⟨#[119, 101, 98, 49]⟩, .int .i64 1, .int .i64 20, .int .i64 4096, .int .i64 3, .int .i64 4096, .int .i64 1, .int .i64 64, .int .i64 4, .string ByteArray.empty, .string ⟨#[119, 101, 98, 50]⟩, .int .i64 1, .int .i64 20, .int .i64 4096, .int .i64 3, .int .i64 4096, .int .i64 1, .int .i64 64, .int .i64 4, .string ByteArray.empty, .string ⟨#[100, 98]⟩, .int .i64 1, .int .i64 20, .int .i64 4096, .int .i64 3, .int .i64 4096, .int .i64 1, .int .i64 64, .int .i64 4, .string ByteArray.empty]) (d2 : Blk w (g + 1) 9 #[.string ⟨#[119, 101, 98, 63]⟩, .string ⟨#[119, 42]⟩]) (d3 : Blk w (g + 2) 53 #[.string ⟨#[119, 101, 98, 115]⟩, .slice (some ⟨g + 1, 0, none⟩) 2 2])
    (d4 : Blk w (g + 3) 55 #[.string ⟨#[97, 110, 110]⟩, .string ⟨#[120]⟩]) (d5 : Blk w (g + 4) 41 #[.string ⟨#[100, 98]⟩, .string ⟨#[97, 110, 110]⟩, .int .i64 0, .string ⟨#[42]⟩, .string ⟨#[97, 110, 110]⟩, .int .i64 2]) :
    QConf w S ([.slice (some ⟨g, 0, none⟩) 3 3, .slice (some ⟨g + 2, 0, none⟩) 1 1, .slice (some ⟨g + 3, 0, none⟩) 1 1, .slice (some ⟨g + 4, 0, none⟩) 2 2, .string ⟨#[]⟩, .string ⟨#[]⟩, .string ⟨#[]⟩, .string ⟨#[]⟩, .string ⟨#[]⟩, .string ⟨#[]⟩, .string ⟨#[]⟩, .string ⟨#[]⟩, .string ⟨#[]⟩, .string ⟨#[]⟩] : List Value) smpC := by
  have hp : RSl 1 RS40 w S [.slice (some ⟨g + 1, 0, none⟩) 2 2] [[119, 101, 98, 63], [119, 42]] := blk_sl (R := RS40) (S := S) [[.string ⟨#[119, 101, 98, 63]⟩], [.string ⟨#[119, 42]⟩]] [[119, 101, 98, 63], [119, 42]] d2 (by simp) rfl (fun i h h' => by
    obtain rfl | rfl : i = 0 ∨ i = 1 := by simp at h; omega
    · exact rs40_lit _ (by decide)
    · exact rs40_lit _ (by decide)) (hs 1 (by decide)) (by unfold maxLen; simp)
  refine q_mk (x := smpC) (vC := .slice (some ⟨g, 0, none⟩) 3 3) (vG := .slice (some ⟨g + 2, 0, none⟩) 1 1) (vU := .slice (some ⟨g + 3, 0, none⟩) 1 1) (vA := .slice (some ⟨g + 4, 0, none⟩) 2 2) (bs := [.string ⟨#[]⟩, .string ⟨#[]⟩, .string ⟨#[]⟩, .string ⟨#[]⟩, .string ⟨#[]⟩, .string ⟨#[]⟩, .string ⟨#[]⟩, .string ⟨#[]⟩, .string ⟨#[]⟩, .string ⟨#[]⟩]) ⟨?_, by decide⟩ ⟨?_, by decide⟩ ⟨?_, by decide⟩ ⟨?_, by decide⟩ ?_
  · exact blk_sl (R := QCon) (S := S) [[.string ⟨#[119, 101, 98, 49]⟩, .int .i64 1, .int .i64 20, .int .i64 4096, .int .i64 3, .int .i64 4096, .int .i64 1, .int .i64 64, .int .i64 4, .string ByteArray.empty], [.string ⟨#[119, 101, 98, 50]⟩, .int .i64 1, .int .i64 20, .int .i64 4096, .int .i64 3, .int .i64 4096, .int .i64 1, .int .i64 64, .int .i64 4, .string ByteArray.empty], [.string ⟨#[100, 98]⟩, .int .i64 1, .int .i64 20, .int .i64 4096, .int .i64 3, .int .i64 4096, .int .i64 1, .int .i64 64, .int .i64 4, .string ByteArray.empty]] smpC.1 d1 (by simp) rfl (fun i h h' => by
      obtain rfl | rfl | rfl : i = 0 ∨ i = 1 ∨ i = 2 := by simp at h; omega
      · exact con_lit _ (by decide)
      · exact con_lit _ (by decide)
      · exact con_lit _ (by decide)) (hs 0 (by decide)) (by unfold maxLen; decide)
  · exact blk_sl (R := QGrp) (S := S) [[.string ⟨#[119, 101, 98, 115]⟩, .slice (some ⟨g + 1, 0, none⟩) 2 2]] smpC.2.1 d3 (by simp) rfl (fun i h h' => by
      obtain rfl : i = 0 := by simp at h; omega
      exact ⟨by simp, rs40_lit _ (by decide), hp⟩) (hs 2 (by decide)) (by unfold maxLen; decide)
  · exact blk_sl (R := QUsr) (S := S) [[.string ⟨#[97, 110, 110]⟩, .string ⟨#[120]⟩]] smpC.2.2.1 d4 (by simp) rfl (fun i h h' => by
      obtain rfl : i = 0 := by simp at h; omega
      exact usr_lit _ _ (by decide) (by decide)) (hs 3 (by decide)) (by unfold maxLen; decide)
  · exact blk_sl (R := QAcc) (S := S) [[.string ⟨#[100, 98]⟩, .string ⟨#[97, 110, 110]⟩, .int .i64 0], [.string ⟨#[42]⟩, .string ⟨#[97, 110, 110]⟩, .int .i64 2]] smpC.2.2.2.1 d5 (by simp) rfl (fun i h h' => by
      obtain rfl | rfl : i = 0 ∨ i = 1 := by simp at h; omega
      · exact acc_lit _ _ _ (by decide) (by decide) (by decide)
      · exact acc_lit _ _ _ (by decide) (by decide) (by decide)) (hs 4 (by decide)) (by unfold maxLen; decide)
  · refine ⟨rfl, by decide, fun i hi => ?_⟩
    have hi : i < 10 := hi
    obtain rfl | rfl | rfl | rfl | rfl | rfl | rfl | rfl | rfl | rfl : i = 0 ∨ i = 1 ∨ i = 2 ∨ i = 3 ∨ i = 4 ∨ i = 5 ∨ i = 6 ∨ i = 7 ∨ i = 8 ∨ i = 9 := by omega
    all_goals exact ⟨rfl, Nat.zero_le _⟩
set_option maxHeartbeats 4000000 in
theorem sample_any (w : World) : Calls Try.prog 29 #[] w fun e w' => ∃ cs, e = .returned (.agg cs) ∧ QConf w' (New w w') cs.toList smpC ∧ Fr No w w' := by
  go_enter Try.func29, Try.ntmps29
  go_wp2_with fail
  refine (usual_any _).mono ?_
  rintro e w1 ⟨rfl, hf⟩
  have hf1 : Fr No w w1 := ((Fr.refl No w).alloc _).then_no hf
  have hb0 : w.heap.size < w1.heap.size := by have := hf.size; simp at this; omega
  have HB0a := Lib.hid ((Blk.new w 28 #[.slice none 0 0, .slice none 0 0, .slice none 0 0, .slice none 0 0, .string ⟨#[]⟩, .string ⟨#[]⟩, .string ⟨#[]⟩, .string ⟨#[]⟩, .string ⟨#[]⟩, .string ⟨#[]⟩, .string ⟨#[]⟩, .string ⟨#[]⟩, .string ⟨#[]⟩, .string ⟨#[]⟩]).fr hf (fun h => h))
  clear hf
  have hy := Lib.hid (fun i => (Blk.new w1 50 #[.string ByteArray.empty, .int .i64 1, .int .i64 20, .int .i64 4096, .int .i64 3, .int .i64 4096, .int .i64 1, .int .i64 64, .int .i64 4, .string ByteArray.empty]).cell i)
  have F2 := Lib.hid (hf1.alloc (.cells #[.string ByteArray.empty, .int .i64 1, .int .i64 20, .int .i64 4096, .int .i64 3, .int .i64 4096, .int .i64 1, .int .i64 64, .int .i64 4, .string ByteArray.empty] 50))
  have HB0 := Lib.hid (HB0a.out.alloc (.cells #[.string ByteArray.empty, .int .i64 1, .int .i64 20, .int .i64 4096, .int .i64 3, .int .i64 4096, .int .i64 1, .int .i64 64, .int .i64 4, .string ByteArray.empty] 50))
  clear HB0a
  go_wp2_with fail
  generalize w1.alloc (.cells #[.string ByteArray.empty, .int .i64 1, .int .i64 20, .int .i64 4096, .int .i64 3, .int .i64 4096, .int .i64 1, .int .i64 64, .int .i64 4, .string ByteArray.empty] 50) = w2 at hy F2 HB0 ⊢
  obtain ⟨b1, hb1⟩ : ∃ b, w1.heap.size = b := ⟨_, rfl⟩
  obtain ⟨b0, hb0'⟩ : ∃ b, w.heap.size = b := ⟨_, rfl⟩
  rw [hb1] at hy hb0 ⊢
  rw [hb0'] at hb0 HB0 ⊢
  clear hf1 hb1
  have y0 := hy.out 0
  have y1 := hy.out 1
  have y2 := hy.out 2
  have y3 := hy.out 3
  have y4 := hy.out 4
  have y5 := hy.out 5
  have y6 := hy.out 6
  have y7 := hy.out 7
  have y8 := hy.out 8
  have y9 := hy.out 9
  simp only [List.getElem?_toArray, List.getElem?_cons_zero, List.getElem?_cons_succ] at y0 y1 y2 y3 y4 y5 y6 y7 y8 y9
  have hb2 : b1 < w2.heap.size := World.block_lt_of_cell? w2 ⟨b1, 0, none⟩ y0
  have HK := Lib.hid (fun (X : World) (hf : Fr No w2 X) => (show X.cell? ⟨b1, 0, none⟩ = some (.string ByteArray.empty) ∧ X.cell? ⟨b1, 1, none⟩ = some (.int .i64 1) ∧ X.cell? ⟨b1, 2, none⟩ = some (.int .i64 20) ∧ X.cell? ⟨b1, 3, none⟩ = some (.int .i64 4096) ∧ X.cell? ⟨b1, 4, none⟩ = some (.int .i64 3) ∧ X.cell? ⟨b1, 5, none⟩ = some (.int .i64 4096) ∧ X.cell? ⟨b1, 6, none⟩ = some (.int .i64 1) ∧ X.cell? ⟨b1, 7, none⟩ = some (.int .i64 64) ∧ X.cell? ⟨b1, 8, none⟩ = some (.int .i64 4) ∧ X.cell? ⟨b1, 9, none⟩ = some (.string ByteArray.empty) from ⟨(hf.cell (p := ⟨b1, 0, none⟩) hb2 (fun h => h)).trans y0, (hf.cell (p := ⟨b1, 1, none⟩) hb2 (fun h => h)).trans y1, (hf.cell (p := ⟨b1, 2, none⟩) hb2 (fun h => h)).trans y2, (hf.cell (p := ⟨b1, 3, none⟩) hb2 (fun h => h)).trans y3, (hf.cell (p := ⟨b1, 4, none⟩) hb2 (fun h => h)).trans y4, (hf.cell (p := ⟨b1, 5, none⟩) hb2 (fun h => h)).trans y5, (hf.cell (p := ⟨b1, 6, none⟩) hb2 (fun h => h)).trans y6, (hf.cell (p := ⟨b1, 7, none⟩) hb2 (fun h => h)).trans y7, (hf.cell (p := ⟨b1, 8, none⟩) hb2 (fun h => h)).trans y8, (hf.cell (p := ⟨b1, 9, none⟩) hb2 (fun h => h)).trans y9⟩))
  rename_i Q' K aK
  have TAIL : ∀ (b2 b3 b4 : Nat) (W : World), Hid (Blk W b0 28 #[.slice none 0 0, .slice none 0 0, .slice none 0 0, .slice none 0 0, .string ⟨#[]⟩, .string ⟨#[]⟩, .string ⟨#[]⟩, .string ⟨#[]⟩, .string ⟨#[]⟩, .string ⟨#[]⟩, .string ⟨#[]⟩, .string ⟨#[]⟩, .string ⟨#[]⟩, .string ⟨#[]⟩]) → Hid (Blk W b2 50 #[.string ByteArray.empty, .int .i64 1, .int .i64 20, .int .i64 4096, .int .i64 3, .int .i64 4096, .int .i64 1, .int .i64 64, .int .i64 4, .string ByteArray.empty]) → Hid (Blk W b3 50 #[.string ByteArray.empty, .int .i64 1, .int .i64 20, .int .i64 4096, .int .i64 3, .int .i64 4096, .int .i64 1, .int .i64 64, .int .i64 4, .string ByteArray.empty]) → Hid (Blk W b4 50 #[.string ByteArray.empty, .int .i64 1, .int .i64 20, .int .i64 4096, .int .i64 3, .int .i64 4096, .int .i64 1, .int .i64 64, .int .i64 4, .string ByteArray.empty]) → Hid (Fr No w W) → b2 ≠ b3 → b2 ≠ b4 → b3 ≠ b4 → b1 < b2 → b1 < b3 → b1 < b4 →
      Exit.then K Q' Exit.normal ⟨#[.pointer (some ⟨b0, 0, none⟩), .pointer (some ⟨b1, 0, none⟩), .pointer (some ⟨b2, 0, none⟩), .pointer (some ⟨b3, 0, none⟩), .pointer (some ⟨b4, 0, none⟩), .agg #[.string ByteArray.empty, .int .i64 1, .int .i64 20, .int .i64 4096, .int .i64 3, .int .i64 4096, .int .i64 1, .int .i64 64, .int .i64 4, .string ByteArray.empty], .agg #[.string ByteArray.empty, .int .i64 1, .int .i64 20, .int .i64 4096, .int .i64 3, .int .i64 4096, .int .i64 1, .int .i64 64, .int .i64 4, .string ByteArray.empty], .agg #[.string ByteArray.empty, .int .i64 1, .int .i64 20, .int .i64 4096, .int .i64 3, .int .i64 4096, .int .i64 1, .int .i64 64, .int .i64 4, .string ByteArray.empty], .agg #[.string ByteArray.empty, .int .i64 1, .int .i64 20, .int .i64 4096, .int .i64 3, .int .i64 4096, .int .i64 1, .int .i64 64, .int .i64 4, .string ByteArray.empty], undef, undef, undef, undef, undef, undef, undef, undef, undef, undef, undef, undef, undef, undef, undef, undef], []⟩ W := by
    intro b2 b3 b4 W B0 B2 B3 B4 F3 n1 n2 n3 h2 h3 h4
    clear HK hy F2 HB0 y0 y1 y2 y3 y4 y5 y6 y7 y8 y9
    have m1 := n1.symm
    have m2 := n2.symm
    have m3 := n3.symm
    have y20 := B2.out.cell 0
    have z2 := B2.out.frozen 0
    have y30 := B3.out.cell 0
    have z3 := B3.out.frozen 0
    have y40 := B4.out.cell 0
    have z4 := B4.out.frozen 0
    simp only [List.getElem?_toArray, List.getElem?_cons_zero, List.getElem?_cons_succ] at y20 y30 y40
    go_upto_region 4 with (fail)
    have C0 := Lib.hid (((B0.out.far (p := ⟨b2, 0, none⟩) (by show b0 ≠ b2; omega) (.string ⟨#[119, 101, 98, 49]⟩)).far (p := ⟨b3, 0, none⟩) (by show b0 ≠ b3; omega) (.string ⟨#[119, 101, 98, 50]⟩)).far (p := ⟨b4, 0, none⟩) (by show b0 ≠ b4; omega) (.string ⟨#[100, 98]⟩))
    have C2 := Lib.hid (((B2.out.put 0 (.string ⟨#[119, 101, 98, 49]⟩)).far (p := ⟨b3, 0, none⟩) n1 (.string ⟨#[119, 101, 98, 50]⟩)).far (p := ⟨b4, 0, none⟩) n2 (.string ⟨#[100, 98]⟩))
    have C3 := Lib.hid (((B3.out.far (p := ⟨b2, 0, none⟩) m1 (.string ⟨#[119, 101, 98, 49]⟩)).put 0 (.string ⟨#[119, 101, 98, 50]⟩)).far (p := ⟨b4, 0, none⟩) n3 (.string ⟨#[100, 98]⟩))
    have C4 := Lib.hid (((B4.out.far (p := ⟨b2, 0, none⟩) m2 (.string ⟨#[119, 101, 98, 49]⟩)).far (p := ⟨b3, 0, none⟩) m3 (.string ⟨#[119, 101, 98, 50]⟩)).put 0 (.string ⟨#[100, 98]⟩))
    have F4 := Lib.hid (((F3.out.setCell (p := ⟨b2, 0, none⟩) (.inr (by show w.heap.size ≤ b2; omega)) (.string ⟨#[119, 101, 98, 49]⟩)).setCell (p := ⟨b3, 0, none⟩) (.inr (by show w.heap.size ≤ b3; omega)) (.string ⟨#[119, 101, 98, 50]⟩)).setCell (p := ⟨b4, 0, none⟩) (.inr (by show w.heap.size ≤ b4; omega)) (.string ⟨#[100, 98]⟩))
    clear y20 y30 y40 z2 z3 z4 B0 B2 B3 B4 F3
    generalize (((W.setCell ⟨b2, 0, none⟩ (.string ⟨#[119, 101, 98, 49]⟩)).setCell ⟨b3, 0, none⟩ (.string ⟨#[119, 101, 98, 50]⟩)).setCell ⟨b4, 0, none⟩ (.string ⟨#[100, 98]⟩)) = W4 at C0 C2 C3 C4 F4 ⊢
    have y20 := C2.out.cell 0
    have y21 := C2.out.cell 1
    have y22 := C2.out.cell 2
    have y23 := C2.out.cell 3
    have y24 := C2.out.cell 4
    have y25 := C2.out.cell 5
    have y26 := C2.out.cell 6
    have y27 := C2.out.cell 7
    have y28 := C2.out.cell 8
    have y29 := C2.out.cell 9
    have y30 := C3.out.cell 0
    have y31 := C3.out.cell 1
    have y32 := C3.out.cell 2
    have y33 := C3.out.cell 3
    have y34 := C3.out.cell 4
    have y35 := C3.out.cell 5
    have y36 := C3.out.cell 6
    have y37 := C3.out.cell 7
    have y38 := C3.out.cell 8
    have y39 := C3.out.cell 9
    have y40 := C4.out.cell 0
    have y41 := C4.out.cell 1
    have y42 := C4.out.cell 2
    have y43 := C4.out.cell 3
    have y44 := C4.out.cell 4
    have y45 := C4.out.cell 5
    have y46 := C4.out.cell 6
    have y47 := C4.out.cell 7
    have y48 := C4.out.cell 8
    have y49 := C4.out.cell 9
    have x0 := fun o1 o2 o3 o4 o5 => (((((C0.out.alloc o1).alloc o2).alloc o3).alloc o4).alloc o5).cell 0
    have u0 := fun o1 o2 o3 o4 o5 => (((((C0.out.alloc o1).alloc o2).alloc o3).alloc o4).alloc o5).frozen 0
    have x1 := fun o1 o2 o3 o4 o5 => (((((C0.out.alloc o1).alloc o2).alloc o3).alloc o4).alloc o5).cell 1
    have u1 := fun o1 o2 o3 o4 o5 => (((((C0.out.alloc o1).alloc o2).alloc o3).alloc o4).alloc o5).frozen 1
    have x2 := fun o1 o2 o3 o4 o5 => (((((C0.out.alloc o1).alloc o2).alloc o3).alloc o4).alloc o5).cell 2
    have u2 := fun o1 o2 o3 o4 o5 => (((((C0.out.alloc o1).alloc o2).alloc o3).alloc o4).alloc o5).frozen 2
    have x3 := fun o1 o2 o3 o4 o5 => (((((C0.out.alloc o1).alloc o2).alloc o3).alloc o4).alloc o5).cell 3
    have u3 := fun o1 o2 o3 o4 o5 => (((((C0.out.alloc o1).alloc o2).alloc o3).alloc o4).alloc o5).frozen 3
    have x4 := fun o1 o2 o3 o4 o5 => (((((C0.out.alloc o1).alloc o2).alloc o3).alloc o4).alloc o5).cell 4
    have u4 := fun o1 o2 o3 o4 o5 => (((((C0.out.alloc o1).alloc o2).alloc o3).alloc o4).alloc o5).frozen 4
    have x5 := fun o1 o2 o3 o4 o5 => (((((C0.out.alloc o1).alloc o2).alloc o3).alloc o4).alloc o5).cell 5
    have u5 := fun o1 o2 o3 o4 o5 => (((((C0.out.alloc o1).alloc o2).alloc o3).alloc o4).alloc o5).frozen 5
    have x6 := fun o1 o2 o3 o4 o5 => (((((C0.out.alloc o1).alloc o2).alloc o3).alloc o4).alloc o5).cell 6
    have u6 := fun o1 o2 o3 o4 o5 => (((((C0.out.alloc o1).alloc o2).alloc o3).alloc o4).alloc o5).frozen 6
    have x7 := fun o1 o2 o3 o4 o5 => (((((C0.out.alloc o1).alloc o2).alloc o3).alloc o4).alloc o5).cell 7
    have u7 := fun o1 o2 o3 o4 o5 => (((((C0.out.alloc o1).alloc o2).alloc o3).alloc o4).alloc o5).frozen 7
    have x8 := fun o1 o2 o3 o4 o5 => (((((C0.out.alloc o1).alloc o2).alloc o3).alloc o4).alloc o5).cell 8
    have u8 := fun o1 o2 o3 o4 o5 => (((((C0.out.alloc o1).alloc o2).alloc o3).alloc o4).alloc o5).frozen 8
    have x9 := fun o1 o2 o3 o4 o5 => (((((C0.out.alloc o1).alloc o2).alloc o3).alloc o4).alloc o5).cell 9
    have u9 := fun o1 o2 o3 o4 o5 => (((((C0.out.alloc o1).alloc o2).alloc o3).alloc o4).alloc o5).frozen 9
    have x10 := fun o1 o2 o3 o4 o5 => (((((C0.out.alloc o1).alloc o2).alloc o3).alloc o4).alloc o5).cell 10
    have u10 := fun o1 o2 o3 o4 o5 => (((((C0.out.alloc o1).alloc o2).alloc o3).alloc o4).alloc o5).frozen 10
    have x11 := fun o1 o2 o3 o4 o5 => (((((C0.out.alloc o1).alloc o2).alloc o3).alloc o4).alloc o5).cell 11
    have u11 := fun o1 o2 o3 o4 o5 => (((((C0.out.alloc o1).alloc o2).alloc o3).alloc o4).alloc o5).frozen 11
    have x12 := fun o1 o2 o3 o4 o5 => (((((C0.out.alloc o1).alloc o2).alloc o3).alloc o4).alloc o5).cell 12
    have u12 := fun o1 o2 o3 o4 o5 => (((((C0.out.alloc o1).alloc o2).alloc o3).alloc o4).alloc o5).frozen 12
    have x13 := fun o1 o2 o3 o4 o5 => (((((C0.out.alloc o1).alloc o2).alloc o3).alloc o4).alloc o5).cell 13
    have u13 := fun o1 o2 o3 o4 o5 => (((((C0.out.alloc o1).alloc o2).alloc o3).alloc o4).alloc o5).frozen 13
    have hlt0 := C0.out.lt
    simp only [List.setIfInBounds_toArray, List.set_cons_zero, List.getElem?_toArray, List.getElem?_cons_zero, List.getElem?_cons_succ] at y20 y21 y22 y23 y24 y25 y26 y27 y28 y29 y30 y31 y32 y33 y34 y35 y36 y37 y38 y39 y40 y41 y42 y43 y44 y45 y46 y47 y48 y49 x0 x1 x2 x3 x4 x5 x6 x7 x8 x9 x10 x11 x12 x13
    have D1 := Lib.hid (((((Blk.new W4 50 #[.string ⟨#[119, 101, 98, 49]⟩, .int .i64 1, .int .i64 20, .int .i64 4096, .int .i64 3, .int .i64 4096, .int .i64 1, .int .i64 64, .int .i64 4, .string ByteArray.empty, .string ⟨#[119, 101, 98, 50]⟩, .int .i64 1, .int .i64 20, .int .i64 4096, .int .i64 3, .int .i64 4096, .int .i64 1, .int .i64 64, .int .i64 4, .string ByteArray.empty, .string ⟨#[100, 98]⟩, .int .i64 1, .int .i64 20, .int .i64 4096, .int .i64 3, .int .i64 4096, .int .i64 1, .int .i64 64, .int .i64 4, .string ByteArray.empty]).alloc (.cells #[.string ⟨#[119, 101, 98, 63]⟩, .string ⟨#[119, 42]⟩] 9)).alloc (.cells #[.string ⟨#[119, 101, 98, 115]⟩, .slice (some ⟨W4.heap.size + 1, 0, none⟩) 2 2] 53)).alloc (.cells #[.string ⟨#[97, 110, 110]⟩, .string ⟨#[120]⟩] 55)).alloc (.cells #[.string ⟨#[100, 98]⟩, .string ⟨#[97, 110, 110]⟩, .int .i64 0, .string ⟨#[42]⟩, .string ⟨#[97, 110, 110]⟩, .int .i64 2] 41))
    have D2 := Lib.hid ((((Blk.new (W4.alloc (.cells #[.string ⟨#[119, 101, 98, 49]⟩, .int .i64 1, .int .i64 20, .int .i64 4096, .int .i64 3, .int .i64 4096, .int .i64 1, .int .i64 64, .int .i64 4, .string ByteArray.empty, .string ⟨#[119, 101, 98, 50]⟩, .int .i64 1, .int .i64 20, .int .i64 4096, .int .i64 3, .int .i64 4096, .int .i64 1, .int .i64 64, .int .i64 4, .string ByteArray.empty, .string ⟨#[100, 98]⟩, .int .i64 1, .int .i64 20, .int .i64 4096, .int .i64 3, .int .i64 4096, .int .i64 1, .int .i64 64, .int .i64 4, .string ByteArray.empty] 50)) 9 #[.string ⟨#[119, 101, 98, 63]⟩, .string ⟨#[119, 42]⟩]).alloc (.cells #[.string ⟨#[119, 101, 98, 115]⟩, .slice (some ⟨W4.heap.size + 1, 0, none⟩) 2 2] 53)).alloc (.cells #[.string ⟨#[97, 110, 110]⟩, .string ⟨#[120]⟩] 55)).alloc (.cells #[.string ⟨#[100, 98]⟩, .string ⟨#[97, 110, 110]⟩, .int .i64 0, .string ⟨#[42]⟩, .string ⟨#[97, 110, 110]⟩, .int .i64 2] 41))
    rw [size_alloc] at D2
    have D3 := Lib.hid (((Blk.new ((W4.alloc (.cells #[.string ⟨#[119, 101, 98, 49]⟩, .int .i64 1, .int .i64 20, .int .i64 4096, .int .i64 3, .int .i64 4096, .int .i64 1, .int .i64 64, .int .i64 4, .string ByteArray.empty, .string ⟨#[119, 101, 98, 50]⟩, .int .i64 1, .int .i64 20, .int .i64 4096, .int .i64 3, .int .i64 4096, .int .i64 1, .int .i64 64, .int .i64 4, .string ByteArray.empty, .string ⟨#[100, 98]⟩, .int .i64 1, .int .i64 20, .int .i64 4096, .int .i64 3, .int .i64 4096, .int .i64 1, .int .i64 64, .int .i64 4, .string ByteArray.empty] 50)).alloc (.cells #[.string ⟨#[119, 101, 98, 63]⟩, .string ⟨#[119, 42]⟩] 9)) 53 #[.string ⟨#[119, 101, 98, 115]⟩, .slice (some ⟨W4.heap.size + 1, 0, none⟩) 2 2]).alloc (.cells #[.string ⟨#[97, 110, 110]⟩, .string ⟨#[120]⟩] 55)).alloc (.cells #[.string ⟨#[100, 98]⟩, .string ⟨#[97, 110, 110]⟩, .int .i64 0, .string ⟨#[42]⟩, .string ⟨#[97, 110, 110]⟩, .int .i64 2] 41))
    rw [size_alloc, size_alloc] at D3
    have D4 := Lib.hid ((Blk.new (((W4.alloc (.cells #[.string ⟨#[119, 101, 98, 49]⟩, .int .i64 1, .int .i64 20, .int .i64 4096, .int .i64 3, .int .i64 4096, .int .i64 1, .int .i64 64, .int .i64 4, .string ByteArray.empty, .string ⟨#[119, 101, 98, 50]⟩, .int .i64 1, .int .i64 20, .int .i64 4096, .int .i64 3, .int .i64 4096, .int .i64 1, .int .i64 64, .int .i64 4, .string ByteArray.empty, .string ⟨#[100, 98]⟩, .int .i64 1, .int .i64 20, .int .i64 4096, .int .i64 3, .int .i64 4096, .int .i64 1, .int .i64 64, .int .i64 4, .string ByteArray.empty] 50)).alloc (.cells #[.string ⟨#[119, 101, 98, 63]⟩, .string ⟨#[119, 42]⟩] 9)).alloc (.cells #[.string ⟨#[119, 101, 98, 115]⟩, .slice (some ⟨W4.heap.size + 1, 0, none⟩) 2 2] 53)) 55 #[.string ⟨#[97, 110, 110]⟩, .string ⟨#[120]⟩]).alloc (.cells #[.string ⟨#[100, 98]⟩, .string ⟨#[97, 110, 110]⟩, .int .i64 0, .string ⟨#[42]⟩, .string ⟨#[97, 110, 110]⟩, .int .i64 2] 41))
    rw [size_alloc, size_alloc, size_alloc] at D4
    have D5 := Lib.hid (Blk.new ((((W4.alloc (.cells #[.string ⟨#[119, 101, 98, 49]⟩, .int .i64 1, .int .i64 20, .int .i64 4096, .int .i64 3, .int .i64 4096, .int .i64 1, .int .i64 64, .int .i64 4, .string ByteArray.empty, .string ⟨#[119, 101, 98, 50]⟩, .int .i64 1, .int .i64 20, .int .i64 4096, .int .i64 3, .int .i64 4096, .int .i64 1, .int .i64 64, .int .i64 4, .string ByteArray.empty, .string ⟨#[100, 98]⟩, .int .i64 1, .int .i64 20, .int .i64 4096, .int .i64 3, .int .i64 4096, .int .i64 1, .int .i64 64, .int .i64 4, .string ByteArray.empty] 50)).alloc (.cells #[.string ⟨#[119, 101, 98, 63]⟩, .string ⟨#[119, 42]⟩] 9)).alloc (.cells #[.string ⟨#[119, 101, 98, 115]⟩, .slice (some ⟨W4.heap.size + 1, 0, none⟩) 2 2] 53)).alloc (.cells #[.string ⟨#[97, 110, 110]⟩, .string ⟨#[120]⟩] 55)) 41 #[.string ⟨#[100, 98]⟩, .string ⟨#[97, 110, 110]⟩, .int .i64 0, .string ⟨#[42]⟩, .string ⟨#[97, 110, 110]⟩, .int .i64 2])
    rw [size_alloc, size_alloc, size_alloc, size_alloc] at D5
    have D0 := Lib.hid (((((C0.out.alloc (.cells #[.string ⟨#[119, 101, 98, 49]⟩, .int .i64 1, .int .i64 20, .int .i64 4096, .int .i64 3, .int .i64 4096, .int .i64 1, .int .i64 64, .int .i64 4, .string ByteArray.empty, .string ⟨#[119, 101, 98, 50]⟩, .int .i64 1, .int .i64 20, .int .i64 4096, .int .i64 3, .int .i64 4096, .int .i64 1, .int .i64 64, .int .i64 4, .string ByteArray.empty, .string ⟨#[100, 98]⟩, .int .i64 1, .int .i64 20, .int .i64 4096, .int .i64 3, .int .i64 4096, .int .i64 1, .int .i64 64, .int .i64 4, .string ByteArray.empty] 50)).alloc (.cells #[.string ⟨#[119, 101, 98, 63]⟩, .string ⟨#[119, 42]⟩] 9)).alloc (.cells #[.string ⟨#[119, 101, 98, 115]⟩, .slice (some ⟨W4.heap.size + 1, 0, none⟩) 2 2] 53)).alloc (.cells #[.string ⟨#[97, 110, 110]⟩, .string ⟨#[120]⟩] 55)).alloc (.cells #[.string ⟨#[100, 98]⟩, .string ⟨#[97, 110, 110]⟩, .int .i64 0, .string ⟨#[42]⟩, .string ⟨#[97, 110, 110]⟩, .int .i64 2] 41))
    have F5 := Lib.hid (((((F4.out.alloc (.cells #[.string ⟨#[119, 101, 98, 49]⟩, .int .i64 1, .int .i64 20, .int .i64 4096, .int .i64 3, .int .i64 4096, .int .i64 1, .int .i64 64, .int .i64 4, .string ByteArray.empty, .string ⟨#[119, 101, 98, 50]⟩, .int .i64 1, .int .i64 20, .int .i64 4096, .int .i64 3, .int .i64 4096, .int .i64 1, .int .i64 64, .int .i64 4, .string ByteArray.empty, .string ⟨#[100, 98]⟩, .int .i64 1, .int .i64 20, .int .i64 4096, .int .i64 3, .int .i64 4096, .int .i64 1, .int .i64 64, .int .i64 4, .string ByteArray.empty] 50)).alloc (.cells #[.string ⟨#[119, 101, 98, 63]⟩, .string ⟨#[119, 42]⟩] 9)).alloc (.cells #[.string ⟨#[119, 101, 98, 115]⟩, .slice (some ⟨W4.heap.size + 1, 0, none⟩) 2 2] 53)).alloc (.cells #[.string ⟨#[97, 110, 110]⟩, .string ⟨#[120]⟩] 55)).alloc (.cells #[.string ⟨#[100, 98]⟩, .string ⟨#[97, 110, 110]⟩, .int .i64 0, .string ⟨#[42]⟩, .string ⟨#[97, 110, 110]⟩, .int .i64 2] 41))
    have hg4 : w.heap.size ≤ W4.heap.size := F4.out.size
    have hg5 : ((((((W4.alloc (.cells #[.string ⟨#[119, 101, 98, 49]⟩, .int .i64 1, .int .i64 20, .int .i64 4096, .int .i64 3, .int .i64 4096, .int .i64 1, .int .i64 64, .int .i64 4, .string ByteArray.empty, .string ⟨#[119, 101, 98, 50]⟩, .int .i64 1, .int .i64 20, .int .i64 4096, .int .i64 3, .int .i64 4096, .int .i64 1, .int .i64 64, .int .i64 4, .string ByteArray.empty, .string ⟨#[100, 98]⟩, .int .i64 1, .int .i64 20, .int .i64 4096, .int .i64 3, .int .i64 4096, .int .i64 1, .int .i64 64, .int .i64 4, .string ByteArray.empty] 50)).alloc (.cells #[.string ⟨#[119, 101, 98, 63]⟩, .string ⟨#[119, 42]⟩] 9)).alloc (.cells #[.string ⟨#[119, 101, 98, 115]⟩, .slice (some ⟨W4.heap.size + 1, 0, none⟩) 2 2] 53)).alloc (.cells #[.string ⟨#[97, 110, 110]⟩, .string ⟨#[120]⟩] 55)).alloc (.cells #[.string ⟨#[100, 98]⟩, .string ⟨#[97, 110, 110]⟩, .int .i64 0, .string ⟨#[42]⟩, .string ⟨#[97, 110, 110]⟩, .int .i64 2] 41))).heap.size = W4.heap.size + 5 := by simp
    go_wp2_with fail
    clear y20 y21 y22 y23 y24 y25 y26 y27 y28 y29 y30 y31 y32 y33 y34 y35 y36 y37 y38 y39 y40 y41 y42 y43 y44 y45 y46 y47 y48 y49 x0 u0 x1 u1 x2 u2 x3 u3 x4 u4 x5 u5 x6 u6 x7 u7 x8 u8 x9 u9 x10 u10 x11 u11 x12 u12 x13 u13
    generalize (((((W4.alloc (.cells #[.string ⟨#[119, 101, 98, 49]⟩, .int .i64 1, .int .i64 20, .int .i64 4096, .int .i64 3, .int .i64 4096, .int .i64 1, .int .i64 64, .int .i64 4, .string ByteArray.empty, .string ⟨#[119, 101, 98, 50]⟩, .int .i64 1, .int .i64 20, .int .i64 4096, .int .i64 3, .int .i64 4096, .int .i64 1, .int .i64 64, .int .i64 4, .string ByteArray.empty, .string ⟨#[100, 98]⟩, .int .i64 1, .int .i64 20, .int .i64 4096, .int .i64 3, .int .i64 4096, .int .i64 1, .int .i64 64, .int .i64 4, .string ByteArray.empty] 50)).alloc (.cells #[.string ⟨#[119, 101, 98, 63]⟩, .string ⟨#[119, 42]⟩] 9)).alloc (.cells #[.string ⟨#[119, 101, 98, 115]⟩, .slice (some ⟨W4.heap.size + 1, 0, none⟩) 2 2] 53)).alloc (.cells #[.string ⟨#[97, 110, 110]⟩, .string ⟨#[120]⟩] 55)).alloc (.cells #[.string ⟨#[100, 98]⟩, .string ⟨#[97, 110, 110]⟩, .int .i64 0, .string ⟨#[42]⟩, .string ⟨#[97, 110, 110]⟩, .int .i64 2] 41)) = W5 at D0 D1 D2 D3 D4 D5 F5 hg5 ⊢
    generalize W4.heap.size = g at D1 D2 D3 D4 D5 hg4 hg5 hlt0 ⊢
    have hw0 : w.heap.size ≤ b0 := by omega
    have E0 := Lib.hid ((((((((((((((D0.out.put 0 (.slice (some ⟨g, 0, none⟩) 3 3)).put 1 (.slice (some ⟨g + 1 + 1, 0, none⟩) 1 1)).put 2 (.slice (some ⟨g + 1 + 1 + 1, 0, none⟩) 1 1)).put 3 (.slice (some ⟨g + 1 + 1 + 1 + 1, 0, none⟩) 2 2)).put 4 (.string ⟨#[]⟩)).put 5 (.string ⟨#[]⟩)).put 6 (.string ⟨#[]⟩)).put 7 (.string ⟨#[]⟩)).put 8 (.string ⟨#[]⟩)).put 9 (.string ⟨#[]⟩)).put 10 (.string ⟨#[]⟩)).put 11 (.string ⟨#[]⟩)).put 12 (.string ⟨#[]⟩)).put 13 (.string ⟨#[]⟩))
    have F6 := Lib.hid ((((((((((((((F5.out.setCell (p := ⟨b0, 0, none⟩) (.inr hw0) (.slice (some ⟨g, 0, none⟩) 3 3)).setCell (p := ⟨b0, 1, none⟩) (.inr hw0) (.slice (some ⟨g + 1 + 1, 0, none⟩) 1 1)).setCell (p := ⟨b0, 2, none⟩) (.inr hw0) (.slice (some ⟨g + 1 + 1 + 1, 0, none⟩) 1 1)).setCell (p := ⟨b0, 3, none⟩) (.inr hw0) (.slice (some ⟨g + 1 + 1 + 1 + 1, 0, none⟩) 2 2)).setCell (p := ⟨b0, 4, none⟩) (.inr hw0) (.string ⟨#[]⟩)).setCell (p := ⟨b0, 5, none⟩) (.inr hw0) (.string ⟨#[]⟩)).setCell (p := ⟨b0, 6, none⟩) (.inr hw0) (.string ⟨#[]⟩)).setCell (p := ⟨b0, 7, none⟩) (.inr hw0) (.string ⟨#[]⟩)).setCell (p := ⟨b0, 8, none⟩) (.inr hw0) (.string ⟨#[]⟩)).setCell (p := ⟨b0, 9, none⟩) (.inr hw0) (.string ⟨#[]⟩)).setCell (p := ⟨b0, 10, none⟩) (.inr hw0) (.string ⟨#[]⟩)).setCell (p := ⟨b0, 11, none⟩) (.inr hw0) (.string ⟨#[]⟩)).setCell (p := ⟨b0, 12, none⟩) (.inr hw0) (.string ⟨#[]⟩)).setCell (p := ⟨b0, 13, none⟩) (.inr hw0) (.string ⟨#[]⟩))
    have hS := (((((((((((((((Fr.refl (fun k => k = b0) W5).setCell (p := ⟨b0, 0, none⟩) (.inl rfl) (.slice (some ⟨g, 0, none⟩) 3 3)).setCell (p := ⟨b0, 1, none⟩) (.inl rfl) (.slice (some ⟨g + 1 + 1, 0, none⟩) 1 1)).setCell (p := ⟨b0, 2, none⟩) (.inl rfl) (.slice (some ⟨g + 1 + 1 + 1, 0, none⟩) 1 1)).setCell (p := ⟨b0, 3, none⟩) (.inl rfl) (.slice (some ⟨g + 1 + 1 + 1 + 1, 0, none⟩) 2 2)).setCell (p := ⟨b0, 4, none⟩) (.inl rfl) (.string ⟨#[]⟩)).setCell (p := ⟨b0, 5, none⟩) (.inl rfl) (.string ⟨#[]⟩)).setCell (p := ⟨b0, 6, none⟩) (.inl rfl) (.string ⟨#[]⟩)).setCell (p := ⟨b0, 7, none⟩) (.inl rfl) (.string ⟨#[]⟩)).setCell (p := ⟨b0, 8, none⟩) (.inl rfl) (.string ⟨#[]⟩)).setCell (p := ⟨b0, 9, none⟩) (.inl rfl) (.string ⟨#[]⟩)).setCell (p := ⟨b0, 10, none⟩) (.inl rfl) (.string ⟨#[]⟩)).setCell (p := ⟨b0, 11, none⟩) (.inl rfl) (.string ⟨#[]⟩)).setCell (p := ⟨b0, 12, none⟩) (.inl rfl) (.string ⟨#[]⟩)).setCell (p := ⟨b0, 13, none⟩) (.inl rfl) (.string ⟨#[]⟩))
    generalize ((((((((((((((W5.setCell ⟨b0, 0, none⟩ (.slice (some ⟨g, 0, none⟩) 3 3)).setCell ⟨b0, 1, none⟩ (.slice (some ⟨g + 1 + 1, 0, none⟩) 1 1)).setCell ⟨b0, 2, none⟩ (.slice (some ⟨g + 1 + 1 + 1, 0, none⟩) 1 1)).setCell ⟨b0, 3, none⟩ (.slice (some ⟨g + 1 + 1 + 1 + 1, 0, none⟩) 2 2)).setCell ⟨b0, 4, none⟩ (.string ⟨#[]⟩)).setCell ⟨b0, 5, none⟩ (.string ⟨#[]⟩)).setCell ⟨b0, 6, none⟩ (.string ⟨#[]⟩)).setCell ⟨b0, 7, none⟩ (.string ⟨#[]⟩)).setCell ⟨b0, 8, none⟩ (.string ⟨#[]⟩)).setCell ⟨b0, 9, none⟩ (.string ⟨#[]⟩)).setCell ⟨b0, 10, none⟩ (.string ⟨#[]⟩)).setCell ⟨b0, 11, none⟩ (.string ⟨#[]⟩)).setCell ⟨b0, 12, none⟩ (.string ⟨#[]⟩)).setCell ⟨b0, 13, none⟩ (.string ⟨#[]⟩)) = W6 at E0 F6 hS ⊢
    have D1 := Lib.hid (D1.out.fr hS (fun e => by omega))
    have D2 := Lib.hid (D2.out.fr hS (fun e => by omega))
    have D3 := Lib.hid (D3.out.fr hS (fun e => by omega))
    have D4 := Lib.hid (D4.out.fr hS (fun e => by omega))
    have D5 := Lib.hid (D5.out.fr hS (fun e => by omega))
    have hg6 := hS.size
    have hq : QConf W6 (New w W6) (#[.slice (some ⟨g, 0, none⟩) 3 3, .slice (some ⟨g + 1 + 1, 0, none⟩) 1 1, .slice (some ⟨g + 1 + 1 + 1, 0, none⟩) 1 1, .slice (some ⟨g + 1 + 1 + 1 + 1, 0, none⟩) 2 2, .string ⟨#[]⟩, .string ⟨#[]⟩, .string ⟨#[]⟩, .string ⟨#[]⟩, .string ⟨#[]⟩, .string ⟨#[]⟩, .string ⟨#[]⟩, .string ⟨#[]⟩, .string ⟨#[]⟩, .string ⟨#[]⟩] : Array Value).toList smpC := smp_conf (g := g) (fun k hk => ⟨by omega, by omega⟩) D1.out D2.out D3.out D4.out D5.out
    refine bodyPost_ret (v := .agg #[.slice (some ⟨g, 0, none⟩) 3 3, .slice (some ⟨g + 1 + 1, 0, none⟩) 1 1, .slice (some ⟨g + 1 + 1 + 1, 0, none⟩) 1 1, .slice (some ⟨g + 1 + 1 + 1 + 1, 0, none⟩) 2 2, .string ⟨#[]⟩, .string ⟨#[]⟩, .string ⟨#[]⟩, .string ⟨#[]⟩, .string ⟨#[]⟩, .string ⟨#[]⟩, .string ⟨#[]⟩, .string ⟨#[]⟩, .string ⟨#[]⟩, .string ⟨#[]⟩]) ?_ rfl ⟨_, rfl, hq, F6.out⟩
    have e0 := E0.out.cell 0
    have e1 := E0.out.cell 1
    have e2 := E0.out.cell 2
    have e3 := E0.out.cell 3
    have e4 := E0.out.cell 4
    have e5 := E0.out.cell 5
    have e6 := E0.out.cell 6
    have e7 := E0.out.cell 7
    have e8 := E0.out.cell 8
    have e9 := E0.out.cell 9
    have e10 := E0.out.cell 10
    have e11 := E0.out.cell 11
    have e12 := E0.out.cell 12
    have e13 := E0.out.cell 13
    clear hq
    simp only [List.setIfInBounds_toArray, List.set_cons_zero, List.set_cons_succ, List.getElem?_toArray, List.getElem?_cons_zero, List.getElem?_cons_succ] at e0 e1 e2 e3 e4 e5 e6 e7 e8 e9 e10 e11 e12 e13
    simp [results, Try.f29, go_sem, e0, e1, e2, e3, e4, e5, e6, e7, e8, e9, e10, e11, e12, e13]
    try rfl
    done
  clear aK
  go_region_held3 (fun X => X.cell? ⟨b1, 0, none⟩ = some (.string ByteArray.empty) ∧ X.cell? ⟨b1, 1, none⟩ = some (.int .i64 1) ∧ X.cell? ⟨b1, 2, none⟩ = some (.int .i64 20) ∧ X.cell? ⟨b1, 3, none⟩ = some (.int .i64 4096) ∧ X.cell? ⟨b1, 4, none⟩ = some (.int .i64 3) ∧ X.cell? ⟨b1, 5, none⟩ = some (.int .i64 4096) ∧ X.cell? ⟨b1, 6, none⟩ = some (.int .i64 1) ∧ X.cell? ⟨b1, 7, none⟩ = some (.int .i64 64) ∧ X.cell? ⟨b1, 8, none⟩ = some (.int .i64 4) ∧ X.cell? ⟨b1, 9, none⟩ = some (.string ByteArray.empty)) ((refine HK.out _ ?_; repeat' (first | with_reducible assumption | with_reducible exact Fr.refl _ _ | with_reducible refine Fr.drew ?_ | with_reducible refine Fr.alloc ?_ _ | with_reducible refine Fr.setCell ?_ (.inr (by simp; try omega)) _ | with_reducible refine fr_setCells _ _ _ ?_ (.inr (by simp; try omega))))) (fail)
  all_goals
    have B2 := Lib.hid (((Blk.new w2 50 #[.string ByteArray.empty, .int .i64 1, .int .i64 20, .int .i64 4096, .int .i64 3, .int .i64 4096, .int .i64 1, .int .i64 64, .int .i64 4, .string ByteArray.empty]).alloc (.cells #[.string ByteArray.empty, .int .i64 1, .int .i64 20, .int .i64 4096, .int .i64 3, .int .i64 4096, .int .i64 1, .int .i64 64, .int .i64 4, .string ByteArray.empty] 50)).alloc (.cells #[.string ByteArray.empty, .int .i64 1, .int .i64 20, .int .i64 4096, .int .i64 3, .int .i64 4096, .int .i64 1, .int .i64 64, .int .i64 4, .string ByteArray.empty] 50))
    have B3 := Lib.hid ((Blk.new (w2.alloc (.cells #[.string ByteArray.empty, .int .i64 1, .int .i64 20, .int .i64 4096, .int .i64 3, .int .i64 4096, .int .i64 1, .int .i64 64, .int .i64 4, .string ByteArray.empty] 50)) 50 #[.string ByteArray.empty, .int .i64 1, .int .i64 20, .int .i64 4096, .int .i64 3, .int .i64 4096, .int .i64 1, .int .i64 64, .int .i64 4, .string ByteArray.empty]).alloc (.cells #[.string ByteArray.empty, .int .i64 1, .int .i64 20, .int .i64 4096, .int .i64 3, .int .i64 4096, .int .i64 1, .int .i64 64, .int .i64 4, .string ByteArray.empty] 50))
    have B4 := Lib.hid (Blk.new ((w2.alloc (.cells #[.string ByteArray.empty, .int .i64 1, .int .i64 20, .int .i64 4096, .int .i64 3, .int .i64 4096, .int .i64 1, .int .i64 64, .int .i64 4, .string ByteArray.empty] 50)).alloc (.cells #[.string ByteArray.empty, .int .i64 1, .int .i64 20, .int .i64 4096, .int .i64 3, .int .i64 4096, .int .i64 1, .int .i64 64, .int .i64 4, .string ByteArray.empty] 50)) 50 #[.string ByteArray.empty, .int .i64 1, .int .i64 20, .int .i64 4096, .int .i64 3, .int .i64 4096, .int .i64 1, .int .i64 64, .int .i64 4, .string ByteArray.empty])
    have B0 := Lib.hid ((((HB0.out.alloc (.cells #[.string ByteArray.empty, .int .i64 1, .int .i64 20, .int .i64 4096, .int .i64 3, .int .i64 4096, .int .i64 1, .int .i64 64, .int .i64 4, .string ByteArray.empty] 50)).alloc (.cells #[.string ByteArray.empty, .int .i64 1, .int .i64 20, .int .i64 4096, .int .i64 3, .int .i64 4096, .int .i64 1, .int .i64 64, .int .i64 4, .string ByteArray.empty] 50)).alloc (.cells #[.string ByteArray.empty, .int .i64 1, .int .i64 20, .int .i64 4096, .int .i64 3, .int .i64 4096, .int .i64 1, .int .i64 64, .int .i64 4, .string ByteArray.empty] 50)).drewN 1)
    change Hid (Blk (((w2.alloc (.cells #[.string ByteArray.empty, .int .i64 1, .int .i64 20, .int .i64 4096, .int .i64 3, .int .i64 4096, .int .i64 1, .int .i64 64, .int .i64 4, .string ByteArray.empty] 50)).alloc (.cells #[.string ByteArray.empty, .int .i64 1, .int .i64 20, .int .i64 4096, .int .i64 3, .int .i64 4096, .int .i64 1, .int .i64 64, .int .i64 4, .string ByteArray.empty] 50)).alloc (.cells #[.string ByteArray.empty, .int .i64 1, .int .i64 20, .int .i64 4096, .int .i64 3, .int .i64 4096, .int .i64 1, .int .i64 64, .int .i64 4, .string ByteArray.empty] 50)).drew _ _ _) at B0
    have F3 := Lib.hid (((F2.out.alloc (.cells #[.string ByteArray.empty, .int .i64 1, .int .i64 20, .int .i64 4096, .int .i64 3, .int .i64 4096, .int .i64 1, .int .i64 64, .int .i64 4, .string ByteArray.empty] 50)).alloc (.cells #[.string ByteArray.empty, .int .i64 1, .int .i64 20, .int .i64 4096, .int .i64 3, .int .i64 4096, .int .i64 1, .int .i64 64, .int .i64 4, .string ByteArray.empty] 50)).alloc (.cells #[.string ByteArray.empty, .int .i64 1, .int .i64 20, .int .i64 4096, .int .i64 3, .int .i64 4096, .int .i64 1, .int .i64 64, .int .i64 4, .string ByteArray.empty] 50)).drew
    rw [size_alloc] at B3
    rw [size_alloc, size_alloc] at B4
    change Hid (Blk (((w2.alloc (.cells #[.string ByteArray.empty, .int .i64 1, .int .i64 20, .int .i64 4096, .int .i64 3, .int .i64 4096, .int .i64 1, .int .i64 64, .int .i64 4, .string ByteArray.empty] 50)).alloc (.cells #[.string ByteArray.empty, .int .i64 1, .int .i64 20, .int .i64 4096, .int .i64 3, .int .i64 4096, .int .i64 1, .int .i64 64, .int .i64 4, .string ByteArray.empty] 50)).alloc (.cells #[.string ByteArray.empty, .int .i64 1, .int .i64 20, .int .i64 4096, .int .i64 3, .int .i64 4096, .int .i64 1, .int .i64 64, .int .i64 4, .string ByteArray.empty] 50)).drew _ _ _) at B2 B3 B4
    first
    | with_reducible exact TAIL _ _ _ _ B0 B2 B3 B4 F3 (by omega) (by omega) (by omega) (by omega) (by omega) (by omega)
    | with_reducible exact TAIL _ _ _ _ B0 B2 B4 B3 F3 (by omega) (by omega) (by omega) (by omega) (by omega) (by omega)
    | with_reducible exact TAIL _ _ _ _ B0 B3 B2 B4 F3 (by omega) (by omega) (by omega) (by omega) (by omega) (by omega)
    | with_reducible exact TAIL _ _ _ _ B0 B3 B4 B2 F3 (by omega) (by omega) (by omega) (by omega) (by omega) (by omega)
    | with_reducible exact TAIL _ _ _ _ B0 B4 B2 B3 F3 (by omega) (by omega) (by omega) (by omega) (by omega) (by omega)
    | with_reducible exact TAIL _ _ _ _ B0 B4 B3 B2 F3 (by omega) (by omega) (by omega) (by omega) (by omega) (by omega)
end Conf
end Go.Proofs.Ytompphakagoaeaa
