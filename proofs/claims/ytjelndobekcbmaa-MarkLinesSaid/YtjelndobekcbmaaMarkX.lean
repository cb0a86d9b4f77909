/- Mark: the example. -/
import Derived.Test.YtjelndobekcbmaaMarkU
import Derived.Test.YtjelndobekcbmaaClockW
import Derived.Outline
namespace Go.Proofs.Ytjelndobekcbmaa
open Go.RowKit
set_option linter.unusedVariables false
set_option linter.unusedSimpArgs false
namespace Mark
open Digit Clock Sls
theorem blk_sl {α : Type} {n g : Nat} {t : TypeId} {R : Rd α} {w : World} {S : Nat → Prop} (rows : List (List Value)) (xs : List α) (h : Blk w g t rows.flatten.toArray) (hn : ∀ r ∈ rows, r.length = n) (hl : rows.length = xs.length)
    (hR : ∀ i (h : i < rows.length) (h' : i < xs.length), R w S rows[i] xs[i]) (hS : S g) (hm : xs.length ≤ maxLen) : RSl n R w S [.slice (some ⟨g, 0, none⟩) xs.length xs.length] xs := by
  refine ⟨some ⟨g, 0, none⟩, xs.length, rfl, Nat.le_refl _, hm, fun h => (by cases h), fun i hi => ⟨⟨g, 0, none⟩, rows[i]'(by omega), rfl, hS, hn _ (List.getElem_mem _), fun j hj => ?_, hR i (by omega) hi⟩⟩
  have := h.cell (i * n + j)
  rw [List.getElem?_toArray, flat_get rows n i j (by omega) hn hj] at this
  rw [← this, show (⟨g, 0, none⟩ : Addr).add (i * n + j) = ⟨g, i * n + j, none⟩ from by unfold Addr.add; split <;> simp_all]
theorem its_sl {g : Nat} {w : World} {S : Nat → Prop} (l : List It) (h : Blk w g 26 (l.flatMap encIt).toArray) (hl : ∀ x ∈ l, ItOk x) (hS : S g) (hm : l.length ≤ maxLen) : RSl 3 RIt w S [.slice (some ⟨g, 0, none⟩) l.length l.length] l :=
  blk_sl (l.map encIt) l (by rw [← List.flatMap_def]; exact h) (by intro r hr; obtain ⟨x, -, rfl⟩ := List.mem_map.1 hr; rfl) (by simp) (fun i h h' => by rw [List.getElem_map]; exact it_rd (hl _ (List.getElem_mem _)) _ _) hS hm
theorem st0 : stampR 0 = [50, 48, 48, 48, 45, 48, 49, 45, 48, 49, 32, 48, 48, 58, 48, 48, 58, 48, 48] := wk3.1.e
theorem st1 : stampR 1 = [50, 48, 48, 48, 45, 48, 49, 45, 48, 49, 32, 48, 48, 58, 48, 48, 58, 48, 49] := (good_at (y := 2000) (k := 0) (d := 1) (a := 0) (b := 0) (c := 1) (n := 1) (by decide) (by decide) (by decide)).1.e
theorem st2 : stampR 2 = [50, 48, 48, 48, 45, 48, 49, 45, 48, 49, 32, 48, 48, 58, 48, 48, 58, 48, 50] := (good_at (y := 2000) (k := 0) (d := 1) (a := 0) (b := 0) (c := 2) (n := 2) (by decide) (by decide) (by decide)).1.e
theorem st3 : stampR 3 = [50, 48, 48, 48, 45, 48, 49, 45, 48, 49, 32, 48, 48, 58, 48, 48, 58, 48, 51] := (good_at (y := 2000) (k := 0) (d := 1) (a := 0) (b := 0) (c := 3) (n := 3) (by decide) (by decide) (by decide)).1.e
def wIts : List It := [(1, 0, [97, 98, 10, 99]), (2, 1, [97, 110, 110, 32, 105, 110]), (1, 2, [100, 10]), (3, 3, [55]), (9, 0, [120])]
theorem wIts_ok : ∀ x ∈ wIts, ItOk x := by
  intro x hx
  simp only [wIts, List.mem_cons, List.not_mem_nil, or_false] at hx
  rcases hx with rfl | rfl | rfl | rfl | rfl <;> exact ⟨rfl, rfl, by decide⟩
def wOut : Str := [91, 50, 48, 48, 48, 45, 48, 49, 45, 48, 49, 32, 48, 48, 58, 48, 48, 58, 48, 48, 93, 32, 97, 98, 10, 91, 50, 48, 48, 48, 45, 48, 49, 45, 48, 49, 32, 48, 48, 58, 48, 48, 58, 48, 48, 93, 32, 99, 10, 91, 50, 48, 48, 48, 45, 48, 49, 45, 48, 49, 32, 48, 48, 58, 48, 48, 58, 48, 49, 93, 32, 45, 45, 32, 97, 110, 110, 32, 105, 110, 32, 45, 45, 10, 91, 50, 48, 48, 48, 45, 48, 49, 45, 48, 49, 32, 48, 48, 58, 48, 48, 58, 48, 50, 93, 32, 100, 10, 91, 50, 48, 48, 48, 45, 48, 49, 45, 48, 49, 32, 48, 48, 58, 48, 48, 58, 48, 51, 93, 32, 45, 45, 32, 55, 32, 108, 111, 115, 116, 32, 45, 45, 10]
theorem w_out : (allR wIts).1 = wOut := by
  have s1 : showR [97, 110, 110, 32, 105, 110] = [97, 110, 110, 32, 105, 110] := by decide
  have s2 : showR [55] = [55] := by decide
  simp only [allR, wIts, List.foldl_cons, List.foldl_nil, stepR, addR, dataR, dStep, noteR, stR, st0, st1, st2, st3, s1, s2]
  rfl
theorem w_one : addR false (1, 0, [120]) = ([91, 50, 48, 48, 48, 45, 48, 49, 45, 48, 49, 32, 48, 48, 58, 48, 48, 58, 48, 48, 93, 32, 120], true) := by
  simp only [addR, dataR, dStep, stR, st0, List.foldl_cons, List.foldl_nil]
  rfl
theorem its_few : Fewl wIts := ⟨by decide, by decide⟩
set_option maxRecDepth 100000 in
set_option maxHeartbeats 4000000 in
theorem works_any (w : World) : Calls Try.prog 12 #[] w fun e w' => e = .returned (.bool true) ∧ Fr No w w' := by
  have X0 := Lib.hid (Blk.new w 26 (wIts.flatMap encIt).toArray)
  have F0 := Lib.hid ((Fr.refl No w).alloc (.cells (wIts.flatMap encIt).toArray 26))
  go_enter Try.func12, Try.ntmps12
  go_wp2_with fail
  refine (all_any _ wIts _ (fun k => k = w.heap.size) (fun k hk => by subst hk; exact X0.out.lt) (its_sl wIts X0.out wIts_ok rfl (by unfold maxLen; decide)) its_few).mono ?_
  rintro e w1 ⟨rfl, hf⟩
  have F1 := Lib.hid (F0.out.then_no hf)
  clear hf X0 F0
  rw [w_out]
  have M1 := Lib.hid (Blk.new w1 30 #[.bool false])
  have F2 := Lib.hid ((Fr.refl No w1).alloc (.cells #[.bool false] 30))
  go_wp2_with fail
  refine (add_any w1.heap.size false 1 0 [120] _ M1.out (by decide)).mono ?_
  unfold AddPost
  rw [w_one]
  rintro e w2 ⟨rfl, hb, hf⟩
  have M2 := Lib.hid hb
  have F3 := Lib.hid ((F1.out.then_no F2.out).trans hf fun b hb hl => by have hb : b = w1.heap.size := hb; have := F1.out.size; omega)
  clear hb hf M1 F2
  go_wp2_with fail
  refine (open_any _ true _ M2.out).mono ?_
  rintro e w3 ⟨rfl, rfl⟩
  go_wp2_with fail
  refine (add_none _ _ rfl _).mono ?_
  rintro e w3 ⟨rfl, hf⟩
  have F4 := Lib.hid (F3.out.then_no hf)
  clear hf
  go_wp2_with fail
  refine (open_none _).mono ?_
  rintro e w4 ⟨rfl, rfl⟩
  go_wp2_with fail
  go_ret
  exact ⟨rfl, F4.out⟩
end Mark
end Go.Proofs.Ytjelndobekcbmaa
