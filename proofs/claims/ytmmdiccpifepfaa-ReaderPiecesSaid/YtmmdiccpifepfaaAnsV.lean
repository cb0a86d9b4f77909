/- Answer: the reference's Put, and the first line of a text. Printed by gen_ansv.py. -/
import Derived.Test.YtmmdiccpifepfaaAnsW
namespace Go.Proofs.Ytmmdiccpifepfaa
open Go.RowKit
set_option linter.unusedVariables false
set_option linter.unusedSimpArgs false
namespace Ans
open Digit Sls
theorem str_t {a b : Str} (h : a = b) : (a == b) = true := beq_iff_eq.2 h
theorem str_f {a b : Str} (h : a ≠ b) : (a == b) = false := beq_eq_false_iff_ne.2 h
theorem filled_nil : filled [] = [[]] := rfl
theorem row_bb (n : Int) (c : UInt8) (cc : ByteArray) (hc : cc = ⟨[c].toArray⟩) (s acc : Str) : (⟨acc.toArray⟩ : ByteArray) ++ ⟨(putR n).toArray⟩ ++ cc ++ ⟨(showR s).toArray⟩ ++ ⟨#[13, 10]⟩ = ⟨(acc ++ row n c s).toArray⟩ := by
  subst hc
  exact row_ba n c s acc
set_option maxRecDepth 100000 in
set_option maxHeartbeats 4000000 in
theorem rputA_any (n : Int) (v : Value) (L : List Str) (w : World) (S : Nat → Prop) (hS : ∀ k, S k → k < w.heap.size) (h : RSl 1 RStr w S [v] L) (hl : Okr L) (hn : -9223372036854775808 ≤ n ∧ n ≤ 9223372036854775807) :
    Calls Try.prog 23 #[.agg #[.int .i64 n, v]] w (PutPost w (putA (n, L))) := by
  obtain ⟨A, c, rfl, hc1, hc2⟩ := h.slice
  unfold maxLen at hc2
  have H := Lib.hid h
  have HS := Lib.hid hS
  have HO := Lib.hid hl
  have hl60 := hl.1
  have X0 := Lib.hid (Blk.new w 69 #[.int .i64 n, .slice A L.length c])
  have F0 := Lib.hid ((Fr.refl No w).alloc (.cells #[.int .i64 n, .slice A L.length c] 69))
  clear h hS hl
  by_cases hlo : n < 100
  · have HE := Lib.hid (show putA (n, L) = ([], 2) by unfold putA; rw [if_pos (.inl hlo)])
    go_enter Try.func23, Try.ntmps23
    go_wp2
    go_ret2
    unfold PutPost
    rw [HE.out]
    exact ⟨rfl, F0.out⟩
  · by_cases hhi : 999 < n
    · have HE := Lib.hid (show putA (n, L) = ([], 2) by unfold putA; rw [if_pos (.inr hhi)])
      have hlo' : 100 ≤ n := by omega
      go_enter Try.func23, Try.ntmps23
      go_wp2
      go_ret2
      unfold PutPost
      rw [HE.out]
      exact ⟨rfl, F0.out⟩
    · have hlo' : 100 ≤ n := by omega
      have hhi' : n ≤ 999 := by omega
      have HE := Lib.hid (show putA (n, L) = (putB n (filled L), 0) by unfold putA; rw [if_neg (fun h => h.elim hlo hhi), if_neg (by simp only; omega)])
      have HP := Lib.hid (fun w => rput_any n hn w)
      have hpl := (put_dig ⟨hlo', hhi'⟩).1
      obtain ⟨u, hu⟩ : ∃ u, putR n = u := ⟨_, rfl⟩
      have HU := Lib.hid hu
      rw [hu] at HP hpl
      have hul : u.length ≤ 3 := by omega
      clear hu hpl
      obtain ⟨bx, hbx⟩ : ∃ bx, w.heap.size = bx := ⟨_, rfl⟩
      rw [hbx] at X0
      go_enter Try.func23, Try.ntmps23
      go_wp2_with fail
      obtain ⟨w1, hw1⟩ : ∃ w1, w.alloc (.cells #[.int .i64 n, .slice A L.length c] 69) = w1 := ⟨_, rfl⟩
      rw [hw1] at X0 F0 ⊢
      clear hw1 hbx
      have H1 := Lib.hid (str_keep H.out F0.out HS.out)
      have HS1 := Lib.hid (fun k hk => Nat.lt_of_lt_of_le (HS.out k hk) F0.out.size)
      clear H HS
      go_loopw [4, 5] (fun z i wr => ∃ (k : Nat) (acc : Str), i = .int .i64 k ∧ z = .string ⟨acc.toArray⟩ ∧ k ≤ L.length ∧ acc.length ≤ 406 * k ∧ Hid (k + 1 ≤ L.length ∨ k = 0) ∧ Hid (acc ++ putB n (L.drop k) = putB n L) ∧ Hid (Fr No w1 wr)) (fun _ i _ => L.length - (intOf i).toNat)
      case atStart => exact ⟨0, [], rfl, rfl, by omega, by simp, Or.inr rfl, (show [] ++ putB n (L.drop 0) = putB n L from rfl), Fr.refl _ _⟩
      case round =>
        obtain ⟨k, acc, rfl, rfl, hk, hal, HK1, HB, D⟩ := hrel
        have x0 : wr.cell? ⟨bx, 0, none⟩ = some (.int .i64 n) := (X0.out.fr D.out (fun h => h)).cell 0
        have x1 : wr.cell? ⟨bx, 1, none⟩ = some (.slice A L.length c) := (X0.out.fr D.out (fun h => h)).cell 1
        by_cases hlt : k + 1 < L.length
        · have hlt1 : k < L.length := by omega
          obtain ⟨ad, rfl, cs, -, hsb⟩ := str_at (str_keep H1.out D.out HS1.out) hlt1
          obtain ⟨x, hx⟩ : ∃ x, L[k] = x := ⟨_, rfl⟩
          have hxl : x.length ≤ 100 := by rw [← hx]; exact HO.out.2 _ (List.getElem_mem hlt1)
          have hsl := show_len x
          rw [hx] at cs
          have HN := Lib.hid (show acc ++ row n 45 x ++ putB n (L.drop (k + 1)) = putB n L by rw [← HB.out, putB_drop n L k hlt1, if_neg (by omega), hx, List.append_assoc])
          have hrl := row_len ⟨hlo', hhi'⟩ 45 hxl
          have hab : ad.block < wr.heap.size := Nat.lt_of_lt_of_le (HS1.out _ hsb) D.out.size
          have hbb : bx < wr.heap.size := (X0.out.fr D.out (fun h => h)).lt
          have HK := Lib.hid (fun (X : World) (hf : Fr No wr X) => (show X.cell? ⟨bx, 0, none⟩ = some (.int .i64 n) ∧ X.cell? ⟨bx, 1, none⟩ = some (.slice (some ad) L.length c) ∧ X.cell? (ad.add k) = some (.string ⟨x.toArray⟩) from ⟨(hf.cell (p := ⟨bx, 0, none⟩) hbb (fun h => h)).trans x0, (hf.cell (p := ⟨bx, 1, none⟩) hbb (fun h => h)).trans x1, (hf.cell (p := ad.add k) (by rw [block_add]; exact hab) (fun h => h)).trans cs⟩))
          have HS2 := Lib.hid (fun w => rshow_any x w (by omega))
          have HZ := Lib.hid (row_bb n 45 ⟨#[45]⟩ rfl x acc)
          rw [HU.out] at HZ
          obtain ⟨g, hg⟩ : ∃ g, showR x = g := ⟨_, rfl⟩
          rw [hg] at HS2 HZ hsl
          have hadd1 := fun (W : World) => Go.run_string_add_sum (P := Try.prog) (w := W) (⟨acc.toArray⟩ : ByteArray) (⟨u.toArray⟩ : ByteArray) (by simp [ByteArray.size]; omega)
          have hadd2 := fun (W : World) => Go.run_string_add_sum (P := Try.prog) (w := W) ((⟨acc.toArray⟩ : ByteArray) ++ ⟨u.toArray⟩) (⟨#[45]⟩ : ByteArray) (by simp only [ByteArray.size_append]; simp [ByteArray.size]; omega)
          have hadd3 := fun (W : World) => Go.run_string_add_sum (P := Try.prog) (w := W) ((⟨acc.toArray⟩ : ByteArray) ++ ⟨u.toArray⟩ ++ ⟨#[45]⟩) (⟨g.toArray⟩ : ByteArray) (by simp only [ByteArray.size_append]; simp [ByteArray.size]; omega)
          have hadd4 := fun (W : World) => Go.run_string_add_sum (P := Try.prog) (w := W) ((⟨acc.toArray⟩ : ByteArray) ++ ⟨u.toArray⟩ ++ ⟨#[45]⟩ ++ ⟨g.toArray⟩) (⟨#[13, 10]⟩ : ByteArray) (by simp only [ByteArray.size_append]; simp [ByteArray.size]; omega)
          have hk0 : (0 : Int) ≤ (k : Int) := by omega
          have hk1 : (k : Int) < (L.length : Int) := by omega
          clear hx hg hsb
          go_wp2_with fail
          go_region_held3 (fun X => X.cell? ⟨bx, 0, none⟩ = some (.int .i64 n) ∧ X.cell? ⟨bx, 1, none⟩ = some (.slice (some ad) L.length c) ∧ X.cell? (ad.add k) = some (.string ⟨x.toArray⟩)) ((refine HK.out _ ?_; repeat' (first | with_reducible assumption | with_reducible exact Fr.refl _ _ | with_reducible refine Fr.drew ?_))) (first | (go_at_call 36; refine (HP.out _).mono ?_; rintro e w' ⟨rfl, rfl⟩) | (go_at_call 37; refine (HS2.out _).mono ?_; rintro e w5 ⟨rfl, hf⟩; have hf5 : Fr No wr w5 := (Fr.then_no (by repeat' (first | with_reducible assumption | with_reducible exact Fr.refl _ _ | with_reducible refine Fr.drew ?_)) hf); clear hf))
          all_goals
            have D2 := Lib.hid (D.out.then_no hf5)
            go_wp2_with fail
            go_roundw
            case rel => exact ⟨k + 1, acc ++ row n 45 x, by go_num, (by rw [← HZ.out]), by omega, by simp; omega, Or.inl (by omega), HN.out, D2.out⟩
            case measure => simp [intOf]; omega
        · by_cases hz : L.length = 0
          · have hL : L = [] := List.eq_nil_of_length_eq_zero hz
            subst hL
            obtain rfl : k = 0 := by simpa using hk
            have hacc : acc = [] := by have := HB.out; simpa [putB] using this
            subst hacc
            have HZ := Lib.hid (row_bb n 32 ⟨#[32]⟩ rfl [] [])
            rw [HU.out] at HZ
            have HV := Lib.hid (show putB n (filled []) = [] ++ row n 32 [] by rw [filled_nil]; simp [putB])
            have HS2 := Lib.hid (fun w => rshow_any [] w (by simp))
            have hgl : (showR []).length ≤ 0 := by decide
            obtain ⟨g, hg⟩ : ∃ g, showR [] = g := ⟨_, rfl⟩
            rw [hg] at HS2 HZ hgl
            clear hg
            go_wp2_with fail
            refine (HP.out _).mono ?_
            rintro e w' ⟨rfl, rfl⟩
            go_wp2_with fail
            refine (HS2.out _).mono ?_
            rintro e w5 ⟨rfl, hf⟩
            have F5 := Lib.hid ((F0.out.then_no D.out).then_no hf)
            clear hf
            go_wp2_with fail
            go_ret2
            unfold PutPost
            rw [HE.out, HV.out, ← HZ.out]
            exact ⟨rfl, F5.out⟩
          · have hkl : k + 1 = L.length := by have := HK1.out; omega
            have hlt1 : k < L.length := by omega
            obtain ⟨ad, rfl, cs, -, hsb⟩ := str_at (str_keep H1.out D.out HS1.out) hlt1
            obtain ⟨x, hx⟩ : ∃ x, L[k] = x := ⟨_, rfl⟩
            have hxl : x.length ≤ 100 := by rw [← hx]; exact HO.out.2 _ (List.getElem_mem hlt1)
            have hsl := show_len x
            rw [hx] at cs
            have HV := Lib.hid (show putB n (filled L) = acc ++ row n 32 x by
              have e : filled L = L := by unfold filled; rw [if_neg (by intro e; rw [e] at hz; exact hz rfl)]
              have hd : L.drop (k + 1) = [] := List.drop_of_length_le (by omega)
              rw [e, ← HB.out, putB_drop n L k hlt1, if_pos hkl, hx, hd]
              simp [putB])
            have HZ := Lib.hid (row_bb n 32 ⟨#[32]⟩ rfl x acc)
            rw [HU.out] at HZ
            have HS2 := Lib.hid (fun w => rshow_any x w (by omega))
            obtain ⟨g, hg⟩ : ∃ g, showR x = g := ⟨_, rfl⟩
            rw [hg] at HS2 HZ hsl
            have hki : (L.length : Int) - 1 = (k : Int) := by omega
            have hpos : (0 : Int) < (L.length : Int) := by omega
            clear hx hg hsb hkl
            go_wp2_with fail
            refine (HP.out _).mono ?_
            rintro e w' ⟨rfl, rfl⟩
            go_wp2_with fail
            refine (HS2.out _).mono ?_
            rintro e w5 ⟨rfl, hf⟩
            have F5 := Lib.hid ((F0.out.then_no D.out).then_no hf)
            clear hf
            go_wp2_with fail
            go_ret2
            unfold PutPost
            rw [HE.out, HV.out, ← HZ.out]
            exact ⟨rfl, F5.out⟩
/-- The first line of a text, as a pair. -/
def lineP (s : Str) : Str × Bool := match lineR s with
  | none => ([], false)
  | some t => (t, true)
theorem line_cons (a b : UInt8) (t : Str) : lineR (a :: b :: t) = if a = 13 ∧ b = 10 then some [] else (lineR (b :: t)).map (a :: ·) := by rw [lineR]
theorem line_step (s : Str) (k : Nat) (h : k + 1 < s.length) (h1 : lineR s = (lineR (s.drop k)).map (s.take k ++ ·)) : if (s.drop k).take 2 = [13, 10] then lineR s = some (s.take k) else lineR s = (lineR (s.drop (k + 1))).map (s.take (k + 1) ++ ·) := by
  have e : s.drop k = s[k] :: s[k + 1] :: s.drop (k + 2) := by
    rw [List.drop_eq_getElem_cons (by omega), List.drop_eq_getElem_cons (by omega)]
  have e2 : s.drop (k + 1) = s[k + 1] :: s.drop (k + 2) := by rw [List.drop_eq_getElem_cons (by omega)]
  rw [e, line_cons] at h1
  rw [e]
  by_cases hc : s[k] = 13 ∧ s[k + 1] = 10
  · rw [if_pos hc] at h1
    rw [if_pos (show List.take 2 (s[k] :: s[k + 1] :: s.drop (k + 2)) = [13, 10] by rw [hc.1, hc.2]; rfl), h1]
    simp
  · rw [if_neg hc] at h1
    rw [if_neg (by intro he; have he' : s[k] :: s[k + 1] :: [] = [13, 10] := he; injection he' with h2 h3; injection h3 with h3 _; exact hc ⟨h2, h3⟩), h1, e2, List.take_succ_eq_append_getElem (by omega)]
    cases lineR (s[k + 1] :: s.drop (k + 2)) with
    | none => rfl
    | some v =>
      show some (s.take k ++ s[k] :: v) = some ((s.take k ++ [s[k]]) ++ v)
      rw [List.append_assoc]; rfl
set_option maxRecDepth 100000 in
theorem line_any (s : Str) (w : World) (hs : s.length ≤ 1000000) : Calls Try.prog 38 #[.string ⟨s.toArray⟩] w fun e w' => e = .returned (.tuple #[.string ⟨(lineP s).1.toArray⟩, .bool (lineP s).2]) ∧ w' = w := by
  go_enter Try.func38, Try.ntmps38
  go_wp2_with fail
  go_loop [4] (fun i => ∃ k : Nat, i = .int .i64 k ∧ k ≤ s.length ∧ Hid (lineR s = (lineR (s.drop k)).map (s.take k ++ ·))) (fun i => s.length - (intOf i).toNat)
  case atStart => exact ⟨0, rfl, by omega, Lib.hid (by simp)⟩
  case round =>
    obtain ⟨k, rfl, hk, HB⟩ := hrel
    by_cases hlt : k + 1 < s.length
    · have hst := line_step s k hlt HB.out
      have hs1 := fun W : World => slice_str (P := Try.prog) W 9 Try.underlying9 s k (k + 2) k (k + 2) rfl (by omega) (by omega) (by omega)
      have hs2 := fun W : World => Sls.slice_to (P := Try.prog) W 9 Try.underlying9 s k k rfl (by omega)
      rw [show k + 2 - k = 2 by omega] at hs1
      obtain ⟨t, ht⟩ : ∃ t, (s.drop k).take 2 = t := ⟨_, rfl⟩
      rw [ht] at hs1 hst
      clear ht
      by_cases hc : t = [13, 10]
      · have hb := str_t hc
        rw [if_pos hc] at hst
        have HV := Lib.hid (show lineP s = (s.take k, true) by unfold lineP; rw [hst])
        obtain ⟨r, hr⟩ : ∃ r, s.take k = r := ⟨_, rfl⟩
        rw [hr] at hs2 HV
        clear hst hc hr
        go_wp2_with fail
        go_ret2
        rw [HV.out]
        exact ⟨rfl, rfl⟩
      · have hb := str_f hc
        rw [if_neg hc] at hst
        have HN := Lib.hid hst
        clear hst hc
        go_wp2_with fail
        go_round
        case rel => exact ⟨k + 1, by go_num, by omega, HN⟩
        case measure => simp [intOf]; omega
    · have HV := Lib.hid (show lineP s = ([], false) by
        have h1 := HB.out
        have h2 : lineR (s.drop k) = none := by
          match h : s.drop k with
          | [] => rfl
          | [_] => rfl
          | a :: b :: t =>
            have := congrArg List.length h
            simp at this
            omega
        rw [h2] at h1
        unfold lineP
        rw [h1]; rfl)
      go_wp2_with fail
      go_ret2
      rw [HV.out]
      exact ⟨rfl, rfl⟩
end Ans
end Go.Proofs.Ytmmdiccpifepfaa
