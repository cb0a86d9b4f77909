/- Answer: what its functions do. -/
import Derived.Test.YtjelndobekcbmaaAnsP
import Derived.Test.YtjelndobekcbmaaPush
import Derived.Test.YtjelndobekcbmaaBrow
import Derived.BigQuiet
import Derived.Outline
import Derived.Deep.RegionHeld3
namespace Go.Proofs.Ytjelndobekcbmaa
open Go.RowKit
set_option linter.unusedVariables false
set_option linter.unusedSimpArgs false
namespace Ans
open Digit Sls
theorem ba_app (a b : Str) : (⟨a.toArray⟩ : ByteArray) ++ ⟨b.toArray⟩ = ⟨(a ++ b).toArray⟩ := by
  apply ByteArray.ext
  show (ByteArray.append _ _).data = _
  simp
def encL (s : Str) : List Value := [.string ⟨s.toArray⟩]
theorem infoStr : (Try.prog.info? 9).map (fun i => (i.zero, i.size, i.bytes)) = some (some (.string ByteArray.empty), 1, 16) := by kernel_rfl
theorem encL_one (l : List Str) : ∀ u ∈ l.flatMap encL, u.oneCell' = true := by
  intro u hu
  obtain ⟨x, -, h⟩ := List.mem_flatMap.1 hu
  rw [List.mem_singleton.1 h]; rfl
theorem encL_len (l : List Str) : (l.flatMap encL).length = l.length * 1 := by
  induction l with
  | nil => rfl
  | cons x l ih => rw [List.flatMap_cons, List.length_append, ih, List.length_cons]; simp [encL]; omega
theorem encL_rd {s : Str} (h : s.length ≤ maxLen) (w : World) (S : Nat → Prop) : RStr w S (encL s) s := ⟨rfl, h⟩
abbrev GrL (w wr : World) (v : Value) (l : List Str) : Prop := Grow w wr 9 1 encL v l
theorem grl_sl {w wr : World} {v : Value} {l : List Str} (h : GrL w wr v l) (hl : ∀ x ∈ l, x.length ≤ maxLen) : RSl 1 RStr wr (New w wr) [v] l := h.sl (fun _ _ => rfl) (fun x hx => encL_rd (hl x hx))
theorem strs_len {w : World} {S : Nat → Prop} {v : Value} {l : List Str} (h : RSl 1 RStr w S [v] l) : ∀ x ∈ l, x.length ≤ maxLen := by
  intro x hx
  obtain ⟨j, hj, rfl⟩ := List.getElem_of_mem hx
  obtain ⟨_, _, _, _, _, _, h5⟩ := h
  obtain ⟨_, _, _, _, _, _, h6⟩ := h5 j hj
  exact h6.2
def ClonePost (w : World) (l : List Str) (e : Ending) (w' : World) : Prop := ∃ v, e = .returned v ∧ RSl 1 RStr w' (New w w') [v] l ∧ Fr No w w'
set_option maxRecDepth 100000 in
theorem clone_any (v : Value) (l : List Str) (w : World) (S : Nat → Prop) (hS : ∀ k, S k → k < w.heap.size) (h : RSl 1 RStr w S [v] l) (hl : l.length ≤ 10000) :
    Calls Try.prog 44 #[v] w (ClonePost w l) := by
  obtain ⟨A, c, rfl, hc1, hc2⟩ := h.slice
  unfold maxLen at hc2
  have H := Lib.hid h
  have HS := Lib.hid hS
  obtain ⟨h1, h2, h3, h4⟩ := sl_nil h
  cases A with
  | none =>
    have hn : l = [] := h4 rfl
    subst hn
    clear h h1 h2 h3 h4 hS
    go_enter Try.func44, Try.ntmps44
    have q := fun (w : World) (n c n' c' : Nat) => Lib.run_eql_slice_nil (P := Try.prog) w 33 9 none n c n' c' Try.underlying33
    go_wp2
    go_ret
    exact ⟨_, rfl, ⟨none, 0, rfl, Nat.le_refl _, Nat.zero_le _, fun _ => rfl, fun i hi => by simp at hi⟩, Fr.refl _ _⟩
  | some ad =>
    have G0 := Lib.hid (Grow.lit w 9 1 encL [] rfl (Nat.zero_le _))
    have HN := Lib.hid (show ∀ j u, (l.flatMap encL)[j]? = some u → ∃ b, some ad = some b ∧ (w.alloc (.cells #[] 9)).cell? (b.add j) = some u from fun j u hj => by
      have hk := strs_go h (Kept.of_no ((Fr.refl No w).alloc (.cells #[] 9)) hS) (fun k hk => hk)
      exact Sls.sl_news (by decide) hk (fun _ _ => rfl) (fun cs x hx => hx.1) j u hj)
    have HLn := Lib.hid (encL_len l)
    have HLM := Lib.hid (strs_len h)
    clear h h1 h2 h3 h4 hS
    go_enter Try.func44, Try.ntmps44
    have q := fun (w : World) (n c n' c' : Nat) => Lib.run_eql_slice_nil (P := Try.prog) w 33 9 (some ad) n c n' c' Try.underlying33
    go_wp2_with (at_builtin; go_loud (refine wp_app (B := some ad) (m := l.length) (c := c) (news := l.flatMap encL) rfl (.tmp 5) (.tmp 6) 33 rfl 9 (.string ByteArray.empty) 1 16 Try.underlying33 infoStr rfl (by decide) (.slice (some ⟨w.heap.size, 0, none⟩) 0 0) 0 [] rfl G0.out.own rfl HLn.out HN.out (encL_one l) (by omega) (by unfold maxLen; omega) ?_; intro v4 w4 p1 p2 p3; have G4 : Hid (GrL w w4 v4 l) := Lib.hid (G0.out.app (m := l) p1 p2 p3); clear p1 p2 p3))
    obtain ⟨B, d, hv⟩ := G4.out.form
    subst hv
    go_wp2
    go_ret
    exact ⟨_, rfl, grl_sl G4.out HLM.out, G4.out.fr⟩
/-- The code of the n-th byte of a row. -/
theorem row_ba (n : Int) (c : UInt8) (s acc : Str) : (⟨acc.toArray⟩ : ByteArray) ++ ⟨(putR n).toArray⟩ ++ ⟨[c].toArray⟩ ++ ⟨(showR s).toArray⟩ ++ ⟨#[13, 10]⟩ = ⟨(acc ++ row n c s).toArray⟩ := by
  rw [show (⟨#[13, 10]⟩ : ByteArray) = ⟨([13, 10] : Str).toArray⟩ from rfl]
  simp only [ba_app]
  unfold row
  simp only [List.append_assoc]
theorem putB_drop (n : Int) (L : List Str) (k : Nat) (h : k < L.length) : putB n (L.drop k) = row n (if k + 1 = L.length then 32 else 45) L[k] ++ putB n (L.drop (k + 1)) := by
  rw [List.drop_eq_getElem_cons h]
  have : (L.drop (k + 1) = []) ↔ k + 1 = L.length := by rw [List.drop_eq_nil_iff]; omega
  show row n (if L.drop (k + 1) = [] then 32 else 45) _ ++ _ = _
  simp only [this]
/-- A reply whose lines are not long. -/
def Okr (L : List Str) : Prop := L.length ≤ 60 ∧ ∀ s ∈ L, s.length ≤ 100
theorem row_len {n : Int} (h : 100 ≤ n ∧ n ≤ 999) (c : UInt8) {s : Str} (hs : s.length ≤ 100) : (row n c s).length ≤ 406 := by
  have := (put_dig h).1
  have := show_len s
  unfold row
  simp only [List.length_append, List.length_cons, List.length_nil]
  omega
theorem putB_len {n : Int} (h : 100 ≤ n ∧ n ≤ 999) : ∀ (L : List Str), (∀ s ∈ L, s.length ≤ 100) → (putB n L).length ≤ 406 * L.length
  | [], _ => by simp [putB]
  | s :: t, hl => by
    have h1 := row_len h (if t = [] then 32 else 45) (hl s (by simp))
    have h2 := putB_len h t fun x hx => hl x (List.mem_cons_of_mem _ hx)
    show (row n (if t = [] then 32 else 45) s ++ putB n t).length ≤ _
    rw [List.length_append, List.length_cons]
    omega
theorem str_keep {w w' : World} {S : Nat → Prop} {v : Value} {L : List Str} (h : RSl 1 RStr w S [v] L) (hf : Fr No w w') (hS : ∀ k, S k → k < w.heap.size) : RSl 1 RStr w' S [v] L := strs_go h (Kept.of_no hf hS) (fun k hk => hk)
theorem str_at {w : World} {S : Nat → Prop} {A : Option Addr} {n c k : Nat} {L : List Str} (h : RSl 1 RStr w S [.slice A n c] L) (hk : k < L.length) : ∃ ad, A = some ad ∧ w.cell? (ad.add k) = some (.string ⟨L[k].toArray⟩) ∧ ad.block = ad.block ∧ S ad.block := by
  obtain ⟨A', cap', e', -, -, hel⟩ := h.strs
  injection e' with e1 e2 e3
  subst e1
  obtain ⟨bd, h1, h2, cz, -⟩ := hel k hk
  exact ⟨bd, h1, cz, rfl, h2⟩
def PutPost (w : World) (r : Str × Int) (e : Ending) (w' : World) : Prop := e = .returned (.tuple #[.string ⟨r.1.toArray⟩, .int .i64 r.2]) ∧ Fr No w w'
set_option maxRecDepth 100000 in
set_option maxHeartbeats 4000000 in
theorem put_any (n : Int) (v : Value) (L : List Str) (w : World) (S : Nat → Prop) (hS : ∀ k, S k → k < w.heap.size) (h : RSl 1 RStr w S [v] L) (hl : Okr L) (hn : -9223372036854775808 ≤ n ∧ n ≤ 9223372036854775807) :
    Calls Try.prog 22 #[.agg #[.int .i64 n, v]] w (PutPost w (putA (n, L))) := by
  obtain ⟨A, c, rfl, hc1, hc2⟩ := h.slice
  unfold maxLen at hc2
  have H := Lib.hid h
  have HS := Lib.hid hS
  have HO := Lib.hid hl
  have hl60 := hl.1
  have X0 := Lib.hid (Blk.new w 36 #[.int .i64 n, .slice A L.length c])
  have F0 := Lib.hid ((Fr.refl No w).alloc (.cells #[.int .i64 n, .slice A L.length c] 36))
  clear h hS hl
  by_cases hlo : n < 100
  · have HE := Lib.hid (show putA (n, L) = ([], 2) by unfold putA; rw [if_pos (.inl hlo)])
    go_enter Try.func22, Try.ntmps22
    go_wp2
    go_ret2
    unfold PutPost
    rw [HE.out]
    exact ⟨rfl, F0.out⟩
  · by_cases hhi : 999 < n
    · have HE := Lib.hid (show putA (n, L) = ([], 2) by unfold putA; rw [if_pos (.inr hhi)])
      have hlo' : 100 ≤ n := by omega
      go_enter Try.func22, Try.ntmps22
      go_wp2
      go_ret2
      unfold PutPost
      rw [HE.out]
      exact ⟨rfl, F0.out⟩
    · have hlo' : 100 ≤ n := by omega
      have hhi' : n ≤ 999 := by omega
      have HE := Lib.hid (show putA (n, L) = (putB n (filled L), 0) by unfold putA; rw [if_neg (fun h => h.elim hlo hhi), if_neg (by simp only; omega)])
      have H1 := Lib.hid (str_keep H.out F0.out HS.out)
      have HS1 := Lib.hid (fun k hk => Nat.lt_of_lt_of_le (HS.out k hk) F0.out.size)
      clear H HS
      go_enter Try.func22, Try.ntmps22
      go_wp2_with fail
      refine (clone_any _ L _ S HS1.out H1.out (by omega)).mono ?_
      rintro e w1 ⟨v1, rfl, hr, hf⟩
      obtain ⟨A1, d1, rfl, hd1, hd2⟩ := hr.slice
      unfold maxLen at hd2
      have X1 := Lib.hid (X0.out.fr hf (fun h => h))
      have F1 := Lib.hid (F0.out.then_no hf)
      by_cases hz : L.length = 0
      · have hL : L = [] := List.eq_nil_of_length_eq_zero hz
        subst hL
        obtain ⟨M, hM⟩ : ∃ M : List Str, [[]] = M := ⟨_, rfl⟩
        have G := Lib.hid (Grow.lit w1 9 1 encL [[]] rfl (by unfold maxLen; decide))
        have HQ := Lib.hid (show M = filled [] by rw [← hM]; rfl)
        have HM := Lib.hid (show Okr M by rw [← hM]; exact ⟨by decide, by decide⟩)
        have hm : M.length = 1 := by rw [← hM]; rfl
        go_wp2_with fail
        obtain ⟨w2, hw2⟩ : ∃ w2, w1.alloc (.cells #[.string ⟨#[]⟩] 9) = w2 := ⟨_, rfl⟩
        have H2 := Lib.hid (show RSl 1 RStr w2 (New w1 w2) [.slice (some ⟨w1.heap.size, 0, none⟩) M.length 1] M from by rw [hm, ← hw2, ← hM]; exact grl_sl G.out (fun x hx => by rw [List.mem_singleton.1 hx]; exact Nat.zero_le _))
        have HS2 := Lib.hid (show ∀ k, New w1 w2 k → k < w2.heap.size from fun k hk => hk.2)
        have F2 := Lib.hid (show Fr No w w2 from by rw [← hw2]; exact F1.out.alloc _)
        have X2 := Lib.hid (show Blk w2 w.heap.size 36 #[.int .i64 n, .slice A 0 c] from by rw [← hw2]; exact X1.out.alloc _)
        rw [hw2]
        have HM1 := Lib.hid hm
        clear hM hw2 G hr hf X1 F1
        rw [show (Value.slice (some ⟨w1.heap.size, 0, none⟩) 1 1) = .slice (some ⟨w1.heap.size, 0, none⟩) M.length 1 from by rw [HM1.out]]
        clear hm
        generalize (some (⟨w1.heap.size, 0, none⟩ : Addr)) = A2 at H2 ⊢
        have B0 := Lib.hid (BRow.start w2 5)
        go_wp2_with fail
        go_loopw [5, 32] (fun b i wr => ∃ (k : Nat) (acc : Str), i = .int .i64 k ∧ k ≤ M.length ∧ acc.length ≤ 406 * k ∧ Hid (acc ++ putB n (M.drop k) = putB n M) ∧ Hid (BRow w2 wr 5 b acc)) (fun _ i _ => M.length - (intOf i).toNat)
        case atStart => exact ⟨0, [], rfl, by omega, by simp, (show [] ++ putB n (M.drop 0) = putB n M from rfl), B0.out⟩
        case round =>
          clear B0
          obtain ⟨k, acc, rfl, hk, hal, HB, B⟩ := hrel
          obtain ⟨Ab, cb, hb⟩ := B.out.form
          subst hb
          by_cases hlt : k < M.length
          · have hk1 : (k : Int) < 1 := by have := HM1.out; omega
            obtain ⟨ad, rfl, cs, -, hsb⟩ := str_at (str_keep H2.out B.out.fr HS2.out) hlt
            obtain ⟨x, hx⟩ : ∃ x, M[k] = x := ⟨_, rfl⟩
            have hxl : x.length ≤ 100 := by rw [← hx]; exact HM.out.2 _ (List.getElem_mem hlt)
            have hsl := show_len x
            have hpl := (put_dig ⟨hlo', hhi'⟩).1
            rw [hx] at cs
            have x0 : wr.cell? ⟨w.heap.size, 0, none⟩ = some (.int .i64 n) := (X2.out.fr B.out.fr (fun h => h)).cell 0
            by_cases hlast : k + 1 = M.length
            · have hc1 : ((k : Int) == (M.length : Int) - 1) = true := by rw [beq_iff_eq]; omega
              have HN := Lib.hid (show acc ++ row n 32 x ++ putB n (M.drop (k + 1)) = putB n M by rw [← HB.out, putB_drop n M k hlt, if_pos hlast, hx, List.append_assoc])
              clear hx
              go_wp2_with (first | (go_at_call 45; refine (Digit.put_any n hn _).mono ?_; rintro e w3 ⟨rfl, hf⟩; have B3 := Lib.hid (B.out.no hf); clear hf) | (at_builtin; refine wp_bstr rfl (.tmp 42) (.tmp 45) 60 9 rfl 5 Try.underlying60 Try.underlying9 infoB _ acc rfl B3.out (putR n) rfl (by omega) ?_; intro v4 w4 hb; obtain ⟨l4, h4⟩ : ∃ l, acc ++ putR n = l := ⟨_, rfl⟩; have hl4 : l4.length ≤ acc.length + 3 := (by rw [← h4]; simp <;> omega); rw [h4] at hb; have E4 := Lib.hid h4; clear h4; obtain ⟨A4, c4, e4⟩ := hb.form; subst e4; have B4 := Lib.hid hb; clear hb) | (at_builtin; refine wp_bpush rfl (.tmp 47) (.tmp 49) 60 rfl 5 Try.underlying60 infoB _ l4 rfl B4.out 32 _ rfl rfl (by omega) ?_; intro v5 w5 hb; obtain ⟨l5, h5⟩ : ∃ l, l4 ++ [32] = l := ⟨_, rfl⟩; have hl5 : l5.length ≤ l4.length + 1 := (by rw [← h5]; simp <;> omega); rw [h5] at hb; have E5 := Lib.hid h5; clear h5; obtain ⟨A5, c5, e5⟩ := hb.form; subst e5; have B5 := Lib.hid hb; clear hb) | (go_at_call 40; refine (show_any _ _ (by omega)).mono ?_; rintro e w6 ⟨rfl, hf⟩; have B6 := Lib.hid (B5.out.no hf); clear hf) | (at_builtin; refine wp_bstr rfl (.tmp 51) (.tmp 53) 60 9 rfl 5 Try.underlying60 Try.underlying9 infoB _ l5 rfl B6.out (showR x) rfl (by omega) ?_; intro v7 w7 hb; obtain ⟨l7, h7⟩ : ∃ l, l5 ++ showR x = l := ⟨_, rfl⟩; have hl7 : l7.length ≤ l5.length + 400 := (by rw [← h7]; simp <;> omega); rw [h7] at hb; have E7 := Lib.hid h7; clear h7; obtain ⟨A7, c7, e7⟩ := hb.form; subst e7; have B7 := Lib.hid hb; clear hb) | (at_builtin; refine wp_bstr rfl (.tmp 55) (.const (.string ⟨#[13, 10]⟩)) 60 9 rfl 5 Try.underlying60 Try.underlying9 infoB _ l7 rfl B7.out [13, 10] rfl (by simp <;> omega) ?_; intro v8 w8 hb; obtain ⟨l8, h8⟩ : ∃ l, l7 ++ [13, 10] = l := ⟨_, rfl⟩; have hl8 : l8.length ≤ l7.length + 2 := (by rw [← h8]; simp <;> omega); rw [h8] at hb; have E8 := Lib.hid h8; clear h8; obtain ⟨A8, c8, e8⟩ := hb.form; subst e8; have B8 := Lib.hid hb; clear hb))

              go_roundw
              case rel => exact ⟨k + 1, l8, by go_num, by omega, by omega, (show l8 ++ putB n (M.drop (k + 1)) = putB n M by rw [← E8.out, ← E7.out, ← E5.out, ← E4.out, ← HN.out]; simp [row]), B8.out⟩
              case measure => simp [intOf]; omega
            · exfalso; have := HM1.out; omega
          · have hk1 : ¬ (k : Int) < 1 := by have := HM1.out; omega
            have hdr : M.drop k = [] := List.drop_of_length_le (by omega)
            have HV := Lib.hid (show acc = putB n M by rw [← HB.out, hdr]; simp [putB])
            have hcv := B.out.conv (P := Try.prog) (src := 60) (dst := 9) Try.underlying60 Try.underlying5 Try.underlying9
            clear hdr
            go_wp2_with fail
            go_ret2
            unfold PutPost
            rw [HE.out, ← HQ.out, ← HV.out]
            exact ⟨rfl, F2.out.then_no B.out.fr⟩
      · have HQ := Lib.hid (show L = filled L by unfold filled; rw [if_neg (by intro e; rw [e] at hz; exact hz rfl)])
        have HM := HO
        obtain ⟨w2, hw2⟩ : ∃ w2, w1 = w2 := ⟨_, rfl⟩
        subst hw2
        have H2 := Lib.hid hr
        have HS2 := Lib.hid (show ∀ k, New (w.alloc (.cells #[.int .i64 n, .slice A L.length c] 36)) w1 k → k < w1.heap.size from fun k hk => hk.2)
        have F2 := F1
        have X2 := X1
        have hz1 : ((L.length : Int) == 0) = false := by rw [beq_eq_false_iff_ne]; omega
        clear hr hf
        go_wp2_with fail
        have B0 := Lib.hid (BRow.start w1 5)
        go_wp2_with fail
        go_loopw [5, 32] (fun b i wr => ∃ (k : Nat) (acc : Str), i = .int .i64 k ∧ k ≤ L.length ∧ acc.length ≤ 406 * k ∧ Hid (acc ++ putB n (L.drop k) = putB n L) ∧ Hid (BRow w1 wr 5 b acc)) (fun _ i _ => L.length - (intOf i).toNat)
        case atStart => exact ⟨0, [], rfl, by omega, by simp, (show [] ++ putB n (L.drop 0) = putB n L from rfl), B0.out⟩
        case round =>
          clear B0
          obtain ⟨k, acc, rfl, hk, hal, HB, B⟩ := hrel
          obtain ⟨Ab, cb, hb⟩ := B.out.form
          subst hb
          by_cases hlt : k < L.length
          · obtain ⟨ad, rfl, cs, -, hsb⟩ := str_at (str_keep H2.out B.out.fr HS2.out) hlt
            obtain ⟨x, hx⟩ : ∃ x, L[k] = x := ⟨_, rfl⟩
            have hxl : x.length ≤ 100 := by rw [← hx]; exact HM.out.2 _ (List.getElem_mem hlt)
            have hsl := show_len x
            have hpl := (put_dig ⟨hlo', hhi'⟩).1
            rw [hx] at cs
            have x0 : wr.cell? ⟨w.heap.size, 0, none⟩ = some (.int .i64 n) := (X2.out.fr B.out.fr (fun h => h)).cell 0
            by_cases hlast : k + 1 = L.length
            · have hc1 : ((k : Int) == (L.length : Int) - 1) = true := by rw [beq_iff_eq]; omega
              have HN := Lib.hid (show acc ++ row n 32 x ++ putB n (L.drop (k + 1)) = putB n L by rw [← HB.out, putB_drop n L k hlt, if_pos hlast, hx, List.append_assoc])
              clear hx
              go_wp2_with (first | (go_at_call 45; refine (Digit.put_any n hn _).mono ?_; rintro e w3 ⟨rfl, hf⟩; have B3 := Lib.hid (B.out.no hf); clear hf) | (at_builtin; refine wp_bstr rfl (.tmp 42) (.tmp 45) 60 9 rfl 5 Try.underlying60 Try.underlying9 infoB _ acc rfl B3.out (putR n) rfl (by omega) ?_; intro v4 w4 hb; obtain ⟨l4, h4⟩ : ∃ l, acc ++ putR n = l := ⟨_, rfl⟩; have hl4 : l4.length ≤ acc.length + 3 := (by rw [← h4]; simp <;> omega); rw [h4] at hb; have E4 := Lib.hid h4; clear h4; obtain ⟨A4, c4, e4⟩ := hb.form; subst e4; have B4 := Lib.hid hb; clear hb) | (at_builtin; refine wp_bpush rfl (.tmp 47) (.tmp 49) 60 rfl 5 Try.underlying60 infoB _ l4 rfl B4.out 32 _ rfl rfl (by omega) ?_; intro v5 w5 hb; obtain ⟨l5, h5⟩ : ∃ l, l4 ++ [32] = l := ⟨_, rfl⟩; have hl5 : l5.length ≤ l4.length + 1 := (by rw [← h5]; simp <;> omega); rw [h5] at hb; have E5 := Lib.hid h5; clear h5; obtain ⟨A5, c5, e5⟩ := hb.form; subst e5; have B5 := Lib.hid hb; clear hb) | (go_at_call 40; refine (show_any _ _ (by omega)).mono ?_; rintro e w6 ⟨rfl, hf⟩; have B6 := Lib.hid (B5.out.no hf); clear hf) | (at_builtin; refine wp_bstr rfl (.tmp 51) (.tmp 53) 60 9 rfl 5 Try.underlying60 Try.underlying9 infoB _ l5 rfl B6.out (showR x) rfl (by omega) ?_; intro v7 w7 hb; obtain ⟨l7, h7⟩ : ∃ l, l5 ++ showR x = l := ⟨_, rfl⟩; have hl7 : l7.length ≤ l5.length + 400 := (by rw [← h7]; simp <;> omega); rw [h7] at hb; have E7 := Lib.hid h7; clear h7; obtain ⟨A7, c7, e7⟩ := hb.form; subst e7; have B7 := Lib.hid hb; clear hb) | (at_builtin; refine wp_bstr rfl (.tmp 55) (.const (.string ⟨#[13, 10]⟩)) 60 9 rfl 5 Try.underlying60 Try.underlying9 infoB _ l7 rfl B7.out [13, 10] rfl (by simp <;> omega) ?_; intro v8 w8 hb; obtain ⟨l8, h8⟩ : ∃ l, l7 ++ [13, 10] = l := ⟨_, rfl⟩; have hl8 : l8.length ≤ l7.length + 2 := (by rw [← h8]; simp <;> omega); rw [h8] at hb; have E8 := Lib.hid h8; clear h8; obtain ⟨A8, c8, e8⟩ := hb.form; subst e8; have B8 := Lib.hid hb; clear hb))

              go_roundw
              case rel => exact ⟨k + 1, l8, by go_num, by omega, by omega, (show l8 ++ putB n (L.drop (k + 1)) = putB n L by rw [← E8.out, ← E7.out, ← E5.out, ← E4.out, ← HN.out]; simp [row]), B8.out⟩
              case measure => simp [intOf]; omega
            · have hc1 : ((k : Int) == (L.length : Int) - 1) = false := by rw [beq_eq_false_iff_ne]; omega
              have HN := Lib.hid (show acc ++ row n 45 x ++ putB n (L.drop (k + 1)) = putB n L by rw [← HB.out, putB_drop n L k hlt, if_neg hlast, hx, List.append_assoc])
              clear hx
              go_wp2_with (first | (go_at_call 45; refine (Digit.put_any n hn _).mono ?_; rintro e w3 ⟨rfl, hf⟩; have B3 := Lib.hid (B.out.no hf); clear hf) | (at_builtin; refine wp_bstr rfl (.tmp 42) (.tmp 45) 60 9 rfl 5 Try.underlying60 Try.underlying9 infoB _ acc rfl B3.out (putR n) rfl (by omega) ?_; intro v4 w4 hb; obtain ⟨l4, h4⟩ : ∃ l, acc ++ putR n = l := ⟨_, rfl⟩; have hl4 : l4.length ≤ acc.length + 3 := (by rw [← h4]; simp <;> omega); rw [h4] at hb; have E4 := Lib.hid h4; clear h4; obtain ⟨A4, c4, e4⟩ := hb.form; subst e4; have B4 := Lib.hid hb; clear hb) | (at_builtin; refine wp_bpush rfl (.tmp 47) (.tmp 49) 60 rfl 5 Try.underlying60 infoB _ l4 rfl B4.out 45 _ rfl rfl (by omega) ?_; intro v5 w5 hb; obtain ⟨l5, h5⟩ : ∃ l, l4 ++ [45] = l := ⟨_, rfl⟩; have hl5 : l5.length ≤ l4.length + 1 := (by rw [← h5]; simp <;> omega); rw [h5] at hb; have E5 := Lib.hid h5; clear h5; obtain ⟨A5, c5, e5⟩ := hb.form; subst e5; have B5 := Lib.hid hb; clear hb) | (go_at_call 40; refine (show_any _ _ (by omega)).mono ?_; rintro e w6 ⟨rfl, hf⟩; have B6 := Lib.hid (B5.out.no hf); clear hf) | (at_builtin; refine wp_bstr rfl (.tmp 51) (.tmp 53) 60 9 rfl 5 Try.underlying60 Try.underlying9 infoB _ l5 rfl B6.out (showR x) rfl (by omega) ?_; intro v7 w7 hb; obtain ⟨l7, h7⟩ : ∃ l, l5 ++ showR x = l := ⟨_, rfl⟩; have hl7 : l7.length ≤ l5.length + 400 := (by rw [← h7]; simp <;> omega); rw [h7] at hb; have E7 := Lib.hid h7; clear h7; obtain ⟨A7, c7, e7⟩ := hb.form; subst e7; have B7 := Lib.hid hb; clear hb) | (at_builtin; refine wp_bstr rfl (.tmp 55) (.const (.string ⟨#[13, 10]⟩)) 60 9 rfl 5 Try.underlying60 Try.underlying9 infoB _ l7 rfl B7.out [13, 10] rfl (by simp <;> omega) ?_; intro v8 w8 hb; obtain ⟨l8, h8⟩ : ∃ l, l7 ++ [13, 10] = l := ⟨_, rfl⟩; have hl8 : l8.length ≤ l7.length + 2 := (by rw [← h8]; simp <;> omega); rw [h8] at hb; have E8 := Lib.hid h8; clear h8; obtain ⟨A8, c8, e8⟩ := hb.form; subst e8; have B8 := Lib.hid hb; clear hb))

              go_roundw
              case rel => exact ⟨k + 1, l8, by go_num, by omega, by omega, (show l8 ++ putB n (L.drop (k + 1)) = putB n L by rw [← E8.out, ← E7.out, ← E5.out, ← E4.out, ← HN.out]; simp [row]), B8.out⟩
              case measure => simp [intOf]; omega
          · have hdr : L.drop k = [] := List.drop_of_length_le (by omega)
            have HV := Lib.hid (show acc = putB n L by rw [← HB.out, hdr]; simp [putB])
            have hcv := B.out.conv (P := Try.prog) (src := 60) (dst := 9) Try.underlying60 Try.underlying5 Try.underlying9
            clear hdr
            go_wp2_with fail
            go_ret2
            unfold PutPost
            rw [HE.out, ← HQ.out, ← HV.out]
            exact ⟨rfl, F2.out.then_no B.out.fr⟩
end Ans
end Go.Proofs.Ytjelndobekcbmaa
