/- Mark: what the marker does to one item. -/
import Derived.Test.YtjelndobekcbmaaMarkP
import Derived.Test.YtjelndobekcbmaaBuild
import Derived.Test.YtjelndobekcbmaaSls
import Derived.BigQuiet
import Derived.Deep.RegionHeld3
namespace Go.Proofs.Ytjelndobekcbmaa
open Go.RowKit
set_option linter.unusedVariables false
set_option linter.unusedSimpArgs false
namespace Mark
open Digit Clock
theorem stR_ba (n : Int) : (⟨#[91]⟩ : ByteArray) ++ ⟨(stampR n).toArray⟩ ++ ⟨#[93, 32]⟩ = ⟨(stR n).toArray⟩ := by
  rw [show (⟨#[91]⟩ : ByteArray) = ⟨([91] : Str).toArray⟩ from rfl, show (⟨#[93, 32]⟩ : ByteArray) = ⟨([93, 32] : Str).toArray⟩ from rfl, ba_append, ba_append]
  rfl
theorem stamp_m (n : Int) (w : World) : Calls Try.prog 56 #[.int .i64 n] w fun e w' => e = .returned (.string ⟨(stR n).toArray⟩) ∧ Fr No w w' := by
  have HS := Lib.hid (stR_ba n)
  go_enter Try.func56, Try.ntmps56
  go_wp2_with fail
  refine (stamp_any n _).mono ?_
  rintro e w1 ⟨rfl, hf⟩
  have HF := Lib.hid hf
  clear hf
  obtain ⟨t, ht⟩ : ∃ t, t = stampR n := ⟨_, rfl⟩
  have l1 : t.length ≤ 200 := by have := (st_len n).2; unfold stR at this; rw [ht]; simp at this; omega
  rw [← ht] at HS ⊢
  clear ht
  go_wp2
  go_ret
  exact ⟨by rw [← HS.out]; rfl, HF.out⟩
theorem rstamp_m (n : Int) (w : World) : Calls Try.prog 42 #[.int .i64 n] w fun e w' => e = .returned (.string ⟨(stR n).toArray⟩) ∧ Fr No w w' := by
  have HS := Lib.hid (stR_ba n)
  go_enter Try.func42, Try.ntmps42
  go_wp2_with fail
  refine (rstamp_any n _).mono ?_
  rintro e w1 ⟨rfl, hf⟩
  have HF := Lib.hid hf
  clear hf
  obtain ⟨t, ht⟩ : ∃ t, t = stampR n := ⟨_, rfl⟩
  have l1 : t.length ≤ 200 := by have := (st_len n).2; unfold stR at this; rw [ht]; simp at this; omega
  rw [← ht] at HS ⊢
  clear ht
  go_wp2
  go_ret
  exact ⟨by rw [← HS.out]; rfl, HF.out⟩
theorem begun_any (s : Str) (w : World) (hl : s.length ≤ maxLen) : Calls Try.prog 41 #[.string ⟨s.toArray⟩] w fun e w' => e = .returned (.bool (opn s)) ∧ w = w' := by
  unfold maxLen at hl
  rcases List.eq_nil_or_concat s with rfl | ⟨t, c, rfl⟩
  · go_enter Try.func41, Try.ntmps41
    go_wp2
    go_ret
    exact ⟨rfl, rfl⟩
  · rw [List.concat_eq_append] at hl ⊢
    rw [opn_snoc]
    obtain ⟨s, hs⟩ : ∃ s, s = t ++ [c] := ⟨_, rfl⟩
    have hne : s.isEmpty = false := by subst hs; simp
    have hne2 : (!s.isEmpty) = true := by rw [hne]; rfl
    have hl0 : 0 < s.length := by subst hs; simp
    have hix : (⟨s.toArray⟩ : ByteArray)[s.length - 1]'(by simp [ByteArray.size]; omega) = c := by
      show s[s.length - 1]'(by omega) = c
      subst hs; simp
    rw [← hs] at hl ⊢
    clear hs
    by_cases hc : c = 10
    · subst hc
      go_enter Try.func41, Try.ntmps41
      go_wp2
      go_ret
      exact ⟨rfl, rfl⟩
    · have hc2 : ((c.toNat : Int) != 10) = true := by
        rw [bne_iff_ne]; intro e; exact hc (UInt8.toNat_inj.1 (by show c.toNat = 10; omega))
      have hc3 : (c != 10) = true := by rw [bne_iff_ne]; exact hc
      rw [hc3]
      clear hc hc3
      go_enter Try.func41, Try.ntmps41
      go_wp2
      go_ret
      exact ⟨rfl, rfl⟩
theorem open_any (bm : Nat) (o : Bool) (w : World) (hb : Blk w bm 30 #[.bool o]) : Calls Try.prog 15 #[.pointer (some ⟨bm, 0, none⟩)] w fun e w' => e = .returned (.bool o) ∧ w = w' := by
  have h0 : w.cell? ⟨bm, 0, none⟩ = some (.bool o) := hb.cell 0
  clear hb
  cases o <;> (go_enter Try.func15, Try.ntmps15; go_wp2; go_ret; exact ⟨rfl, rfl⟩)
theorem open_none (w : World) : Calls Try.prog 15 #[.pointer none] w fun e w' => e = .returned (.bool false) ∧ w = w' := by
  go_enter Try.func15, Try.ntmps15
  go_wp2
  go_ret
  exact ⟨rfl, rfl⟩
theorem bc_str (a t : Str) : Lib.byteCells a ++ Lib.strCells ⟨t.toArray⟩ = Lib.byteCells (a ++ t) := by simp [Lib.byteCells, Lib.strCells]
theorem bc_byte (a : Str) (c : UInt8) : Lib.byteCells a ++ [.int .u8 c.toNat] = Lib.byteCells (a ++ [c]) := by simp [Lib.byteCells]
theorem bc_len (a : Str) : (Lib.byteCells a).length = a.length := by simp [Lib.byteCells]
/-- Where the bytes of a console stand while they are marked. -/
structure DAt (w : World) (bm : Nat) (kd n : Int) (s acc : Str) (q : Bool) (wr : World) : Prop where
  b : IsB (w.heap.size + 1) (w.heap.size + 1) (Lib.byteCells acc) wr
  x : Blk wr w.heap.size 26 #[.int .i64 kd, .int .i64 n, .string ⟨s.toArray⟩]
  m : Blk wr bm 30 #[.bool q]
  fr : Fr (One bm) w wr
  lt : bm < w.heap.size
section
variable {w wr w1 : World} {bm : Nat} {kd n : Int} {s acc acc' : Str} {q : Bool}
theorem DAt.start (hb : Blk w bm 30 #[.bool q]) : DAt w bm kd n s [] q ((w.alloc (.cells #[.int .i64 kd, .int .i64 n, .string ⟨s.toArray⟩] 26)).alloc (.cells #[.pointer none, .slice none 0 0] 62)) :=
  ⟨by have := isB_new (w.alloc (.cells #[.int .i64 kd, .int .i64 n, .string ⟨s.toArray⟩] 26)); rw [size_alloc] at this; exact this, (Blk.new w _ _).alloc _, (hb.alloc _).alloc _, ((Fr.refl _ _).alloc _).alloc _, hb.lt⟩
theorem DAt.size (h : DAt w bm kd n s acc q wr) : w.heap.size + 1 < wr.heap.size := (isB_lt h.b).2
theorem DAt.no (h : DAt w bm kd n s acc q wr) (hf : Fr No wr w1) : DAt w bm kd n s acc q w1 :=
  ⟨isB_fr h.b hf (fun _ _ _ h => h), h.x.fr hf (fun h => h), h.m.fr hf (fun h => h), h.fr.then_no hf, h.lt⟩
theorem DAt.wrote (h : DAt w bm kd n s acc q wr) (hb : IsB (w.heap.size + 1) (w.heap.size + 1) (Lib.byteCells acc') w1) (hw : Below (w.heap.size + 1) wr w1) : DAt w bm kd n s acc' q w1 :=
  have hf := fr_below hw
  have hl := h.lt
  ⟨hb, h.x.fr hf (fun h => by have h : w.heap.size + 1 ≤ w.heap.size := h; omega), h.m.fr hf (fun h => by have h : w.heap.size + 1 ≤ bm := h; omega), h.fr.trans hf (fun b hb hl => by have hb : w.heap.size + 1 ≤ b := hb; omega), h.lt⟩
theorem DAt.put (h : DAt w bm kd n s acc q wr) (q' : Bool) : DAt w bm kd n s acc q' (wr.setCell ⟨bm, 0, none⟩ (.bool q')) :=
  have hl := h.lt
  have hf : Fr (One bm) wr (wr.setCell ⟨bm, 0, none⟩ (.bool q')) := (Fr.refl (One bm) wr).setCell (p := ⟨bm, 0, none⟩) (.inl rfl) _
  ⟨isB_fr h.b hf (fun k hk _ e => by have e : k = bm := e; omega), h.x.fr hf (fun e => by have e : w.heap.size = bm := e; omega), h.m.put 0 _, h.fr.trans hf (fun _ h _ => h), h.lt⟩
theorem DAt.x1 (h : DAt w bm kd n s acc q wr) : wr.cell? ⟨w.heap.size, 1, none⟩ = some (.int .i64 n) := h.x.cell 1
theorem DAt.x2 (h : DAt w bm kd n s acc q wr) : wr.cell? ⟨w.heap.size, 2, none⟩ = some (.string ⟨s.toArray⟩) := h.x.cell 2
theorem DAt.m0 (h : DAt w bm kd n s acc q wr) : wr.cell? ⟨bm, 0, none⟩ = some (.bool q) := h.m.cell 0
theorem DAt.mf (h : DAt w bm kd n s acc q wr) : wr.frozen? ⟨bm, 0, none⟩ = false := h.m.frozen 0
end
set_option maxRecDepth 100000 in
set_option maxHeartbeats 2000000 in
theorem data_any (bm : Nat) (o : Bool) (kd n : Int) (s : Str) (w : World) (hb : Blk w bm 30 #[.bool o]) (hl : s.length ≤ 100) :
    Calls Try.prog 38 #[.pointer (some ⟨bm, 0, none⟩), .agg #[.int .i64 kd, .int .i64 n, .string ⟨s.toArray⟩]] w fun e w' => e = .returned (.string ⟨(dataR n o s).1.toArray⟩) ∧ Blk w' bm 30 #[.bool (dataR n o s).2] ∧ Fr (One bm) w w' := by
  have D0 := Lib.hid (DAt.start (kd := kd) (n := n) (s := s) hb)
  have xx := D0.out.x2
  clear hb
  go_enter Try.func38, Try.ntmps38
  go_wp2_with fail
  go_step3
  go_wp2_with fail
  go_step3
  go_wp2_with fail
  go_loopw [11] (fun i wr => ∃ k : Nat, i = .int .i64 k ∧ k ≤ s.length ∧ Hid (DAt w bm kd n s (dataR n o (s.take k)).1 (dataR n o (s.take k)).2 wr)) (fun i _ => s.length - (intOf i).toNat)
  case atStart => exact ⟨0, rfl, by omega, D0.out⟩
  case round =>
    clear D0 xx
    obtain ⟨k, rfl, hk, D⟩ := hrel
    by_cases hlt : k < s.length
    · have hix : (⟨s.toArray⟩ : ByteArray)[k]'(by simpa [ByteArray.size] using hlt) = s[k] := rfl
      obtain ⟨acc, q, hq⟩ : ∃ acc q, dataR n o (s.take k) = (acc, q) := ⟨_, _, rfl⟩
      have HN := Lib.hid (show dataR n o (s.take (k + 1)) = (acc ++ (if q then [] else stR n) ++ [s[k]], s[k] != 10) by rw [List.take_succ_eq_append_getElem hlt, data_snoc, hq]; rfl)
      have hal := data_len n o (s.take k)
      rw [hq] at D hal
      have htl : (s.take k).length ≤ k := List.length_take_le _ _
      have hst := st_len n
      simp only at D hal
      have hal2 : acc.length ≤ 14100 := by omega
      clear hq hal htl
      have x2 := D.out.x2
      have m0 := D.out.m0
      cases q with
      | true =>
        go_wp2_with fail
        refine (wbyte_any _ _ _ _ _ D.out.b (by rw [bc_len]; omega) (by have := D.out.size; omega)).mono ?_
        rintro e w4 ⟨rfl, hB, hw, -⟩
        rw [bc_byte] at hB
        have D4 := Lib.hid (D.out.wrote hB hw)
        clear hB hw
        have m0 := D4.out.m0
        have mf := D4.out.mf
        have x2 := D4.out.x2
        by_cases hc : s[k] = 10
        · have hc1 : ((s[k].toNat : Int) != 10) = false := by rw [hc]; rfl
          have D5 := Lib.hid (D4.out.put false)
          have HE := Lib.hid (show (s[k] != 10) = false by rw [hc]; rfl)
          clear hc
          go_wp2_with fail
          go_roundw
          case rel => exact ⟨k + 1, by go_num, by omega, by show DAt _ _ _ _ _ _ _ _; rw [HN.out, HE.out]; simpa using D5.out⟩
          case measure => simp [intOf]; omega
        · have hc1 : ((s[k].toNat : Int) != 10) = true := by
            rw [bne_iff_ne]; intro e; exact hc (UInt8.toNat_inj.1 (by show s[k].toNat = 10; omega))
          have HE := Lib.hid (show (s[k] != 10) = true by rw [bne_iff_ne]; exact hc)
          clear hc
          go_wp2_with fail
          go_roundw
          case rel => exact ⟨k + 1, by go_num, by omega, by show DAt _ _ _ _ _ _ _ _; rw [HN.out, HE.out]; simpa using D4.out⟩
          case measure => simp [intOf]; omega
      | false =>
        have x1 := D.out.x1
        go_wp2_with fail
        refine (stamp_m n _).mono ?_
        rintro e w1 ⟨rfl, hf⟩
        have D1 := Lib.hid (D.out.no hf)
        clear hf D m0 x2 x1
        have hsz := D1.out.size
        obtain ⟨t, ht⟩ : ∃ t, t = stR n := ⟨_, rfl⟩
        rw [← ht] at HN hst ⊢
        clear ht
        go_wp2_with fail
        refine (wstr_any _ _ _ ⟨t.toArray⟩ _ D1.out.b (by rw [bc_len]; simp [ByteArray.size]; omega) (by omega)).mono ?_
        rintro e w2 ⟨rfl, hB, hw, -⟩
        rw [bc_str] at hB
        have D2 := Lib.hid (D1.out.wrote hB hw)
        clear hB hw D1 hsz
        have m0 := D2.out.m0
        have mf := D2.out.mf
        have D3 := Lib.hid (D2.out.put true)
        have x2 := D3.out.x2
        clear D2
        go_wp2_with fail
        refine (wbyte_any _ _ _ _ _ D3.out.b (by rw [bc_len]; simp; omega) (by have := D3.out.size; omega)).mono ?_
        rintro e w4 ⟨rfl, hB, hw, -⟩
        rw [bc_byte] at hB
        have D4 := Lib.hid (D3.out.wrote hB hw)
        clear hB hw
        have m0 := D4.out.m0
        have mf := D4.out.mf
        have x2 := D4.out.x2
        by_cases hc : s[k] = 10
        · have hc1 : ((s[k].toNat : Int) != 10) = false := by rw [hc]; rfl
          have D5 := Lib.hid (D4.out.put false)
          have HE := Lib.hid (show (s[k] != 10) = false by rw [hc]; rfl)
          clear hc
          go_wp2_with fail
          go_roundw
          case rel => exact ⟨k + 1, by go_num, by omega, by show DAt _ _ _ _ _ _ _ _; rw [HN.out, HE.out]; simpa using D5.out⟩
          case measure => simp [intOf]; omega
        · have hc1 : ((s[k].toNat : Int) != 10) = true := by
            rw [bne_iff_ne]; intro e; exact hc (UInt8.toNat_inj.1 (by show s[k].toNat = 10; omega))
          have HE := Lib.hid (show (s[k] != 10) = true by rw [bne_iff_ne]; exact hc)
          clear hc
          go_wp2_with fail
          go_roundw
          case rel => exact ⟨k + 1, by go_num, by omega, by show DAt _ _ _ _ _ _ _ _; rw [HN.out, HE.out]; simpa using D4.out⟩
          case measure => simp [intOf]; omega
    · have hkl : s.take k = s := List.take_of_length_le (by omega)
      rw [hkl] at D
      have hsz := D.out.size
      have x2 := D.out.x2
      go_wp2_with fail
      refine (bstr_any _ _ _ _ D.out.b (by omega)).mono ?_
      rintro e w1 ⟨rfl, hB, hw, -⟩
      have D1 := Lib.hid (D.out.wrote hB hw)
      clear hB hw
      go_wp2
      rw [Exit.noGoto_ret]
      go_ret
      exact ⟨rfl, D1.out.m, D1.out.fr⟩
theorem note_ba (n : Int) (o : Bool) (s p : Str) (hp : p = if o then [10] else []) : (⟨p.toArray⟩ : ByteArray) ++ ⟨(stR n).toArray⟩ ++ ⟨#[45, 45, 32]⟩ ++ ⟨s.toArray⟩ ++ ⟨#[32, 45, 45, 10]⟩ = ⟨(noteR n o s).toArray⟩ := by
  subst hp
  rw [show (⟨#[45, 45, 32]⟩ : ByteArray) = ⟨([45, 45, 32] : Str).toArray⟩ from rfl, show (⟨#[32, 45, 45, 10]⟩ : ByteArray) = ⟨([32, 45, 45, 10] : Str).toArray⟩ from rfl, ba_append, ba_append, ba_append, ba_append]
  rfl
set_option maxRecDepth 100000 in
theorem note_any (bm : Nat) (o : Bool) (n : Int) (s : Str) (w : World) (hb : Blk w bm 30 #[.bool o]) (hl : s.length ≤ 1000) :
    Calls Try.prog 39 #[.pointer (some ⟨bm, 0, none⟩), .int .i64 n, .string ⟨s.toArray⟩] w fun e w' => e = .returned (.string ⟨(noteR n o s).toArray⟩) ∧ Blk w' bm 30 #[.bool false] ∧ Fr (One bm) w w' := by
  have hst := st_len n
  have m0 : w.cell? ⟨bm, 0, none⟩ = some (.bool o) := hb.cell 0
  have mf := hb.frozen 0
  have B1 := Lib.hid (hb.put 0 (.bool false))
  have F1 := Lib.hid ((Fr.refl (One bm) w).setCell (p := ⟨bm, 0, none⟩) (.inl rfl) (.bool false))
  have HT := Lib.hid (note_ba n true s [10] rfl)
  have HF := Lib.hid (note_ba n false s [] rfl)
  have hc := Lib.hid (stamp_m n)
  clear hb
  obtain ⟨t, ht⟩ : ∃ t, t = stR n := ⟨_, rfl⟩
  rw [← ht] at HT HF hst hc
  clear ht
  cases o
  all_goals
    go_enter Try.func39, Try.ntmps39
    go_wp2_with fail
    refine (hc.out _).mono ?_
    rintro e w1 ⟨rfl, hf⟩
    have B2 := Lib.hid (B1.out.fr hf (fun h => h))
    have F2 := Lib.hid (F1.out.then_no hf)
    clear hf
    go_wp2
    go_ret
    exact ⟨by first | rw [← HT.out]; rfl | rw [← HF.out]; rfl, B2.out, F2.out⟩
/-- What the marker does to one item. -/
def AddPost (o : Bool) (x : It) (bm : Nat) (w : World) (e : Ending) (w' : World) : Prop := e = .returned (.string ⟨(addR o x).1.toArray⟩) ∧ Blk w' bm 30 #[.bool (addR o x).2] ∧ Fr (One bm) w w'
set_option maxRecDepth 100000 in
set_option maxHeartbeats 1000000 in
theorem add_any (bm : Nat) (o : Bool) (kd n : Int) (s : Str) (w : World) (hb : Blk w bm 30 #[.bool o]) (hl : s.length ≤ 100) :
    Calls Try.prog 14 #[.pointer (some ⟨bm, 0, none⟩), .agg #[.int .i64 kd, .int .i64 n, .string ⟨s.toArray⟩]] w (AddPost o (kd, n, s) bm w) := by
  have hlb := hb.lt
  have hx := Blk.new w 26 #[.int .i64 kd, .int .i64 n, .string ⟨s.toArray⟩]
  have hb1 := hb.alloc (.cells #[.int .i64 kd, .int .i64 n, .string ⟨s.toArray⟩] 26)
  have hf1 := (Fr.refl No w).alloc (.cells #[.int .i64 kd, .int .i64 n, .string ⟨s.toArray⟩] 26)
  have B1 := Lib.hid hb1
  have F1 := Lib.hid hf1
  have X1 := Lib.hid hx
  clear hx hb1 hf1 hb
  by_cases h1 : kd = 1
  · subst h1
    have HE := Lib.hid (show addR o (1, n, s) = dataR n o s from rfl)
    go_enter Try.func14, Try.ntmps14
    go_wp2_with fail
    refine (data_any bm o 1 n s _ B1.out hl).mono ?_
    rintro e w1 ⟨rfl, hb, hf⟩
    have P := Lib.hid (And.intro hb ((F1.out.no (One bm)).trans hf fun b hb _ => hb))
    clear hb hf
    go_wp2
    go_ret
    unfold AddPost
    rw [HE.out]
    exact ⟨rfl, P.out.1, P.out.2⟩
  by_cases h2 : kd = 2
  · subst h2
    have HE := Lib.hid (show addR o (2, n, s) = (noteR n o (showR s), false) from rfl)
    have hsl := show_len s
    have HS := Lib.hid (fun w => show_any s w (by omega))
    have HK := Lib.hid (fun (X : World) (hf : Fr (One bm) (w.alloc (.cells #[.int .i64 2, .int .i64 n, .string ⟨s.toArray⟩] 26)) X) => (show X.cell? ⟨w.heap.size, 1, none⟩ = some (.int .i64 n) ∧ X.cell? ⟨w.heap.size, 2, none⟩ = some (.string ⟨s.toArray⟩) from ⟨(hf.cell (p := ⟨w.heap.size, 1, none⟩) X1.out.lt (fun e => by have e : w.heap.size = bm := e; omega)).trans (X1.out.cell 1), (hf.cell (p := ⟨w.heap.size, 2, none⟩) X1.out.lt (fun e => by have e : w.heap.size = bm := e; omega)).trans (X1.out.cell 2)⟩))
    have HN := Lib.hid (fun (X : World) (hf : Fr No (w.alloc (.cells #[.int .i64 2, .int .i64 n, .string ⟨s.toArray⟩] 26)) X) => note_any bm o n (showR s) X (B1.out.fr hf (fun h => h)) (by first | omega | (simp only [List.length_append, List.length_cons, List.length_nil]; omega)))
    obtain ⟨g, hg⟩ : ∃ g, g = showR s := ⟨_, rfl⟩
    rw [← hg] at HE HS HN hsl
    obtain ⟨c1, c2⟩ := HK.out _ (Fr.refl _ _)
    clear hg
    go_enter Try.func14, Try.ntmps14
    go_wp2_with fail
    go_region_held3 (fun X => X.cell? ⟨w.heap.size, 1, none⟩ = some (.int .i64 n) ∧ X.cell? ⟨w.heap.size, 2, none⟩ = some (.string ⟨s.toArray⟩)) ((refine HK.out _ ?_; repeat' (first | with_reducible assumption | with_reducible exact Fr.refl _ _ | with_reducible refine Fr.drew ?_))) (first | (go_at_call 40; refine (HS.out _).mono ?_; rintro e w5 ⟨rfl, hf⟩; have hf5 : Fr No (w.alloc (.cells #[.int .i64 2, .int .i64 n, .string ⟨s.toArray⟩] 26)) w5 := (Fr.then_no (by repeat' (first | with_reducible assumption | with_reducible exact Fr.refl _ _ | with_reducible refine Fr.drew ?_)) hf); have hg5 : Fr (One bm) (w.alloc (.cells #[.int .i64 2, .int .i64 n, .string ⟨s.toArray⟩] 26)) w5 := hf5.no _; clear hf) | (go_at_call 39;  refine (HN.out _ (by repeat' (first | with_reducible assumption | with_reducible exact Fr.refl _ _ | with_reducible refine Fr.drew ?_))).mono ?_; rintro e w6 ⟨rfl, hb, hf⟩; have hf6 : Fr (One bm) (w.alloc (.cells #[.int .i64 2, .int .i64 n, .string ⟨s.toArray⟩] 26)) w6 := (Fr.trans (F := One bm) (by repeat' (first | with_reducible assumption | with_reducible exact Fr.refl _ _ | with_reducible refine Fr.drew ?_)) hf (fun _ h _ => h)); have B6 := Lib.hid hb; clear hb hf))
    all_goals
      go_wp2
      go_ret
      unfold AddPost
      rw [HE.out]
      exact ⟨rfl, B6.out, (F1.out.no (One bm)).trans (by assumption) fun _ h _ => h⟩
  by_cases h3 : kd = 3
  · subst h3
    have HE := Lib.hid (show addR o (3, n, s) = (noteR n o (showR s ++ [32, 108, 111, 115, 116]), false) from rfl)
    have hsl := show_len s
    have HS := Lib.hid (fun w => show_any s w (by omega))
    have HK := Lib.hid (fun (X : World) (hf : Fr (One bm) (w.alloc (.cells #[.int .i64 3, .int .i64 n, .string ⟨s.toArray⟩] 26)) X) => (show X.cell? ⟨w.heap.size, 1, none⟩ = some (.int .i64 n) ∧ X.cell? ⟨w.heap.size, 2, none⟩ = some (.string ⟨s.toArray⟩) from ⟨(hf.cell (p := ⟨w.heap.size, 1, none⟩) X1.out.lt (fun e => by have e : w.heap.size = bm := e; omega)).trans (X1.out.cell 1), (hf.cell (p := ⟨w.heap.size, 2, none⟩) X1.out.lt (fun e => by have e : w.heap.size = bm := e; omega)).trans (X1.out.cell 2)⟩))
    have HN := Lib.hid (fun (X : World) (hf : Fr No (w.alloc (.cells #[.int .i64 3, .int .i64 n, .string ⟨s.toArray⟩] 26)) X) => note_any bm o n (showR s ++ [32, 108, 111, 115, 116]) X (B1.out.fr hf (fun h => h)) (by first | omega | (simp only [List.length_append, List.length_cons, List.length_nil]; omega)))
    obtain ⟨g, hg⟩ : ∃ g, g = showR s := ⟨_, rfl⟩
    rw [← hg] at HE HS HN hsl
    have hadd := fun (W : World) => Go.run_string_add_sum (P := Try.prog) (w := W) (⟨g.toArray⟩ : ByteArray) (⟨#[32, 108, 111, 115, 116]⟩ : ByteArray) (by simp [ByteArray.size]; omega)
    obtain ⟨c1, c2⟩ := HK.out _ (Fr.refl _ _)
    clear hg
    go_enter Try.func14, Try.ntmps14
    go_wp2_with fail
    go_region_held3 (fun X => X.cell? ⟨w.heap.size, 1, none⟩ = some (.int .i64 n) ∧ X.cell? ⟨w.heap.size, 2, none⟩ = some (.string ⟨s.toArray⟩)) ((refine HK.out _ ?_; repeat' (first | with_reducible assumption | with_reducible exact Fr.refl _ _ | with_reducible refine Fr.drew ?_))) (first | (go_at_call 40; refine (HS.out _).mono ?_; rintro e w5 ⟨rfl, hf⟩; have hf5 : Fr No (w.alloc (.cells #[.int .i64 3, .int .i64 n, .string ⟨s.toArray⟩] 26)) w5 := (Fr.then_no (by repeat' (first | with_reducible assumption | with_reducible exact Fr.refl _ _ | with_reducible refine Fr.drew ?_)) hf); have hg5 : Fr (One bm) (w.alloc (.cells #[.int .i64 3, .int .i64 n, .string ⟨s.toArray⟩] 26)) w5 := hf5.no _; clear hf) | (go_at_call 39;  refine (HN.out _ (by repeat' (first | with_reducible assumption | with_reducible exact Fr.refl _ _ | with_reducible refine Fr.drew ?_))).mono ?_; rintro e w6 ⟨rfl, hb, hf⟩; have hf6 : Fr (One bm) (w.alloc (.cells #[.int .i64 3, .int .i64 n, .string ⟨s.toArray⟩] 26)) w6 := (Fr.trans (F := One bm) (by repeat' (first | with_reducible assumption | with_reducible exact Fr.refl _ _ | with_reducible refine Fr.drew ?_)) hf (fun _ h _ => h)); have B6 := Lib.hid hb; clear hb hf))
    all_goals
      go_wp2
      go_ret
      unfold AddPost
      rw [HE.out]
      exact ⟨rfl, B6.out, (F1.out.no (One bm)).trans (by assumption) fun _ h _ => h⟩
  have HE := Lib.hid (show addR o (kd, n, s) = ([], o) by unfold addR; simp only; rw [if_neg h1, if_neg h2, if_neg h3])
  go_enter Try.func14, Try.ntmps14
  have x0 : (w.alloc (.cells #[.int .i64 kd, .int .i64 n, .string ⟨s.toArray⟩] 26)).cell? ⟨w.heap.size, 0, none⟩ = some (.int .i64 kd) := X1.out.cell 0
  go_wp2
  go_ret
  unfold AddPost
  rw [HE.out]
  exact ⟨rfl, B1.out, F1.out.no _⟩
theorem add_none (v : Value) (cs : Array Value) (hv : v = .agg cs) (w : World) : Calls Try.prog 14 #[.pointer none, v] w fun e w' => e = .returned (.string ⟨#[]⟩) ∧ Fr No w w' := by
  subst hv
  go_enter Try.func14, Try.ntmps14
  go_wp2
  go_ret
  exact ⟨rfl, (Fr.refl _ _).alloc _⟩
end Mark
end Go.Proofs.Ytjelndobekcbmaa
