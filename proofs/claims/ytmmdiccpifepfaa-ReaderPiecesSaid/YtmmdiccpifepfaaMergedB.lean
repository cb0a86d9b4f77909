/- Contracts of package mux. -/
import Derived.Test.YtmmdiccpifepfaaRows
import Derived.Test.YtmmdiccpifepfaaMergedA
import Derived.WalkKit
import Derived.Outline
import Derived.BigQuiet
import Derived.Deep.QuietTactic
import Derived.Deep.RegionLaw
import Derived.Deep.DeepMust
import Derived.Laws.Concat
namespace Go.Proofs.Ytmmdiccpifepfaa
open Go.RowKit
set_option linter.unusedVariables false
set_option linter.unusedSimpArgs false
namespace Mux
theorem infoB : (Try.prog.info? 5).map (fun i => (i.zero, i.size, i.bytes)) = some (some (.int .u8 0), 1, 1) := by kernel_rfl
/-- Each sign twice. -/
def twice (s : Str) : Str := s.flatMap fun c => if c = 255 then [255, 255] else [c]
theorem twice_snoc (s : Str) (c : UInt8) : twice (s ++ [c]) = twice s ++ if c = 255 then [255, 255] else [c] := by simp [twice]
theorem twice_len (s : Str) : (twice s).length ≤ 2 * s.length := by
  induction s with
  | nil => simp [twice]
  | cons c s ih =>
    unfold twice at *
    rw [List.flatMap_cons, List.length_append, List.length_cons]
    have : (if c = 255 then [255, 255] else [c] : List UInt8).length ≤ 2 := by split <;> simp
    omega
set_option maxHeartbeats 800000 in
theorem doubled_any (v : Value) (b s : Str) (w : World) (hown : w.ownsRow 0 5 1 v b.length (b.map encB)) (hb : b.length ≤ 1000000) (hs : s.length ≤ 1000000) :
    Calls Try.prog 25 #[v, .string ⟨s.toArray⟩] w fun e w' => ∃ v', e = .returned v' ∧ w'.ownsRow 0 5 1 v' (b ++ twice s).length ((b ++ twice s).map encB) ∧ Step (Of v) w (Of v') w' := by
  have Hown := Lib.hid hown
  clear hown
  go_enter Try.func25, Try.ntmps25
  go_wp2
  go_loopw [0, 8] (fun o i wr => ∃ (k : Nat) (m : Str), i = .int .i64 k ∧ k ≤ s.length ∧ m.length ≤ 3000000 ∧ Hid (m = b ++ twice (s.take k) ∧ wr.ownsRow 0 5 1 o m.length (m.map encB) ∧ Step (Of v) w (Of o) wr)) (fun _ i _ => s.length - (intOf i).toNat)
  case atStart => exact ⟨0, b, rfl, by omega, by omega, by simp [twice], Hown.out, Step.refl _ _⟩
  case round =>
    obtain ⟨k, m, rfl, hk, hm, hd⟩ := hrel
    by_cases hlt : k < s.length
    · have htw := twice_len (s.take (k + 1))
      have hlen : Hid ((b ++ twice (s.take (k + 1))).length ≤ 3000000) := by
        show (b ++ twice (s.take (k + 1))).length ≤ 3000000
        rw [List.length_take_of_le (by omega)] at htw
        rw [List.length_append]; omega
      obtain ⟨A1, c1, hu⟩ := own_form hd.out.2.1
      subst hu
      have Hd1 := Lib.hid hd.out.2.1
      have hix : (⟨s.toArray⟩ : ByteArray)[k]'(by simpa [ByteArray.size] using hlt) = s[k] := rfl
      have hst := Lib.hid (List.take_succ_eq_append_getElem hlt)
      clear htw
      by_cases hc : s[k] = 255
      · have hc1 : ((s[k].toNat : Int) == 255) = true := by rw [hc]; rfl
        have Hc := Lib.hid hc
        clear hc
        go_wp2_with (first
          | (at_builtin; go_loud (refine wp_push rfl (.tmp 15) (.tmp 16) 37 rfl 5 (.int .u8 0) 1 1 Try.underlying37 infoB rfl (by decide) _ _ _ rfl Hd1.out #[.int .u8 255] rfl rfl (one_lit rfl) (by omega) (by unfold maxLen; omega) ?_; intro g1 cap1 w1 h1 h2 h3; have P1 := Lib.hid h1; have F1 := Lib.hid h2; have L1 := Lib.hid h3; clear h1 h2 h3))
          | (at_builtin; go_loud (refine wp_push rfl (.tmp 18) (.tmp 22) 37 rfl 5 (.int .u8 0) 1 1 Try.underlying37 infoB rfl (by decide) _ _ _ rfl P1.out #[.int .u8 s[k].toNat] rfl rfl (one_lit rfl) (by omega) (by unfold maxLen; omega) ?_; intro g2 cap2 w2 h1 h2 h3; have P2 := Lib.hid h1; have F2 := Lib.hid h2; have L2 := Lib.hid h3; clear h1 h2 h3)))
        go_roundw
        case rel =>
          refine ⟨k + 1, m ++ [255, s[k]], by go_num, by omega, ?_, ?_, ?_, (hd.out.2.2.trans (Step.of F1.out L1.out)).trans (Step.of F2.out L2.out)⟩
          · have h1 := hlen.out; rw [hst.out, twice_snoc, if_pos Hc.out, ← List.append_assoc, ← hd.out.1] at h1; simpa using h1
          · rw [hst.out, twice_snoc, if_pos Hc.out, ← List.append_assoc, ← hd.out.1, Hc.out]
          · have := P2.out; simpa [encB] using this
        case measure => simp [intOf]; omega
      · have hc1 : ((s[k].toNat : Int) == 255) = false := by
          rw [beq_eq_false_iff_ne]
          intro h
          exact hc (UInt8.toNat_inj.1 (by have : (255 : UInt8).toNat = 255 := rfl; omega))
        have Hc := Lib.hid hc
        clear hc
        go_wp2_with (at_builtin; go_loud (refine wp_push rfl (.tmp 18) (.tmp 22) 37 rfl 5 (.int .u8 0) 1 1 Try.underlying37 infoB rfl (by decide) _ _ _ rfl Hd1.out #[.int .u8 s[k].toNat] rfl rfl (one_lit rfl) (by omega) (by unfold maxLen; omega) ?_; intro g2 cap2 w2 h1 h2 h3; have P2 := Lib.hid h1; have F2 := Lib.hid h2; have L2 := Lib.hid h3; clear h1 h2 h3))
        go_roundw
        case rel =>
          refine ⟨k + 1, m ++ [s[k]], by go_num, by omega, ?_, ?_, ?_, hd.out.2.2.trans (Step.of F2.out L2.out)⟩
          · have h1 := hlen.out; rw [hst.out, twice_snoc, if_neg Hc.out, ← List.append_assoc, ← hd.out.1] at h1; simpa using h1
          · rw [hst.out, twice_snoc, if_neg Hc.out, ← List.append_assoc, ← hd.out.1]
          · have := P2.out; simpa [encB] using this
        case measure => simp [intOf]; omega
    · go_wp2
      go_ret
      have hn : s.take k = s := List.take_of_length_le (by omega)
      obtain ⟨d1, d2, d3⟩ := hd.out
      rw [hn] at d1
      subst d1
      exact ⟨_, rfl, d2, d3⟩
theorem data_any (s : Str) (w : World) (hs : s.length ≤ 1000000) : Calls Try.prog 15 #[.string ⟨s.toArray⟩] w fun e w' => e = .returned (.string ⟨(twice s).toArray⟩) ∧ Fr No w w' := by
  go_enter Try.func15, Try.ntmps15
  go_wp2_with (go_at_call 25; go_loud (refine (doubled_any (.slice none 0 0) [] s _ (World.ownsRow_nil _ _ _ _) (by simp) hs).mono ?_; rintro e w1 ⟨v', rfl, hown, hst⟩; rw [List.nil_append] at hown; obtain ⟨A1, c1, rfl⟩ := own_form hown; have hcv := conv_bytes (P := Try.prog) 37 9 5 Try.underlying37 Try.underlying5 Try.underlying9 (own_bytes hown); have Hst := Lib.hid hst; clear hown hst))
  go_ret
  exact ⟨rfl, Hst.out.1.mono fun k hk _ => by cases hk⟩
def toldB (s : Str) : Str := [255, 1] ++ twice s ++ [255, 2]
theorem told_any (s : Str) (w : World) (hs : s.length ≤ 1000000) : Calls Try.prog 24 #[.string ⟨s.toArray⟩] w fun e w' => e = .returned (.string ⟨(toldB s).toArray⟩) ∧ Fr No w w' := by
  have htw := twice_len s
  go_enter Try.func24, Try.ntmps24
  go_wp2_with (first
    | (go_at_call 25; go_loud (refine (doubled_any (.slice (some ⟨w.heap.size, 0, none⟩) 2 2) [255, 1] s _ ?_ (by simp) hs).mono ?_; exact World.ownsRow_lit w #[.int .u8 255, .int .u8 1] 2 (Nat.zero_le _) (by unfold maxLen; decide) rfl; rintro e w1 ⟨v', rfl, hown, hst⟩; obtain ⟨m, hm⟩ : ∃ m, m = [255, 1] ++ twice s := ⟨_, rfl⟩; rw [← hm] at hown; have hml : m.length ≤ 2000002 := (by rw [hm]; simp; omega); obtain ⟨A1, c1, rfl⟩ := own_form hown; have Hown := Lib.hid hown; have Hst := Lib.hid hst; have Hm := Lib.hid hm; clear hown hst hm))
    | (at_builtin; go_loud (refine wp_pushes 2 (by decide) rfl (.tmp 7) (.tmp 8) 37 rfl 5 (.int .u8 0) 1 1 Try.underlying37 infoB rfl (by decide) _ _ _ rfl Hown.out #[.int .u8 255, .int .u8 2] rfl rfl (encB_one [255, 2]) (by omega) (by unfold maxLen; omega) ?_; intro g cap w2 h1 h2 h3; have h1' : w2.ownsRow 0 5 1 (.slice (some ⟨g, 0, none⟩) (m.length + 2) cap) (m ++ [255, 2]).length ((m ++ [255, 2]).map encB) := (by simpa [encB] using h1); have hcv := conv_bytes (P := Try.prog) 37 9 5 Try.underlying37 Try.underlying5 Try.underlying9 (own_bytes h1'); have F2 := Lib.hid h2; have L2 := Lib.hid h3; clear h1 h1' h2 h3)))
  go_ret
  refine ⟨ret_str (by rw [Hm.out]; rfl), ?_⟩
  have h1 : Step No w (Of (Value.slice A1 m.length c1)) w1 := by
    refine ⟨((Fr.refl _ _).alloc _).trans Hst.out.1 (fun k hk hl => ?_), fun k hk => ?_⟩
    · have hk' : some w.heap.size = some k := hk
      injection hk' with hk'
      omega
    · have := Hst.out.2 k hk
      rcases this with h | h
      · have hk' : some w.heap.size = some k := h
        injection hk' with hk'
        have := Hst.out.1.size
        rw [size_alloc] at this
        exact .inr ⟨by omega, by omega⟩
      · exact .inr ⟨by have := h.1; rw [size_alloc] at this; omega, h.2⟩
  exact h1.1.trans F2.out fun k hk hl => by
    rcases h1.2 k hk with h | h
    · exact h
    · have := h.1; omega
end Mux
end Go.Proofs.Ytmmdiccpifepfaa
/- The splitter of package mux: what one byte does. -/
namespace Go.Proofs.Ytmmdiccpifepfaa
open Go.RowKit
set_option linter.unusedVariables false
set_option linter.unusedSimpArgs false
namespace Mux
/-- One byte: where one is, what is open; what is told, and whether a reply ended. -/
def stepR (p : Nat) (op : Str) (c : UInt8) : (Nat × Str) × (Str × Bool) :=
  if p = 0 then (if c = 255 then ((1, op), ([], false)) else ((0, op), ([c], false)))
  else if p = 1 then (if c = 255 then ((0, op), ([c], false)) else if c = 1 then ((2, op), ([], false)) else ((4, op), ([], false)))
  else if p = 3 then (if c = 2 then ((0, op), ([], true)) else if c = 255 then ((2, op ++ [c]), ([], false)) else ((4, op), ([], false)))
  else if p = 2 then (if c = 255 then ((3, op), ([], false)) else ((2, op ++ [c]), ([], false)))
  else ((p, op), ([], false))
/-- The splitter at block g, in the blocks F: where one is, and what is open. -/
def SAt (w : World) (F : Nat → Prop) (g : Nat) (p : Nat) (op : Str) : Prop :=
  ∃ v, Blk w g 43 #[.int .i64 p, v] ∧ w.ownsRow 0 5 1 v op.length (op.map encB) ∧ F g ∧ (∀ k, Of v k → F k ∧ k ≠ g) ∧ (∀ k, F k → k < w.heap.size)
section
variable {w w' : World} {F G : Nat → Prop} {g p : Nat} {op : Str}
theorem SAt.fr (h : SAt w F g p op) (hf : Fr G w w') (hn : ∀ k, F k → ¬ G k) : SAt w' F g p op := by
  obtain ⟨v, h1, h2, h3, h4, h5⟩ := h
  exact ⟨v, h1.fr hf (hn _ h3), own_fr h2 hf (fun k hk => hn k (h4 k hk).1), h3, h4, fun k hk => Nat.lt_of_lt_of_le (h5 k hk) hf.size⟩
theorem SAt.put (h : SAt w F g p op) (p' : Nat) : SAt (w.setCell ⟨g, 0, none⟩ (.int .i64 p')) F g p' op := by
  obtain ⟨v, h1, h2, h3, h4, h5⟩ := h
  refine ⟨v, by simpa using h1.put 0 (.int .i64 p'), own_fr h2 (Fr.setCell (F := fun k => k = g) (Fr.refl _ _) (p := ⟨g, 0, none⟩) (.inl rfl) _) (fun k hk e => (h4 k hk).2 e), h3, h4, fun k hk => by rw [size_setCell]; exact h5 k hk⟩
theorem SAt.in_ (h : SAt w F g p op) : F g := by obtain ⟨v, h1, h2, h3, h4, h5⟩ := h; exact h3
theorem SAt.size (h : SAt w F g p op) : ∀ k, F k → k < w.heap.size := by obtain ⟨v, h1, h2, h3, h4, h5⟩ := h; exact h5
end
def StepPost (w : World) (F : Nat → Prop) (g : Nat) (r : (Nat × Str) × (Str × Bool)) (e : Ending) (w' : World) : Prop :=
  ∃ F' v', e = .returned (.tuple #[v', .bool r.2.2]) ∧ RSl 1 RByte w' (fun k => New w w' k ∧ ¬ F' k) [v'] r.2.1 ∧ SAt w' F' g r.1.1 r.1.2 ∧ Step F w F' w'
theorem lit_bytes (w : World) (S : Nat → Prop) (c : UInt8) (h : S w.heap.size) : RSl 1 RByte (w.alloc (.cells #[encB c] 5)) S [.slice (some ⟨w.heap.size, 0, none⟩) 1 1] [c] := by
  refine ⟨some ⟨w.heap.size, 0, none⟩, 1, rfl, Nat.le_refl _, by unfold maxLen; decide, fun h => (by cases h), fun i hi => ?_⟩
  have hi0 : i = 0 := by simpa using hi
  subst hi0
  refine ⟨_, [encB c], rfl, h, rfl, fun j hj => ?_, rfl⟩
  obtain rfl : j = 0 := by omega
  have := cell_lit w #[encB c] 5 0 (encB c) (by simp)
  simpa using this
theorem stepR_0n (op : Str) (c : UInt8) (t255 : ¬ (c = 255)) : stepR 0 op c = ((0, op), ([c], false)) := by
  unfold stepR; simp [t255]
theorem step_0n (w : World) (F : Nat → Prop) (g : Nat) (op : Str) (c : UInt8) (h : SAt w F g 0 op) (hl : op.length ≤ 3000000) (t255 : ¬ (c = 255)) : Calls Try.prog 27 #[.pointer (some ⟨g, 0, none⟩), .int .u8 c.toNat] w (StepPost w F g (stepR 0 op c)) := by
  rw [stepR_0n op c t255]
  have e255 : ((c.toNat : Int) == 255) = false := by
    first
      | (rw [t255]; rfl)
      | (rw [beq_eq_false_iff_ne]; intro hh; exact t255 (UInt8.toNat_inj.1 (by have : (255 : UInt8).toNat = 255 := rfl; omega)))
  have n255 : ((c.toNat : Int) != 255) = true := by rw [bne, e255]; rfl
  have H := Lib.hid h
  obtain ⟨v, h1, h2, h3, h4, h5⟩ := h
  have c0 := h1.cell 0
  have c1 := h1.cell 1
  have f0 := h1.frozen 0
  have f1 := h1.frozen 1
  simp at c0 c1
  have H1 := Lib.hid h1
  have H2 := Lib.hid h2
  have H4 := Lib.hid h4
  have H5 := Lib.hid h5
  clear h1 h2 h4 h5 t255
  go_enter Try.func27, Try.ntmps27
  go_wp2
  go_ret2
  have hs := H.out
  have hlb := lit_bytes w (fun k => New w (World.alloc w (.cells #[encB c] 5)) k ∧ ¬ F k) c ⟨⟨by first | exact Nat.le_refl _ | (simp only [size_setCell]; exact Nat.le_refl _), by rw [size_alloc]; omega⟩, fun hF => absurd (hs.size _ hF) (Nat.lt_irrefl _)⟩
  try simp only [size_setCell] at hlb
  exact ⟨F, _, rfl, hlb, hs.fr ((Fr.refl No _).alloc _) (fun _ _ h => h), ((Fr.refl F w)).alloc _, fun k hk => .inl hk⟩
theorem stepR_0s (op : Str) (c : UInt8) (t255 : (c = 255)) : stepR 0 op c = ((1, op), ([], false)) := by
  unfold stepR; simp [t255]
theorem step_0s (w : World) (F : Nat → Prop) (g : Nat) (op : Str) (c : UInt8) (h : SAt w F g 0 op) (hl : op.length ≤ 3000000) (t255 : (c = 255)) : Calls Try.prog 27 #[.pointer (some ⟨g, 0, none⟩), .int .u8 c.toNat] w (StepPost w F g (stepR 0 op c)) := by
  rw [stepR_0s op c t255]
  have e255 : ((c.toNat : Int) == 255) = true := by
    first
      | (rw [t255]; rfl)
      | (rw [beq_eq_false_iff_ne]; intro hh; exact t255 (UInt8.toNat_inj.1 (by have : (255 : UInt8).toNat = 255 := rfl; omega)))
  have n255 : ((c.toNat : Int) != 255) = false := by rw [bne, e255]; rfl
  have H := Lib.hid h
  obtain ⟨v, h1, h2, h3, h4, h5⟩ := h
  have c0 := h1.cell 0
  have c1 := h1.cell 1
  have f0 := h1.frozen 0
  have f1 := h1.frozen 1
  simp at c0 c1
  have H1 := Lib.hid h1
  have H2 := Lib.hid h2
  have H4 := Lib.hid h4
  have H5 := Lib.hid h5
  clear h1 h2 h4 h5 t255
  go_enter Try.func27, Try.ntmps27
  go_wp2
  go_ret2
  exact ⟨F, _, rfl, bytes_none, SAt.put (H.out) 1, ((Fr.refl F w).setCell (p := ⟨g, 0, none⟩) (.inl h3) _), fun k hk => .inl hk⟩
theorem stepR_1s (op : Str) (c : UInt8) (t255 : (c = 255)) : stepR 1 op c = ((0, op), ([c], false)) := by
  unfold stepR; simp [t255]
theorem step_1s (w : World) (F : Nat → Prop) (g : Nat) (op : Str) (c : UInt8) (h : SAt w F g 1 op) (hl : op.length ≤ 3000000) (t255 : (c = 255)) : Calls Try.prog 27 #[.pointer (some ⟨g, 0, none⟩), .int .u8 c.toNat] w (StepPost w F g (stepR 1 op c)) := by
  rw [stepR_1s op c t255]
  have e255 : ((c.toNat : Int) == 255) = true := by
    first
      | (rw [t255]; rfl)
      | (rw [beq_eq_false_iff_ne]; intro hh; exact t255 (UInt8.toNat_inj.1 (by have : (255 : UInt8).toNat = 255 := rfl; omega)))
  have n255 : ((c.toNat : Int) != 255) = false := by rw [bne, e255]; rfl
  have H := Lib.hid h
  obtain ⟨v, h1, h2, h3, h4, h5⟩ := h
  have c0 := h1.cell 0
  have c1 := h1.cell 1
  have f0 := h1.frozen 0
  have f1 := h1.frozen 1
  simp at c0 c1
  have H1 := Lib.hid h1
  have H2 := Lib.hid h2
  have H4 := Lib.hid h4
  have H5 := Lib.hid h5
  clear h1 h2 h4 h5 t255
  go_enter Try.func27, Try.ntmps27
  go_wp2
  go_ret2
  have hs := SAt.put (SAt.put (H.out) 4) 0
  have hlb := lit_bytes ((w.setCell ⟨g, 0, none⟩ (.int .i64 4)).setCell ⟨g, 0, none⟩ (.int .i64 0)) (fun k => New w (World.alloc ((w.setCell ⟨g, 0, none⟩ (.int .i64 4)).setCell ⟨g, 0, none⟩ (.int .i64 0)) (.cells #[encB c] 5)) k ∧ ¬ F k) c ⟨⟨by first | exact Nat.le_refl _ | (simp only [size_setCell]; exact Nat.le_refl _), by rw [size_alloc]; omega⟩, fun hF => absurd (hs.size _ hF) (Nat.lt_irrefl _)⟩
  try simp only [size_setCell] at hlb
  exact ⟨F, _, rfl, hlb, hs.fr ((Fr.refl No _).alloc _) (fun _ _ h => h), ((((Fr.refl F w).setCell (p := ⟨g, 0, none⟩) (.inl h3) _).setCell (p := ⟨g, 0, none⟩) (.inl h3) _)).alloc _, fun k hk => .inl hk⟩
theorem stepR_1b (op : Str) (c : UInt8) (t255 : ¬ (c = 255)) (t1 : (c = 1)) : stepR 1 op c = ((2, op), ([], false)) := by
  unfold stepR; simp [t255, t1]
theorem step_1b (w : World) (F : Nat → Prop) (g : Nat) (op : Str) (c : UInt8) (h : SAt w F g 1 op) (hl : op.length ≤ 3000000) (t255 : ¬ (c = 255)) (t1 : (c = 1)) : Calls Try.prog 27 #[.pointer (some ⟨g, 0, none⟩), .int .u8 c.toNat] w (StepPost w F g (stepR 1 op c)) := by
  rw [stepR_1b op c t255 t1]
  have e255 : ((c.toNat : Int) == 255) = false := by
    first
      | (rw [t255]; rfl)
      | (rw [beq_eq_false_iff_ne]; intro hh; exact t255 (UInt8.toNat_inj.1 (by have : (255 : UInt8).toNat = 255 := rfl; omega)))
  have n255 : ((c.toNat : Int) != 255) = true := by rw [bne, e255]; rfl
  have e1 : ((c.toNat : Int) == 1) = true := by
    first
      | (rw [t1]; rfl)
      | (rw [beq_eq_false_iff_ne]; intro hh; exact t1 (UInt8.toNat_inj.1 (by have : (1 : UInt8).toNat = 1 := rfl; omega)))
  have n1 : ((c.toNat : Int) != 1) = false := by rw [bne, e1]; rfl
  have H := Lib.hid h
  obtain ⟨v, h1, h2, h3, h4, h5⟩ := h
  have c0 := h1.cell 0
  have c1 := h1.cell 1
  have f0 := h1.frozen 0
  have f1 := h1.frozen 1
  simp at c0 c1
  have H1 := Lib.hid h1
  have H2 := Lib.hid h2
  have H4 := Lib.hid h4
  have H5 := Lib.hid h5
  clear h1 h2 h4 h5 t255 t1
  go_enter Try.func27, Try.ntmps27
  go_wp2
  go_ret2
  exact ⟨F, _, rfl, bytes_none, SAt.put (SAt.put (H.out) 4) 2, (((Fr.refl F w).setCell (p := ⟨g, 0, none⟩) (.inl h3) _).setCell (p := ⟨g, 0, none⟩) (.inl h3) _), fun k hk => .inl hk⟩
theorem stepR_1n (op : Str) (c : UInt8) (t255 : ¬ (c = 255)) (t1 : ¬ (c = 1)) : stepR 1 op c = ((4, op), ([], false)) := by
  unfold stepR; simp [t255, t1]
theorem step_1n (w : World) (F : Nat → Prop) (g : Nat) (op : Str) (c : UInt8) (h : SAt w F g 1 op) (hl : op.length ≤ 3000000) (t255 : ¬ (c = 255)) (t1 : ¬ (c = 1)) : Calls Try.prog 27 #[.pointer (some ⟨g, 0, none⟩), .int .u8 c.toNat] w (StepPost w F g (stepR 1 op c)) := by
  rw [stepR_1n op c t255 t1]
  have e255 : ((c.toNat : Int) == 255) = false := by
    first
      | (rw [t255]; rfl)
      | (rw [beq_eq_false_iff_ne]; intro hh; exact t255 (UInt8.toNat_inj.1 (by have : (255 : UInt8).toNat = 255 := rfl; omega)))
  have n255 : ((c.toNat : Int) != 255) = true := by rw [bne, e255]; rfl
  have e1 : ((c.toNat : Int) == 1) = false := by
    first
      | (rw [t1]; rfl)
      | (rw [beq_eq_false_iff_ne]; intro hh; exact t1 (UInt8.toNat_inj.1 (by have : (1 : UInt8).toNat = 1 := rfl; omega)))
  have n1 : ((c.toNat : Int) != 1) = true := by rw [bne, e1]; rfl
  have H := Lib.hid h
  obtain ⟨v, h1, h2, h3, h4, h5⟩ := h
  have c0 := h1.cell 0
  have c1 := h1.cell 1
  have f0 := h1.frozen 0
  have f1 := h1.frozen 1
  simp at c0 c1
  have H1 := Lib.hid h1
  have H2 := Lib.hid h2
  have H4 := Lib.hid h4
  have H5 := Lib.hid h5
  clear h1 h2 h4 h5 t255 t1
  go_enter Try.func27, Try.ntmps27
  go_wp2
  go_ret2
  exact ⟨F, _, rfl, bytes_none, SAt.put (H.out) 4, ((Fr.refl F w).setCell (p := ⟨g, 0, none⟩) (.inl h3) _), fun k hk => .inl hk⟩
theorem stepR_3e (op : Str) (c : UInt8) (t2 : (c = 2)) : stepR 3 op c = ((0, op), ([], true)) := by
  unfold stepR; simp [t2]
theorem step_3e (w : World) (F : Nat → Prop) (g : Nat) (op : Str) (c : UInt8) (h : SAt w F g 3 op) (hl : op.length ≤ 3000000) (t2 : (c = 2)) : Calls Try.prog 27 #[.pointer (some ⟨g, 0, none⟩), .int .u8 c.toNat] w (StepPost w F g (stepR 3 op c)) := by
  rw [stepR_3e op c t2]
  have e2 : ((c.toNat : Int) == 2) = true := by
    first
      | (rw [t2]; rfl)
      | (rw [beq_eq_false_iff_ne]; intro hh; exact t2 (UInt8.toNat_inj.1 (by have : (2 : UInt8).toNat = 2 := rfl; omega)))
  have n2 : ((c.toNat : Int) != 2) = false := by rw [bne, e2]; rfl
  have H := Lib.hid h
  obtain ⟨v, h1, h2, h3, h4, h5⟩ := h
  have c0 := h1.cell 0
  have c1 := h1.cell 1
  have f0 := h1.frozen 0
  have f1 := h1.frozen 1
  simp at c0 c1
  have H1 := Lib.hid h1
  have H2 := Lib.hid h2
  have H4 := Lib.hid h4
  have H5 := Lib.hid h5
  clear h1 h2 h4 h5 t2
  go_enter Try.func27, Try.ntmps27
  go_wp2
  go_ret2
  exact ⟨F, _, rfl, bytes_none, SAt.put (SAt.put (H.out) 4) 0, (((Fr.refl F w).setCell (p := ⟨g, 0, none⟩) (.inl h3) _).setCell (p := ⟨g, 0, none⟩) (.inl h3) _), fun k hk => .inl hk⟩
theorem stepR_3s (op : Str) (c : UInt8) (t2 : ¬ (c = 2)) (t255 : (c = 255)) : stepR 3 op c = ((2, op ++ [c]), ([], false)) := by
  unfold stepR; simp [t2, t255]
theorem step_3s (w : World) (F : Nat → Prop) (g : Nat) (op : Str) (c : UInt8) (h : SAt w F g 3 op) (hl : op.length ≤ 3000000) (t2 : ¬ (c = 2)) (t255 : (c = 255)) : Calls Try.prog 27 #[.pointer (some ⟨g, 0, none⟩), .int .u8 c.toNat] w (StepPost w F g (stepR 3 op c)) := by
  rw [stepR_3s op c t2 t255]
  have e2 : ((c.toNat : Int) == 2) = false := by
    first
      | (rw [t2]; rfl)
      | (rw [beq_eq_false_iff_ne]; intro hh; exact t2 (UInt8.toNat_inj.1 (by have : (2 : UInt8).toNat = 2 := rfl; omega)))
  have n2 : ((c.toNat : Int) != 2) = true := by rw [bne, e2]; rfl
  have e255 : ((c.toNat : Int) == 255) = true := by
    first
      | (rw [t255]; rfl)
      | (rw [beq_eq_false_iff_ne]; intro hh; exact t255 (UInt8.toNat_inj.1 (by have : (255 : UInt8).toNat = 255 := rfl; omega)))
  have n255 : ((c.toNat : Int) != 255) = false := by rw [bne, e255]; rfl
  have H := Lib.hid h
  obtain ⟨v, h1, h2, h3, h4, h5⟩ := h
  have c0 := h1.cell 0
  have c1 := h1.cell 1
  have f0 := h1.frozen 0
  have f1 := h1.frozen 1
  simp at c0 c1
  obtain ⟨A1, k1, hu⟩ := own_form h2
  subst hu
  have H1 := Lib.hid h1
  have H2 := Lib.hid h2
  have H4 := Lib.hid h4
  have H5 := Lib.hid h5
  clear h1 h2 h4 h5 t2 t255
  go_enter Try.func27, Try.ntmps27
  obtain ⟨Wp, hWp⟩ : ∃ Wp : World, Wp = ((w.setCell ⟨g, 0, none⟩ (.int .i64 4)).setCell ⟨g, 0, none⟩ (.int .i64 2)) := ⟨_, rfl⟩
  have hs : SAt ((w.setCell ⟨g, 0, none⟩ (.int .i64 4)).setCell ⟨g, 0, none⟩ (.int .i64 2)) F g 2 op := SAt.put (SAt.put (H.out) 4) 2
  have hb : Blk ((w.setCell ⟨g, 0, none⟩ (.int .i64 4)).setCell ⟨g, 0, none⟩ (.int .i64 2)) g 43 #[.int .i64 2, .slice A1 op.length k1] := by simpa using ((H1.out.put 0 (.int .i64 4)).put 0 (.int .i64 2))
  have ho : World.ownsRow ((w.setCell ⟨g, 0, none⟩ (.int .i64 4)).setCell ⟨g, 0, none⟩ (.int .i64 2)) 0 5 1 (.slice A1 op.length k1) op.length (op.map encB) := own_fr H2.out (((Fr.refl (fun k => k = g) w).setCell (p := ⟨g, 0, none⟩) (.inl rfl) _).setCell (p := ⟨g, 0, none⟩) (.inl rfl) _) (fun k hk e => (H4.out k hk).2 e)
  have hfr : Fr F w ((w.setCell ⟨g, 0, none⟩ (.int .i64 4)).setCell ⟨g, 0, none⟩ (.int .i64 2)) := (((Fr.refl F w).setCell (p := ⟨g, 0, none⟩) (.inl h3) _).setCell (p := ⟨g, 0, none⟩) (.inl h3) _)
  have Hs := Lib.hid hs
  have Hb := Lib.hid hb
  have Ho := Lib.hid ho
  have Hfr := Lib.hid hfr
  clear hs hb ho hfr hWp
  go_wp2_with (at_builtin; go_loud (refine wp_push rfl (.tmp 56) (.tmp 58) 37 rfl 5 (.int .u8 0) 1 1 Try.underlying37 infoB rfl (by decide) _ _ _ rfl Ho.out #[.int .u8 c.toNat] (by (try simp only [size_setCell]); rfl) rfl (one_lit rfl) (by omega) (by unfold maxLen; omega) ?_; intro g2 cap2 w2 h1 h2 h3; have hg1 : Fr (Of (.slice A1 op.length k1)) ((w.setCell ⟨g, 0, none⟩ (.int .i64 4)).setCell ⟨g, 0, none⟩ (.int .i64 2)) w2 := h2; have hb2 := Hb.out.fr hg1 (fun e => (H4.out g e).2 rfl); have d1 := hb2.cell 1; have e1 := hb2.frozen 1; simp at d1; have P2 := Lib.hid h1; have F2 := Lib.hid hg1; have L2 := Lib.hid h3; have Hb2 := Lib.hid hb2; clear h1 h2 h3 hg1 hb2))
  go_ret2
  have hlt2 : g2 < w2.heap.size := (P2.out.lt g2 rfl).2
  have hg2 : F g2 ∨ New w w2 g2 := by
    rcases L2.out with h | h
    · exact .inl (H4.out g2 h).1
    · exact .inr ⟨Nat.le_trans Hfr.out.size h.1, h.2⟩
  have hgg : g2 ≠ g := by
    rcases L2.out with h | h
    · exact (H4.out g2 h).2
    · have := Hs.out.size g h3; have := h.1; omega
  refine ⟨fun k => F k ∨ k = g2, _, rfl, bytes_none, ⟨.slice (some ⟨g2, 0, none⟩) (op.length + 1) cap2, by simpa using Hb2.out.put 1 (.slice (some ⟨g2, 0, none⟩) (op.length + 1) cap2), ?_, .inl h3, ?_, ?_⟩, ?_, ?_⟩
  · have := own_fr P2.out (Fr.setCell (F := fun k => k = g) (Fr.refl _ w2) (p := ⟨g, 1, none⟩) (.inl rfl) (.slice (some ⟨g2, 0, none⟩) (op.length + 1) cap2)) (fun k hk => by
      have hk' : some g2 = some k := hk
      injection hk' with hk'
      subst hk'
      exact hgg)
    simpa [encB] using this
  · intro k hk
    have hk' : some g2 = some k := hk
    injection hk' with hk'
    subst hk'
    exact ⟨.inr rfl, hgg⟩
  · intro k hk
    rw [size_setCell]
    rcases hk with hk | rfl
    · exact Nat.lt_of_lt_of_le (H5.out k hk) (Nat.le_trans Hfr.out.size F2.out.size)
    · exact hlt2
  · exact (Hfr.out.trans (F' := F) (F2.out.mono fun k hk _ => (H4.out k hk).1) (fun _ h _ => h)).setCell (p := ⟨g, 1, none⟩) (.inl h3) _
  · intro k hk
    rcases hk with hk | rfl
    · exact .inl hk
    · rcases hg2 with h | h
      · exact .inl h
      · exact .inr ⟨h.1, by rw [size_setCell]; exact h.2⟩
theorem stepR_3n (op : Str) (c : UInt8) (t2 : ¬ (c = 2)) (t255 : ¬ (c = 255)) : stepR 3 op c = ((4, op), ([], false)) := by
  unfold stepR; simp [t2, t255]
theorem step_3n (w : World) (F : Nat → Prop) (g : Nat) (op : Str) (c : UInt8) (h : SAt w F g 3 op) (hl : op.length ≤ 3000000) (t2 : ¬ (c = 2)) (t255 : ¬ (c = 255)) : Calls Try.prog 27 #[.pointer (some ⟨g, 0, none⟩), .int .u8 c.toNat] w (StepPost w F g (stepR 3 op c)) := by
  rw [stepR_3n op c t2 t255]
  have e2 : ((c.toNat : Int) == 2) = false := by
    first
      | (rw [t2]; rfl)
      | (rw [beq_eq_false_iff_ne]; intro hh; exact t2 (UInt8.toNat_inj.1 (by have : (2 : UInt8).toNat = 2 := rfl; omega)))
  have n2 : ((c.toNat : Int) != 2) = true := by rw [bne, e2]; rfl
  have e255 : ((c.toNat : Int) == 255) = false := by
    first
      | (rw [t255]; rfl)
      | (rw [beq_eq_false_iff_ne]; intro hh; exact t255 (UInt8.toNat_inj.1 (by have : (255 : UInt8).toNat = 255 := rfl; omega)))
  have n255 : ((c.toNat : Int) != 255) = true := by rw [bne, e255]; rfl
  have H := Lib.hid h
  obtain ⟨v, h1, h2, h3, h4, h5⟩ := h
  have c0 := h1.cell 0
  have c1 := h1.cell 1
  have f0 := h1.frozen 0
  have f1 := h1.frozen 1
  simp at c0 c1
  have H1 := Lib.hid h1
  have H2 := Lib.hid h2
  have H4 := Lib.hid h4
  have H5 := Lib.hid h5
  clear h1 h2 h4 h5 t2 t255
  go_enter Try.func27, Try.ntmps27
  go_wp2
  go_ret2
  exact ⟨F, _, rfl, bytes_none, SAt.put (H.out) 4, ((Fr.refl F w).setCell (p := ⟨g, 0, none⟩) (.inl h3) _), fun k hk => .inl hk⟩
theorem stepR_2s (op : Str) (c : UInt8) (t255 : (c = 255)) : stepR 2 op c = ((3, op), ([], false)) := by
  unfold stepR; simp [t255]
theorem step_2s (w : World) (F : Nat → Prop) (g : Nat) (op : Str) (c : UInt8) (h : SAt w F g 2 op) (hl : op.length ≤ 3000000) (t255 : (c = 255)) : Calls Try.prog 27 #[.pointer (some ⟨g, 0, none⟩), .int .u8 c.toNat] w (StepPost w F g (stepR 2 op c)) := by
  rw [stepR_2s op c t255]
  have e255 : ((c.toNat : Int) == 255) = true := by
    first
      | (rw [t255]; rfl)
      | (rw [beq_eq_false_iff_ne]; intro hh; exact t255 (UInt8.toNat_inj.1 (by have : (255 : UInt8).toNat = 255 := rfl; omega)))
  have n255 : ((c.toNat : Int) != 255) = false := by rw [bne, e255]; rfl
  have H := Lib.hid h
  obtain ⟨v, h1, h2, h3, h4, h5⟩ := h
  have c0 := h1.cell 0
  have c1 := h1.cell 1
  have f0 := h1.frozen 0
  have f1 := h1.frozen 1
  simp at c0 c1
  have H1 := Lib.hid h1
  have H2 := Lib.hid h2
  have H4 := Lib.hid h4
  have H5 := Lib.hid h5
  clear h1 h2 h4 h5 t255
  go_enter Try.func27, Try.ntmps27
  go_wp2
  go_ret2
  exact ⟨F, _, rfl, bytes_none, SAt.put (H.out) 3, ((Fr.refl F w).setCell (p := ⟨g, 0, none⟩) (.inl h3) _), fun k hk => .inl hk⟩
theorem stepR_2n (op : Str) (c : UInt8) (t255 : ¬ (c = 255)) : stepR 2 op c = ((2, op ++ [c]), ([], false)) := by
  unfold stepR; simp [t255]
theorem step_2n (w : World) (F : Nat → Prop) (g : Nat) (op : Str) (c : UInt8) (h : SAt w F g 2 op) (hl : op.length ≤ 3000000) (t255 : ¬ (c = 255)) : Calls Try.prog 27 #[.pointer (some ⟨g, 0, none⟩), .int .u8 c.toNat] w (StepPost w F g (stepR 2 op c)) := by
  rw [stepR_2n op c t255]
  have e255 : ((c.toNat : Int) == 255) = false := by
    first
      | (rw [t255]; rfl)
      | (rw [beq_eq_false_iff_ne]; intro hh; exact t255 (UInt8.toNat_inj.1 (by have : (255 : UInt8).toNat = 255 := rfl; omega)))
  have n255 : ((c.toNat : Int) != 255) = true := by rw [bne, e255]; rfl
  have H := Lib.hid h
  obtain ⟨v, h1, h2, h3, h4, h5⟩ := h
  have c0 := h1.cell 0
  have c1 := h1.cell 1
  have f0 := h1.frozen 0
  have f1 := h1.frozen 1
  simp at c0 c1
  obtain ⟨A1, k1, hu⟩ := own_form h2
  subst hu
  have H1 := Lib.hid h1
  have H2 := Lib.hid h2
  have H4 := Lib.hid h4
  have H5 := Lib.hid h5
  clear h1 h2 h4 h5 t255
  go_enter Try.func27, Try.ntmps27
  obtain ⟨Wp, hWp⟩ : ∃ Wp : World, Wp = w := ⟨_, rfl⟩
  have hs : SAt w F g 2 op := H.out
  have hb : Blk w g 43 #[.int .i64 2, .slice A1 op.length k1] := by exact H1.out
  have ho : World.ownsRow w 0 5 1 (.slice A1 op.length k1) op.length (op.map encB) := own_fr H2.out ((Fr.refl (fun k => k = g) w)) (fun k hk e => (H4.out k hk).2 e)
  have hfr : Fr F w w := (Fr.refl F w)
  have Hs := Lib.hid hs
  have Hb := Lib.hid hb
  have Ho := Lib.hid ho
  have Hfr := Lib.hid hfr
  clear hs hb ho hfr hWp
  go_wp2_with (at_builtin; go_loud (refine wp_push rfl (.tmp 73) (.tmp 75) 37 rfl 5 (.int .u8 0) 1 1 Try.underlying37 infoB rfl (by decide) _ _ _ rfl Ho.out #[.int .u8 c.toNat] (by (try simp only [size_setCell]); rfl) rfl (one_lit rfl) (by omega) (by unfold maxLen; omega) ?_; intro g2 cap2 w2 h1 h2 h3; have hg1 : Fr (Of (.slice A1 op.length k1)) w w2 := h2; have hb2 := Hb.out.fr hg1 (fun e => (H4.out g e).2 rfl); have d1 := hb2.cell 1; have e1 := hb2.frozen 1; simp at d1; have P2 := Lib.hid h1; have F2 := Lib.hid hg1; have L2 := Lib.hid h3; have Hb2 := Lib.hid hb2; clear h1 h2 h3 hg1 hb2))
  go_ret2
  have hlt2 : g2 < w2.heap.size := (P2.out.lt g2 rfl).2
  have hg2 : F g2 ∨ New w w2 g2 := by
    rcases L2.out with h | h
    · exact .inl (H4.out g2 h).1
    · exact .inr ⟨Nat.le_trans Hfr.out.size h.1, h.2⟩
  have hgg : g2 ≠ g := by
    rcases L2.out with h | h
    · exact (H4.out g2 h).2
    · have := Hs.out.size g h3; have := h.1; omega
  refine ⟨fun k => F k ∨ k = g2, _, rfl, bytes_none, ⟨.slice (some ⟨g2, 0, none⟩) (op.length + 1) cap2, by simpa using Hb2.out.put 1 (.slice (some ⟨g2, 0, none⟩) (op.length + 1) cap2), ?_, .inl h3, ?_, ?_⟩, ?_, ?_⟩
  · have := own_fr P2.out (Fr.setCell (F := fun k => k = g) (Fr.refl _ w2) (p := ⟨g, 1, none⟩) (.inl rfl) (.slice (some ⟨g2, 0, none⟩) (op.length + 1) cap2)) (fun k hk => by
      have hk' : some g2 = some k := hk
      injection hk' with hk'
      subst hk'
      exact hgg)
    simpa [encB] using this
  · intro k hk
    have hk' : some g2 = some k := hk
    injection hk' with hk'
    subst hk'
    exact ⟨.inr rfl, hgg⟩
  · intro k hk
    rw [size_setCell]
    rcases hk with hk | rfl
    · exact Nat.lt_of_lt_of_le (H5.out k hk) (Nat.le_trans Hfr.out.size F2.out.size)
    · exact hlt2
  · exact (Hfr.out.trans (F' := F) (F2.out.mono fun k hk _ => (H4.out k hk).1) (fun _ h _ => h)).setCell (p := ⟨g, 1, none⟩) (.inl h3) _
  · intro k hk
    rcases hk with hk | rfl
    · exact .inl hk
    · rcases hg2 with h | h
      · exact .inl h
      · exact .inr ⟨h.1, by rw [size_setCell]; exact h.2⟩
theorem stepR_4 (op : Str) (c : UInt8)  : stepR 4 op c = ((4, op), ([], false)) := by
  unfold stepR; simp []
theorem step_4 (w : World) (F : Nat → Prop) (g : Nat) (op : Str) (c : UInt8) (h : SAt w F g 4 op) (hl : op.length ≤ 3000000)  : Calls Try.prog 27 #[.pointer (some ⟨g, 0, none⟩), .int .u8 c.toNat] w (StepPost w F g (stepR 4 op c)) := by
  rw [stepR_4 op c ]
  have H := Lib.hid h
  obtain ⟨v, h1, h2, h3, h4, h5⟩ := h
  have c0 := h1.cell 0
  have c1 := h1.cell 1
  have f0 := h1.frozen 0
  have f1 := h1.frozen 1
  simp at c0 c1
  have H1 := Lib.hid h1
  have H2 := Lib.hid h2
  have H4 := Lib.hid h4
  have H5 := Lib.hid h5
  clear h1 h2 h4 h5 
  go_enter Try.func27, Try.ntmps27
  go_wp2
  go_ret2
  exact ⟨F, _, rfl, bytes_none, H.out, (Fr.refl F w), fun k hk => .inl hk⟩
theorem step_any (w : World) (F : Nat → Prop) (g p : Nat) (op : Str) (c : UInt8) (h : SAt w F g p op) (hp : p ≤ 4) (hl : op.length ≤ 3000000) : Calls Try.prog 27 #[.pointer (some ⟨g, 0, none⟩), .int .u8 c.toNat] w (StepPost w F g (stepR p op c)) := by
  obtain rfl | rfl | rfl | rfl | rfl : p = 0 ∨ p = 1 ∨ p = 2 ∨ p = 3 ∨ p = 4 := by omega
  · by_cases h1 : c = 255
    · exact step_0s w F g op c h hl h1
    · exact step_0n w F g op c h hl h1
  · by_cases h1 : c = 255
    · exact step_1s w F g op c h hl h1
    · by_cases h2 : c = 1
      · exact step_1b w F g op c h hl h1 h2
      · exact step_1n w F g op c h hl h1 h2
  · by_cases h1 : c = 255
    · exact step_2s w F g op c h hl h1
    · exact step_2n w F g op c h hl h1
  · by_cases h1 : c = 2
    · exact step_3e w F g op c h hl h1
    · by_cases h2 : c = 255
      · exact step_3s w F g op c h hl h1 h2
      · exact step_3n w F g op c h hl h1 h2
  · exact step_4 w F g op c h hl
end Mux
end Go.Proofs.Ytmmdiccpifepfaa
/- The splitter of package mux: flush, and a text that is fed. -/
namespace Go.Proofs.Ytmmdiccpifepfaa
open Go.RowKit
set_option linter.unusedVariables false
set_option linter.unusedSimpArgs false
namespace Mux
theorem infoP : (Try.prog.info? 57).map (fun i => (i.zero, i.size, i.bytes)) = some (some (.agg #[.string ByteArray.empty, .bool false]), 2, 24) := by kernel_rfl
def encP (x : Str × Bool) : List Value := [.string ⟨x.1.toArray⟩, .bool x.2]
theorem of_ne {w : World} {base : Nat} {e t : TypeId} {size n g : Nat} {v : Value} {xs : List Value} {cs : Array Value} (h : w.ownsRow base e size v n xs) (hg : Blk w g t cs) (hne : e ≠ t) : ¬ Of v g := by
  intro ho
  rcases h.2 with ⟨rfl, _⟩ | ⟨g', cap, cur, rfl, _, hh, _⟩
  · cases ho
  · have ho' : some g' = some g := ho
    injection ho' with ho'
    subst ho'
    unfold Blk at hg
    rw [hh] at hg
    injection hg with hg
    injection hg with _ hg
    exact hne hg
theorem blk_ne {w : World} {g g' : Nat} {t t' : TypeId} {cs cs' : Array Value} (h : Blk w g t cs) (h' : Blk w g' t' cs') (hne : t ≠ t') : g ≠ g' := by
  rintro rfl
  unfold Blk at h h'
  rw [h] at h'
  injection h' with h'
  injection h' with _ h'
  exact hne h'
/-- The two variables that flush shares: bytes that were told, and parts. -/
def FS (w : World) (G : Nat → Prop) (bd bo : Nat) (data : Str) (out : List (Str × Bool)) : Prop :=
  ∃ vd vo, Blk w bd 37 #[vd] ∧ Blk w bo 54 #[vo] ∧ w.ownsRow 0 5 1 vd data.length (data.map encB) ∧ w.ownsRow 0 57 2 vo out.length (out.flatMap encP) ∧
    G bd ∧ G bo ∧ (∀ k, Of vd k → G k) ∧ (∀ k, Of vo k → G k) ∧ (∀ k, G k → k < w.heap.size)
theorem FS.fr {w w' : World} {F G : Nat → Prop} {bd bo : Nat} {data : Str} {out : List (Str × Bool)} (h : FS w G bd bo data out) (hf : Fr F w w') (hn : ∀ k, G k → ¬ F k) : FS w' G bd bo data out := by
  obtain ⟨vd, vo, h1, h2, h3, h4, h5, h6, h7, h8, h9⟩ := h
  exact ⟨vd, vo, h1.fr hf (hn _ h5), h2.fr hf (hn _ h6), own_fr h3 hf (fun k hk => hn k (h7 k hk)), own_fr h4 hf (fun k hk => hn k (h8 k hk)), h5, h6, h7, h8, fun k hk => Nat.lt_of_lt_of_le (h9 k hk) hf.size⟩
def flushR (data : Str) (out : List (Str × Bool)) : List (Str × Bool) := if data = [] then out else out ++ [(data, false)]
set_option maxHeartbeats 800000 in
theorem flush_any {w : World} {G : Nat → Prop} {bd bo : Nat} {data : Str} {out : List (Str × Bool)} (h : FS w G bd bo data out) (hl : out.length ≤ 10000000) :
    Calls Try.prog 26 #[.pointer (some ⟨bd, 0, none⟩), .pointer (some ⟨bo, 0, none⟩)] w fun e w' => ∃ G', e = .returned (.tuple #[]) ∧ FS w' G' bd bo [] (flushR data out) ∧ Step G w G' w' := by
  have H := Lib.hid h
  obtain ⟨vd, vo, h1, h2, h3, h4, h5, h6, h7, h8, h9⟩ := h
  obtain ⟨A1, k1, hu⟩ := own_form h3
  subst hu
  obtain ⟨A2, k2, hu⟩ := own_form h4
  subst hu
  have c1 := h1.cell 0
  have c2 := h2.cell 0
  have f1 := h1.frozen 0
  have f2 := h2.frozen 0
  simp at c1 c2
  by_cases hd : data = []
  · subst hd
    clear h1 h2 h3 h4
    go_enter Try.func26, Try.ntmps26
    go_wp2
    go_end0
    exact ⟨G, rfl, H.out, Step.refl _ _⟩
  · have hr := Lib.hid (show flushR data out = out ++ [(data, false)] by simp [flushR, hd])
    have hpos : 0 < data.length := List.length_pos_iff.2 hd
    have hcv := conv_bytes (P := Try.prog) 37 9 5 Try.underlying37 Try.underlying5 Try.underlying9 (own_bytes h3)
    have e12 := blk_ne h1 h2 (by decide)
    have e14 := of_ne h4 h1 (by decide)
    have e24 := of_ne h4 h2 (by decide)
    have H1 := Lib.hid h1; have H2 := Lib.hid h2; have H3 := Lib.hid h3; have H4 := Lib.hid h4
    have H7 := Lib.hid h7; have H8 := Lib.hid h8; have H9 := Lib.hid h9
    clear h1 h2 h3 h4 h7 h8 h9 hd
    go_enter Try.func26, Try.ntmps26
    go_wp2_with (at_builtin; go_loud (refine wp_push rfl (.tmp 5) (.tmp 9) 54 rfl 57 (.agg #[.string ByteArray.empty, .bool false]) 2 24 Try.underlying54 infoP rfl (by decide) _ _ _ rfl H4.out #[.string ⟨data.toArray⟩, .bool false] rfl rfl (by intro u hu; simp at hu; rcases hu with rfl | rfl <;> rfl) (by omega) (by unfold maxLen; omega) ?_; intro g2 cap2 w2 p1 p2 p3; have hg1 : Fr (Of (.slice A2 out.length k2)) w w2 := p2; have b1 := H1.out.fr hg1 e14; have b2 := H2.out.fr hg1 e24; have d1 := b1.cell 0; have d2 := b2.cell 0; have d3 := b1.frozen 0; have d4 := b2.frozen 0; simp at d1 d2; have P2 := Lib.hid p1; have F2 := Lib.hid hg1; have L2 := Lib.hid p3; have B1 := Lib.hid b1; have B2 := Lib.hid b2; clear p1 p2 p3 hg1 b1 b2))
    go_end0
    have n1 := of_ne P2.out B1.out (by decide)
    have n2 := of_ne P2.out B2.out (by decide)
    have hlt2 : g2 < w2.heap.size := (P2.out.lt g2 rfl).2
    have hset : Fr (fun k => k = bo ∨ k = bd) w2 ((w2.setCell ⟨bo, 0, none⟩ (.slice (some ⟨g2, 0, none⟩) (out.length + 1) cap2)).setCell ⟨bd, 0, none⟩ (.slice none 0 0)) :=
      ((Fr.refl (fun k => k = bo ∨ k = bd) w2).setCell (p := ⟨bo, 0, none⟩) (.inl (.inl rfl)) _).setCell (p := ⟨bd, 0, none⟩) (.inl (.inr rfl)) _
    have hg2 : G g2 ∨ New w w2 g2 := L2.out.elim (fun h => .inl (H8.out g2 h)) .inr
    refine ⟨rfl, fun k => G k ∨ k = g2, ?_, ?_⟩
    · rw [hr.out]
      refine ⟨.slice none 0 0, .slice (some ⟨g2, 0, none⟩) (out.length + 1) cap2, ?_, ?_, World.ownsRow_nil _ _ _ _, ?_, .inl h5, .inl h6, (fun k hk => by cases hk), fun k hk => ?_, fun k hk => ?_⟩
      · simpa using (B1.out.far (p := ⟨bo, 0, none⟩) e12 _).put 0 (.slice none 0 0)
      · exact Blk.far (by simpa using B2.out.put 0 (.slice (some ⟨g2, 0, none⟩) (out.length + 1) cap2)) (p := ⟨bd, 0, none⟩) (Ne.symm e12) _
      · have := own_fr P2.out hset (fun k hk e => by
          rcases e with rfl | rfl
          · exact n2 hk
          · exact n1 hk)
        simpa [encP] using this
      · have hk' : some g2 = some k := hk
        injection hk' with hk'
        exact .inr hk'.symm
      · rw [size_setCell, size_setCell]
        rcases hk with hk | rfl
        · exact Nat.lt_of_lt_of_le (H9.out k hk) F2.out.size
        · exact hlt2
    · refine ⟨((F2.out.mono fun k hk _ => H8.out k hk).setCell (p := ⟨bo, 0, none⟩) (.inl h6) _).setCell (p := ⟨bd, 0, none⟩) (.inl h5) _, fun k hk => ?_⟩
      rcases hk with hk | rfl
      · exact .inl hk
      · rcases hg2 with h | h
        · exact .inl h
        · exact .inr ⟨h.1, by rw [size_setCell, size_setCell]; exact h.2⟩
/-- The splitter's round: where one is, what is open, what was told, the parts. -/
def feedR : Nat → Str → Str → List (Str × Bool) → Str → (Nat × Str) × (Str × List (Str × Bool))
  | p, op, data, out, [] => ((p, op), (data, out))
  | p, op, data, out, c :: s =>
    if (stepR p op c).2.2 = true then feedR (stepR p op c).1.1 [] [] (flushR (data ++ (stepR p op c).2.1) out ++ [((stepR p op c).1.2, true)]) s
    else feedR (stepR p op c).1.1 (stepR p op c).1.2 (data ++ (stepR p op c).2.1) out s
theorem stepR_ends (p : Nat) (op : Str) (c : UInt8) (hp : p ≤ 4) : (stepR p op c).1.1 ≤ 4 ∧ (stepR p op c).1.2.length ≤ op.length + 1 ∧ (stepR p op c).2.1.length ≤ 1 := by
  unfold stepR
  repeat' split
  all_goals simp
  all_goals omega
theorem flushR_len (data : Str) (out : List (Str × Bool)) : (flushR data out).length ≤ out.length + 1 := by
  unfold flushR; split <;> simp
structure FI (w0 : World) (F0 : Nat → Prop) (w : World) (F G : Nat → Prop) (g bd bo p : Nat) (op data : Str) (out : List (Str × Bool)) : Prop where
  sat : SAt w F g p op
  fs : FS w G bd bo data out
  step : Step F0 w0 F w
  new : ∀ k, G k → New w0 w k
  dis : ∀ k, F k → ¬ G k
section
variable {w0 w w1 : World} {F0 F F1 G G1 : Nat → Prop} {g bd bo p p1 : Nat} {op op1 data data1 : Str} {out out1 : List (Str × Bool)}
theorem FS.size (h : FS w G bd bo data out) : ∀ k, G k → k < w.heap.size := by
  obtain ⟨vd, vo, h1, h2, h3, h4, h5, h6, h7, h8, h9⟩ := h
  exact h9
theorem FI.stepped (h : FI w0 F0 w F G g bd bo p op data out) (hs : SAt w1 F1 g p1 op1) (st : Step F w F1 w1) : FI w0 F0 w1 F1 G g bd bo p1 op1 data out :=
  ⟨hs, h.fs.fr st.1 (fun k hk hF => h.dis k hF hk), h.step.trans st, fun k hk => ⟨(h.new k hk).1, Nat.lt_of_lt_of_le (h.new k hk).2 st.1.size⟩, fun k hk hg => by
    rcases st.2 k hk with h1 | h1
    · exact h.dis k h1 hg
    · have := h.fs.size k hg; have := h1.1; omega⟩
theorem FI.turned (h : FI w0 F0 w F G g bd bo p op data out) (hs : FS w1 G1 bd bo data1 out1) (st : Step G w G1 w1) : FI w0 F0 w1 F G1 g bd bo p op data1 out1 :=
  ⟨h.sat.fr st.1 h.dis, hs, ⟨h.step.1.trans st.1 (fun k hk hl => absurd (h.new k hk).1 (by omega)), fun k hk => (h.step.2 k hk).elim .inl fun h1 => .inr ⟨h1.1, Nat.lt_of_lt_of_le h1.2 st.1.size⟩⟩,
   fun k hk => by
    rcases st.2 k hk with h1 | h1
    · exact ⟨(h.new k h1).1, Nat.lt_of_lt_of_le (h.new k h1).2 st.1.size⟩
    · exact ⟨Nat.le_trans h.step.1.size h1.1, h1.2⟩,
   fun k hk hg => by
    rcases st.2 k hg with h1 | h1
    · exact h.dis k hk h1
    · have := h.sat.size k hk; have := h1.1; omega⟩
theorem FI.quiet (h : FI w0 F0 w F G g bd bo p op data out) (hf : Fr No w w1) : FI w0 F0 w1 F G g bd bo p op data out :=
  h.stepped (h.sat.fr hf (fun _ _ h => h)) (Step.no hf)
/-- The bytes' variable is written anew. -/
theorem FS.setData {vd v1 : Value} {m : Str} (h : FS w G bd bo data out) (hvd : Blk w bd 37 #[vd]) (ho : w1.ownsRow 0 5 1 v1 m.length (m.map encB)) (hf : Fr (Of vd) w w1) (hn : ∀ g, Of v1 g → Of vd g ∨ New w w1 g) :
    FS (w1.setCell ⟨bd, 0, none⟩ v1) (fun k => G k ∨ Of v1 k) bd bo m out ∧ Step G w (fun k => G k ∨ Of v1 k) (w1.setCell ⟨bd, 0, none⟩ v1) := by
  obtain ⟨vd', vo, h1, h2, h3, h4, h5, h6, h7, h8, h9⟩ := h
  obtain rfl : vd' = vd := by
    have e := h1.cell 0
    rw [hvd.cell 0] at e
    simpa using e.symm
  have e1 := of_ne h3 h1 (by decide)
  have e2 := of_ne h3 h2 (by decide)
  have e3 := blk_ne h1 h2 (by decide)
  have b1 := h1.fr hf e1
  have b2 := h2.fr hf e2
  have hdis : ∀ k, Of vo k → ¬ Of vd' k := fun k ho hd => by
    rcases h3.2 with ⟨rfl, _⟩ | ⟨g', cap, cur, rfl, _, hh, _⟩
    · cases hd
    · have hd' : some g' = some k := hd
      injection hd' with hd'
      subst hd'
      exact of_ne h4 hh (by decide) ho
  have o4 := own_fr h4 hf hdis
  have hset : Fr (fun k => k = bd) w1 (w1.setCell ⟨bd, 0, none⟩ v1) := Fr.setCell (F := fun k => k = bd) (Fr.refl _ _) (p := ⟨bd, 0, none⟩) (.inl rfl) _
  refine ⟨⟨v1, vo, by simpa using b1.put 0 v1, Blk.far b2 (p := ⟨bd, 0, none⟩) (Ne.symm e3) _, own_fr ho hset (fun k hk e => ?_), own_fr o4 hset (fun k hk e => ?_), .inl h5, .inl h6, fun k hk => .inr hk, fun k hk => .inl (h8 k hk), fun k hk => ?_⟩, (hf.mono fun k hk _ => h7 k hk).setCell (p := ⟨bd, 0, none⟩) (.inl h5) _, fun k hk => ?_⟩
  · subst e; exact of_ne ho b1 (by decide) hk
  · subst e; exact of_ne o4 b1 (by decide) hk
  · rw [size_setCell]
    rcases hk with hk | hk
    · exact Nat.lt_of_lt_of_le (h9 k hk) hf.size
    · exact (ho.lt k hk).2
  · rcases hk with hk | hk
    · exact .inl hk
    · rcases hn k hk with h1 | h1
      · exact .inl (h7 k h1)
      · exact .inr ⟨h1.1, by rw [size_setCell]; exact h1.2⟩
/-- The parts' variable is written anew. -/
theorem FS.setOut {vo v1 : Value} {m : List (Str × Bool)} (h : FS w G bd bo data out) (hvo : Blk w bo 54 #[vo]) (ho : w1.ownsRow 0 57 2 v1 m.length (m.flatMap encP)) (hf : Fr (Of vo) w w1) (hn : ∀ g, Of v1 g → Of vo g ∨ New w w1 g) :
    FS (w1.setCell ⟨bo, 0, none⟩ v1) (fun k => G k ∨ Of v1 k) bd bo data m ∧ Step G w (fun k => G k ∨ Of v1 k) (w1.setCell ⟨bo, 0, none⟩ v1) := by
  obtain ⟨vd, vo', h1, h2, h3, h4, h5, h6, h7, h8, h9⟩ := h
  obtain rfl : vo' = vo := by
    have e := h2.cell 0
    rw [hvo.cell 0] at e
    simpa using e.symm
  have e1 := of_ne h4 h1 (by decide)
  have e2 := of_ne h4 h2 (by decide)
  have e3 := blk_ne h1 h2 (by decide)
  have b1 := h1.fr hf e1
  have b2 := h2.fr hf e2
  have hdis : ∀ k, Of vd k → ¬ Of vo' k := fun k hd ho => by
    rcases h3.2 with ⟨rfl, _⟩ | ⟨g', cap, cur, rfl, _, hh, _⟩
    · cases hd
    · have hd' : some g' = some k := hd
      injection hd' with hd'
      subst hd'
      exact of_ne h4 hh (by decide) ho
  have o3 := own_fr h3 hf hdis
  have hset : Fr (fun k => k = bo) w1 (w1.setCell ⟨bo, 0, none⟩ v1) := Fr.setCell (F := fun k => k = bo) (Fr.refl _ _) (p := ⟨bo, 0, none⟩) (.inl rfl) _
  refine ⟨⟨vd, v1, Blk.far b1 (p := ⟨bo, 0, none⟩) e3 _, by simpa using b2.put 0 v1, own_fr o3 hset (fun k hk e => ?_), own_fr ho hset (fun k hk e => ?_), .inl h5, .inl h6, fun k hk => .inl (h7 k hk), fun k hk => .inr hk, fun k hk => ?_⟩, (hf.mono fun k hk _ => h8 k hk).setCell (p := ⟨bo, 0, none⟩) (.inl h6) _, fun k hk => ?_⟩
  · subst e; exact of_ne o3 b2 (by decide) hk
  · subst e; exact of_ne ho b2 (by decide) hk
  · rw [size_setCell]
    rcases hk with hk | hk
    · exact Nat.lt_of_lt_of_le (h9 k hk) hf.size
    · exact (ho.lt k hk).2
  · rcases hk with hk | hk
    · exact .inl hk
    · rcases hn k hk with h1 | h1
      · exact .inl (h8 k h1)
      · exact .inr ⟨h1.1, by rw [size_setCell]; exact h1.2⟩
/-- What is open is dropped. -/
theorem SAt.drop (h : SAt w F g p op) : SAt (w.setCell ⟨g, 1, none⟩ (.slice none 0 0)) F g p [] := by
  obtain ⟨v, h1, h2, h3, h4, h5⟩ := h
  exact ⟨.slice none 0 0, by simpa using h1.put 1 (.slice none 0 0), World.ownsRow_nil _ _ _ _, h3, (fun k hk => by cases hk), fun k hk => by rw [size_setCell]; exact h5 k hk⟩
theorem SAt.drop_step (h : SAt w F g p op) : Step F w F (w.setCell ⟨g, 1, none⟩ (.slice none 0 0)) := ⟨(Fr.refl _ _).setCell (p := ⟨g, 1, none⟩) (.inl h.in_) _, fun k hk => .inl hk⟩
end
end Mux
end Go.Proofs.Ytmmdiccpifepfaa
/- The splitter of package mux: a text that is fed: the walk. -/
namespace Go.Proofs.Ytmmdiccpifepfaa
open Go.RowKit
set_option linter.unusedVariables false
set_option linter.unusedSimpArgs false
namespace Mux
def FeedPost (w : World) (F0 : Nat → Prop) (g : Nat) (r : (Nat × Str) × (Str × List (Str × Bool))) (e : Ending) (w' : World) : Prop :=
  ∃ F' A c, e = .returned (.slice A (flushR r.2.1 r.2.2).length c) ∧ w'.ownsRow 0 57 2 (.slice A (flushR r.2.1 r.2.2).length c) (flushR r.2.1 r.2.2).length ((flushR r.2.1 r.2.2).flatMap encP) ∧
    SAt w' F' g r.1.1 r.1.2 ∧ Step F0 w F' w' ∧ (∀ k, Of (.slice A (flushR r.2.1 r.2.2).length c) k → New w w' k ∧ ¬ F' k)
theorem feedR_cons (p : Nat) (op data : Str) (out : List (Str × Bool)) (c : UInt8) (s : Str) : feedR p op data out (c :: s) =
    if (stepR p op c).2.2 = true then feedR (stepR p op c).1.1 [] [] (flushR (data ++ (stepR p op c).2.1) out ++ [((stepR p op c).1.2, true)]) s
    else feedR (stepR p op c).1.1 (stepR p op c).1.2 (data ++ (stepR p op c).2.1) out s := rfl
theorem feed_nil (s : Str) (w : World) : Calls Try.prog 16 #[.pointer none, .string ⟨s.toArray⟩] w fun e w' => e = .returned (.slice none 0 0) ∧ w = w' := by
  go_enter Try.func16, Try.ntmps16
  go_wp2
  go_ret
  exact ⟨rfl, rfl⟩
theorem fs_new (w : World) (b : Nat) : FS ((w.alloc (.cells #[.slice none 0 0] 54)).alloc (.cells #[.slice none 0 0] 37)) (fun k => k = w.heap.size ∨ k = w.heap.size + 1) (w.heap.size + 1) w.heap.size [] [] := by
  have h1 := Blk.new w 54 #[.slice none 0 0]
  have h2 := Blk.new (w.alloc (.cells #[.slice none 0 0] 54)) 37 #[.slice none 0 0]
  rw [size_alloc] at h2
  refine ⟨_, _, h2, h1.alloc _, World.ownsRow_nil _ _ _ _, World.ownsRow_nil _ _ _ _, .inr rfl, .inl rfl, (fun k hk => by cases hk), (fun k hk => by cases hk), fun k hk => ?_⟩
  rw [size_alloc, size_alloc]
  omega
set_option maxHeartbeats 2000000 in
set_option maxRecDepth 100000 in
theorem feed_any (w : World) (F0 : Nat → Prop) (g p : Nat) (op s : Str) (h : SAt w F0 g p op) (hp : p ≤ 4) (hl : op.length + s.length ≤ 3000000) :
    Calls Try.prog 16 #[.pointer (some ⟨g, 0, none⟩), .string ⟨s.toArray⟩] w (FeedPost w F0 g (feedR p op [] [] s)) := by
  have H := Lib.hid h
  have hst := Lib.hid (show SAt ((w.alloc (.cells #[.slice none 0 0] 54)).alloc (.cells #[.slice none 0 0] 37)) F0 g p op from h.fr (((Fr.refl No w).alloc _).alloc _) (fun _ _ h => h))
  have hsz := Lib.hid h.size
  clear h
  go_enter Try.func16, Try.ntmps16
  go_wp2_with fail
  go_loopw [16] (fun i wr => ∃ (k q : Nat) (oq data : Str) (out : List (Str × Bool)) (F G : Nat → Prop), i = .int .i64 k ∧ k ≤ s.length ∧ q ≤ 4 ∧ oq.length ≤ op.length + k ∧ data.length ≤ k ∧ out.length ≤ 2 * k ∧ Hid (feedR p op [] [] s = feedR q oq data out (s.drop k) ∧ FI w F0 wr F G g (w.heap.size + 1) w.heap.size q oq data out)) (fun i _ => s.length - (intOf i).toNat)
  case atStart =>
    refine ⟨0, p, op, [], [], F0, _, rfl, by omega, hp, by omega, by simp, by simp, rfl, hst.out, fs_new w 0, ⟨((Fr.refl _ _).alloc _).alloc _, fun k hk => .inl hk⟩, fun k hk => ?_, fun k hk hg => ?_⟩
    · rw [New, size_alloc, size_alloc]; omega
    · have := hsz.out k hk; omega
  case round =>
    obtain ⟨k, q, oq, data, out, F, G, rfl, hk, hq, hoq, hda, hou, hd⟩ := hrel
    by_cases hlt : k < s.length
    · obtain ⟨hR, hI⟩ := hd.out
      have hix : (⟨s.toArray⟩ : ByteArray)[k]'(by simpa [ByteArray.size] using hlt) = s[k] := rfl
      have hc := step_any wr F g q oq s[k] hI.sat hq (by omega)
      obtain ⟨e1, e2, e3⟩ := stepR_ends q oq s[k] hq
      rw [List.drop_eq_getElem_cons hlt] at hR
      obtain ⟨⟨⟨q1, oq1⟩, b1, en⟩, hr⟩ : ∃ r, r = stepR q oq s[k] := ⟨_, rfl⟩
      rw [feedR_cons] at hR
      rw [← hr] at hc e1 e2 e3 hR
      simp only at e1 e2 e3 hR
      have HR := Lib.hid hR
      have HI := Lib.hid hI
      have Hc := Lib.hid hc
      clear hR hI hc hr hd
      cases en with
      | false =>
        go_wp2_with (first
          | (go_at_call 27; go_loud (refine Hc.out.mono ?_; rintro e w1 ⟨F1, vb, rfl, hrb, hsat, hstp⟩; have fi1 := HI.out.stepped hsat hstp; obtain ⟨vd, vo, x1, x2, x3, x4, x5, x6, x7, x8, x9⟩ := fi1.fs; obtain ⟨A1, k1, rfl⟩ := own_form x3; obtain ⟨A2, k2, rfl, hk21, hk22⟩ := hrb.slice; have d0 := x1.cell 0; have d1 := x1.frozen 0; simp at d0; have hnb := Lib.hid (bytes_news hrb); have X1 := Lib.hid x1; have X3 := Lib.hid x3; have FI1 := Lib.hid fi1; clear hrb hsat hstp fi1 x1 x2 x3 x4 x5 x6 x7 x8 x9))
          | (at_builtin; go_loud (refine wp_app rfl (.tmp 27) (.tmp 28) 37 rfl 5 (.int .u8 0) 1 1 Try.underlying37 infoB rfl (by decide) _ _ _ rfl X3.out (m := b1.length) (news := b1.map encB) rfl (by simp) hnb.out (encB_one b1) (by omega) (by unfold maxLen; omega) ?_; intro v2 w2 p1 p2 p3; have ho2 : w2.ownsRow 0 5 1 v2 (data ++ b1).length ((data ++ b1).map encB) := (by simpa using p1); obtain ⟨A3, k3, rfl⟩ := own_form p1; have y1 := X1.out.fr p2 (of_ne X3.out X1.out (by decide)); have f0 := y1.cell 0; have f1 := y1.frozen 0; simp at f0; have fs2 := FS.setData FI1.out.fs X1.out ho2 p2 p3; have FI2 := Lib.hid (FI1.out.turned fs2.1 fs2.2); clear p1 p2 p3 y1 ho2 fs2)))
        go_roundw
        case rel =>
          refine ⟨k + 1, q1, oq1, data ++ b1, out, F1, _, by go_num, by omega, e1, by omega, by simp; omega, by omega, ?_, FI2.out⟩
          simpa using HR.out
        case measure => simp [intOf]; omega
      | true =>
        go_wp2_with (first
          | (go_at_call 27; go_loud (refine Hc.out.mono ?_; rintro e w1 ⟨F1, vb, rfl, hrb, hsat, hstp⟩; have fi1 := HI.out.stepped hsat hstp; obtain ⟨vd, vo, x1, x2, x3, x4, x5, x6, x7, x8, x9⟩ := fi1.fs; obtain ⟨A1, k1, rfl⟩ := own_form x3; obtain ⟨A2, k2, rfl, hk21, hk22⟩ := hrb.slice; have d0 := x1.cell 0; have d1 := x1.frozen 0; simp at d0; have hnb := Lib.hid (bytes_news hrb); have X1 := Lib.hid x1; have X3 := Lib.hid x3; have FI1 := Lib.hid fi1; clear hrb hsat hstp fi1 x1 x2 x3 x4 x5 x6 x7 x8 x9))
          | (at_builtin; go_loud (refine wp_app rfl (.tmp 27) (.tmp 28) 37 rfl 5 (.int .u8 0) 1 1 Try.underlying37 infoB rfl (by decide) _ _ _ rfl X3.out (m := b1.length) (news := b1.map encB) rfl (by simp) hnb.out (encB_one b1) (by omega) (by unfold maxLen; omega) ?_; intro v2 w2 p1 p2 p3; have ho2 : w2.ownsRow 0 5 1 v2 (data ++ b1).length ((data ++ b1).map encB) := (by simpa using p1); obtain ⟨A3, k3, rfl⟩ := own_form p1; have y1 := X1.out.fr p2 (of_ne X3.out X1.out (by decide)); have f0 := y1.cell 0; have f1 := y1.frozen 0; simp at f0; have fs2 := FS.setData FI1.out.fs X1.out ho2 p2 p3; have FI2 := Lib.hid (FI1.out.turned fs2.1 fs2.2); clear p1 p2 p3 y1 ho2 fs2))
          | (go_at_call 26; go_loud (refine (flush_any FI2.out.fs (by omega)).mono ?_; rintro e w3 ⟨G3, rfl, hfs, hst3⟩; have fi3 := FI2.out.turned hfs hst3; obtain ⟨vd3, vo3, z1, z2, z3, z4, z5, z6, z7, z8, z9⟩ := fi3.fs; obtain ⟨A5, k5, rfl⟩ := own_form z4; obtain ⟨vp, s1, s2, s3, s4, s5⟩ := fi3.sat; obtain ⟨A6, k6, rfl⟩ := own_form s2; have d2 := z2.cell 0; have d3 := z2.frozen 0; have d4 := s1.cell 1; have d5 := s1.frozen 1; simp at d2 d4; have hcv := conv_bytes (P := Try.prog) (w := w3) 37 9 5 Try.underlying37 Try.underlying5 Try.underlying9 (own_bytes s2); have hcvd := conv_bytes (P := Try.prog) (w := w3.drew) 37 9 5 Try.underlying37 Try.underlying5 Try.underlying9 (own_bytes s2); have hlt3 := z2.lt; have hlt4 := s1.lt; have hne3 : w.heap.size ≠ w3.heap.size := (by omega); have Z2 := Lib.hid z2; have Z4 := Lib.hid z4; have FI3 := Lib.hid fi3; clear hfs hst3 fi3 z1 z2 z3 z4 z5 z6 z7 z8 z9 s1 s2 s3 s4 s5)))
        have hfl := flushR_len (data ++ b1) out
        obtain ⟨o3, ho3⟩ : ∃ o3, flushR (data ++ b1) out = o3 := ⟨_, rfl⟩
        rw [ho3] at hfl Z2 Z4 FI3 d2
        have Ho3 := Lib.hid ho3
        clear ho3
        go_region_law (go_loud (refine step_pushD rfl (.tmp 33) (.tmp 40) 54 rfl 57 (.agg #[.string ByteArray.empty, .bool false]) 2 24 Try.underlying54 infoP rfl (by decide) (.slice A5 o3.length k5) _ _ (by simp [Act.eval, Act.put]) Z4.out #[.string ⟨oq1.toArray⟩, .bool true] (by simp [Act.eval, Act.put]) rfl (by intro u hu; simp at hu; rcases hu with rfl | rfl <;> rfl) (by omega) (by unfold maxLen; omega) ?_; intro g4 cap4 w4 p1 p2 p3; have b2 := Z2.out.fr p2 (of_ne Z4.out Z2.out (by decide)); have q0 := b2.cell 0; have q1' := b2.frozen 0; simp at q0; have ho4 : w4.ownsRow 0 57 2 (.slice (some ⟨g4, 0, none⟩) (o3.length + 1) cap4) (o3 ++ [(oq1, true)]).length ((o3 ++ [(oq1, true)]).flatMap encP) := (by simpa [encP] using p1); have fs4 := FS.setOut FI3.out.fs Z2.out ho4 p2 (Step.of p2 p3).2; have fi4 := FI3.out.turned fs4.1 fs4.2; obtain ⟨vp4, s1, s2, s3, s4, s5⟩ := fi4.sat; have q2 := s1.cell 1; have q3 := s1.frozen 1; simp at q2; have FI4 := Lib.hid fi4; clear b2 p1 p2 p3 ho4 fs4 fi4 s1 s2 s3 s4 s5))
        all_goals
          go_wp2
          go_roundw
          case rel =>
            refine ⟨k + 1, q1, [], [], o3 ++ [(oq1, true)], F1, _, by go_num, by omega, e1, by simp, by simp, by simp; omega, ?_, FI4.out.stepped FI4.out.sat.drop FI4.out.sat.drop_step⟩
            have h1 := HR.out
            rw [if_pos trivial, Ho3.out] at h1
            exact h1
          case measure => simp [intOf]; omega
    · have hR := hd.out.1
      rw [List.drop_of_length_le (by omega)] at hR
      have hI := hd.out.2
      have HI := Lib.hid hI
      have HR := Lib.hid hR
      clear hR hI hd
      go_wp2_with (go_at_call 26; go_loud (refine (flush_any HI.out.fs (by omega)).mono ?_; rintro e w3 ⟨G3, rfl, hfs, hst3⟩; have fi3 := HI.out.turned hfs hst3; obtain ⟨vd3, vo3, z1, z2, z3, z4, z5, z6, z7, z8, z9⟩ := fi3.fs; obtain ⟨A5, k5, rfl⟩ := own_form z4; have d2 := z2.cell 0; simp at d2; have Z4 := Lib.hid z4; have Z8 := Lib.hid z8; have FI3 := Lib.hid fi3; clear hfs hst3 fi3 z1 z2 z3 z4 z5 z6 z7 z8 z9))
      go_ret
      rw [HR.out]
      exact ⟨F, A5, k5, rfl, Z4.out, FI3.out.sat, FI3.out.step, fun k hk => ⟨FI3.out.new k (Z8.out k hk), fun hF => FI3.out.dis k hF (Z8.out k hk)⟩⟩
end Mux
end Go.Proofs.Ytmmdiccpifepfaa
/- Check of package mux, and its reference's Data, Told and body. -/
namespace Go.Proofs.Ytmmdiccpifepfaa
open Go.RowKit
set_option linter.unusedVariables false
set_option linter.unusedSimpArgs false
namespace Mux
def checkR (p : Nat) : Int := if p = 4 then 3 else if p = 0 then 0 else 13
theorem check_any (w : World) (F : Nat → Prop) (g p : Nat) (op : Str) (h : SAt w F g p op) (hp : p ≤ 4) : Calls Try.prog 21 #[.pointer (some ⟨g, 0, none⟩)] w fun e w' => e = .returned (.int .i64 (checkR p)) ∧ w = w' := by
  obtain ⟨v, h1, h2, h3, h4, h5⟩ := h
  have c0 := h1.cell 0
  simp at c0
  clear h1 h2 h4 h5
  obtain rfl | rfl | rfl | rfl | rfl : p = 0 ∨ p = 1 ∨ p = 2 ∨ p = 3 ∨ p = 4 := by omega
  all_goals
    go_enter Try.func21, Try.ntmps21
    go_wp2
    go_ret
    exact ⟨rfl, rfl⟩
theorem check_nil (w : World) : Calls Try.prog 21 #[.pointer none] w fun e w' => e = .returned (.int .i64 14) ∧ w = w' := by
  go_enter Try.func21, Try.ntmps21
  go_wp2
  go_ret
  exact ⟨rfl, rfl⟩
end Mux
end Go.Proofs.Ytmmdiccpifepfaa
