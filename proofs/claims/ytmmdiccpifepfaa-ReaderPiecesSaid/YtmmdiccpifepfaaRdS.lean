/- The splitter inside a reader: what one byte does. Printed by gen_rds.py. -/
import Derived.Test.YtmmdiccpifepfaaMergedB
namespace Go.Proofs.Ytmmdiccpifepfaa
open Go.RowKit
set_option linter.unusedVariables false
set_option linter.unusedSimpArgs false
namespace Rd
open Mux (stepR infoP encP of_ne blk_ne FS flushR flush_any feedR feedR_cons stepR_ends flushR_len fs_new checkR infoB)
abbrev KV := Value × Value × Value × Value
/-- The splitter at block g, in the blocks F: where one is, and what is open. -/
def SAt (K : KV) (w : World) (F : Nat → Prop) (g : Nat) (p : Nat) (op : Str) : Prop :=
  ∃ v, Blk w g 45 #[K.1, K.2.1, K.2.2.1, K.2.2.2, .int .i64 p, v] ∧ w.ownsRow 0 5 1 v op.length (op.map encB) ∧ F g ∧ (∀ k, Of v k → F k ∧ k ≠ g) ∧ (∀ k, F k → k < w.heap.size)
section
variable {K : KV} {w w' : World} {F G : Nat → Prop} {g p : Nat} {op : Str}
theorem SAt.fr (h : SAt K w F g p op) (hf : Fr G w w') (hn : ∀ k, F k → ¬ G k) : SAt K w' F g p op := by
  obtain ⟨v, h1, h2, h3, h4, h5⟩ := h
  exact ⟨v, h1.fr hf (hn _ h3), own_fr h2 hf (fun k hk => hn k (h4 k hk).1), h3, h4, fun k hk => Nat.lt_of_lt_of_le (h5 k hk) hf.size⟩
theorem SAt.put (h : SAt K w F g p op) (p' : Nat) : SAt K (w.setCell ⟨g, 4, none⟩ (.int .i64 p')) F g p' op := by
  obtain ⟨v, h1, h2, h3, h4, h5⟩ := h
  refine ⟨v, by simpa using h1.put 4 (.int .i64 p'), own_fr h2 (Fr.setCell (F := fun k => k = g) (Fr.refl _ _) (p := ⟨g, 4, none⟩) (.inl rfl) _) (fun k hk e => (h4 k hk).2 e), h3, h4, fun k hk => by rw [size_setCell]; exact h5 k hk⟩
theorem SAt.in_ (h : SAt K w F g p op) : F g := by obtain ⟨v, h1, h2, h3, h4, h5⟩ := h; exact h3
theorem SAt.size (h : SAt K w F g p op) : ∀ k, F k → k < w.heap.size := by obtain ⟨v, h1, h2, h3, h4, h5⟩ := h; exact h5
end
def StepPost (K : KV) (w : World) (F : Nat → Prop) (g : Nat) (r : (Nat × Str) × (Str × Bool)) (e : Ending) (w' : World) : Prop :=
  ∃ F' v', e = .returned (.tuple #[v', .bool r.2.2]) ∧ RSl 1 RByte w' (fun k => New w w' k ∧ ¬ F' k) [v'] r.2.1 ∧ SAt K w' F' g r.1.1 r.1.2 ∧ Step F w F' w'
theorem lit_bytes (w : World) (S : Nat → Prop) (c : UInt8) (h : S w.heap.size) : RSl 1 RByte (w.alloc (.cells #[encB c] 5)) S [.slice (some ⟨w.heap.size, 0, none⟩) 1 1] [c] := by
  refine ⟨some ⟨w.heap.size, 0, none⟩, 1, rfl, Nat.le_refl _, by unfold maxLen; decide, fun h => (by cases h), fun i hi => ?_⟩
  have hi0 : i = 0 := by simpa using hi
  subst hi0
  refine ⟨_, [encB c], rfl, h, rfl, fun j hj => ?_, rfl⟩
  obtain rfl : j = 0 := by omega
  have := cell_lit w #[encB c] 5 0 (encB c) (by simp)
  simpa using this
theorem step_0n (K : KV) (w : World) (F : Nat → Prop) (g : Nat) (op : Str) (c : UInt8) (h : SAt K w F g 0 op) (hl : op.length ≤ 3000000) (t255 : ¬ (c = 255)) : Calls Try.prog 27 #[.pointer (some ⟨g, 4, none⟩), .int .u8 c.toNat] w (StepPost K w F g (stepR 0 op c)) := by
  rw [Mux.stepR_0n op c t255]
  have e255 : ((c.toNat : Int) == 255) = false := by
    first
      | (rw [t255]; rfl)
      | (rw [beq_eq_false_iff_ne]; intro hh; exact t255 (UInt8.toNat_inj.1 (by have : (255 : UInt8).toNat = 255 := rfl; omega)))
  have n255 : ((c.toNat : Int) != 255) = true := by rw [bne, e255]; rfl
  have H := Lib.hid h
  obtain ⟨v, h1, h2, h3, h4, h5⟩ := h
  have c0 := h1.cell 4
  have c1 := h1.cell 5
  have f0 := h1.frozen 4
  have f1 := h1.frozen 5
  simp at c0 c1
  have H1 := Lib.hid h1
  have H2 := Lib.hid h2
  have H4 := Lib.hid h4
  have H5 := Lib.hid h5
  clear h1 h2 h4 h5 t255
  go_enter Try.func27, Try.ntmps27
  go_wp2
  go_ret2
  have hs := H.out
  have hlb := lit_bytes w (fun k => New w (World.alloc w (.cells #[encB c] 5)) k ∧ ¬ F k) c ⟨⟨by first | exact Nat.le_refl _ | (simp only [size_setCell]; exact Nat.le_refl _), by rw [size_alloc]; omega⟩, fun hF => absurd (hs.size _ hF) (Nat.lt_irrefl _)⟩
  try simp only [size_setCell] at hlb
  exact ⟨F, _, rfl, hlb, hs.fr ((Fr.refl No _).alloc _) (fun _ _ h => h), ((Fr.refl F w)).alloc _, fun k hk => .inl hk⟩
theorem step_0s (K : KV) (w : World) (F : Nat → Prop) (g : Nat) (op : Str) (c : UInt8) (h : SAt K w F g 0 op) (hl : op.length ≤ 3000000) (t255 : (c = 255)) : Calls Try.prog 27 #[.pointer (some ⟨g, 4, none⟩), .int .u8 c.toNat] w (StepPost K w F g (stepR 0 op c)) := by
  rw [Mux.stepR_0s op c t255]
  have e255 : ((c.toNat : Int) == 255) = true := by
    first
      | (rw [t255]; rfl)
      | (rw [beq_eq_false_iff_ne]; intro hh; exact t255 (UInt8.toNat_inj.1 (by have : (255 : UInt8).toNat = 255 := rfl; omega)))
  have n255 : ((c.toNat : Int) != 255) = false := by rw [bne, e255]; rfl
  have H := Lib.hid h
  obtain ⟨v, h1, h2, h3, h4, h5⟩ := h
  have c0 := h1.cell 4
  have c1 := h1.cell 5
  have f0 := h1.frozen 4
  have f1 := h1.frozen 5
  simp at c0 c1
  have H1 := Lib.hid h1
  have H2 := Lib.hid h2
  have H4 := Lib.hid h4
  have H5 := Lib.hid h5
  clear h1 h2 h4 h5 t255
  go_enter Try.func27, Try.ntmps27
  go_wp2
  go_ret2
  exact ⟨F, _, rfl, bytes_none, SAt.put (H.out) 1, ((Fr.refl F w).setCell (p := ⟨g, 4, none⟩) (.inl h3) _), fun k hk => .inl hk⟩
theorem step_1s (K : KV) (w : World) (F : Nat → Prop) (g : Nat) (op : Str) (c : UInt8) (h : SAt K w F g 1 op) (hl : op.length ≤ 3000000) (t255 : (c = 255)) : Calls Try.prog 27 #[.pointer (some ⟨g, 4, none⟩), .int .u8 c.toNat] w (StepPost K w F g (stepR 1 op c)) := by
  rw [Mux.stepR_1s op c t255]
  have e255 : ((c.toNat : Int) == 255) = true := by
    first
      | (rw [t255]; rfl)
      | (rw [beq_eq_false_iff_ne]; intro hh; exact t255 (UInt8.toNat_inj.1 (by have : (255 : UInt8).toNat = 255 := rfl; omega)))
  have n255 : ((c.toNat : Int) != 255) = false := by rw [bne, e255]; rfl
  have H := Lib.hid h
  obtain ⟨v, h1, h2, h3, h4, h5⟩ := h
  have c0 := h1.cell 4
  have c1 := h1.cell 5
  have f0 := h1.frozen 4
  have f1 := h1.frozen 5
  simp at c0 c1
  have H1 := Lib.hid h1
  have H2 := Lib.hid h2
  have H4 := Lib.hid h4
  have H5 := Lib.hid h5
  clear h1 h2 h4 h5 t255
  go_enter Try.func27, Try.ntmps27
  go_wp2
  go_ret2
  have hs := SAt.put (SAt.put (H.out) 4) 0
  have hlb := lit_bytes ((w.setCell ⟨g, 4, none⟩ (.int .i64 4)).setCell ⟨g, 4, none⟩ (.int .i64 0)) (fun k => New w (World.alloc ((w.setCell ⟨g, 4, none⟩ (.int .i64 4)).setCell ⟨g, 4, none⟩ (.int .i64 0)) (.cells #[encB c] 5)) k ∧ ¬ F k) c ⟨⟨by first | exact Nat.le_refl _ | (simp only [size_setCell]; exact Nat.le_refl _), by rw [size_alloc]; omega⟩, fun hF => absurd (hs.size _ hF) (Nat.lt_irrefl _)⟩
  try simp only [size_setCell] at hlb
  exact ⟨F, _, rfl, hlb, hs.fr ((Fr.refl No _).alloc _) (fun _ _ h => h), ((((Fr.refl F w).setCell (p := ⟨g, 4, none⟩) (.inl h3) _).setCell (p := ⟨g, 4, none⟩) (.inl h3) _)).alloc _, fun k hk => .inl hk⟩
theorem step_1b (K : KV) (w : World) (F : Nat → Prop) (g : Nat) (op : Str) (c : UInt8) (h : SAt K w F g 1 op) (hl : op.length ≤ 3000000) (t255 : ¬ (c = 255)) (t1 : (c = 1)) : Calls Try.prog 27 #[.pointer (some ⟨g, 4, none⟩), .int .u8 c.toNat] w (StepPost K w F g (stepR 1 op c)) := by
  rw [Mux.stepR_1b op c t255 t1]
  have e255 : ((c.toNat : Int) == 255) = false := by
    first
      | (rw [t255]; rfl)
      | (rw [beq_eq_false_iff_ne]; intro hh; exact t255 (UInt8.toNat_inj.1 (by have : (255 : UInt8).toNat = 255 := rfl; omega)))
  have n255 : ((c.toNat : Int) != 255) = true := by rw [bne, e255]; rfl
  have e1 : ((c.toNat : Int) == 1) = true := by
    first
      | (rw [t1]; rfl)
      | (rw [beq_eq_false_iff_ne]; intro hh; exact t1 (UInt8.toNat_inj.1 (by have : (1 : UInt8).toNat = 1 := rfl; omega)))
  have n1 : ((c.toNat : Int) != 1) = false := by rw [bne, e1]; rfl
  have H := Lib.hid h
  obtain ⟨v, h1, h2, h3, h4, h5⟩ := h
  have c0 := h1.cell 4
  have c1 := h1.cell 5
  have f0 := h1.frozen 4
  have f1 := h1.frozen 5
  simp at c0 c1
  have H1 := Lib.hid h1
  have H2 := Lib.hid h2
  have H4 := Lib.hid h4
  have H5 := Lib.hid h5
  clear h1 h2 h4 h5 t255 t1
  go_enter Try.func27, Try.ntmps27
  go_wp2
  go_ret2
  exact ⟨F, _, rfl, bytes_none, SAt.put (SAt.put (H.out) 4) 2, (((Fr.refl F w).setCell (p := ⟨g, 4, none⟩) (.inl h3) _).setCell (p := ⟨g, 4, none⟩) (.inl h3) _), fun k hk => .inl hk⟩
theorem step_1n (K : KV) (w : World) (F : Nat → Prop) (g : Nat) (op : Str) (c : UInt8) (h : SAt K w F g 1 op) (hl : op.length ≤ 3000000) (t255 : ¬ (c = 255)) (t1 : ¬ (c = 1)) : Calls Try.prog 27 #[.pointer (some ⟨g, 4, none⟩), .int .u8 c.toNat] w (StepPost K w F g (stepR 1 op c)) := by
  rw [Mux.stepR_1n op c t255 t1]
  have e255 : ((c.toNat : Int) == 255) = false := by
    first
      | (rw [t255]; rfl)
      | (rw [beq_eq_false_iff_ne]; intro hh; exact t255 (UInt8.toNat_inj.1 (by have : (255 : UInt8).toNat = 255 := rfl; omega)))
  have n255 : ((c.toNat : Int) != 255) = true := by rw [bne, e255]; rfl
  have e1 : ((c.toNat : Int) == 1) = false := by
    first
      | (rw [t1]; rfl)
      | (rw [beq_eq_false_iff_ne]; intro hh; exact t1 (UInt8.toNat_inj.1 (by have : (1 : UInt8).toNat = 1 := rfl; omega)))
  have n1 : ((c.toNat : Int) != 1) = true := by rw [bne, e1]; rfl
  have H := Lib.hid h
  obtain ⟨v, h1, h2, h3, h4, h5⟩ := h
  have c0 := h1.cell 4
  have c1 := h1.cell 5
  have f0 := h1.frozen 4
  have f1 := h1.frozen 5
  simp at c0 c1
  have H1 := Lib.hid h1
  have H2 := Lib.hid h2
  have H4 := Lib.hid h4
  have H5 := Lib.hid h5
  clear h1 h2 h4 h5 t255 t1
  go_enter Try.func27, Try.ntmps27
  go_wp2
  go_ret2
  exact ⟨F, _, rfl, bytes_none, SAt.put (H.out) 4, ((Fr.refl F w).setCell (p := ⟨g, 4, none⟩) (.inl h3) _), fun k hk => .inl hk⟩
theorem step_3e (K : KV) (w : World) (F : Nat → Prop) (g : Nat) (op : Str) (c : UInt8) (h : SAt K w F g 3 op) (hl : op.length ≤ 3000000) (t2 : (c = 2)) : Calls Try.prog 27 #[.pointer (some ⟨g, 4, none⟩), .int .u8 c.toNat] w (StepPost K w F g (stepR 3 op c)) := by
  rw [Mux.stepR_3e op c t2]
  have e2 : ((c.toNat : Int) == 2) = true := by
    first
      | (rw [t2]; rfl)
      | (rw [beq_eq_false_iff_ne]; intro hh; exact t2 (UInt8.toNat_inj.1 (by have : (2 : UInt8).toNat = 2 := rfl; omega)))
  have n2 : ((c.toNat : Int) != 2) = false := by rw [bne, e2]; rfl
  have H := Lib.hid h
  obtain ⟨v, h1, h2, h3, h4, h5⟩ := h
  have c0 := h1.cell 4
  have c1 := h1.cell 5
  have f0 := h1.frozen 4
  have f1 := h1.frozen 5
  simp at c0 c1
  have H1 := Lib.hid h1
  have H2 := Lib.hid h2
  have H4 := Lib.hid h4
  have H5 := Lib.hid h5
  clear h1 h2 h4 h5 t2
  go_enter Try.func27, Try.ntmps27
  go_wp2
  go_ret2
  exact ⟨F, _, rfl, bytes_none, SAt.put (SAt.put (H.out) 4) 0, (((Fr.refl F w).setCell (p := ⟨g, 4, none⟩) (.inl h3) _).setCell (p := ⟨g, 4, none⟩) (.inl h3) _), fun k hk => .inl hk⟩
theorem step_3s (K : KV) (w : World) (F : Nat → Prop) (g : Nat) (op : Str) (c : UInt8) (h : SAt K w F g 3 op) (hl : op.length ≤ 3000000) (t2 : ¬ (c = 2)) (t255 : (c = 255)) : Calls Try.prog 27 #[.pointer (some ⟨g, 4, none⟩), .int .u8 c.toNat] w (StepPost K w F g (stepR 3 op c)) := by
  rw [Mux.stepR_3s op c t2 t255]
  have e2 : ((c.toNat : Int) == 2) = false := by
    first
      | (rw [t2]; rfl)
      | (rw [beq_eq_false_iff_ne]; intro hh; exact t2 (UInt8.toNat_inj.1 (by have : (2 : UInt8).toNat = 2 := rfl; omega)))
  have n2 : ((c.toNat : Int) != 2) = true := by rw [bne, e2]; rfl
  have e255 : ((c.toNat : Int) == 255) = true := by
    first
      | (rw [t255]; rfl)
      | (rw [beq_eq_false_iff_ne]; intro hh; exact t255 (UInt8.toNat_inj.1 (by have : (255 : UInt8).toNat = 255 := rfl; omega)))
  have n255 : ((c.toNat : Int) != 255) = false := by rw [bne, e255]; rfl
  have H := Lib.hid h
  obtain ⟨v, h1, h2, h3, h4, h5⟩ := h
  have c0 := h1.cell 4
  have c1 := h1.cell 5
  have f0 := h1.frozen 4
  have f1 := h1.frozen 5
  simp at c0 c1
  obtain ⟨A1, k1, hu⟩ := own_form h2
  subst hu
  have H1 := Lib.hid h1
  have H2 := Lib.hid h2
  have H4 := Lib.hid h4
  have H5 := Lib.hid h5
  clear h1 h2 h4 h5 t2 t255
  go_enter Try.func27, Try.ntmps27
  obtain ⟨Wp, hWp⟩ : ∃ Wp : World, Wp = ((w.setCell ⟨g, 4, none⟩ (.int .i64 4)).setCell ⟨g, 4, none⟩ (.int .i64 2)) := ⟨_, rfl⟩
  have hs : SAt K ((w.setCell ⟨g, 4, none⟩ (.int .i64 4)).setCell ⟨g, 4, none⟩ (.int .i64 2)) F g 2 op := SAt.put (SAt.put (H.out) 4) 2
  have hb : Blk ((w.setCell ⟨g, 4, none⟩ (.int .i64 4)).setCell ⟨g, 4, none⟩ (.int .i64 2)) g 45 #[K.1, K.2.1, K.2.2.1, K.2.2.2, .int .i64 2, .slice A1 op.length k1] := by simpa using ((H1.out.put 4 (.int .i64 4)).put 4 (.int .i64 2))
  have ho : World.ownsRow ((w.setCell ⟨g, 4, none⟩ (.int .i64 4)).setCell ⟨g, 4, none⟩ (.int .i64 2)) 0 5 1 (.slice A1 op.length k1) op.length (op.map encB) := own_fr H2.out (((Fr.refl (fun k => k = g) w).setCell (p := ⟨g, 4, none⟩) (.inl rfl) _).setCell (p := ⟨g, 4, none⟩) (.inl rfl) _) (fun k hk e => (H4.out k hk).2 e)
  have hfr : Fr F w ((w.setCell ⟨g, 4, none⟩ (.int .i64 4)).setCell ⟨g, 4, none⟩ (.int .i64 2)) := (((Fr.refl F w).setCell (p := ⟨g, 4, none⟩) (.inl h3) _).setCell (p := ⟨g, 4, none⟩) (.inl h3) _)
  have Hs := Lib.hid hs
  have Hb := Lib.hid hb
  have Ho := Lib.hid ho
  have Hfr := Lib.hid hfr
  clear hs hb ho hfr hWp
  go_wp2_with (at_builtin; go_loud (refine wp_push rfl (.tmp 56) (.tmp 58) 37 rfl 5 (.int .u8 0) 1 1 Try.underlying37 infoB rfl (by decide) _ _ _ rfl Ho.out #[.int .u8 c.toNat] (by (try simp only [size_setCell]); rfl) rfl (one_lit rfl) (by omega) (by unfold maxLen; omega) ?_; intro g2 cap2 w2 h1 h2 h3; have hg1 : Fr (Of (.slice A1 op.length k1)) ((w.setCell ⟨g, 4, none⟩ (.int .i64 4)).setCell ⟨g, 4, none⟩ (.int .i64 2)) w2 := h2; have hb2 := Hb.out.fr hg1 (fun e => (H4.out g e).2 rfl); have d1 := hb2.cell 5; have e1 := hb2.frozen 5; simp at d1; have P2 := Lib.hid h1; have F2 := Lib.hid hg1; have L2 := Lib.hid h3; have Hb2 := Lib.hid hb2; clear h1 h2 h3 hg1 hb2))
  go_ret2
  have hlt2 : g2 < w2.heap.size := (P2.out.lt g2 rfl).2
  have hg2 : F g2 ∨ New w w2 g2 := by
    rcases L2.out with h | h
    · exact .inl (H4.out g2 h).1
    · exact .inr ⟨Nat.le_trans Hfr.out.size h.1, h.2⟩
  have hgg : g2 ≠ g := by
    rcases L2.out with h | h
    · exact (H4.out g2 h).2
    · have := Hs.out.size g h3; have := h.1; omega
  refine ⟨fun k => F k ∨ k = g2, _, rfl, bytes_none, ⟨.slice (some ⟨g2, 0, none⟩) (op.length + 1) cap2, by simpa using Hb2.out.put 5 (.slice (some ⟨g2, 0, none⟩) (op.length + 1) cap2), ?_, .inl h3, ?_, ?_⟩, ?_, ?_⟩
  · have := own_fr P2.out (Fr.setCell (F := fun k => k = g) (Fr.refl _ w2) (p := ⟨g, 5, none⟩) (.inl rfl) (.slice (some ⟨g2, 0, none⟩) (op.length + 1) cap2)) (fun k hk => by
      have hk' : some g2 = some k := hk
      injection hk' with hk'
      subst hk'
      exact hgg)
    simpa [encB] using this
  · intro k hk
    have hk' : some g2 = some k := hk
    injection hk' with hk'
    subst hk'
    exact ⟨.inr rfl, hgg⟩
  · intro k hk
    rw [size_setCell]
    rcases hk with hk | rfl
    · exact Nat.lt_of_lt_of_le (H5.out k hk) (Nat.le_trans Hfr.out.size F2.out.size)
    · exact hlt2
  · exact (Hfr.out.trans (F' := F) (F2.out.mono fun k hk _ => (H4.out k hk).1) (fun _ h _ => h)).setCell (p := ⟨g, 5, none⟩) (.inl h3) _
  · intro k hk
    rcases hk with hk | rfl
    · exact .inl hk
    · rcases hg2 with h | h
      · exact .inl h
      · exact .inr ⟨h.1, by rw [size_setCell]; exact h.2⟩
theorem step_3n (K : KV) (w : World) (F : Nat → Prop) (g : Nat) (op : Str) (c : UInt8) (h : SAt K w F g 3 op) (hl : op.length ≤ 3000000) (t2 : ¬ (c = 2)) (t255 : ¬ (c = 255)) : Calls Try.prog 27 #[.pointer (some ⟨g, 4, none⟩), .int .u8 c.toNat] w (StepPost K w F g (stepR 3 op c)) := by
  rw [Mux.stepR_3n op c t2 t255]
  have e2 : ((c.toNat : Int) == 2) = false := by
    first
      | (rw [t2]; rfl)
      | (rw [beq_eq_false_iff_ne]; intro hh; exact t2 (UInt8.toNat_inj.1 (by have : (2 : UInt8).toNat = 2 := rfl; omega)))
  have n2 : ((c.toNat : Int) != 2) = true := by rw [bne, e2]; rfl
  have e255 : ((c.toNat : Int) == 255) = false := by
    first
      | (rw [t255]; rfl)
      | (rw [beq_eq_false_iff_ne]; intro hh; exact t255 (UInt8.toNat_inj.1 (by have : (255 : UInt8).toNat = 255 := rfl; omega)))
  have n255 : ((c.toNat : Int) != 255) = true := by rw [bne, e255]; rfl
  have H := Lib.hid h
  obtain ⟨v, h1, h2, h3, h4, h5⟩ := h
  have c0 := h1.cell 4
  have c1 := h1.cell 5
  have f0 := h1.frozen 4
  have f1 := h1.frozen 5
  simp at c0 c1
  have H1 := Lib.hid h1
  have H2 := Lib.hid h2
  have H4 := Lib.hid h4
  have H5 := Lib.hid h5
  clear h1 h2 h4 h5 t2 t255
  go_enter Try.func27, Try.ntmps27
  go_wp2
  go_ret2
  exact ⟨F, _, rfl, bytes_none, SAt.put (H.out) 4, ((Fr.refl F w).setCell (p := ⟨g, 4, none⟩) (.inl h3) _), fun k hk => .inl hk⟩
theorem step_2s (K : KV) (w : World) (F : Nat → Prop) (g : Nat) (op : Str) (c : UInt8) (h : SAt K w F g 2 op) (hl : op.length ≤ 3000000) (t255 : (c = 255)) : Calls Try.prog 27 #[.pointer (some ⟨g, 4, none⟩), .int .u8 c.toNat] w (StepPost K w F g (stepR 2 op c)) := by
  rw [Mux.stepR_2s op c t255]
  have e255 : ((c.toNat : Int) == 255) = true := by
    first
      | (rw [t255]; rfl)
      | (rw [beq_eq_false_iff_ne]; intro hh; exact t255 (UInt8.toNat_inj.1 (by have : (255 : UInt8).toNat = 255 := rfl; omega)))
  have n255 : ((c.toNat : Int) != 255) = false := by rw [bne, e255]; rfl
  have H := Lib.hid h
  obtain ⟨v, h1, h2, h3, h4, h5⟩ := h
  have c0 := h1.cell 4
  have c1 := h1.cell 5
  have f0 := h1.frozen 4
  have f1 := h1.frozen 5
  simp at c0 c1
  have H1 := Lib.hid h1
  have H2 := Lib.hid h2
  have H4 := Lib.hid h4
  have H5 := Lib.hid h5
  clear h1 h2 h4 h5 t255
  go_enter Try.func27, Try.ntmps27
  go_wp2
  go_ret2
  exact ⟨F, _, rfl, bytes_none, SAt.put (H.out) 3, ((Fr.refl F w).setCell (p := ⟨g, 4, none⟩) (.inl h3) _), fun k hk => .inl hk⟩
theorem step_2n (K : KV) (w : World) (F : Nat → Prop) (g : Nat) (op : Str) (c : UInt8) (h : SAt K w F g 2 op) (hl : op.length ≤ 3000000) (t255 : ¬ (c = 255)) : Calls Try.prog 27 #[.pointer (some ⟨g, 4, none⟩), .int .u8 c.toNat] w (StepPost K w F g (stepR 2 op c)) := by
  rw [Mux.stepR_2n op c t255]
  have e255 : ((c.toNat : Int) == 255) = false := by
    first
      | (rw [t255]; rfl)
      | (rw [beq_eq_false_iff_ne]; intro hh; exact t255 (UInt8.toNat_inj.1 (by have : (255 : UInt8).toNat = 255 := rfl; omega)))
  have n255 : ((c.toNat : Int) != 255) = true := by rw [bne, e255]; rfl
  have H := Lib.hid h
  obtain ⟨v, h1, h2, h3, h4, h5⟩ := h
  have c0 := h1.cell 4
  have c1 := h1.cell 5
  have f0 := h1.frozen 4
  have f1 := h1.frozen 5
  simp at c0 c1
  obtain ⟨A1, k1, hu⟩ := own_form h2
  subst hu
  have H1 := Lib.hid h1
  have H2 := Lib.hid h2
  have H4 := Lib.hid h4
  have H5 := Lib.hid h5
  clear h1 h2 h4 h5 t255
  go_enter Try.func27, Try.ntmps27
  obtain ⟨Wp, hWp⟩ : ∃ Wp : World, Wp = w := ⟨_, rfl⟩
  have hs : SAt K w F g 2 op := H.out
  have hb : Blk w g 45 #[K.1, K.2.1, K.2.2.1, K.2.2.2, .int .i64 2, .slice A1 op.length k1] := by exact H1.out
  have ho : World.ownsRow w 0 5 1 (.slice A1 op.length k1) op.length (op.map encB) := own_fr H2.out ((Fr.refl (fun k => k = g) w)) (fun k hk e => (H4.out k hk).2 e)
  have hfr : Fr F w w := (Fr.refl F w)
  have Hs := Lib.hid hs
  have Hb := Lib.hid hb
  have Ho := Lib.hid ho
  have Hfr := Lib.hid hfr
  clear hs hb ho hfr hWp
  go_wp2_with (at_builtin; go_loud (refine wp_push rfl (.tmp 73) (.tmp 75) 37 rfl 5 (.int .u8 0) 1 1 Try.underlying37 infoB rfl (by decide) _ _ _ rfl Ho.out #[.int .u8 c.toNat] (by (try simp only [size_setCell]); rfl) rfl (one_lit rfl) (by omega) (by unfold maxLen; omega) ?_; intro g2 cap2 w2 h1 h2 h3; have hg1 : Fr (Of (.slice A1 op.length k1)) w w2 := h2; have hb2 := Hb.out.fr hg1 (fun e => (H4.out g e).2 rfl); have d1 := hb2.cell 5; have e1 := hb2.frozen 5; simp at d1; have P2 := Lib.hid h1; have F2 := Lib.hid hg1; have L2 := Lib.hid h3; have Hb2 := Lib.hid hb2; clear h1 h2 h3 hg1 hb2))
  go_ret2
  have hlt2 : g2 < w2.heap.size := (P2.out.lt g2 rfl).2
  have hg2 : F g2 ∨ New w w2 g2 := by
    rcases L2.out with h | h
    · exact .inl (H4.out g2 h).1
    · exact .inr ⟨Nat.le_trans Hfr.out.size h.1, h.2⟩
  have hgg : g2 ≠ g := by
    rcases L2.out with h | h
    · exact (H4.out g2 h).2
    · have := Hs.out.size g h3; have := h.1; omega
  refine ⟨fun k => F k ∨ k = g2, _, rfl, bytes_none, ⟨.slice (some ⟨g2, 0, none⟩) (op.length + 1) cap2, by simpa using Hb2.out.put 5 (.slice (some ⟨g2, 0, none⟩) (op.length + 1) cap2), ?_, .inl h3, ?_, ?_⟩, ?_, ?_⟩
  · have := own_fr P2.out (Fr.setCell (F := fun k => k = g) (Fr.refl _ w2) (p := ⟨g, 5, none⟩) (.inl rfl) (.slice (some ⟨g2, 0, none⟩) (op.length + 1) cap2)) (fun k hk => by
      have hk' : some g2 = some k := hk
      injection hk' with hk'
      subst hk'
      exact hgg)
    simpa [encB] using this
  · intro k hk
    have hk' : some g2 = some k := hk
    injection hk' with hk'
    subst hk'
    exact ⟨.inr rfl, hgg⟩
  · intro k hk
    rw [size_setCell]
    rcases hk with hk | rfl
    · exact Nat.lt_of_lt_of_le (H5.out k hk) (Nat.le_trans Hfr.out.size F2.out.size)
    · exact hlt2
  · exact (Hfr.out.trans (F' := F) (F2.out.mono fun k hk _ => (H4.out k hk).1) (fun _ h _ => h)).setCell (p := ⟨g, 5, none⟩) (.inl h3) _
  · intro k hk
    rcases hk with hk | rfl
    · exact .inl hk
    · rcases hg2 with h | h
      · exact .inl h
      · exact .inr ⟨h.1, by rw [size_setCell]; exact h.2⟩
theorem step_4 (K : KV) (w : World) (F : Nat → Prop) (g : Nat) (op : Str) (c : UInt8) (h : SAt K w F g 4 op) (hl : op.length ≤ 3000000)  : Calls Try.prog 27 #[.pointer (some ⟨g, 4, none⟩), .int .u8 c.toNat] w (StepPost K w F g (stepR 4 op c)) := by
  rw [Mux.stepR_4 op c ]
  have H := Lib.hid h
  obtain ⟨v, h1, h2, h3, h4, h5⟩ := h
  have c0 := h1.cell 4
  have c1 := h1.cell 5
  have f0 := h1.frozen 4
  have f1 := h1.frozen 5
  simp at c0 c1
  have H1 := Lib.hid h1
  have H2 := Lib.hid h2
  have H4 := Lib.hid h4
  have H5 := Lib.hid h5
  clear h1 h2 h4 h5 
  go_enter Try.func27, Try.ntmps27
  go_wp2
  go_ret2
  exact ⟨F, _, rfl, bytes_none, H.out, (Fr.refl F w), fun k hk => .inl hk⟩
theorem step_any (K : KV) (w : World) (F : Nat → Prop) (g p : Nat) (op : Str) (c : UInt8) (h : SAt K w F g p op) (hp : p ≤ 4) (hl : op.length ≤ 3000000) : Calls Try.prog 27 #[.pointer (some ⟨g, 4, none⟩), .int .u8 c.toNat] w (StepPost K w F g (stepR p op c)) := by
  obtain rfl | rfl | rfl | rfl | rfl : p = 0 ∨ p = 1 ∨ p = 2 ∨ p = 3 ∨ p = 4 := by omega
  · by_cases h1 : c = 255
    · exact step_0s K w F g op c h hl h1
    · exact step_0n K w F g op c h hl h1
  · by_cases h1 : c = 255
    · exact step_1s K w F g op c h hl h1
    · by_cases h2 : c = 1
      · exact step_1b K w F g op c h hl h1 h2
      · exact step_1n K w F g op c h hl h1 h2
  · by_cases h1 : c = 255
    · exact step_2s K w F g op c h hl h1
    · exact step_2n K w F g op c h hl h1
  · by_cases h1 : c = 2
    · exact step_3e K w F g op c h hl h1
    · by_cases h2 : c = 255
      · exact step_3s K w F g op c h hl h1 h2
      · exact step_3n K w F g op c h hl h1 h2
  · exact step_4 K w F g op c h hl
end Rd
end Go.Proofs.Ytmmdiccpifepfaa
