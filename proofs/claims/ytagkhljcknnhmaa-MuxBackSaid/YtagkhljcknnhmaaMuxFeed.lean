/- The splitter of package mux: flush, and a text that is fed. -/
import Derived.Test.YtagkhljcknnhmaaMuxStep
namespace Go.Proofs.Ytagkhljcknnhmaa
open Go.RowKit
set_option linter.unusedVariables false
set_option linter.unusedSimpArgs false
namespace Mux
theorem infoP : (Try.prog.info? 74).map (fun i => (i.zero, i.size, i.bytes)) = some (some (.agg #[.string ByteArray.empty, .bool false]), 2, 24) := by kernel_rfl
def encP (x : Str × Bool) : List Value := [.string ⟨x.1.toArray⟩, .bool x.2]
theorem of_ne {w : World} {base : Nat} {e t : TypeId} {size n g : Nat} {v : Value} {xs : List Value} {cs : Array Value} (h : w.ownsRow base e size v n xs) (hg : Blk w g t cs) (hne : e ≠ t) : ¬ Of v g := by
  intro ho
  rcases h.2 with ⟨rfl, _⟩ | ⟨g', cap, cur, rfl, _, hh, _⟩
  · cases ho
  · have ho' : some g' = some g := ho
    injection ho' with ho'
    subst ho'
    unfold Blk at hg
    rw [hh] at hg
    injection hg with hg
    injection hg with _ hg
    exact hne hg
theorem blk_ne {w : World} {g g' : Nat} {t t' : TypeId} {cs cs' : Array Value} (h : Blk w g t cs) (h' : Blk w g' t' cs') (hne : t ≠ t') : g ≠ g' := by
  rintro rfl
  unfold Blk at h h'
  rw [h] at h'
  injection h' with h'
  injection h' with _ h'
  exact hne h'
/-- The two variables that flush shares: bytes that were told, and parts. -/
def FS (w : World) (G : Nat → Prop) (bd bo : Nat) (data : Str) (out : List (Str × Bool)) : Prop :=
  ∃ vd vo, Blk w bd 40 #[vd] ∧ Blk w bo 53 #[vo] ∧ w.ownsRow 0 5 1 vd data.length (data.map encB) ∧ w.ownsRow 0 74 2 vo out.length (out.flatMap encP) ∧
    G bd ∧ G bo ∧ (∀ k, Of vd k → G k) ∧ (∀ k, Of vo k → G k) ∧ (∀ k, G k → k < w.heap.size)
theorem FS.fr {w w' : World} {F G : Nat → Prop} {bd bo : Nat} {data : Str} {out : List (Str × Bool)} (h : FS w G bd bo data out) (hf : Fr F w w') (hn : ∀ k, G k → ¬ F k) : FS w' G bd bo data out := by
  obtain ⟨vd, vo, h1, h2, h3, h4, h5, h6, h7, h8, h9⟩ := h
  exact ⟨vd, vo, h1.fr hf (hn _ h5), h2.fr hf (hn _ h6), own_fr h3 hf (fun k hk => hn k (h7 k hk)), own_fr h4 hf (fun k hk => hn k (h8 k hk)), h5, h6, h7, h8, fun k hk => Nat.lt_of_lt_of_le (h9 k hk) hf.size⟩
def flushR (data : Str) (out : List (Str × Bool)) : List (Str × Bool) := if data = [] then out else out ++ [(data, false)]
set_option maxHeartbeats 800000 in
theorem flush_any {w : World} {G : Nat → Prop} {bd bo : Nat} {data : Str} {out : List (Str × Bool)} (h : FS w G bd bo data out) (hl : out.length ≤ 10000000) :
    Calls Try.prog 36 #[.pointer (some ⟨bd, 0, none⟩), .pointer (some ⟨bo, 0, none⟩)] w fun e w' => ∃ G', e = .returned (.tuple #[]) ∧ FS w' G' bd bo [] (flushR data out) ∧ Step G w G' w' := by
  have H := Lib.hid h
  obtain ⟨vd, vo, h1, h2, h3, h4, h5, h6, h7, h8, h9⟩ := h
  obtain ⟨A1, k1, hu⟩ := own_form h3
  subst hu
  obtain ⟨A2, k2, hu⟩ := own_form h4
  subst hu
  have c1 := h1.cell 0
  have c2 := h2.cell 0
  have f1 := h1.frozen 0
  have f2 := h2.frozen 0
  simp at c1 c2
  by_cases hd : data = []
  · subst hd
    clear h1 h2 h3 h4
    go_enter Try.func36, Try.ntmps36
    go_wp2
    go_end0
    exact ⟨G, rfl, H.out, Step.refl _ _⟩
  · have hr := Lib.hid (show flushR data out = out ++ [(data, false)] by simp [flushR, hd])
    have hpos : 0 < data.length := List.length_pos_iff.2 hd
    have hcv := conv_bytes (P := Try.prog) 40 9 5 Try.underlying40 Try.underlying5 Try.underlying9 (own_bytes h3)
    have e12 := blk_ne h1 h2 (by decide)
    have e14 := of_ne h4 h1 (by decide)
    have e24 := of_ne h4 h2 (by decide)
    have H1 := Lib.hid h1; have H2 := Lib.hid h2; have H3 := Lib.hid h3; have H4 := Lib.hid h4
    have H7 := Lib.hid h7; have H8 := Lib.hid h8; have H9 := Lib.hid h9
    clear h1 h2 h3 h4 h7 h8 h9 hd
    go_enter Try.func36, Try.ntmps36
    go_wp2_with (at_builtin; go_loud (refine wp_push rfl (.tmp 5) (.tmp 9) 53 rfl 74 (.agg #[.string ByteArray.empty, .bool false]) 2 24 Try.underlying53 infoP rfl (by decide) _ _ _ rfl H4.out #[.string ⟨data.toArray⟩, .bool false] rfl rfl (by intro u hu; simp at hu; rcases hu with rfl | rfl <;> rfl) (by omega) (by unfold maxLen; omega) ?_; intro g2 cap2 w2 p1 p2 p3; have hg1 : Fr (Of (.slice A2 out.length k2)) w w2 := p2; have b1 := H1.out.fr hg1 e14; have b2 := H2.out.fr hg1 e24; have d1 := b1.cell 0; have d2 := b2.cell 0; have d3 := b1.frozen 0; have d4 := b2.frozen 0; simp at d1 d2; have P2 := Lib.hid p1; have F2 := Lib.hid hg1; have L2 := Lib.hid p3; have B1 := Lib.hid b1; have B2 := Lib.hid b2; clear p1 p2 p3 hg1 b1 b2))
    go_end0
    have n1 := of_ne P2.out B1.out (by decide)
    have n2 := of_ne P2.out B2.out (by decide)
    have hlt2 : g2 < w2.heap.size := (P2.out.lt g2 rfl).2
    have hset : Fr (fun k => k = bo ∨ k = bd) w2 ((w2.setCell ⟨bo, 0, none⟩ (.slice (some ⟨g2, 0, none⟩) (out.length + 1) cap2)).setCell ⟨bd, 0, none⟩ (.slice none 0 0)) :=
      ((Fr.refl (fun k => k = bo ∨ k = bd) w2).setCell (p := ⟨bo, 0, none⟩) (.inl (.inl rfl)) _).setCell (p := ⟨bd, 0, none⟩) (.inl (.inr rfl)) _
    have hg2 : G g2 ∨ New w w2 g2 := L2.out.elim (fun h => .inl (H8.out g2 h)) .inr
    refine ⟨rfl, fun k => G k ∨ k = g2, ?_, ?_⟩
    · rw [hr.out]
      refine ⟨.slice none 0 0, .slice (some ⟨g2, 0, none⟩) (out.length + 1) cap2, ?_, ?_, World.ownsRow_nil _ _ _ _, ?_, .inl h5, .inl h6, (fun k hk => by cases hk), fun k hk => ?_, fun k hk => ?_⟩
      · simpa using (B1.out.far (p := ⟨bo, 0, none⟩) e12 _).put 0 (.slice none 0 0)
      · exact Blk.far (by simpa using B2.out.put 0 (.slice (some ⟨g2, 0, none⟩) (out.length + 1) cap2)) (p := ⟨bd, 0, none⟩) (Ne.symm e12) _
      · have := own_fr P2.out hset (fun k hk e => by
          rcases e with rfl | rfl
          · exact n2 hk
          · exact n1 hk)
        simpa [encP] using this
      · have hk' : some g2 = some k := hk
        injection hk' with hk'
        exact .inr hk'.symm
      · rw [size_setCell, size_setCell]
        rcases hk with hk | rfl
        · exact Nat.lt_of_lt_of_le (H9.out k hk) F2.out.size
        · exact hlt2
    · refine ⟨((F2.out.mono fun k hk _ => H8.out k hk).setCell (p := ⟨bo, 0, none⟩) (.inl h6) _).setCell (p := ⟨bd, 0, none⟩) (.inl h5) _, fun k hk => ?_⟩
      rcases hk with hk | rfl
      · exact .inl hk
      · rcases hg2 with h | h
        · exact .inl h
        · exact .inr ⟨h.1, by rw [size_setCell, size_setCell]; exact h.2⟩
/-- The splitter's round: where one is, what is open, what was told, the parts. -/
def feedR : Nat → Str → Str → List (Str × Bool) → Str → (Nat × Str) × (Str × List (Str × Bool))
  | p, op, data, out, [] => ((p, op), (data, out))
  | p, op, data, out, c :: s =>
    if (stepR p op c).2.2 = true then feedR (stepR p op c).1.1 [] [] (flushR (data ++ (stepR p op c).2.1) out ++ [((stepR p op c).1.2, true)]) s
    else feedR (stepR p op c).1.1 (stepR p op c).1.2 (data ++ (stepR p op c).2.1) out s
theorem stepR_ends (p : Nat) (op : Str) (c : UInt8) (hp : p ≤ 4) : (stepR p op c).1.1 ≤ 4 ∧ (stepR p op c).1.2.length ≤ op.length + 1 ∧ (stepR p op c).2.1.length ≤ 1 := by
  unfold stepR
  repeat' split
  all_goals simp
  all_goals omega
theorem flushR_len (data : Str) (out : List (Str × Bool)) : (flushR data out).length ≤ out.length + 1 := by
  unfold flushR; split <;> simp
structure FI (w0 : World) (F0 : Nat → Prop) (w : World) (F G : Nat → Prop) (g bd bo p : Nat) (op data : Str) (out : List (Str × Bool)) : Prop where
  sat : SAt w F g p op
  fs : FS w G bd bo data out
  step : Step F0 w0 F w
  new : ∀ k, G k → New w0 w k
  dis : ∀ k, F k → ¬ G k
section
variable {w0 w w1 : World} {F0 F F1 G G1 : Nat → Prop} {g bd bo p p1 : Nat} {op op1 data data1 : Str} {out out1 : List (Str × Bool)}
theorem FS.size (h : FS w G bd bo data out) : ∀ k, G k → k < w.heap.size := by
  obtain ⟨vd, vo, h1, h2, h3, h4, h5, h6, h7, h8, h9⟩ := h
  exact h9
theorem FI.stepped (h : FI w0 F0 w F G g bd bo p op data out) (hs : SAt w1 F1 g p1 op1) (st : Step F w F1 w1) : FI w0 F0 w1 F1 G g bd bo p1 op1 data out :=
  ⟨hs, h.fs.fr st.1 (fun k hk hF => h.dis k hF hk), h.step.trans st, fun k hk => ⟨(h.new k hk).1, Nat.lt_of_lt_of_le (h.new k hk).2 st.1.size⟩, fun k hk hg => by
    rcases st.2 k hk with h1 | h1
    · exact h.dis k h1 hg
    · have := h.fs.size k hg; have := h1.1; omega⟩
theorem FI.turned (h : FI w0 F0 w F G g bd bo p op data out) (hs : FS w1 G1 bd bo data1 out1) (st : Step G w G1 w1) : FI w0 F0 w1 F G1 g bd bo p op data1 out1 :=
  ⟨h.sat.fr st.1 h.dis, hs, ⟨h.step.1.trans st.1 (fun k hk hl => absurd (h.new k hk).1 (by omega)), fun k hk => (h.step.2 k hk).elim .inl fun h1 => .inr ⟨h1.1, Nat.lt_of_lt_of_le h1.2 st.1.size⟩⟩,
   fun k hk => by
    rcases st.2 k hk with h1 | h1
    · exact ⟨(h.new k h1).1, Nat.lt_of_lt_of_le (h.new k h1).2 st.1.size⟩
    · exact ⟨Nat.le_trans h.step.1.size h1.1, h1.2⟩,
   fun k hk hg => by
    rcases st.2 k hg with h1 | h1
    · exact h.dis k hk h1
    · have := h.sat.size k hk; have := h1.1; omega⟩
theorem FI.quiet (h : FI w0 F0 w F G g bd bo p op data out) (hf : Fr No w w1) : FI w0 F0 w1 F G g bd bo p op data out :=
  h.stepped (h.sat.fr hf (fun _ _ h => h)) (Step.no hf)
/-- The bytes' variable is written anew. -/
theorem FS.setData {vd v1 : Value} {m : Str} (h : FS w G bd bo data out) (hvd : Blk w bd 40 #[vd]) (ho : w1.ownsRow 0 5 1 v1 m.length (m.map encB)) (hf : Fr (Of vd) w w1) (hn : ∀ g, Of v1 g → Of vd g ∨ New w w1 g) :
    FS (w1.setCell ⟨bd, 0, none⟩ v1) (fun k => G k ∨ Of v1 k) bd bo m out ∧ Step G w (fun k => G k ∨ Of v1 k) (w1.setCell ⟨bd, 0, none⟩ v1) := by
  obtain ⟨vd', vo, h1, h2, h3, h4, h5, h6, h7, h8, h9⟩ := h
  obtain rfl : vd' = vd := by
    have e := h1.cell 0
    rw [hvd.cell 0] at e
    simpa using e.symm
  have e1 := of_ne h3 h1 (by decide)
  have e2 := of_ne h3 h2 (by decide)
  have e3 := blk_ne h1 h2 (by decide)
  have b1 := h1.fr hf e1
  have b2 := h2.fr hf e2
  have hdis : ∀ k, Of vo k → ¬ Of vd' k := fun k ho hd => by
    rcases h3.2 with ⟨rfl, _⟩ | ⟨g', cap, cur, rfl, _, hh, _⟩
    · cases hd
    · have hd' : some g' = some k := hd
      injection hd' with hd'
      subst hd'
      exact of_ne h4 hh (by decide) ho
  have o4 := own_fr h4 hf hdis
  have hset : Fr (fun k => k = bd) w1 (w1.setCell ⟨bd, 0, none⟩ v1) := Fr.setCell (F := fun k => k = bd) (Fr.refl _ _) (p := ⟨bd, 0, none⟩) (.inl rfl) _
  refine ⟨⟨v1, vo, by simpa using b1.put 0 v1, Blk.far b2 (p := ⟨bd, 0, none⟩) (Ne.symm e3) _, own_fr ho hset (fun k hk e => ?_), own_fr o4 hset (fun k hk e => ?_), .inl h5, .inl h6, fun k hk => .inr hk, fun k hk => .inl (h8 k hk), fun k hk => ?_⟩, (hf.mono fun k hk _ => h7 k hk).setCell (p := ⟨bd, 0, none⟩) (.inl h5) _, fun k hk => ?_⟩
  · subst e; exact of_ne ho b1 (by decide) hk
  · subst e; exact of_ne o4 b1 (by decide) hk
  · rw [size_setCell]
    rcases hk with hk | hk
    · exact Nat.lt_of_lt_of_le (h9 k hk) hf.size
    · exact (ho.lt k hk).2
  · rcases hk with hk | hk
    · exact .inl hk
    · rcases hn k hk with h1 | h1
      · exact .inl (h7 k h1)
      · exact .inr ⟨h1.1, by rw [size_setCell]; exact h1.2⟩
/-- The parts' variable is written anew. -/
theorem FS.setOut {vo v1 : Value} {m : List (Str × Bool)} (h : FS w G bd bo data out) (hvo : Blk w bo 53 #[vo]) (ho : w1.ownsRow 0 74 2 v1 m.length (m.flatMap encP)) (hf : Fr (Of vo) w w1) (hn : ∀ g, Of v1 g → Of vo g ∨ New w w1 g) :
    FS (w1.setCell ⟨bo, 0, none⟩ v1) (fun k => G k ∨ Of v1 k) bd bo data m ∧ Step G w (fun k => G k ∨ Of v1 k) (w1.setCell ⟨bo, 0, none⟩ v1) := by
  obtain ⟨vd, vo', h1, h2, h3, h4, h5, h6, h7, h8, h9⟩ := h
  obtain rfl : vo' = vo := by
    have e := h2.cell 0
    rw [hvo.cell 0] at e
    simpa using e.symm
  have e1 := of_ne h4 h1 (by decide)
  have e2 := of_ne h4 h2 (by decide)
  have e3 := blk_ne h1 h2 (by decide)
  have b1 := h1.fr hf e1
  have b2 := h2.fr hf e2
  have hdis : ∀ k, Of vd k → ¬ Of vo' k := fun k hd ho => by
    rcases h3.2 with ⟨rfl, _⟩ | ⟨g', cap, cur, rfl, _, hh, _⟩
    · cases hd
    · have hd' : some g' = some k := hd
      injection hd' with hd'
      subst hd'
      exact of_ne h4 hh (by decide) ho
  have o3 := own_fr h3 hf hdis
  have hset : Fr (fun k => k = bo) w1 (w1.setCell ⟨bo, 0, none⟩ v1) := Fr.setCell (F := fun k => k = bo) (Fr.refl _ _) (p := ⟨bo, 0, none⟩) (.inl rfl) _
  refine ⟨⟨vd, v1, Blk.far b1 (p := ⟨bo, 0, none⟩) e3 _, by simpa using b2.put 0 v1, own_fr o3 hset (fun k hk e => ?_), own_fr ho hset (fun k hk e => ?_), .inl h5, .inl h6, fun k hk => .inl (h7 k hk), fun k hk => .inr hk, fun k hk => ?_⟩, (hf.mono fun k hk _ => h8 k hk).setCell (p := ⟨bo, 0, none⟩) (.inl h6) _, fun k hk => ?_⟩
  · subst e; exact of_ne o3 b2 (by decide) hk
  · subst e; exact of_ne ho b2 (by decide) hk
  · rw [size_setCell]
    rcases hk with hk | hk
    · exact Nat.lt_of_lt_of_le (h9 k hk) hf.size
    · exact (ho.lt k hk).2
  · rcases hk with hk | hk
    · exact .inl hk
    · rcases hn k hk with h1 | h1
      · exact .inl (h8 k h1)
      · exact .inr ⟨h1.1, by rw [size_setCell]; exact h1.2⟩
/-- What is open is dropped. -/
theorem SAt.drop (h : SAt w F g p op) : SAt (w.setCell ⟨g, 1, none⟩ (.slice none 0 0)) F g p [] := by
  obtain ⟨v, h1, h2, h3, h4, h5⟩ := h
  exact ⟨.slice none 0 0, by simpa using h1.put 1 (.slice none 0 0), World.ownsRow_nil _ _ _ _, h3, (fun k hk => by cases hk), fun k hk => by rw [size_setCell]; exact h5 k hk⟩
theorem SAt.drop_step (h : SAt w F g p op) : Step F w F (w.setCell ⟨g, 1, none⟩ (.slice none 0 0)) := ⟨(Fr.refl _ _).setCell (p := ⟨g, 1, none⟩) (.inl h.in_) _, fun k hk => .inl hk⟩
end
end Mux
end Go.Proofs.Ytagkhljcknnhmaa
